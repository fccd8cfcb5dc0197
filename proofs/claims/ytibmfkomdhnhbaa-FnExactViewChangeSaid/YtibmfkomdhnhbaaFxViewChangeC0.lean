/- The contracts of the program's functions. -/
import Derived.Test.YtibmfkomdhnhbaaProg
import Derived.Test.YtibmfkomdhnhbaaFxViewChangeU
import Derived.KernelRfl
namespace Go.Proofs.Ytibmfkomdhnhbaa.L
open Go Go.Proofs
set_option linter.unusedVariables false
set_option linter.unusedSimpArgs false
def Cond_c (x : Cond) : List T := [.s (.int .i64 x.Col), .s (.int .i64 x.Op), .s (.int .i64 x.V)]
theorem Cond_c_n : ∀ x, (Cond_c x).length = 3 := fun _ => rfl
theorem Cond_c_f : ∀ x, (Cond_c x).length = 3 ∧ ∀ c ∈ Cond_c x, ∃ v, c = T.s v := fun x => ⟨rfl, by simp [Cond_c]⟩
theorem Cond_c_z : ∀ x, fzL (Cond_c x) = Cond_c x := fun _ => rfl
def Int_c (x : Int) : List T := [.s (.int .i64 x)]
theorem Int_c_n : ∀ x, (Int_c x).length = 1 := fun _ => rfl
theorem Int_c_f : ∀ x, (Int_c x).length = 1 ∧ ∀ c ∈ Int_c x, ∃ v, c = T.s v := fun x => ⟨rfl, by simp [Int_c]⟩
theorem Int_c_z : ∀ x, fzL (Int_c x) = Int_c x := fun _ => rfl
def Row_i (x : Row) : List T := [.s (.int .i64 x.Id), .im false (rowsOf Int_c x.Cells)]
theorem Row_i_n : ∀ x, (Row_i x).length = 2 := fun _ => rfl
def Kid_c (x : Kid) : List T := [.s (.int .i64 x.Id), .s (.int .i64 x.N)]
theorem Kid_c_n : ∀ x, (Kid_c x).length = 2 := fun _ => rfl
theorem Kid_c_f : ∀ x, (Kid_c x).length = 2 ∧ ∀ c ∈ Kid_c x, ∃ v, c = T.s v := fun x => ⟨rfl, by simp [Kid_c]⟩
theorem Kid_c_z : ∀ x, fzL (Kid_c x) = Kid_c x := fun _ => rfl
def Row_o (x : Row) : List T := [.s (.int .i64 x.Id), .ow 3 (rowsOf Int_c x.Cells)]
theorem Row_o_n : ∀ x, (Row_o x).length = 2 := fun _ => rfl
theorem Row_o_z : ∀ x, fzL (Row_o x) = Row_i x := by
  intro x
  simp only [Row_o, Row_i, fzL, T.fz, fr_rows Int_c_z]
def tab : List (Nat × Ty) := [(3, Ty.mk false 1 8 0 [] [.int .i64 0] (some .i64) false false false false none),
  (4, Ty.mk false 1 1 0 [] [.bool false] (none) true false false false none),
  (22, Ty.mk false 1 24 3 [] [.slice none 0 0] (none) false false true false none),
  (28, Ty.mk false 1 24 189 [] [.slice none 0 0] (none) false false true false none),
  (30, Ty.mk true 9 104 0 [(0, 1), (1, 1), (2, 1), (3, 1), (4, 1), (5, 1), (6, 1), (7, 1), (8, 1)] [.int .i64 0, .slice none 0 0, .int .i64 0, .bool false, .int .i64 0, .slice none 0 0, .bool false, .int .i64 0, .int .i64 0] (none) false false false false none),
  (39, Ty.mk false 1 24 187 [] [.slice none 0 0] (none) false false true false none),
  (41, Ty.mk true 9 104 0 [(0, 1), (1, 1), (2, 1), (3, 1), (4, 1), (5, 1), (6, 1), (7, 1), (8, 1)] [.int .i64 0, .slice none 0 0, .int .i64 0, .bool false, .int .i64 0, .slice none 0 0, .bool false, .int .i64 0, .int .i64 0] (none) false false false false none),
  (46, Ty.mk false 1 24 88 [] [.slice none 0 0] (none) false false true false none),
  (47, Ty.mk false 1 24 195 [] [.slice none 0 0] (none) false false true false none),
  (49, Ty.mk true 11 152 0 [(0, 9), (9, 1), (10, 1)] [.int .i64 0, .slice none 0 0, .int .i64 0, .bool false, .int .i64 0, .slice none 0 0, .bool false, .int .i64 0, .int .i64 0, .slice none 0 0, .slice none 0 0] (none) false false false false none),
  (54, Ty.mk false 1 24 92 [] [.slice none 0 0] (none) false false true false none),
  (55, Ty.mk false 1 24 153 [] [.slice none 0 0] (none) false false true false none),
  (57, Ty.mk true 11 152 0 [(0, 9), (9, 1), (10, 1)] [.int .i64 0, .slice none 0 0, .int .i64 0, .bool false, .int .i64 0, .slice none 0 0, .bool false, .int .i64 0, .int .i64 0, .slice none 0 0, .slice none 0 0] (none) false false false false none),
  (88, Ty.mk true 2 32 0 [(0, 1), (1, 1)] [.int .i64 0, .slice none 0 0] (none) false false false false none),
  (92, Ty.mk true 2 32 0 [(0, 1), (1, 1)] [.int .i64 0, .slice none 0 0] (none) false false false false none),
  (94, Ty.mk true 7 80 0 [(0, 1), (1, 1), (2, 1), (3, 2), (5, 2)] [.int .i64 0, .bool false, .bool false, .int .i64 0, .slice none 0 0, .int .i64 0, .slice none 0 0] (none) false false false false none),
  (126, Ty.mk true 7 80 0 [(0, 1), (1, 1), (2, 1), (3, 2), (5, 2)] [.int .i64 0, .bool false, .bool false, .int .i64 0, .slice none 0 0, .int .i64 0, .slice none 0 0] (none) false false false false none),
  (153, Ty.mk true 2 16 0 [(0, 1), (1, 1)] [.int .i64 0, .int .i64 0] (none) false false false false none),
  (187, Ty.mk true 3 24 0 [(0, 1), (1, 1), (2, 1)] [.int .i64 0, .int .i64 0, .int .i64 0] (none) false false false false none),
  (189, Ty.mk true 3 24 0 [(0, 1), (1, 1), (2, 1)] [.int .i64 0, .int .i64 0, .int .i64 0] (none) false false false false none),
  (195, Ty.mk true 2 16 0 [(0, 1), (1, 1)] [.int .i64 0, .int .i64 0] (none) false false false false none)]
theorem tab_ok : TabOk Try.prog tab := TabOk.of (l := [(3, false), (4, false), (22, false), (28, false), (30, false), (39, false), (41, false), (46, false), (47, false), (49, false), (54, false), (55, false), (57, false), (88, false), (92, false), (94, false), (126, false), (153, false), (187, false), (189, false), (195, false)]) (by kernel_rfl)
theorem mixed : Try.prog.follows .mixedOrders = true := by rfl

set_option maxRecDepth 8000 in
theorem laws_szCondS_ac {a0 : List Cond} {a1 : Int} {r : Int} (h : laws_szCondS.f a0 a1 = some r) : AC Try.prog 87 [.v (.im false (rowsOf Cond_c a0)), .v (.s (.int .i64 a1))] [.v (.jk), .v (.jk)] [.v (.s (.int .i64 r))] := by
  unfold laws_szCondS.f at h
  let ar := Ls.ar; let cm := Ls.cm; let bo := Ls.bo; let sc := Ls.sc; let sa := Ls.sa; let sx := Ls.sx; let ss := Ls.ss; let sl := Ls.sl; let bs := Ls.bs; let sb := Ls.sb; let ln := Ls.ln; let sr := Ls.sr; let ap := Ls.ap; let up := Ls.up; let rp := Ls.rp; let fr := Ls.fr; let ge := Ls.ge; let le := Ls.le; let lt := Ls.lt; let nz := Ls.nz; let mm := Ls.mm; let ma := Ls.ma; let sm := Ls.sm; let fl := Ls.fl; let al := Ls.al
  let eCond_c := rowsOf Cond_c
  let lenI_Cond := @lenI Cond
  have hL : (⟨ar, cm, bo, sc, sa, sx, ss, sl, bs, sb, ln, sr, ap, up, rp, fr, ge, le, lt, nz, mm, ma, sm, fl, al⟩ : Lf) = Ls := rfl
  show AC Try.prog 87 [.v (.im false (eCond_c a0)), .v (.s (.int .i64 a1))] _ _
  refine AC.of_run2 tab_ok Try.func87 (by rfl) (by rfl) (by cbv) ⟨by decide, rfl⟩ fun F hP hA => ?_
  have hT : TabOk F.P tab := hP ▸ tab_ok
  have hM : F.P.follows .mixedOrders = true := hP ▸ mixed
  have hC : ∀ {f a o r}, AC Try.prog f a o r → AC F.P f a o r := fun h => hP ▸ h
  refine Run.seq ?_
  refine Run.region hL hT [] (by cbv) ?_ ?_
  · exact hq0
  refine Run.seq ?_
  refine Run.region hL hT [] (by cbv) ?_ ?_
  · exact (hq trivial hq0)
  rw [show ln (eCond_c a0) = lenI_Cond a0 from ln_eq Cond_c _]
  refine Run.seq ?_
  refine Run.seq ?_
  refine Run.region hL hT [] (by cbv) ?_ ?_
  · exact (hq trivial hq0)
  refine Run.cond (by cbv) (hq0) (fun c1 => ?_) (fun c1 => ?_)
  · have h := if_t c1 h
    refine Run.seq ?_
    refine Run.region hL hT [] (by cbv) ?_ ?_
    · exact hq0
    refine Run.ret ?_
    cases h
    refine ⟨_, _, by cbv, ?_, ?_⟩
    · exact LLe.r
    · exact (ALe.v LLe.r ALe.nil)
  · have h := if_f c1 h
    refine Run.skip ?_
    refine Run.seq ?_
    refine Run.region hL hT [] (by cbv) ?_ ?_
    · exact hq0
    refine Run.ret ?_
    cases h
    refine ⟨_, _, by cbv, ?_, ?_⟩
    · exact LLe.r
    · exact (ALe.v LLe.r ALe.nil)

set_option maxRecDepth 8000 in
theorem laws_szIntS_ac {a0 : List Int} {a1 : Int} {r : Int} (h : laws_szIntS.f a0 a1 = some r) : AC Try.prog 88 [.v (.im false (rowsOf Int_c a0)), .v (.s (.int .i64 a1))] [.v (.jk), .v (.jk)] [.v (.s (.int .i64 r))] := by
  unfold laws_szIntS.f at h
  let ar := Ls.ar; let cm := Ls.cm; let bo := Ls.bo; let sc := Ls.sc; let sa := Ls.sa; let sx := Ls.sx; let ss := Ls.ss; let sl := Ls.sl; let bs := Ls.bs; let sb := Ls.sb; let ln := Ls.ln; let sr := Ls.sr; let ap := Ls.ap; let up := Ls.up; let rp := Ls.rp; let fr := Ls.fr; let ge := Ls.ge; let le := Ls.le; let lt := Ls.lt; let nz := Ls.nz; let mm := Ls.mm; let ma := Ls.ma; let sm := Ls.sm; let fl := Ls.fl; let al := Ls.al
  let eInt_c := rowsOf Int_c
  let lenI_Int := @lenI Int
  have hL : (⟨ar, cm, bo, sc, sa, sx, ss, sl, bs, sb, ln, sr, ap, up, rp, fr, ge, le, lt, nz, mm, ma, sm, fl, al⟩ : Lf) = Ls := rfl
  show AC Try.prog 88 [.v (.im false (eInt_c a0)), .v (.s (.int .i64 a1))] _ _
  refine AC.of_run2 tab_ok Try.func88 (by rfl) (by rfl) (by cbv) ⟨by decide, rfl⟩ fun F hP hA => ?_
  have hT : TabOk F.P tab := hP ▸ tab_ok
  have hM : F.P.follows .mixedOrders = true := hP ▸ mixed
  have hC : ∀ {f a o r}, AC Try.prog f a o r → AC F.P f a o r := fun h => hP ▸ h
  refine Run.seq ?_
  refine Run.region hL hT [] (by cbv) ?_ ?_
  · exact hq0
  refine Run.seq ?_
  refine Run.region hL hT [] (by cbv) ?_ ?_
  · exact (hq trivial hq0)
  rw [show ln (eInt_c a0) = lenI_Int a0 from ln_eq Int_c _]
  refine Run.seq ?_
  refine Run.seq ?_
  refine Run.region hL hT [] (by cbv) ?_ ?_
  · exact (hq trivial hq0)
  refine Run.cond (by cbv) (hq0) (fun c1 => ?_) (fun c1 => ?_)
  · have h := if_t c1 h
    refine Run.seq ?_
    refine Run.region hL hT [] (by cbv) ?_ ?_
    · exact hq0
    refine Run.ret ?_
    cases h
    refine ⟨_, _, by cbv, ?_, ?_⟩
    · exact LLe.r
    · exact (ALe.v LLe.r ALe.nil)
  · have h := if_f c1 h
    refine Run.skip ?_
    refine Run.seq ?_
    refine Run.region hL hT [] (by cbv) ?_ ?_
    · exact hq0
    refine Run.ret ?_
    cases h
    refine ⟨_, _, by cbv, ?_, ?_⟩
    · exact LLe.r
    · exact (ALe.v LLe.r ALe.nil)

set_option maxRecDepth 8000 in
theorem laws_szQuery_ac {a0v_Table : Int} {a0v_Where : List Cond} {a0v_Order : Int} {a0v_Down : Bool} {a0v_First : Int} {a0v_Show : List Int} {a0v_Kids : Bool} {a0v_KidTable : Int} {a0v_KidCol : Int} {a1 : Int} {r : Int} (h : laws_szQuery.f (Query.mk a0v_Table a0v_Where a0v_Order a0v_Down a0v_First a0v_Show a0v_Kids a0v_KidTable a0v_KidCol) a1 = some r) : AC Try.prog 16 [.ag [.s (.int .i64 a0v_Table), .im false (rowsOf Cond_c a0v_Where), .s (.int .i64 a0v_Order), .s (.bool a0v_Down), .s (.int .i64 a0v_First), .im false (rowsOf Int_c a0v_Show), .s (.bool a0v_Kids), .s (.int .i64 a0v_KidTable), .s (.int .i64 a0v_KidCol)], .v (.s (.int .i64 a1))] [.ag [.jk, .jk, .jk, .jk, .jk, .jk, .jk, .jk, .jk], .v (.jk)] [.v (.s (.int .i64 r))] := by
  unfold laws_szQuery.f at h
  let ar := Ls.ar; let cm := Ls.cm; let bo := Ls.bo; let sc := Ls.sc; let sa := Ls.sa; let sx := Ls.sx; let ss := Ls.ss; let sl := Ls.sl; let bs := Ls.bs; let sb := Ls.sb; let ln := Ls.ln; let sr := Ls.sr; let ap := Ls.ap; let up := Ls.up; let rp := Ls.rp; let fr := Ls.fr; let ge := Ls.ge; let le := Ls.le; let lt := Ls.lt; let nz := Ls.nz; let mm := Ls.mm; let ma := Ls.ma; let sm := Ls.sm; let fl := Ls.fl; let al := Ls.al
  let eCond_c := rowsOf Cond_c
  let eInt_c := rowsOf Int_c
  have hL : (⟨ar, cm, bo, sc, sa, sx, ss, sl, bs, sb, ln, sr, ap, up, rp, fr, ge, le, lt, nz, mm, ma, sm, fl, al⟩ : Lf) = Ls := rfl
  show AC Try.prog 16 [.ag [.s (.int .i64 a0v_Table), .im false (eCond_c a0v_Where), .s (.int .i64 a0v_Order), .s (.bool a0v_Down), .s (.int .i64 a0v_First), .im false (eInt_c a0v_Show), .s (.bool a0v_Kids), .s (.int .i64 a0v_KidTable), .s (.int .i64 a0v_KidCol)], .v (.s (.int .i64 a1))] _ _
  refine AC.of_run2 tab_ok Try.func16 (by rfl) (by rfl) (by cbv) ⟨by decide, rfl⟩ fun F hP hA => ?_
  have hT : TabOk F.P tab := hP ▸ tab_ok
  have hM : F.P.follows .mixedOrders = true := hP ▸ mixed
  have hC : ∀ {f a o r}, AC Try.prog f a o r → AC F.P f a o r := fun h => hP ▸ h
  refine Run.seq ?_
  refine Run.region hL hT [] (by cbv) ?_ ?_
  · exact hq0
  refine Run.seq ?_
  obtain ⟨r1, h_r1, h⟩ := bnd h
  refine Run.region hL hT [(3, .call [false, false] [.v (.jk), .v (.jk)] [.v (.s (.int .i64 r1))])] (by cbv) ?_ ?_
  · exact (hq trivial (hq (hC (laws_szCondS_ac h_r1)) hq0))
  refine Run.seq ?_
  refine Run.seq ?_
  refine Run.region hL hT [] (by cbv) ?_ ?_
  · exact (hq trivial hq0)
  refine Run.cond (by cbv) (hq0) (fun c2 => ?_) (fun c2 => ?_)
  · have h := if_t c2 h
    refine Run.seq ?_
    refine Run.region hL hT [] (by cbv) ?_ ?_
    · exact hq0
    refine Run.ret ?_
    cases h
    refine ⟨_, _, by cbv, ?_, ?_⟩
    · exact LLe.r
    · exact (ALe.v LLe.r ALe.nil)
  · have h := if_f c2 h
    refine Run.skip ?_
    refine Run.seq ?_
    obtain ⟨r3, h_r3, h⟩ := bnd h
    refine Run.region hL hT [(3, .call [false, false] [.v (.jk), .v (.jk)] [.v (.s (.int .i64 r3))])] (by cbv) ?_ ?_
    · exact (hq trivial (hq (hC (laws_szIntS_ac h_r3)) hq0))
    refine Run.seq ?_
    refine Run.seq ?_
    refine Run.region hL hT [] (by cbv) ?_ ?_
    · exact (hq trivial hq0)
    refine Run.cond (by cbv) (hq0) (fun c4 => ?_) (fun c4 => ?_)
    · have h := if_t c4 h
      refine Run.seq ?_
      refine Run.region hL hT [] (by cbv) ?_ ?_
      · exact hq0
      refine Run.ret ?_
      cases h
      refine ⟨_, _, by cbv, ?_, ?_⟩
      · exact LLe.r
      · exact (ALe.v LLe.r ALe.nil)
    · have h := if_f c4 h
      refine Run.skip ?_
      refine Run.seq ?_
      refine Run.region hL hT [] (by cbv) ?_ ?_
      · exact hq0
      refine Run.ret ?_
      cases h
      refine ⟨_, _, by cbv, ?_, ?_⟩
      · exact LLe.r
      · exact (ALe.v LLe.r ALe.nil)

set_option maxRecDepth 8000 in
theorem laws_szRow_ac {a0v_Id : Int} {a0v_Cells : List Int} {a1 : Int} {r : Int} (h : laws_szRow.f (Row.mk a0v_Id a0v_Cells) a1 = some r) : AC Try.prog 123 [.ag [.s (.int .i64 a0v_Id), .im false (rowsOf Int_c a0v_Cells)], .v (.s (.int .i64 a1))] [.ag [.jk, .jk], .v (.jk)] [.v (.s (.int .i64 r))] := by
  unfold laws_szRow.f at h
  let ar := Ls.ar; let cm := Ls.cm; let bo := Ls.bo; let sc := Ls.sc; let sa := Ls.sa; let sx := Ls.sx; let ss := Ls.ss; let sl := Ls.sl; let bs := Ls.bs; let sb := Ls.sb; let ln := Ls.ln; let sr := Ls.sr; let ap := Ls.ap; let up := Ls.up; let rp := Ls.rp; let fr := Ls.fr; let ge := Ls.ge; let le := Ls.le; let lt := Ls.lt; let nz := Ls.nz; let mm := Ls.mm; let ma := Ls.ma; let sm := Ls.sm; let fl := Ls.fl; let al := Ls.al
  let eInt_c := rowsOf Int_c
  have hL : (⟨ar, cm, bo, sc, sa, sx, ss, sl, bs, sb, ln, sr, ap, up, rp, fr, ge, le, lt, nz, mm, ma, sm, fl, al⟩ : Lf) = Ls := rfl
  show AC Try.prog 123 [.ag [.s (.int .i64 a0v_Id), .im false (eInt_c a0v_Cells)], .v (.s (.int .i64 a1))] _ _
  refine AC.of_run2 tab_ok Try.func123 (by rfl) (by rfl) (by cbv) ⟨by decide, rfl⟩ fun F hP hA => ?_
  have hT : TabOk F.P tab := hP ▸ tab_ok
  have hM : F.P.follows .mixedOrders = true := hP ▸ mixed
  have hC : ∀ {f a o r}, AC Try.prog f a o r → AC F.P f a o r := fun h => hP ▸ h
  refine Run.seq ?_
  refine Run.region hL hT [] (by cbv) ?_ ?_
  · exact hq0
  refine Run.seq ?_
  obtain ⟨r1, h_r1, h⟩ := bnd h
  refine Run.region hL hT [(3, .call [false, false] [.v (.jk), .v (.jk)] [.v (.s (.int .i64 r1))])] (by cbv) ?_ ?_
  · exact (hq trivial (hq (hC (laws_szIntS_ac h_r1)) hq0))
  refine Run.seq ?_
  refine Run.seq ?_
  refine Run.region hL hT [] (by cbv) ?_ ?_
  · exact (hq trivial hq0)
  refine Run.cond (by cbv) (hq0) (fun c2 => ?_) (fun c2 => ?_)
  · have h := if_t c2 h
    refine Run.seq ?_
    refine Run.region hL hT [] (by cbv) ?_ ?_
    · exact hq0
    refine Run.ret ?_
    cases h
    refine ⟨_, _, by cbv, ?_, ?_⟩
    · exact LLe.r
    · exact (ALe.v LLe.r ALe.nil)
  · have h := if_f c2 h
    refine Run.skip ?_
    refine Run.seq ?_
    refine Run.region hL hT [] (by cbv) ?_ ?_
    · exact hq0
    refine Run.ret ?_
    cases h
    refine ⟨_, _, by cbv, ?_, ?_⟩
    · exact LLe.r
    · exact (ALe.v LLe.r ALe.nil)

set_option maxRecDepth 8000 in
theorem laws_szRowS_ac {a0 : List Row} {a1 : Int} {r : Int} (h : laws_szRowS.f a0 a1 = some r) : AC Try.prog 98 [.v (.im false (rowsOf Row_i a0)), .v (.s (.int .i64 a1))] [.v (.jk), .v (.jk)] [.v (.s (.int .i64 r))] := by
  unfold laws_szRowS.f at h
  let ar := Ls.ar; let cm := Ls.cm; let bo := Ls.bo; let sc := Ls.sc; let sa := Ls.sa; let sx := Ls.sx; let ss := Ls.ss; let sl := Ls.sl; let bs := Ls.bs; let sb := Ls.sb; let ln := Ls.ln; let sr := Ls.sr; let ap := Ls.ap; let up := Ls.up; let rp := Ls.rp; let fr := Ls.fr; let ge := Ls.ge; let le := Ls.le; let lt := Ls.lt; let nz := Ls.nz; let mm := Ls.mm; let ma := Ls.ma; let sm := Ls.sm; let fl := Ls.fl; let al := Ls.al
  let eInt_c := rowsOf Int_c
  let eRow_i := rowsOf Row_i
  let lenI_Row := @lenI Row
  have hL : (⟨ar, cm, bo, sc, sa, sx, ss, sl, bs, sb, ln, sr, ap, up, rp, fr, ge, le, lt, nz, mm, ma, sm, fl, al⟩ : Lf) = Ls := rfl
  show AC Try.prog 98 [.v (.im false (eRow_i a0)), .v (.s (.int .i64 a1))] _ _
  refine AC.of_run2 tab_ok Try.func98 (by rfl) (by rfl) (by cbv) ⟨by decide, rfl⟩ fun F hP hA => ?_
  have hT : TabOk F.P tab := hP ▸ tab_ok
  have hM : F.P.follows .mixedOrders = true := hP ▸ mixed
  have hC : ∀ {f a o r}, AC Try.prog f a o r → AC F.P f a o r := fun h => hP ▸ h
  refine Run.seq ?_
  refine Run.region hL hT [] (by cbv) ?_ ?_
  · exact hq0
  refine Run.seq ?_
  refine Run.region hL hT [] (by cbv) ?_ ?_
  · exact (hq trivial hq0)
  rw [show ln (eRow_i a0) = lenI_Row a0 from ln_eq Row_i _]
  refine Run.seq ?_
  refine Run.seq ?_
  refine Run.region hL hT [] (by cbv) ?_ ?_
  · exact (hq trivial hq0)
  refine Run.cond (by cbv) (hq0) (fun c1 => ?_) (fun c1 => ?_)
  · have h := if_t c1 h
    refine Run.seq ?_
    refine Run.region hL hT [] (by cbv) ?_ ?_
    · exact hq0
    refine Run.ret ?_
    cases h
    refine ⟨_, _, by cbv, ?_, ?_⟩
    · exact LLe.r
    · exact (ALe.v LLe.r ALe.nil)
  · have h := if_f c1 h
    refine Run.skip ?_
    refine Run.seq ?_
    refine Run.seq ?_
    refine Run.region hL hT [] (by cbv) ?_ ?_
    · exact hq0
    refine Run.block ?_
    refine Run.loop2 (fun (z5 : Int) (z6 : Int) => ⟨27, 100000, [(0, .t (.im false (eRow_i a0))), (1, .t (.s (.int .i64 z5))), (5, .t (.s (.int .i64 z6)))], []⟩) (x0 := (ar .sub .i64 a1 (lenI_Row a0))) (x1 := 0) h (Weak.of _ [] hA (by cbv) ?_) (fun _ _ => rfl) ?_
    · repeat (first | exact hq0 | refine hq (by first | exact True.intro | rfl) ?_)
    · intro k z5 z6 h
      rw [laws_szRowS.l0] at h
      refine Run.seq ?_
      refine Run.seq ?_
      refine Run.region hL hT [] (by cbv) ?_ ?_
      · exact (hq trivial hq0)
      rw [show ln (eRow_i a0) = lenI_Row a0 from ln_eq Row_i _]
      refine Run.cond (by cbv) (hq0) (fun c7 => ?_) (fun c7 => ?_)
      · have h := if_t c7 h
        refine Run.skip ?_
        refine Run.seq ?_
        refine Run.block ?_
        refine Run.seq ?_
        obtain ⟨⟨x8v_Id, x8v_Cells⟩, h_x8, h⟩ := bnd h
        obtain ⟨r9, h_r9, h⟩ := bnd h
        refine Run.region hL hT [(2, .el [.s (.int .i64 x8v_Id), .im false (eInt_c x8v_Cells)]), (5, .call [false, false] [.ag [.jk, .jk], .v (.jk)] [.v (.s (.int .i64 r9))])] (by cbv) ?_ ?_
        · exact (hq (get_le h_x8) (hq (get_lt (f := Row_i) h_x8) (hq (get_ge (f := Row_i) h_x8) (hq (hC (laws_szRow_ac h_r9)) hq0))))
        refine Run.seq ?_
        refine Run.region hL hT [] (by cbv) ?_ ?_
        · exact (hq trivial hq0)
        refine Run.cond (by cbv) (hq0) (fun c10 => ?_) (fun c10 => ?_)
        · have h := if_t c10 h
          refine Run.seq ?_
          refine Run.region hL hT [] (by cbv) ?_ ?_
          · exact hq0
          refine Run.ret ?_
          cases h
          refine ⟨_, _, by cbv, ?_, ?_⟩
          · exact LLe.r
          · exact (ALe.v LLe.r ALe.nil)
        · have h := if_f c10 h
          refine Run.skip ?_
          refine Run.region hL hT [] (by cbv) ?_ ?_
          · exact (hq trivial hq0)
          refine ⟨r9, (ar .add .i64 z6 1), h, Weak.of _ [] hA (by cbv) ?_⟩
          repeat (first | exact hq0 | refine hq (by first | exact True.intro | rfl) ?_)
      · have h := if_f c7 h
        refine Run.exit ?_
        refine Run.seq ?_
        refine Run.region hL hT [] (by cbv) ?_ ?_
        · exact hq0
        refine Run.ret ?_
        cases h
        refine ⟨_, _, by cbv, ?_, ?_⟩
        · exact LLe.r
        · exact (ALe.v LLe.r ALe.nil)

set_option maxRecDepth 8000 in
theorem laws_szKidS_ac {a0 : List Kid} {a1 : Int} {r : Int} (h : laws_szKidS.f a0 a1 = some r) : AC Try.prog 99 [.v (.im false (rowsOf Kid_c a0)), .v (.s (.int .i64 a1))] [.v (.jk), .v (.jk)] [.v (.s (.int .i64 r))] := by
  unfold laws_szKidS.f at h
  let ar := Ls.ar; let cm := Ls.cm; let bo := Ls.bo; let sc := Ls.sc; let sa := Ls.sa; let sx := Ls.sx; let ss := Ls.ss; let sl := Ls.sl; let bs := Ls.bs; let sb := Ls.sb; let ln := Ls.ln; let sr := Ls.sr; let ap := Ls.ap; let up := Ls.up; let rp := Ls.rp; let fr := Ls.fr; let ge := Ls.ge; let le := Ls.le; let lt := Ls.lt; let nz := Ls.nz; let mm := Ls.mm; let ma := Ls.ma; let sm := Ls.sm; let fl := Ls.fl; let al := Ls.al
  let eKid_c := rowsOf Kid_c
  let lenI_Kid := @lenI Kid
  have hL : (⟨ar, cm, bo, sc, sa, sx, ss, sl, bs, sb, ln, sr, ap, up, rp, fr, ge, le, lt, nz, mm, ma, sm, fl, al⟩ : Lf) = Ls := rfl
  show AC Try.prog 99 [.v (.im false (eKid_c a0)), .v (.s (.int .i64 a1))] _ _
  refine AC.of_run2 tab_ok Try.func99 (by rfl) (by rfl) (by cbv) ⟨by decide, rfl⟩ fun F hP hA => ?_
  have hT : TabOk F.P tab := hP ▸ tab_ok
  have hM : F.P.follows .mixedOrders = true := hP ▸ mixed
  have hC : ∀ {f a o r}, AC Try.prog f a o r → AC F.P f a o r := fun h => hP ▸ h
  refine Run.seq ?_
  refine Run.region hL hT [] (by cbv) ?_ ?_
  · exact hq0
  refine Run.seq ?_
  refine Run.region hL hT [] (by cbv) ?_ ?_
  · exact (hq trivial hq0)
  rw [show ln (eKid_c a0) = lenI_Kid a0 from ln_eq Kid_c _]
  refine Run.seq ?_
  refine Run.seq ?_
  refine Run.region hL hT [] (by cbv) ?_ ?_
  · exact (hq trivial hq0)
  refine Run.cond (by cbv) (hq0) (fun c1 => ?_) (fun c1 => ?_)
  · have h := if_t c1 h
    refine Run.seq ?_
    refine Run.region hL hT [] (by cbv) ?_ ?_
    · exact hq0
    refine Run.ret ?_
    cases h
    refine ⟨_, _, by cbv, ?_, ?_⟩
    · exact LLe.r
    · exact (ALe.v LLe.r ALe.nil)
  · have h := if_f c1 h
    refine Run.skip ?_
    refine Run.seq ?_
    refine Run.region hL hT [] (by cbv) ?_ ?_
    · exact hq0
    refine Run.ret ?_
    cases h
    refine ⟨_, _, by cbv, ?_, ?_⟩
    · exact LLe.r
    · exact (ALe.v LLe.r ALe.nil)

set_option maxRecDepth 8000 in
theorem laws_szView_ac {a0v_Qv_Table : Int} {a0v_Qv_Where : List Cond} {a0v_Qv_Order : Int} {a0v_Qv_Down : Bool} {a0v_Qv_First : Int} {a0v_Qv_Show : List Int} {a0v_Qv_Kids : Bool} {a0v_Qv_KidTable : Int} {a0v_Qv_KidCol : Int} {a0v_Rows : List Row} {a0v_Kids : List Kid} {a1 : Int} {r : Int} (h : laws_szView.f (View.mk (Query.mk a0v_Qv_Table a0v_Qv_Where a0v_Qv_Order a0v_Qv_Down a0v_Qv_First a0v_Qv_Show a0v_Qv_Kids a0v_Qv_KidTable a0v_Qv_KidCol) a0v_Rows a0v_Kids) a1 = some r) : AC Try.prog 24 [.ag [.s (.int .i64 a0v_Qv_Table), .im false (rowsOf Cond_c a0v_Qv_Where), .s (.int .i64 a0v_Qv_Order), .s (.bool a0v_Qv_Down), .s (.int .i64 a0v_Qv_First), .im false (rowsOf Int_c a0v_Qv_Show), .s (.bool a0v_Qv_Kids), .s (.int .i64 a0v_Qv_KidTable), .s (.int .i64 a0v_Qv_KidCol), .im false (rowsOf Row_i a0v_Rows), .im false (rowsOf Kid_c a0v_Kids)], .v (.s (.int .i64 a1))] [.ag [.jk, .jk, .jk, .jk, .jk, .jk, .jk, .jk, .jk, .jk, .jk], .v (.jk)] [.v (.s (.int .i64 r))] := by
  unfold laws_szView.f at h
  let ar := Ls.ar; let cm := Ls.cm; let bo := Ls.bo; let sc := Ls.sc; let sa := Ls.sa; let sx := Ls.sx; let ss := Ls.ss; let sl := Ls.sl; let bs := Ls.bs; let sb := Ls.sb; let ln := Ls.ln; let sr := Ls.sr; let ap := Ls.ap; let up := Ls.up; let rp := Ls.rp; let fr := Ls.fr; let ge := Ls.ge; let le := Ls.le; let lt := Ls.lt; let nz := Ls.nz; let mm := Ls.mm; let ma := Ls.ma; let sm := Ls.sm; let fl := Ls.fl; let al := Ls.al
  let eCond_c := rowsOf Cond_c
  let eInt_c := rowsOf Int_c
  let eKid_c := rowsOf Kid_c
  let eRow_i := rowsOf Row_i
  have hL : (⟨ar, cm, bo, sc, sa, sx, ss, sl, bs, sb, ln, sr, ap, up, rp, fr, ge, le, lt, nz, mm, ma, sm, fl, al⟩ : Lf) = Ls := rfl
  show AC Try.prog 24 [.ag [.s (.int .i64 a0v_Qv_Table), .im false (eCond_c a0v_Qv_Where), .s (.int .i64 a0v_Qv_Order), .s (.bool a0v_Qv_Down), .s (.int .i64 a0v_Qv_First), .im false (eInt_c a0v_Qv_Show), .s (.bool a0v_Qv_Kids), .s (.int .i64 a0v_Qv_KidTable), .s (.int .i64 a0v_Qv_KidCol), .im false (eRow_i a0v_Rows), .im false (eKid_c a0v_Kids)], .v (.s (.int .i64 a1))] _ _
  refine AC.of_run2 tab_ok Try.func24 (by rfl) (by rfl) (by cbv) ⟨by decide, rfl⟩ fun F hP hA => ?_
  have hT : TabOk F.P tab := hP ▸ tab_ok
  have hM : F.P.follows .mixedOrders = true := hP ▸ mixed
  have hC : ∀ {f a o r}, AC Try.prog f a o r → AC F.P f a o r := fun h => hP ▸ h
  refine Run.seq ?_
  refine Run.region hL hT [] (by cbv) ?_ ?_
  · exact hq0
  refine Run.seq ?_
  obtain ⟨r1, h_r1, h⟩ := bnd h
  refine Run.region hL hT [(3, .call [false, false] [.ag [.jk, .jk, .jk, .jk, .jk, .jk, .jk, .jk, .jk], .v (.jk)] [.v (.s (.int .i64 r1))])] (by cbv) ?_ ?_
  · exact (hq trivial (hq (hC (laws_szQuery_ac h_r1)) hq0))
  refine Run.seq ?_
  refine Run.seq ?_
  refine Run.region hL hT [] (by cbv) ?_ ?_
  · exact (hq trivial hq0)
  refine Run.cond (by cbv) (hq0) (fun c2 => ?_) (fun c2 => ?_)
  · have h := if_t c2 h
    refine Run.seq ?_
    refine Run.region hL hT [] (by cbv) ?_ ?_
    · exact hq0
    refine Run.ret ?_
    cases h
    refine ⟨_, _, by cbv, ?_, ?_⟩
    · exact LLe.r
    · exact (ALe.v LLe.r ALe.nil)
  · have h := if_f c2 h
    refine Run.skip ?_
    refine Run.seq ?_
    obtain ⟨r3, h_r3, h⟩ := bnd h
    refine Run.region hL hT [(3, .call [false, false] [.v (.jk), .v (.jk)] [.v (.s (.int .i64 r3))])] (by cbv) ?_ ?_
    · exact (hq trivial (hq (hC (laws_szRowS_ac h_r3)) hq0))
    refine Run.seq ?_
    refine Run.seq ?_
    refine Run.region hL hT [] (by cbv) ?_ ?_
    · exact (hq trivial hq0)
    refine Run.cond (by cbv) (hq0) (fun c4 => ?_) (fun c4 => ?_)
    · have h := if_t c4 h
      refine Run.seq ?_
      refine Run.region hL hT [] (by cbv) ?_ ?_
      · exact hq0
      refine Run.ret ?_
      cases h
      refine ⟨_, _, by cbv, ?_, ?_⟩
      · exact LLe.r
      · exact (ALe.v LLe.r ALe.nil)
    · have h := if_f c4 h
      refine Run.skip ?_
      refine Run.seq ?_
      obtain ⟨r5, h_r5, h⟩ := bnd h
      refine Run.region hL hT [(3, .call [false, false] [.v (.jk), .v (.jk)] [.v (.s (.int .i64 r5))])] (by cbv) ?_ ?_
      · exact (hq trivial (hq (hC (laws_szKidS_ac h_r5)) hq0))
      refine Run.seq ?_
      refine Run.seq ?_
      refine Run.region hL hT [] (by cbv) ?_ ?_
      · exact (hq trivial hq0)
      refine Run.cond (by cbv) (hq0) (fun c6 => ?_) (fun c6 => ?_)
      · have h := if_t c6 h
        refine Run.seq ?_
        refine Run.region hL hT [] (by cbv) ?_ ?_
        · exact hq0
        refine Run.ret ?_
        cases h
        refine ⟨_, _, by cbv, ?_, ?_⟩
        · exact LLe.r
        · exact (ALe.v LLe.r ALe.nil)
      · have h := if_f c6 h
        refine Run.skip ?_
        refine Run.seq ?_
        refine Run.region hL hT [] (by cbv) ?_ ?_
        · exact hq0
        refine Run.ret ?_
        cases h
        refine ⟨_, _, by cbv, ?_, ?_⟩
        · exact LLe.r
        · exact (ALe.v LLe.r ALe.nil)

set_option maxRecDepth 8000 in
theorem laws_toIntS_ac {a0 : List Int} {r : (List Int)} (h : laws_toIntS.f a0 = some r) : AC Try.prog 93 [.v (.im false (rowsOf Int_c a0))] [.v (.jk)] [.v (.ow 3 (rowsOf Int_c r))] := by
  unfold laws_toIntS.f at h
  let ar := Ls.ar; let cm := Ls.cm; let bo := Ls.bo; let sc := Ls.sc; let sa := Ls.sa; let sx := Ls.sx; let ss := Ls.ss; let sl := Ls.sl; let bs := Ls.bs; let sb := Ls.sb; let ln := Ls.ln; let sr := Ls.sr; let ap := Ls.ap; let up := Ls.up; let rp := Ls.rp; let fr := Ls.fr; let ge := Ls.ge; let le := Ls.le; let lt := Ls.lt; let nz := Ls.nz; let mm := Ls.mm; let ma := Ls.ma; let sm := Ls.sm; let fl := Ls.fl; let al := Ls.al
  let eInt_c := rowsOf Int_c
  let lenI_Int := @lenI Int
  have hL : (⟨ar, cm, bo, sc, sa, sx, ss, sl, bs, sb, ln, sr, ap, up, rp, fr, ge, le, lt, nz, mm, ma, sm, fl, al⟩ : Lf) = Ls := rfl
  show AC Try.prog 93 [.v (.im false (eInt_c a0))] _ _
  refine AC.of_run2 tab_ok Try.func93 (by rfl) (by rfl) (by cbv) ⟨by decide, rfl⟩ fun F hP hA => ?_
  have hT : TabOk F.P tab := hP ▸ tab_ok
  have hM : F.P.follows .mixedOrders = true := hP ▸ mixed
  have hC : ∀ {f a o r}, AC Try.prog f a o r → AC F.P f a o r := fun h => hP ▸ h
  refine Run.seq ?_
  refine Run.region hL hT [] (by cbv) ?_ ?_
  · exact hq0
  refine Run.seq ?_
  obtain ⟨l1, h_l1, h⟩ := bnd h
  refine Run.region hL hT [] (by cbv) ?_ ?_
  · exact (hq trivial (hq (by rw [show ln (eInt_c a0) = lenI_Int a0 from ln_eq Int_c _]; exact (mk_0 h_l1)) (hq (by rw [show ln (eInt_c a0) = lenI_Int a0 from ln_eq Int_c _]; exact (mk_mm h_l1)) hq0)))
  rw [show ln (eInt_c a0) = lenI_Int a0 from ln_eq Int_c _]
  refine Run.row (rows := (rp (lenI_Int a0) [.s (.int .i64 0)])) 4098 (eInt_c l1) (by cbv) (mk_le (f := Int_c) rfl LLe.r h_l1) ?_
  refine Run.seq ?_
  refine Run.seq ?_
  refine Run.region hL hT [] (by cbv) ?_ ?_
  · exact hq0
  refine Run.block ?_
  refine Run.loop2 (fun (z5 : List Int) (z6 : Int) => ⟨22, 100000, [(0, .t (.im false (eInt_c a0))), (3, .rf 1), (4, .t (.s (.int .i64 z6)))], [(1, .row 0 3 1 (eInt_c z5))]⟩) (x0 := l1) (x1 := 0) h (Weak.of _ [(1, 4098)] hA (by cbv) ?_) (fun _ _ => rfl) ?_
  · repeat (first | exact hq0 | refine hq (by first | exact True.intro | rfl) ?_)
  · intro k z5 z6 h
    rw [laws_toIntS.l0] at h
    refine Run.seq ?_
    refine Run.seq ?_
    refine Run.region hL hT [] (by cbv) ?_ ?_
    · exact (hq trivial hq0)
    rw [show ln (eInt_c a0) = lenI_Int a0 from ln_eq Int_c _]
    refine Run.cond (by cbv) (hq0) (fun c7 => ?_) (fun c7 => ?_)
    · have h := if_t c7 h
      refine Run.skip ?_
      refine Run.seq ?_
      refine Run.block ?_
      obtain ⟨x8, h_x8, h⟩ := bnd h
      obtain ⟨x9, h_x9, h⟩ := bnd h
      obtain ⟨l10, h_l10, h⟩ := bnd h
      refine Run.region hL hT [(4, .el [.s (.int .i64 x8)])] (by cbv) ?_ ?_
      · exact (hq (get_le h_x8) (hq (get_lt (f := Int_c) h_x8) (hq (get_ge (f := Int_c) h_x8) (hq (get_le h_x9) (hq (get_lt (f := Int_c) h_x9) (hq (get_le h_x9) (hq (get_lt (f := Int_c) h_x9) hq0)))))))
      refine Run.row (rows := (up (eInt_c z5) z6 0 [.s (.int .i64 x8)])) 1 (eInt_c l10) (by cbv) (sto_le (f := Int_c) h_x9 h_l10 rfl LLe.r) ?_
      refine Run.region hL hT [] (by cbv) ?_ ?_
      · exact (hq trivial hq0)
      refine ⟨l10, (ar .add .i64 z6 1), h, Weak.of _ [(1, 1)] hA (by cbv) ?_⟩
      repeat (first | exact hq0 | refine hq (by first | exact True.intro | rfl) ?_)
    · have h := if_f c7 h
      refine Run.exit ?_
      refine Run.seq ?_
      refine Run.region hL hT [] (by cbv) ?_ ?_
      · exact hq0
      refine Run.ret ?_
      cases h
      refine ⟨_, _, by cbv, ?_, ?_⟩
      · exact LLe.r
      · exact (ALe.v LLe.r ALe.nil)

set_option maxRecDepth 8000 in
theorem laws_toRow_ac {a0v_Id : Int} {a0v_Cells : List Int} {r : Row} (h : laws_toRow.f (Row.mk a0v_Id a0v_Cells) = some r) : AC Try.prog 126 [.ag [.s (.int .i64 a0v_Id), .im false (rowsOf Int_c a0v_Cells)]] [.ag [.jk, .jk]] [.ag [.s (.int .i64 r.Id), .ow 3 (rowsOf Int_c r.Cells)]] := by
  unfold laws_toRow.f at h
  let ar := Ls.ar; let cm := Ls.cm; let bo := Ls.bo; let sc := Ls.sc; let sa := Ls.sa; let sx := Ls.sx; let ss := Ls.ss; let sl := Ls.sl; let bs := Ls.bs; let sb := Ls.sb; let ln := Ls.ln; let sr := Ls.sr; let ap := Ls.ap; let up := Ls.up; let rp := Ls.rp; let fr := Ls.fr; let ge := Ls.ge; let le := Ls.le; let lt := Ls.lt; let nz := Ls.nz; let mm := Ls.mm; let ma := Ls.ma; let sm := Ls.sm; let fl := Ls.fl; let al := Ls.al
  let eInt_c := rowsOf Int_c
  have hL : (⟨ar, cm, bo, sc, sa, sx, ss, sl, bs, sb, ln, sr, ap, up, rp, fr, ge, le, lt, nz, mm, ma, sm, fl, al⟩ : Lf) = Ls := rfl
  show AC Try.prog 126 [.ag [.s (.int .i64 a0v_Id), .im false (eInt_c a0v_Cells)]] _ _
  refine AC.of_run2 tab_ok Try.func126 (by rfl) (by rfl) (by cbv) ⟨by decide, rfl⟩ fun F hP hA => ?_
  have hT : TabOk F.P tab := hP ▸ tab_ok
  have hM : F.P.follows .mixedOrders = true := hP ▸ mixed
  have hC : ∀ {f a o r}, AC Try.prog f a o r → AC F.P f a o r := fun h => hP ▸ h
  refine Run.seq ?_
  refine Run.region hL hT [] (by cbv) ?_ ?_
  · exact hq0
  refine Run.seq ?_
  refine Run.region hL hT [] (by cbv) ?_ ?_
  · exact hq0
  refine Run.seq ?_
  refine Run.region hL hT [] (by cbv) ?_ ?_
  · exact (hq trivial (hq trivial hq0))
  refine Run.seq ?_
  obtain ⟨r1, h_r1, h⟩ := bnd h
  refine Run.region hL hT [(2, .call [false] [.v (.jk)] [.v (.ow 3 (eInt_c r1))])] (by cbv) ?_ ?_
  · exact (hq trivial (hq (hC (laws_toIntS_ac h_r1)) (hq trivial hq0)))
  refine Run.seq ?_
  refine Run.region hL hT [] (by cbv) ?_ ?_
  · exact (hq trivial (hq trivial hq0))
  refine Run.ret ?_
  cases h
  refine ⟨_, _, by cbv, ?_, ?_⟩
  · exact LLe.r
  · exact (ALe.ag rfl LLe.r ALe.nil)

set_option maxRecDepth 8000 in
theorem laws_toRowS_ac {a0 : List Row} {r : (List Row)} (h : laws_toRowS.f a0 = some r) : AC Try.prog 105 [.v (.im false (rowsOf Row_i a0))] [.v (.jk)] [.v (.ow 92 (rowsOf Row_o r))] := by
  unfold laws_toRowS.f at h
  let ar := Ls.ar; let cm := Ls.cm; let bo := Ls.bo; let sc := Ls.sc; let sa := Ls.sa; let sx := Ls.sx; let ss := Ls.ss; let sl := Ls.sl; let bs := Ls.bs; let sb := Ls.sb; let ln := Ls.ln; let sr := Ls.sr; let ap := Ls.ap; let up := Ls.up; let rp := Ls.rp; let fr := Ls.fr; let ge := Ls.ge; let le := Ls.le; let lt := Ls.lt; let nz := Ls.nz; let mm := Ls.mm; let ma := Ls.ma; let sm := Ls.sm; let fl := Ls.fl; let al := Ls.al
  let eInt_c := rowsOf Int_c
  let eRow_i := rowsOf Row_i
  let eRow_o := rowsOf Row_o
  let lenI_Row := @lenI Row
  have hL : (⟨ar, cm, bo, sc, sa, sx, ss, sl, bs, sb, ln, sr, ap, up, rp, fr, ge, le, lt, nz, mm, ma, sm, fl, al⟩ : Lf) = Ls := rfl
  show AC Try.prog 105 [.v (.im false (eRow_i a0))] _ _
  refine AC.of_run2 tab_ok Try.func105 (by rfl) (by rfl) (by cbv) ⟨by decide, rfl⟩ fun F hP hA => ?_
  have hT : TabOk F.P tab := hP ▸ tab_ok
  have hM : F.P.follows .mixedOrders = true := hP ▸ mixed
  have hC : ∀ {f a o r}, AC Try.prog f a o r → AC F.P f a o r := fun h => hP ▸ h
  refine Run.seq ?_
  refine Run.region hL hT [] (by cbv) ?_ ?_
  · exact hq0
  refine Run.seq ?_
  obtain ⟨l1, h_l1, h⟩ := bnd h
  refine Run.region hL hT [] (by cbv) ?_ ?_
  · exact (hq trivial (hq (by rw [show ln (eRow_i a0) = lenI_Row a0 from ln_eq Row_i _]; exact (mk_0 h_l1)) (hq (by rw [show ln (eRow_i a0) = lenI_Row a0 from ln_eq Row_i _]; exact (mk_mm h_l1)) hq0)))
  rw [show ln (eRow_i a0) = lenI_Row a0 from ln_eq Row_i _]
  refine Run.row (rows := (rp (lenI_Row a0) [.s (.int .i64 0), .s (.slice none 0 0)])) 4098 (eRow_o l1) (by cbv) (mk_le (f := Row_o) rfl (LLe.c (LLe.cons LLe.nilO LLe.nil)) h_l1) ?_
  refine Run.seq ?_
  refine Run.seq ?_
  refine Run.region hL hT [] (by cbv) ?_ ?_
  · exact hq0
  refine Run.block ?_
  refine Run.loop2 (fun (z5 : List Row) (z6 : Int) => ⟨23, 100000, [(0, .t (.im false (eRow_i a0))), (3, .rf 1), (4, .t (.s (.int .i64 z6)))], [(1, .row 0 92 2 (eRow_o z5))]⟩) (x0 := l1) (x1 := 0) h (Weak.of _ [(1, 4098)] hA (by cbv) ?_) (fun _ _ => rfl) ?_
  · repeat (first | exact hq0 | refine hq (by first | exact True.intro | rfl) ?_)
  · intro k z5 z6 h
    rw [laws_toRowS.l0] at h
    refine Run.seq ?_
    refine Run.seq ?_
    refine Run.region hL hT [] (by cbv) ?_ ?_
    · exact (hq trivial hq0)
    rw [show ln (eRow_i a0) = lenI_Row a0 from ln_eq Row_i _]
    refine Run.cond (by cbv) (hq0) (fun c7 => ?_) (fun c7 => ?_)
    · have h := if_t c7 h
      refine Run.skip ?_
      refine Run.seq ?_
      refine Run.block ?_
      obtain ⟨⟨x8v_Id, x8v_Cells⟩, h_x8, h⟩ := bnd h
      obtain ⟨⟨r9v_Id, r9v_Cells⟩, h_r9, h⟩ := bnd h
      obtain ⟨⟨x10v_Id, x10v_Cells⟩, h_x10, h⟩ := bnd h
      obtain ⟨l11, h_l11, h⟩ := bnd h
      refine Run.region hL hT [(4, .el [.s (.int .i64 x8v_Id), .im false (eInt_c x8v_Cells)]), (6, .call [false] [.ag [.jk, .jk]] [.ag [.s (.int .i64 r9v_Id), .ow 3 (eInt_c r9v_Cells)]])] (by cbv) ?_ ?_
      · exact (hq (get_le h_x8) (hq (get_lt (f := Row_i) h_x8) (hq (get_ge (f := Row_i) h_x8) (hq (hC (laws_toRow_ac h_r9)) (hq (get_le h_x10) (hq (get_lt (f := Row_o) h_x10) (hq (get_le h_x10) (hq (get_lt (f := Row_o) h_x10) hq0))))))))
      refine Run.row (rows := (up (eRow_o z5) z6 0 [.s (.int .i64 r9v_Id), .ow 3 (eInt_c r9v_Cells)])) 1 (eRow_o l11) (by cbv) (sto_le (f := Row_o) h_x10 h_l11 rfl LLe.r) ?_
      refine Run.region hL hT [] (by cbv) ?_ ?_
      · exact (hq trivial hq0)
      refine ⟨l11, (ar .add .i64 z6 1), h, Weak.of _ [(1, 1)] hA (by cbv) ?_⟩
      repeat (first | exact hq0 | refine hq (by first | exact True.intro | rfl) ?_)
    · have h := if_f c7 h
      refine Run.exit ?_
      refine Run.seq ?_
      refine Run.region hL hT [] (by cbv) ?_ ?_
      · exact hq0
      refine Run.ret ?_
      cases h
      refine ⟨_, _, by cbv, ?_, ?_⟩
      · exact LLe.r
      · exact (ALe.v LLe.r ALe.nil)

set_option maxRecDepth 8000 in
theorem laws_toKid_ac {a0v_Id : Int} {a0v_N : Int} {r : Kid} (h : laws_toKid.f (Kid.mk a0v_Id a0v_N) = some r) : AC Try.prog 171 [.ag [.s (.int .i64 a0v_Id), .s (.int .i64 a0v_N)]] [.ag [.jk, .jk]] [.ag [.s (.int .i64 r.Id), .s (.int .i64 r.N)]] := by
  unfold laws_toKid.f at h
  let ar := Ls.ar; let cm := Ls.cm; let bo := Ls.bo; let sc := Ls.sc; let sa := Ls.sa; let sx := Ls.sx; let ss := Ls.ss; let sl := Ls.sl; let bs := Ls.bs; let sb := Ls.sb; let ln := Ls.ln; let sr := Ls.sr; let ap := Ls.ap; let up := Ls.up; let rp := Ls.rp; let fr := Ls.fr; let ge := Ls.ge; let le := Ls.le; let lt := Ls.lt; let nz := Ls.nz; let mm := Ls.mm; let ma := Ls.ma; let sm := Ls.sm; let fl := Ls.fl; let al := Ls.al
  have hL : (⟨ar, cm, bo, sc, sa, sx, ss, sl, bs, sb, ln, sr, ap, up, rp, fr, ge, le, lt, nz, mm, ma, sm, fl, al⟩ : Lf) = Ls := rfl
  show AC Try.prog 171 [.ag [.s (.int .i64 a0v_Id), .s (.int .i64 a0v_N)]] _ _
  refine AC.of_run2 tab_ok Try.func171 (by rfl) (by rfl) (by cbv) ⟨by decide, rfl⟩ fun F hP hA => ?_
  have hT : TabOk F.P tab := hP ▸ tab_ok
  have hM : F.P.follows .mixedOrders = true := hP ▸ mixed
  have hC : ∀ {f a o r}, AC Try.prog f a o r → AC F.P f a o r := fun h => hP ▸ h
  refine Run.seq ?_
  refine Run.region hL hT [] (by cbv) ?_ ?_
  · exact hq0
  refine Run.seq ?_
  refine Run.region hL hT [] (by cbv) ?_ ?_
  · exact hq0
  refine Run.seq ?_
  refine Run.region hL hT [] (by cbv) ?_ ?_
  · exact (hq trivial (hq trivial hq0))
  refine Run.seq ?_
  refine Run.region hL hT [] (by cbv) ?_ ?_
  · exact (hq trivial (hq trivial hq0))
  refine Run.seq ?_
  refine Run.region hL hT [] (by cbv) ?_ ?_
  · exact (hq trivial (hq trivial hq0))
  refine Run.ret ?_
  cases h
  refine ⟨_, _, by cbv, ?_, ?_⟩
  · exact LLe.r
  · exact (ALe.ag rfl LLe.r ALe.nil)

set_option maxRecDepth 8000 in
theorem laws_toKidS_ac {a0 : List Kid} {r : (List Kid)} (h : laws_toKidS.f a0 = some r) : AC Try.prog 106 [.v (.im false (rowsOf Kid_c a0))] [.v (.jk)] [.v (.ow 153 (rowsOf Kid_c r))] := by
  unfold laws_toKidS.f at h
  let ar := Ls.ar; let cm := Ls.cm; let bo := Ls.bo; let sc := Ls.sc; let sa := Ls.sa; let sx := Ls.sx; let ss := Ls.ss; let sl := Ls.sl; let bs := Ls.bs; let sb := Ls.sb; let ln := Ls.ln; let sr := Ls.sr; let ap := Ls.ap; let up := Ls.up; let rp := Ls.rp; let fr := Ls.fr; let ge := Ls.ge; let le := Ls.le; let lt := Ls.lt; let nz := Ls.nz; let mm := Ls.mm; let ma := Ls.ma; let sm := Ls.sm; let fl := Ls.fl; let al := Ls.al
  let eKid_c := rowsOf Kid_c
  let lenI_Kid := @lenI Kid
  have hL : (⟨ar, cm, bo, sc, sa, sx, ss, sl, bs, sb, ln, sr, ap, up, rp, fr, ge, le, lt, nz, mm, ma, sm, fl, al⟩ : Lf) = Ls := rfl
  show AC Try.prog 106 [.v (.im false (eKid_c a0))] _ _
  refine AC.of_run2 tab_ok Try.func106 (by rfl) (by rfl) (by cbv) ⟨by decide, rfl⟩ fun F hP hA => ?_
  have hT : TabOk F.P tab := hP ▸ tab_ok
  have hM : F.P.follows .mixedOrders = true := hP ▸ mixed
  have hC : ∀ {f a o r}, AC Try.prog f a o r → AC F.P f a o r := fun h => hP ▸ h
  refine Run.seq ?_
  refine Run.region hL hT [] (by cbv) ?_ ?_
  · exact hq0
  refine Run.seq ?_
  obtain ⟨l1, h_l1, h⟩ := bnd h
  refine Run.region hL hT [] (by cbv) ?_ ?_
  · exact (hq trivial (hq (by rw [show ln (eKid_c a0) = lenI_Kid a0 from ln_eq Kid_c _]; exact (mk_0 h_l1)) (hq (by rw [show ln (eKid_c a0) = lenI_Kid a0 from ln_eq Kid_c _]; exact (mk_mm h_l1)) hq0)))
  rw [show ln (eKid_c a0) = lenI_Kid a0 from ln_eq Kid_c _]
  refine Run.row (rows := (rp (lenI_Kid a0) [.s (.int .i64 0), .s (.int .i64 0)])) 4098 (eKid_c l1) (by cbv) (mk_le (f := Kid_c) rfl LLe.r h_l1) ?_
  refine Run.seq ?_
  refine Run.seq ?_
  refine Run.region hL hT [] (by cbv) ?_ ?_
  · exact hq0
  refine Run.block ?_
  refine Run.loop2 (fun (z5 : List Kid) (z6 : Int) => ⟨23, 100000, [(0, .t (.im false (eKid_c a0))), (3, .rf 1), (4, .t (.s (.int .i64 z6)))], [(1, .row 0 153 2 (eKid_c z5))]⟩) (x0 := l1) (x1 := 0) h (Weak.of _ [(1, 4098)] hA (by cbv) ?_) (fun _ _ => rfl) ?_
  · repeat (first | exact hq0 | refine hq (by first | exact True.intro | rfl) ?_)
  · intro k z5 z6 h
    rw [laws_toKidS.l0] at h
    refine Run.seq ?_
    refine Run.seq ?_
    refine Run.region hL hT [] (by cbv) ?_ ?_
    · exact (hq trivial hq0)
    rw [show ln (eKid_c a0) = lenI_Kid a0 from ln_eq Kid_c _]
    refine Run.cond (by cbv) (hq0) (fun c7 => ?_) (fun c7 => ?_)
    · have h := if_t c7 h
      refine Run.skip ?_
      refine Run.seq ?_
      refine Run.block ?_
      obtain ⟨⟨x8v_Id, x8v_N⟩, h_x8, h⟩ := bnd h
      obtain ⟨⟨r9v_Id, r9v_N⟩, h_r9, h⟩ := bnd h
      obtain ⟨⟨x10v_Id, x10v_N⟩, h_x10, h⟩ := bnd h
      obtain ⟨l11, h_l11, h⟩ := bnd h
      refine Run.region hL hT [(4, .el [.s (.int .i64 x8v_Id), .s (.int .i64 x8v_N)]), (6, .call [false] [.ag [.jk, .jk]] [.ag [.s (.int .i64 r9v_Id), .s (.int .i64 r9v_N)]])] (by cbv) ?_ ?_
      · exact (hq (get_le h_x8) (hq (get_lt (f := Kid_c) h_x8) (hq (get_ge (f := Kid_c) h_x8) (hq (hC (laws_toKid_ac h_r9)) (hq (get_le h_x10) (hq (get_lt (f := Kid_c) h_x10) (hq (get_le h_x10) (hq (get_lt (f := Kid_c) h_x10) hq0))))))))
      refine Run.row (rows := (up (eKid_c z5) z6 0 [.s (.int .i64 r9v_Id), .s (.int .i64 r9v_N)])) 1 (eKid_c l11) (by cbv) (sto_le (f := Kid_c) h_x10 h_l11 rfl LLe.r) ?_
      refine Run.region hL hT [] (by cbv) ?_ ?_
      · exact (hq trivial hq0)
      refine ⟨l11, (ar .add .i64 z6 1), h, Weak.of _ [(1, 1)] hA (by cbv) ?_⟩
      repeat (first | exact hq0 | refine hq (by first | exact True.intro | rfl) ?_)
    · have h := if_f c7 h
      refine Run.exit ?_
      refine Run.seq ?_
      refine Run.region hL hT [] (by cbv) ?_ ?_
      · exact hq0
      refine Run.ret ?_
      cases h
      refine ⟨_, _, by cbv, ?_, ?_⟩
      · exact LLe.r
      · exact (ALe.v LLe.r ALe.nil)

set_option maxRecDepth 8000 in
theorem laws_toCond_ac {a0v_Col : Int} {a0v_Op : Int} {a0v_V : Int} {r : Cond} (h : laws_toCond.f (Cond.mk a0v_Col a0v_Op a0v_V) = some r) : AC Try.prog 162 [.ag [.s (.int .i64 a0v_Col), .s (.int .i64 a0v_Op), .s (.int .i64 a0v_V)]] [.ag [.jk, .jk, .jk]] [.ag [.s (.int .i64 r.Col), .s (.int .i64 r.Op), .s (.int .i64 r.V)]] := by
  unfold laws_toCond.f at h
  let ar := Ls.ar; let cm := Ls.cm; let bo := Ls.bo; let sc := Ls.sc; let sa := Ls.sa; let sx := Ls.sx; let ss := Ls.ss; let sl := Ls.sl; let bs := Ls.bs; let sb := Ls.sb; let ln := Ls.ln; let sr := Ls.sr; let ap := Ls.ap; let up := Ls.up; let rp := Ls.rp; let fr := Ls.fr; let ge := Ls.ge; let le := Ls.le; let lt := Ls.lt; let nz := Ls.nz; let mm := Ls.mm; let ma := Ls.ma; let sm := Ls.sm; let fl := Ls.fl; let al := Ls.al
  have hL : (⟨ar, cm, bo, sc, sa, sx, ss, sl, bs, sb, ln, sr, ap, up, rp, fr, ge, le, lt, nz, mm, ma, sm, fl, al⟩ : Lf) = Ls := rfl
  show AC Try.prog 162 [.ag [.s (.int .i64 a0v_Col), .s (.int .i64 a0v_Op), .s (.int .i64 a0v_V)]] _ _
  refine AC.of_run2 tab_ok Try.func162 (by rfl) (by rfl) (by cbv) ⟨by decide, rfl⟩ fun F hP hA => ?_
  have hT : TabOk F.P tab := hP ▸ tab_ok
  have hM : F.P.follows .mixedOrders = true := hP ▸ mixed
  have hC : ∀ {f a o r}, AC Try.prog f a o r → AC F.P f a o r := fun h => hP ▸ h
  refine Run.seq ?_
  refine Run.region hL hT [] (by cbv) ?_ ?_
  · exact hq0
  refine Run.seq ?_
  refine Run.region hL hT [] (by cbv) ?_ ?_
  · exact hq0
  refine Run.seq ?_
  refine Run.region hL hT [] (by cbv) ?_ ?_
  · exact (hq trivial (hq trivial hq0))
  refine Run.seq ?_
  refine Run.region hL hT [] (by cbv) ?_ ?_
  · exact (hq trivial (hq trivial hq0))
  refine Run.seq ?_
  refine Run.region hL hT [] (by cbv) ?_ ?_
  · exact (hq trivial (hq trivial hq0))
  refine Run.seq ?_
  refine Run.region hL hT [] (by cbv) ?_ ?_
  · exact (hq trivial (hq trivial hq0))
  refine Run.ret ?_
  cases h
  refine ⟨_, _, by cbv, ?_, ?_⟩
  · exact LLe.r
  · exact (ALe.ag rfl LLe.r ALe.nil)

set_option maxRecDepth 8000 in
theorem laws_toCondS_ac {a0 : List Cond} {r : (List Cond)} (h : laws_toCondS.f a0 = some r) : AC Try.prog 92 [.v (.im false (rowsOf Cond_c a0))] [.v (.jk)] [.v (.ow 187 (rowsOf Cond_c r))] := by
  unfold laws_toCondS.f at h
  let ar := Ls.ar; let cm := Ls.cm; let bo := Ls.bo; let sc := Ls.sc; let sa := Ls.sa; let sx := Ls.sx; let ss := Ls.ss; let sl := Ls.sl; let bs := Ls.bs; let sb := Ls.sb; let ln := Ls.ln; let sr := Ls.sr; let ap := Ls.ap; let up := Ls.up; let rp := Ls.rp; let fr := Ls.fr; let ge := Ls.ge; let le := Ls.le; let lt := Ls.lt; let nz := Ls.nz; let mm := Ls.mm; let ma := Ls.ma; let sm := Ls.sm; let fl := Ls.fl; let al := Ls.al
  let eCond_c := rowsOf Cond_c
  let lenI_Cond := @lenI Cond
  have hL : (⟨ar, cm, bo, sc, sa, sx, ss, sl, bs, sb, ln, sr, ap, up, rp, fr, ge, le, lt, nz, mm, ma, sm, fl, al⟩ : Lf) = Ls := rfl
  show AC Try.prog 92 [.v (.im false (eCond_c a0))] _ _
  refine AC.of_run2 tab_ok Try.func92 (by rfl) (by rfl) (by cbv) ⟨by decide, rfl⟩ fun F hP hA => ?_
  have hT : TabOk F.P tab := hP ▸ tab_ok
  have hM : F.P.follows .mixedOrders = true := hP ▸ mixed
  have hC : ∀ {f a o r}, AC Try.prog f a o r → AC F.P f a o r := fun h => hP ▸ h
  refine Run.seq ?_
  refine Run.region hL hT [] (by cbv) ?_ ?_
  · exact hq0
  refine Run.seq ?_
  obtain ⟨l1, h_l1, h⟩ := bnd h
  refine Run.region hL hT [] (by cbv) ?_ ?_
  · exact (hq trivial (hq (by rw [show ln (eCond_c a0) = lenI_Cond a0 from ln_eq Cond_c _]; exact (mk_0 h_l1)) (hq (by rw [show ln (eCond_c a0) = lenI_Cond a0 from ln_eq Cond_c _]; exact (mk_mm h_l1)) hq0)))
  rw [show ln (eCond_c a0) = lenI_Cond a0 from ln_eq Cond_c _]
  refine Run.row (rows := (rp (lenI_Cond a0) [.s (.int .i64 0), .s (.int .i64 0), .s (.int .i64 0)])) 4098 (eCond_c l1) (by cbv) (mk_le (f := Cond_c) rfl LLe.r h_l1) ?_
  refine Run.seq ?_
  refine Run.seq ?_
  refine Run.region hL hT [] (by cbv) ?_ ?_
  · exact hq0
  refine Run.block ?_
  refine Run.loop2 (fun (z5 : List Cond) (z6 : Int) => ⟨23, 100000, [(0, .t (.im false (eCond_c a0))), (3, .rf 1), (4, .t (.s (.int .i64 z6)))], [(1, .row 0 187 3 (eCond_c z5))]⟩) (x0 := l1) (x1 := 0) h (Weak.of _ [(1, 4098)] hA (by cbv) ?_) (fun _ _ => rfl) ?_
  · repeat (first | exact hq0 | refine hq (by first | exact True.intro | rfl) ?_)
  · intro k z5 z6 h
    rw [laws_toCondS.l0] at h
    refine Run.seq ?_
    refine Run.seq ?_
    refine Run.region hL hT [] (by cbv) ?_ ?_
    · exact (hq trivial hq0)
    rw [show ln (eCond_c a0) = lenI_Cond a0 from ln_eq Cond_c _]
    refine Run.cond (by cbv) (hq0) (fun c7 => ?_) (fun c7 => ?_)
    · have h := if_t c7 h
      refine Run.skip ?_
      refine Run.seq ?_
      refine Run.block ?_
      obtain ⟨⟨x8v_Col, x8v_Op, x8v_V⟩, h_x8, h⟩ := bnd h
      obtain ⟨⟨r9v_Col, r9v_Op, r9v_V⟩, h_r9, h⟩ := bnd h
      obtain ⟨⟨x10v_Col, x10v_Op, x10v_V⟩, h_x10, h⟩ := bnd h
      obtain ⟨l11, h_l11, h⟩ := bnd h
      refine Run.region hL hT [(4, .el [.s (.int .i64 x8v_Col), .s (.int .i64 x8v_Op), .s (.int .i64 x8v_V)]), (6, .call [false] [.ag [.jk, .jk, .jk]] [.ag [.s (.int .i64 r9v_Col), .s (.int .i64 r9v_Op), .s (.int .i64 r9v_V)]])] (by cbv) ?_ ?_
      · exact (hq (get_le h_x8) (hq (get_lt (f := Cond_c) h_x8) (hq (get_ge (f := Cond_c) h_x8) (hq (hC (laws_toCond_ac h_r9)) (hq (get_le h_x10) (hq (get_lt (f := Cond_c) h_x10) (hq (get_le h_x10) (hq (get_lt (f := Cond_c) h_x10) hq0))))))))
      refine Run.row (rows := (up (eCond_c z5) z6 0 [.s (.int .i64 r9v_Col), .s (.int .i64 r9v_Op), .s (.int .i64 r9v_V)])) 1 (eCond_c l11) (by cbv) (sto_le (f := Cond_c) h_x10 h_l11 rfl LLe.r) ?_
      refine Run.region hL hT [] (by cbv) ?_ ?_
      · exact (hq trivial hq0)
      refine ⟨l11, (ar .add .i64 z6 1), h, Weak.of _ [(1, 1)] hA (by cbv) ?_⟩
      repeat (first | exact hq0 | refine hq (by first | exact True.intro | rfl) ?_)
    · have h := if_f c7 h
      refine Run.exit ?_
      refine Run.seq ?_
      refine Run.region hL hT [] (by cbv) ?_ ?_
      · exact hq0
      refine Run.ret ?_
      cases h
      refine ⟨_, _, by cbv, ?_, ?_⟩
      · exact LLe.r
      · exact (ALe.v LLe.r ALe.nil)

set_option maxRecDepth 8000 in
theorem laws_toQuery_ac {a0v_Table : Int} {a0v_Where : List Cond} {a0v_Order : Int} {a0v_Down : Bool} {a0v_First : Int} {a0v_Show : List Int} {a0v_Kids : Bool} {a0v_KidTable : Int} {a0v_KidCol : Int} {r : Query} (h : laws_toQuery.f (Query.mk a0v_Table a0v_Where a0v_Order a0v_Down a0v_First a0v_Show a0v_Kids a0v_KidTable a0v_KidCol) = some r) : AC Try.prog 19 [.ag [.s (.int .i64 a0v_Table), .im false (rowsOf Cond_c a0v_Where), .s (.int .i64 a0v_Order), .s (.bool a0v_Down), .s (.int .i64 a0v_First), .im false (rowsOf Int_c a0v_Show), .s (.bool a0v_Kids), .s (.int .i64 a0v_KidTable), .s (.int .i64 a0v_KidCol)]] [.ag [.jk, .jk, .jk, .jk, .jk, .jk, .jk, .jk, .jk]] [.ag [.s (.int .i64 r.Table), .ow 187 (rowsOf Cond_c r.Where), .s (.int .i64 r.Order), .s (.bool r.Down), .s (.int .i64 r.First), .ow 3 (rowsOf Int_c r.Show), .s (.bool r.Kids), .s (.int .i64 r.KidTable), .s (.int .i64 r.KidCol)]] := by
  unfold laws_toQuery.f at h
  let ar := Ls.ar; let cm := Ls.cm; let bo := Ls.bo; let sc := Ls.sc; let sa := Ls.sa; let sx := Ls.sx; let ss := Ls.ss; let sl := Ls.sl; let bs := Ls.bs; let sb := Ls.sb; let ln := Ls.ln; let sr := Ls.sr; let ap := Ls.ap; let up := Ls.up; let rp := Ls.rp; let fr := Ls.fr; let ge := Ls.ge; let le := Ls.le; let lt := Ls.lt; let nz := Ls.nz; let mm := Ls.mm; let ma := Ls.ma; let sm := Ls.sm; let fl := Ls.fl; let al := Ls.al
  let eCond_c := rowsOf Cond_c
  let eInt_c := rowsOf Int_c
  have hL : (⟨ar, cm, bo, sc, sa, sx, ss, sl, bs, sb, ln, sr, ap, up, rp, fr, ge, le, lt, nz, mm, ma, sm, fl, al⟩ : Lf) = Ls := rfl
  show AC Try.prog 19 [.ag [.s (.int .i64 a0v_Table), .im false (eCond_c a0v_Where), .s (.int .i64 a0v_Order), .s (.bool a0v_Down), .s (.int .i64 a0v_First), .im false (eInt_c a0v_Show), .s (.bool a0v_Kids), .s (.int .i64 a0v_KidTable), .s (.int .i64 a0v_KidCol)]] _ _
  refine AC.of_run2 tab_ok Try.func19 (by rfl) (by rfl) (by cbv) ⟨by decide, rfl⟩ fun F hP hA => ?_
  have hT : TabOk F.P tab := hP ▸ tab_ok
  have hM : F.P.follows .mixedOrders = true := hP ▸ mixed
  have hC : ∀ {f a o r}, AC Try.prog f a o r → AC F.P f a o r := fun h => hP ▸ h
  refine Run.seq ?_
  refine Run.region hL hT [] (by cbv) ?_ ?_
  · exact hq0
  refine Run.seq ?_
  refine Run.region hL hT [] (by cbv) ?_ ?_
  · exact hq0
  refine Run.seq ?_
  refine Run.region hL hT [] (by cbv) ?_ ?_
  · exact (hq trivial (hq trivial hq0))
  refine Run.seq ?_
  obtain ⟨r1, h_r1, h⟩ := bnd h
  refine Run.region hL hT [(2, .call [false] [.v (.jk)] [.v (.ow 187 (eCond_c r1))])] (by cbv) ?_ ?_
  · exact (hq trivial (hq (hC (laws_toCondS_ac h_r1)) (hq trivial hq0)))
  refine Run.seq ?_
  refine Run.region hL hT [] (by cbv) ?_ ?_
  · exact (hq trivial (hq trivial hq0))
  refine Run.seq ?_
  refine Run.region hL hT [] (by cbv) ?_ ?_
  · exact (hq trivial (hq trivial hq0))
  refine Run.seq ?_
  refine Run.region hL hT [] (by cbv) ?_ ?_
  · exact (hq trivial (hq trivial hq0))
  refine Run.seq ?_
  obtain ⟨r2, h_r2, h⟩ := bnd h
  refine Run.region hL hT [(2, .call [false] [.v (.jk)] [.v (.ow 3 (eInt_c r2))])] (by cbv) ?_ ?_
  · exact (hq trivial (hq (hC (laws_toIntS_ac h_r2)) (hq trivial hq0)))
  refine Run.seq ?_
  refine Run.region hL hT [] (by cbv) ?_ ?_
  · exact (hq trivial (hq trivial hq0))
  refine Run.seq ?_
  refine Run.region hL hT [] (by cbv) ?_ ?_
  · exact (hq trivial (hq trivial hq0))
  refine Run.seq ?_
  refine Run.region hL hT [] (by cbv) ?_ ?_
  · exact (hq trivial (hq trivial hq0))
  refine Run.seq ?_
  refine Run.region hL hT [] (by cbv) ?_ ?_
  · exact (hq trivial (hq trivial hq0))
  refine Run.ret ?_
  cases h
  refine ⟨_, _, by cbv, ?_, ?_⟩
  · exact LLe.r
  · exact (ALe.ag rfl LLe.r ALe.nil)

set_option maxRecDepth 8000 in
theorem laws_toView_ac {a0v_Qv_Table : Int} {a0v_Qv_Where : List Cond} {a0v_Qv_Order : Int} {a0v_Qv_Down : Bool} {a0v_Qv_First : Int} {a0v_Qv_Show : List Int} {a0v_Qv_Kids : Bool} {a0v_Qv_KidTable : Int} {a0v_Qv_KidCol : Int} {a0v_Rows : List Row} {a0v_Kids : List Kid} {r : View} (h : laws_toView.f (View.mk (Query.mk a0v_Qv_Table a0v_Qv_Where a0v_Qv_Order a0v_Qv_Down a0v_Qv_First a0v_Qv_Show a0v_Qv_Kids a0v_Qv_KidTable a0v_Qv_KidCol) a0v_Rows a0v_Kids) = some r) : AC Try.prog 27 [.ag [.s (.int .i64 a0v_Qv_Table), .im false (rowsOf Cond_c a0v_Qv_Where), .s (.int .i64 a0v_Qv_Order), .s (.bool a0v_Qv_Down), .s (.int .i64 a0v_Qv_First), .im false (rowsOf Int_c a0v_Qv_Show), .s (.bool a0v_Qv_Kids), .s (.int .i64 a0v_Qv_KidTable), .s (.int .i64 a0v_Qv_KidCol), .im false (rowsOf Row_i a0v_Rows), .im false (rowsOf Kid_c a0v_Kids)]] [.ag [.jk, .jk, .jk, .jk, .jk, .jk, .jk, .jk, .jk, .jk, .jk]] [.ag [.s (.int .i64 r.Q.Table), .ow 187 (rowsOf Cond_c r.Q.Where), .s (.int .i64 r.Q.Order), .s (.bool r.Q.Down), .s (.int .i64 r.Q.First), .ow 3 (rowsOf Int_c r.Q.Show), .s (.bool r.Q.Kids), .s (.int .i64 r.Q.KidTable), .s (.int .i64 r.Q.KidCol), .ow 92 (rowsOf Row_o r.Rows), .ow 153 (rowsOf Kid_c r.Kids)]] := by
  unfold laws_toView.f at h
  let ar := Ls.ar; let cm := Ls.cm; let bo := Ls.bo; let sc := Ls.sc; let sa := Ls.sa; let sx := Ls.sx; let ss := Ls.ss; let sl := Ls.sl; let bs := Ls.bs; let sb := Ls.sb; let ln := Ls.ln; let sr := Ls.sr; let ap := Ls.ap; let up := Ls.up; let rp := Ls.rp; let fr := Ls.fr; let ge := Ls.ge; let le := Ls.le; let lt := Ls.lt; let nz := Ls.nz; let mm := Ls.mm; let ma := Ls.ma; let sm := Ls.sm; let fl := Ls.fl; let al := Ls.al
  let eCond_c := rowsOf Cond_c
  let eInt_c := rowsOf Int_c
  let eKid_c := rowsOf Kid_c
  let eRow_i := rowsOf Row_i
  let eRow_o := rowsOf Row_o
  have hL : (⟨ar, cm, bo, sc, sa, sx, ss, sl, bs, sb, ln, sr, ap, up, rp, fr, ge, le, lt, nz, mm, ma, sm, fl, al⟩ : Lf) = Ls := rfl
  show AC Try.prog 27 [.ag [.s (.int .i64 a0v_Qv_Table), .im false (eCond_c a0v_Qv_Where), .s (.int .i64 a0v_Qv_Order), .s (.bool a0v_Qv_Down), .s (.int .i64 a0v_Qv_First), .im false (eInt_c a0v_Qv_Show), .s (.bool a0v_Qv_Kids), .s (.int .i64 a0v_Qv_KidTable), .s (.int .i64 a0v_Qv_KidCol), .im false (eRow_i a0v_Rows), .im false (eKid_c a0v_Kids)]] _ _
  refine AC.of_run2 tab_ok Try.func27 (by rfl) (by rfl) (by cbv) ⟨by decide, rfl⟩ fun F hP hA => ?_
  have hT : TabOk F.P tab := hP ▸ tab_ok
  have hM : F.P.follows .mixedOrders = true := hP ▸ mixed
  have hC : ∀ {f a o r}, AC Try.prog f a o r → AC F.P f a o r := fun h => hP ▸ h
  refine Run.seq ?_
  refine Run.region hL hT [] (by cbv) ?_ ?_
  · exact hq0
  refine Run.seq ?_
  refine Run.region hL hT [] (by cbv) ?_ ?_
  · exact hq0
  refine Run.seq ?_
  obtain ⟨⟨r1v_Table, r1v_Where, r1v_Order, r1v_Down, r1v_First, r1v_Show, r1v_Kids, r1v_KidTable, r1v_KidCol⟩, h_r1, h⟩ := bnd h
  refine Run.region hL hT [(2, .call [false] [.ag [.jk, .jk, .jk, .jk, .jk, .jk, .jk, .jk, .jk]] [.ag [.s (.int .i64 r1v_Table), .ow 187 (eCond_c r1v_Where), .s (.int .i64 r1v_Order), .s (.bool r1v_Down), .s (.int .i64 r1v_First), .ow 3 (eInt_c r1v_Show), .s (.bool r1v_Kids), .s (.int .i64 r1v_KidTable), .s (.int .i64 r1v_KidCol)]])] (by cbv) ?_ ?_
  · exact (hq trivial (hq (hC (laws_toQuery_ac h_r1)) (hq trivial hq0)))
  refine Run.seq ?_
  obtain ⟨r2, h_r2, h⟩ := bnd h
  refine Run.region hL hT [(2, .call [false] [.v (.jk)] [.v (.ow 92 (eRow_o r2))])] (by cbv) ?_ ?_
  · exact (hq trivial (hq (hC (laws_toRowS_ac h_r2)) (hq trivial hq0)))
  refine Run.seq ?_
  obtain ⟨r3, h_r3, h⟩ := bnd h
  refine Run.region hL hT [(2, .call [false] [.v (.jk)] [.v (.ow 153 (eKid_c r3))])] (by cbv) ?_ ?_
  · exact (hq trivial (hq (hC (laws_toKidS_ac h_r3)) (hq trivial hq0)))
  refine Run.seq ?_
  refine Run.region hL hT [] (by cbv) ?_ ?_
  · exact (hq trivial (hq trivial hq0))
  refine Run.ret ?_
  cases h
  refine ⟨_, _, by cbv, ?_, ?_⟩
  · exact LLe.r
  · exact (ALe.ag rfl LLe.r ALe.nil)

set_option maxRecDepth 8000 in
theorem laws_eqIntS_ac {a0 : List Int} {a1 : List Int} {r : Bool} (h : laws_eqIntS.f a0 a1 = some r) : AC Try.prog 43 [.v (.im false (rowsOf Int_c a0)), .v (.im false (rowsOf Int_c a1))] [.v (.jk), .v (.jk)] [.v (.s (.bool r))] := by
  unfold laws_eqIntS.f at h
  let ar := Ls.ar; let cm := Ls.cm; let bo := Ls.bo; let sc := Ls.sc; let sa := Ls.sa; let sx := Ls.sx; let ss := Ls.ss; let sl := Ls.sl; let bs := Ls.bs; let sb := Ls.sb; let ln := Ls.ln; let sr := Ls.sr; let ap := Ls.ap; let up := Ls.up; let rp := Ls.rp; let fr := Ls.fr; let ge := Ls.ge; let le := Ls.le; let lt := Ls.lt; let nz := Ls.nz; let mm := Ls.mm; let ma := Ls.ma; let sm := Ls.sm; let fl := Ls.fl; let al := Ls.al
  let eInt_c := rowsOf Int_c
  let lenI_Int := @lenI Int
  have hL : (⟨ar, cm, bo, sc, sa, sx, ss, sl, bs, sb, ln, sr, ap, up, rp, fr, ge, le, lt, nz, mm, ma, sm, fl, al⟩ : Lf) = Ls := rfl
  show AC Try.prog 43 [.v (.im false (eInt_c a0)), .v (.im false (eInt_c a1))] _ _
  refine AC.of_run2 tab_ok Try.func43 (by rfl) (by rfl) (by cbv) ⟨by decide, rfl⟩ fun F hP hA => ?_
  have hT : TabOk F.P tab := hP ▸ tab_ok
  have hM : F.P.follows .mixedOrders = true := hP ▸ mixed
  have hC : ∀ {f a o r}, AC Try.prog f a o r → AC F.P f a o r := fun h => hP ▸ h
  refine Run.seq ?_
  refine Run.region hL hT [] (by cbv) ?_ ?_
  · exact hq0
  refine Run.seq ?_
  refine Run.seq ?_
  refine Run.region hL hT [] (by cbv) ?_ ?_
  · exact (hq trivial hq0)
  rw [show ln (eInt_c a0) = lenI_Int a0 from ln_eq Int_c _]
  rw [show ln (eInt_c a1) = lenI_Int a1 from ln_eq Int_c _]
  refine Run.cond (by cbv) (hq0) (fun c1 => ?_) (fun c1 => ?_)
  · have h := if_t c1 h
    refine Run.seq ?_
    refine Run.region hL hT [] (by cbv) ?_ ?_
    · exact hq0
    refine Run.ret ?_
    cases h
    refine ⟨_, _, by cbv, ?_, ?_⟩
    · exact LLe.r
    · exact (ALe.v LLe.r ALe.nil)
  · have h := if_f c1 h
    refine Run.skip ?_
    refine Run.seq ?_
    refine Run.seq ?_
    refine Run.region hL hT [] (by cbv) ?_ ?_
    · exact hq0
    refine Run.block ?_
    refine Run.loop1 (fun (z5 : Int) => ⟨26, 100000, [(0, .t (.im false (eInt_c a0))), (1, .t (.im false (eInt_c a1))), (5, .t (.s (.int .i64 z5)))], []⟩) (x0 := 0) h (Weak.of _ [] hA (by cbv) ?_) (fun _ => rfl) ?_
    · repeat (first | exact hq0 | refine hq (by first | exact True.intro | rfl) ?_)
    · intro k z5 h
      rw [laws_eqIntS.l0] at h
      refine Run.seq ?_
      refine Run.seq ?_
      refine Run.region hL hT [] (by cbv) ?_ ?_
      · exact (hq trivial hq0)
      rw [show ln (eInt_c a0) = lenI_Int a0 from ln_eq Int_c _]
      refine Run.cond (by cbv) (hq0) (fun c6 => ?_) (fun c6 => ?_)
      · have h := if_t c6 h
        refine Run.skip ?_
        refine Run.seq ?_
        refine Run.block ?_
        refine Run.seq ?_
        obtain ⟨x7, h_x7, h⟩ := bnd h
        obtain ⟨x8, h_x8, h⟩ := bnd h
        refine Run.draw hL hT hM [(2, .el [.s (.int .i64 x7)]), (6, .el [.s (.int .i64 x8)])] (by cbv) (by cbv) (by cbv) (by cbv) (by cbv) ?_ ?_
        · exact (hq (get_le h_x7) (hq (get_lt (f := Int_c) h_x7) (hq (get_ge (f := Int_c) h_x7) (hq (get_le h_x8) (hq (get_lt (f := Int_c) h_x8) (hq (get_ge (f := Int_c) h_x8) (hq trivial hq0)))))))
        refine Run.cond (by cbv) (hq0) (fun c9 => ?_) (fun c9 => ?_)
        · have h := if_t c9 h
          refine Run.seq ?_
          refine Run.region hL hT [] (by cbv) ?_ ?_
          · exact hq0
          refine Run.ret ?_
          cases h
          refine ⟨_, _, by cbv, ?_, ?_⟩
          · exact LLe.r
          · exact (ALe.v LLe.r ALe.nil)
        · have h := if_f c9 h
          refine Run.skip ?_
          refine Run.region hL hT [] (by cbv) ?_ ?_
          · exact (hq trivial hq0)
          refine ⟨(ar .add .i64 z5 1), h, Weak.of _ [] hA (by cbv) ?_⟩
          repeat (first | exact hq0 | refine hq (by first | exact True.intro | rfl) ?_)
      · have h := if_f c6 h
        refine Run.exit ?_
        refine Run.seq ?_
        refine Run.region hL hT [] (by cbv) ?_ ?_
        · exact hq0
        refine Run.ret ?_
        cases h
        refine ⟨_, _, by cbv, ?_, ?_⟩
        · exact LLe.r
        · exact (ALe.v LLe.r ALe.nil)

set_option maxRecDepth 8000 in
theorem laws_eqRow_ac {a0v_Id : Int} {a0v_Cells : List Int} {a1v_Id : Int} {a1v_Cells : List Int} {r : Bool} (h : laws_eqRow.f (Row.mk a0v_Id a0v_Cells) (Row.mk a1v_Id a1v_Cells) = some r) : AC Try.prog 132 [.ag [.s (.int .i64 a0v_Id), .im false (rowsOf Int_c a0v_Cells)], .ag [.s (.int .i64 a1v_Id), .im false (rowsOf Int_c a1v_Cells)]] [.ag [.jk, .jk], .ag [.jk, .jk]] [.v (.s (.bool r))] := by
  unfold laws_eqRow.f at h
  let ar := Ls.ar; let cm := Ls.cm; let bo := Ls.bo; let sc := Ls.sc; let sa := Ls.sa; let sx := Ls.sx; let ss := Ls.ss; let sl := Ls.sl; let bs := Ls.bs; let sb := Ls.sb; let ln := Ls.ln; let sr := Ls.sr; let ap := Ls.ap; let up := Ls.up; let rp := Ls.rp; let fr := Ls.fr; let ge := Ls.ge; let le := Ls.le; let lt := Ls.lt; let nz := Ls.nz; let mm := Ls.mm; let ma := Ls.ma; let sm := Ls.sm; let fl := Ls.fl; let al := Ls.al
  let eInt_c := rowsOf Int_c
  have hL : (⟨ar, cm, bo, sc, sa, sx, ss, sl, bs, sb, ln, sr, ap, up, rp, fr, ge, le, lt, nz, mm, ma, sm, fl, al⟩ : Lf) = Ls := rfl
  show AC Try.prog 132 [.ag [.s (.int .i64 a0v_Id), .im false (eInt_c a0v_Cells)], .ag [.s (.int .i64 a1v_Id), .im false (eInt_c a1v_Cells)]] _ _
  refine AC.of_run2 tab_ok Try.func132 (by rfl) (by rfl) (by cbv) ⟨by decide, rfl⟩ fun F hP hA => ?_
  have hT : TabOk F.P tab := hP ▸ tab_ok
  have hM : F.P.follows .mixedOrders = true := hP ▸ mixed
  have hC : ∀ {f a o r}, AC Try.prog f a o r → AC F.P f a o r := fun h => hP ▸ h
  refine Run.seq ?_
  refine Run.region hL hT [] (by cbv) ?_ ?_
  · exact hq0
  refine Run.seq ?_
  refine Run.seq ?_
  refine Run.region hL hT [] (by cbv) ?_ ?_
  · exact (hq trivial (hq trivial (hq trivial hq0)))
  refine Run.cond (by cbv) (hq0) (fun c1 => ?_) (fun c1 => ?_)
  · have h := if_t c1 h
    refine Run.seq ?_
    refine Run.region hL hT [] (by cbv) ?_ ?_
    · exact hq0
    refine Run.ret ?_
    cases h
    refine ⟨_, _, by cbv, ?_, ?_⟩
    · exact LLe.r
    · exact (ALe.v LLe.r ALe.nil)
  · have h := if_f c1 h
    refine Run.skip ?_
    refine Run.seq ?_
    refine Run.seq ?_
    obtain ⟨r2, h_r2, h⟩ := bnd h
    refine Run.region hL hT [(4, .call [false, false] [.v (.jk), .v (.jk)] [.v (.s (.bool r2))])] (by cbv) ?_ ?_
    · exact (hq trivial (hq trivial (hq (hC (laws_eqIntS_ac h_r2)) hq0)))
    refine Run.cond (by cbv) (hq0) (fun c3 => ?_) (fun c3 => ?_)
    · have h := if_t c3 h
      refine Run.seq ?_
      refine Run.region hL hT [] (by cbv) ?_ ?_
      · exact hq0
      refine Run.ret ?_
      cases h
      refine ⟨_, _, by cbv, ?_, ?_⟩
      · exact LLe.r
      · exact (ALe.v LLe.r ALe.nil)
    · have h := if_f c3 h
      refine Run.skip ?_
      refine Run.seq ?_
      refine Run.region hL hT [] (by cbv) ?_ ?_
      · exact hq0
      refine Run.ret ?_
      cases h
      refine ⟨_, _, by cbv, ?_, ?_⟩
      · exact LLe.r
      · exact (ALe.v LLe.r ALe.nil)

set_option maxRecDepth 8000 in
theorem laws_eqRowS_ac {a0 : List Row} {a1 : List Row} {r : Bool} (h : laws_eqRowS.f a0 a1 = some r) : AC Try.prog 112 [.v (.im false (rowsOf Row_i a0)), .v (.im false (rowsOf Row_i a1))] [.v (.jk), .v (.jk)] [.v (.s (.bool r))] := by
  unfold laws_eqRowS.f at h
  let ar := Ls.ar; let cm := Ls.cm; let bo := Ls.bo; let sc := Ls.sc; let sa := Ls.sa; let sx := Ls.sx; let ss := Ls.ss; let sl := Ls.sl; let bs := Ls.bs; let sb := Ls.sb; let ln := Ls.ln; let sr := Ls.sr; let ap := Ls.ap; let up := Ls.up; let rp := Ls.rp; let fr := Ls.fr; let ge := Ls.ge; let le := Ls.le; let lt := Ls.lt; let nz := Ls.nz; let mm := Ls.mm; let ma := Ls.ma; let sm := Ls.sm; let fl := Ls.fl; let al := Ls.al
  let eInt_c := rowsOf Int_c
  let eRow_i := rowsOf Row_i
  let lenI_Row := @lenI Row
  have hL : (⟨ar, cm, bo, sc, sa, sx, ss, sl, bs, sb, ln, sr, ap, up, rp, fr, ge, le, lt, nz, mm, ma, sm, fl, al⟩ : Lf) = Ls := rfl
  show AC Try.prog 112 [.v (.im false (eRow_i a0)), .v (.im false (eRow_i a1))] _ _
  refine AC.of_run2 tab_ok Try.func112 (by rfl) (by rfl) (by cbv) ⟨by decide, rfl⟩ fun F hP hA => ?_
  have hT : TabOk F.P tab := hP ▸ tab_ok
  have hM : F.P.follows .mixedOrders = true := hP ▸ mixed
  have hC : ∀ {f a o r}, AC Try.prog f a o r → AC F.P f a o r := fun h => hP ▸ h
  refine Run.seq ?_
  refine Run.region hL hT [] (by cbv) ?_ ?_
  · exact hq0
  refine Run.seq ?_
  refine Run.seq ?_
  refine Run.region hL hT [] (by cbv) ?_ ?_
  · exact (hq trivial hq0)
  rw [show ln (eRow_i a0) = lenI_Row a0 from ln_eq Row_i _]
  rw [show ln (eRow_i a1) = lenI_Row a1 from ln_eq Row_i _]
  refine Run.cond (by cbv) (hq0) (fun c1 => ?_) (fun c1 => ?_)
  · have h := if_t c1 h
    refine Run.seq ?_
    refine Run.region hL hT [] (by cbv) ?_ ?_
    · exact hq0
    refine Run.ret ?_
    cases h
    refine ⟨_, _, by cbv, ?_, ?_⟩
    · exact LLe.r
    · exact (ALe.v LLe.r ALe.nil)
  · have h := if_f c1 h
    refine Run.skip ?_
    refine Run.seq ?_
    refine Run.seq ?_
    refine Run.region hL hT [] (by cbv) ?_ ?_
    · exact hq0
    refine Run.block ?_
    refine Run.loop1 (fun (z5 : Int) => ⟨27, 100000, [(0, .t (.im false (eRow_i a0))), (1, .t (.im false (eRow_i a1))), (5, .t (.s (.int .i64 z5)))], []⟩) (x0 := 0) h (Weak.of _ [] hA (by cbv) ?_) (fun _ => rfl) ?_
    · repeat (first | exact hq0 | refine hq (by first | exact True.intro | rfl) ?_)
    · intro k z5 h
      rw [laws_eqRowS.l0] at h
      refine Run.seq ?_
      refine Run.seq ?_
      refine Run.region hL hT [] (by cbv) ?_ ?_
      · exact (hq trivial hq0)
      rw [show ln (eRow_i a0) = lenI_Row a0 from ln_eq Row_i _]
      refine Run.cond (by cbv) (hq0) (fun c6 => ?_) (fun c6 => ?_)
      · have h := if_t c6 h
        refine Run.skip ?_
        refine Run.seq ?_
        refine Run.block ?_
        refine Run.seq ?_
        obtain ⟨⟨x7v_Id, x7v_Cells⟩, h_x7, h⟩ := bnd h
        obtain ⟨⟨x8v_Id, x8v_Cells⟩, h_x8, h⟩ := bnd h
        obtain ⟨r9, h_r9, h⟩ := bnd h
        refine Run.draw hL hT hM [(2, .el [.s (.int .i64 x7v_Id), .im false (eInt_c x7v_Cells)]), (6, .el [.s (.int .i64 x8v_Id), .im false (eInt_c x8v_Cells)]), (8, .call [false, false] [.ag [.jk, .jk], .ag [.jk, .jk]] [.v (.s (.bool r9))])] (by cbv) (by cbv) (by cbv) (by cbv) (by cbv) ?_ ?_
        · exact (hq (get_le h_x7) (hq (get_lt (f := Row_i) h_x7) (hq (get_ge (f := Row_i) h_x7) (hq (get_le h_x8) (hq (get_lt (f := Row_i) h_x8) (hq (get_ge (f := Row_i) h_x8) (hq (hC (laws_eqRow_ac h_r9)) hq0)))))))
        refine Run.cond (by cbv) (hq0) (fun c10 => ?_) (fun c10 => ?_)
        · have h := if_t c10 h
          refine Run.seq ?_
          refine Run.region hL hT [] (by cbv) ?_ ?_
          · exact hq0
          refine Run.ret ?_
          cases h
          refine ⟨_, _, by cbv, ?_, ?_⟩
          · exact LLe.r
          · exact (ALe.v LLe.r ALe.nil)
        · have h := if_f c10 h
          refine Run.skip ?_
          refine Run.region hL hT [] (by cbv) ?_ ?_
          · exact (hq trivial hq0)
          refine ⟨(ar .add .i64 z5 1), h, Weak.of _ [] hA (by cbv) ?_⟩
          repeat (first | exact hq0 | refine hq (by first | exact True.intro | rfl) ?_)
      · have h := if_f c6 h
        refine Run.exit ?_
        refine Run.seq ?_
        refine Run.region hL hT [] (by cbv) ?_ ?_
        · exact hq0
        refine Run.ret ?_
        cases h
        refine ⟨_, _, by cbv, ?_, ?_⟩
        · exact LLe.r
        · exact (ALe.v LLe.r ALe.nil)

set_option maxRecDepth 8000 in
theorem laws_eqKid_ac {a0v_Id : Int} {a0v_N : Int} {a1v_Id : Int} {a1v_N : Int} {r : Bool} (h : laws_eqKid.f (Kid.mk a0v_Id a0v_N) (Kid.mk a1v_Id a1v_N) = some r) : AC Try.prog 175 [.ag [.s (.int .i64 a0v_Id), .s (.int .i64 a0v_N)], .ag [.s (.int .i64 a1v_Id), .s (.int .i64 a1v_N)]] [.ag [.jk, .jk], .ag [.jk, .jk]] [.v (.s (.bool r))] := by
  unfold laws_eqKid.f at h
  let ar := Ls.ar; let cm := Ls.cm; let bo := Ls.bo; let sc := Ls.sc; let sa := Ls.sa; let sx := Ls.sx; let ss := Ls.ss; let sl := Ls.sl; let bs := Ls.bs; let sb := Ls.sb; let ln := Ls.ln; let sr := Ls.sr; let ap := Ls.ap; let up := Ls.up; let rp := Ls.rp; let fr := Ls.fr; let ge := Ls.ge; let le := Ls.le; let lt := Ls.lt; let nz := Ls.nz; let mm := Ls.mm; let ma := Ls.ma; let sm := Ls.sm; let fl := Ls.fl; let al := Ls.al
  have hL : (⟨ar, cm, bo, sc, sa, sx, ss, sl, bs, sb, ln, sr, ap, up, rp, fr, ge, le, lt, nz, mm, ma, sm, fl, al⟩ : Lf) = Ls := rfl
  show AC Try.prog 175 [.ag [.s (.int .i64 a0v_Id), .s (.int .i64 a0v_N)], .ag [.s (.int .i64 a1v_Id), .s (.int .i64 a1v_N)]] _ _
  refine AC.of_run2 tab_ok Try.func175 (by rfl) (by rfl) (by cbv) ⟨by decide, rfl⟩ fun F hP hA => ?_
  have hT : TabOk F.P tab := hP ▸ tab_ok
  have hM : F.P.follows .mixedOrders = true := hP ▸ mixed
  have hC : ∀ {f a o r}, AC Try.prog f a o r → AC F.P f a o r := fun h => hP ▸ h
  refine Run.seq ?_
  refine Run.region hL hT [] (by cbv) ?_ ?_
  · exact hq0
  refine Run.seq ?_
  refine Run.seq ?_
  refine Run.region hL hT [] (by cbv) ?_ ?_
  · exact (hq trivial (hq trivial (hq trivial hq0)))
  refine Run.cond (by cbv) (hq0) (fun c1 => ?_) (fun c1 => ?_)
  · have h := if_t c1 h
    refine Run.seq ?_
    refine Run.region hL hT [] (by cbv) ?_ ?_
    · exact hq0
    refine Run.ret ?_
    cases h
    refine ⟨_, _, by cbv, ?_, ?_⟩
    · exact LLe.r
    · exact (ALe.v LLe.r ALe.nil)
  · have h := if_f c1 h
    refine Run.skip ?_
    refine Run.seq ?_
    refine Run.seq ?_
    refine Run.region hL hT [] (by cbv) ?_ ?_
    · exact (hq trivial (hq trivial (hq trivial hq0)))
    refine Run.cond (by cbv) (hq0) (fun c2 => ?_) (fun c2 => ?_)
    · have h := if_t c2 h
      refine Run.seq ?_
      refine Run.region hL hT [] (by cbv) ?_ ?_
      · exact hq0
      refine Run.ret ?_
      cases h
      refine ⟨_, _, by cbv, ?_, ?_⟩
      · exact LLe.r
      · exact (ALe.v LLe.r ALe.nil)
    · have h := if_f c2 h
      refine Run.skip ?_
      refine Run.seq ?_
      refine Run.region hL hT [] (by cbv) ?_ ?_
      · exact hq0
      refine Run.ret ?_
      cases h
      refine ⟨_, _, by cbv, ?_, ?_⟩
      · exact LLe.r
      · exact (ALe.v LLe.r ALe.nil)

set_option maxRecDepth 8000 in
theorem laws_eqKidS_ac {a0 : List Kid} {a1 : List Kid} {r : Bool} (h : laws_eqKidS.f a0 a1 = some r) : AC Try.prog 113 [.v (.im false (rowsOf Kid_c a0)), .v (.im false (rowsOf Kid_c a1))] [.v (.jk), .v (.jk)] [.v (.s (.bool r))] := by
  unfold laws_eqKidS.f at h
  let ar := Ls.ar; let cm := Ls.cm; let bo := Ls.bo; let sc := Ls.sc; let sa := Ls.sa; let sx := Ls.sx; let ss := Ls.ss; let sl := Ls.sl; let bs := Ls.bs; let sb := Ls.sb; let ln := Ls.ln; let sr := Ls.sr; let ap := Ls.ap; let up := Ls.up; let rp := Ls.rp; let fr := Ls.fr; let ge := Ls.ge; let le := Ls.le; let lt := Ls.lt; let nz := Ls.nz; let mm := Ls.mm; let ma := Ls.ma; let sm := Ls.sm; let fl := Ls.fl; let al := Ls.al
  let eKid_c := rowsOf Kid_c
  let lenI_Kid := @lenI Kid
  have hL : (⟨ar, cm, bo, sc, sa, sx, ss, sl, bs, sb, ln, sr, ap, up, rp, fr, ge, le, lt, nz, mm, ma, sm, fl, al⟩ : Lf) = Ls := rfl
  show AC Try.prog 113 [.v (.im false (eKid_c a0)), .v (.im false (eKid_c a1))] _ _
  refine AC.of_run2 tab_ok Try.func113 (by rfl) (by rfl) (by cbv) ⟨by decide, rfl⟩ fun F hP hA => ?_
  have hT : TabOk F.P tab := hP ▸ tab_ok
  have hM : F.P.follows .mixedOrders = true := hP ▸ mixed
  have hC : ∀ {f a o r}, AC Try.prog f a o r → AC F.P f a o r := fun h => hP ▸ h
  refine Run.seq ?_
  refine Run.region hL hT [] (by cbv) ?_ ?_
  · exact hq0
  refine Run.seq ?_
  refine Run.seq ?_
  refine Run.region hL hT [] (by cbv) ?_ ?_
  · exact (hq trivial hq0)
  rw [show ln (eKid_c a0) = lenI_Kid a0 from ln_eq Kid_c _]
  rw [show ln (eKid_c a1) = lenI_Kid a1 from ln_eq Kid_c _]
  refine Run.cond (by cbv) (hq0) (fun c1 => ?_) (fun c1 => ?_)
  · have h := if_t c1 h
    refine Run.seq ?_
    refine Run.region hL hT [] (by cbv) ?_ ?_
    · exact hq0
    refine Run.ret ?_
    cases h
    refine ⟨_, _, by cbv, ?_, ?_⟩
    · exact LLe.r
    · exact (ALe.v LLe.r ALe.nil)
  · have h := if_f c1 h
    refine Run.skip ?_
    refine Run.seq ?_
    refine Run.seq ?_
    refine Run.region hL hT [] (by cbv) ?_ ?_
    · exact hq0
    refine Run.block ?_
    refine Run.loop1 (fun (z5 : Int) => ⟨27, 100000, [(0, .t (.im false (eKid_c a0))), (1, .t (.im false (eKid_c a1))), (5, .t (.s (.int .i64 z5)))], []⟩) (x0 := 0) h (Weak.of _ [] hA (by cbv) ?_) (fun _ => rfl) ?_
    · repeat (first | exact hq0 | refine hq (by first | exact True.intro | rfl) ?_)
    · intro k z5 h
      rw [laws_eqKidS.l0] at h
      refine Run.seq ?_
      refine Run.seq ?_
      refine Run.region hL hT [] (by cbv) ?_ ?_
      · exact (hq trivial hq0)
      rw [show ln (eKid_c a0) = lenI_Kid a0 from ln_eq Kid_c _]
      refine Run.cond (by cbv) (hq0) (fun c6 => ?_) (fun c6 => ?_)
      · have h := if_t c6 h
        refine Run.skip ?_
        refine Run.seq ?_
        refine Run.block ?_
        refine Run.seq ?_
        obtain ⟨⟨x7v_Id, x7v_N⟩, h_x7, h⟩ := bnd h
        obtain ⟨⟨x8v_Id, x8v_N⟩, h_x8, h⟩ := bnd h
        obtain ⟨r9, h_r9, h⟩ := bnd h
        refine Run.draw hL hT hM [(2, .el [.s (.int .i64 x7v_Id), .s (.int .i64 x7v_N)]), (6, .el [.s (.int .i64 x8v_Id), .s (.int .i64 x8v_N)]), (8, .call [false, false] [.ag [.jk, .jk], .ag [.jk, .jk]] [.v (.s (.bool r9))])] (by cbv) (by cbv) (by cbv) (by cbv) (by cbv) ?_ ?_
        · exact (hq (get_le h_x7) (hq (get_lt (f := Kid_c) h_x7) (hq (get_ge (f := Kid_c) h_x7) (hq (get_le h_x8) (hq (get_lt (f := Kid_c) h_x8) (hq (get_ge (f := Kid_c) h_x8) (hq (hC (laws_eqKid_ac h_r9)) hq0)))))))
        refine Run.cond (by cbv) (hq0) (fun c10 => ?_) (fun c10 => ?_)
        · have h := if_t c10 h
          refine Run.seq ?_
          refine Run.region hL hT [] (by cbv) ?_ ?_
          · exact hq0
          refine Run.ret ?_
          cases h
          refine ⟨_, _, by cbv, ?_, ?_⟩
          · exact LLe.r
          · exact (ALe.v LLe.r ALe.nil)
        · have h := if_f c10 h
          refine Run.skip ?_
          refine Run.region hL hT [] (by cbv) ?_ ?_
          · exact (hq trivial hq0)
          refine ⟨(ar .add .i64 z5 1), h, Weak.of _ [] hA (by cbv) ?_⟩
          repeat (first | exact hq0 | refine hq (by first | exact True.intro | rfl) ?_)
      · have h := if_f c6 h
        refine Run.exit ?_
        refine Run.seq ?_
        refine Run.region hL hT [] (by cbv) ?_ ?_
        · exact hq0
        refine Run.ret ?_
        cases h
        refine ⟨_, _, by cbv, ?_, ?_⟩
        · exact LLe.r
        · exact (ALe.v LLe.r ALe.nil)

set_option maxRecDepth 8000 in
theorem laws_eqCond_ac {a0v_Col : Int} {a0v_Op : Int} {a0v_V : Int} {a1v_Col : Int} {a1v_Op : Int} {a1v_V : Int} {r : Bool} (h : laws_eqCond.f (Cond.mk a0v_Col a0v_Op a0v_V) (Cond.mk a1v_Col a1v_Op a1v_V) = some r) : AC Try.prog 169 [.ag [.s (.int .i64 a0v_Col), .s (.int .i64 a0v_Op), .s (.int .i64 a0v_V)], .ag [.s (.int .i64 a1v_Col), .s (.int .i64 a1v_Op), .s (.int .i64 a1v_V)]] [.ag [.jk, .jk, .jk], .ag [.jk, .jk, .jk]] [.v (.s (.bool r))] := by
  unfold laws_eqCond.f at h
  let ar := Ls.ar; let cm := Ls.cm; let bo := Ls.bo; let sc := Ls.sc; let sa := Ls.sa; let sx := Ls.sx; let ss := Ls.ss; let sl := Ls.sl; let bs := Ls.bs; let sb := Ls.sb; let ln := Ls.ln; let sr := Ls.sr; let ap := Ls.ap; let up := Ls.up; let rp := Ls.rp; let fr := Ls.fr; let ge := Ls.ge; let le := Ls.le; let lt := Ls.lt; let nz := Ls.nz; let mm := Ls.mm; let ma := Ls.ma; let sm := Ls.sm; let fl := Ls.fl; let al := Ls.al
  have hL : (⟨ar, cm, bo, sc, sa, sx, ss, sl, bs, sb, ln, sr, ap, up, rp, fr, ge, le, lt, nz, mm, ma, sm, fl, al⟩ : Lf) = Ls := rfl
  show AC Try.prog 169 [.ag [.s (.int .i64 a0v_Col), .s (.int .i64 a0v_Op), .s (.int .i64 a0v_V)], .ag [.s (.int .i64 a1v_Col), .s (.int .i64 a1v_Op), .s (.int .i64 a1v_V)]] _ _
  refine AC.of_run2 tab_ok Try.func169 (by rfl) (by rfl) (by cbv) ⟨by decide, rfl⟩ fun F hP hA => ?_
  have hT : TabOk F.P tab := hP ▸ tab_ok
  have hM : F.P.follows .mixedOrders = true := hP ▸ mixed
  have hC : ∀ {f a o r}, AC Try.prog f a o r → AC F.P f a o r := fun h => hP ▸ h
  refine Run.seq ?_
  refine Run.region hL hT [] (by cbv) ?_ ?_
  · exact hq0
  refine Run.seq ?_
  refine Run.seq ?_
  refine Run.region hL hT [] (by cbv) ?_ ?_
  · exact (hq trivial (hq trivial (hq trivial hq0)))
  refine Run.cond (by cbv) (hq0) (fun c1 => ?_) (fun c1 => ?_)
  · have h := if_t c1 h
    refine Run.seq ?_
    refine Run.region hL hT [] (by cbv) ?_ ?_
    · exact hq0
    refine Run.ret ?_
    cases h
    refine ⟨_, _, by cbv, ?_, ?_⟩
    · exact LLe.r
    · exact (ALe.v LLe.r ALe.nil)
  · have h := if_f c1 h
    refine Run.skip ?_
    refine Run.seq ?_
    refine Run.seq ?_
    refine Run.region hL hT [] (by cbv) ?_ ?_
    · exact (hq trivial (hq trivial (hq trivial hq0)))
    refine Run.cond (by cbv) (hq0) (fun c2 => ?_) (fun c2 => ?_)
    · have h := if_t c2 h
      refine Run.seq ?_
      refine Run.region hL hT [] (by cbv) ?_ ?_
      · exact hq0
      refine Run.ret ?_
      cases h
      refine ⟨_, _, by cbv, ?_, ?_⟩
      · exact LLe.r
      · exact (ALe.v LLe.r ALe.nil)
    · have h := if_f c2 h
      refine Run.skip ?_
      refine Run.seq ?_
      refine Run.seq ?_
      refine Run.region hL hT [] (by cbv) ?_ ?_
      · exact (hq trivial (hq trivial (hq trivial hq0)))
      refine Run.cond (by cbv) (hq0) (fun c3 => ?_) (fun c3 => ?_)
      · have h := if_t c3 h
        refine Run.seq ?_
        refine Run.region hL hT [] (by cbv) ?_ ?_
        · exact hq0
        refine Run.ret ?_
        cases h
        refine ⟨_, _, by cbv, ?_, ?_⟩
        · exact LLe.r
        · exact (ALe.v LLe.r ALe.nil)
      · have h := if_f c3 h
        refine Run.skip ?_
        refine Run.seq ?_
        refine Run.region hL hT [] (by cbv) ?_ ?_
        · exact hq0
        refine Run.ret ?_
        cases h
        refine ⟨_, _, by cbv, ?_, ?_⟩
        · exact LLe.r
        · exact (ALe.v LLe.r ALe.nil)

set_option maxRecDepth 8000 in
theorem laws_eqCondS_ac {a0 : List Cond} {a1 : List Cond} {r : Bool} (h : laws_eqCondS.f a0 a1 = some r) : AC Try.prog 97 [.v (.im false (rowsOf Cond_c a0)), .v (.im false (rowsOf Cond_c a1))] [.v (.jk), .v (.jk)] [.v (.s (.bool r))] := by
  unfold laws_eqCondS.f at h
  let ar := Ls.ar; let cm := Ls.cm; let bo := Ls.bo; let sc := Ls.sc; let sa := Ls.sa; let sx := Ls.sx; let ss := Ls.ss; let sl := Ls.sl; let bs := Ls.bs; let sb := Ls.sb; let ln := Ls.ln; let sr := Ls.sr; let ap := Ls.ap; let up := Ls.up; let rp := Ls.rp; let fr := Ls.fr; let ge := Ls.ge; let le := Ls.le; let lt := Ls.lt; let nz := Ls.nz; let mm := Ls.mm; let ma := Ls.ma; let sm := Ls.sm; let fl := Ls.fl; let al := Ls.al
  let eCond_c := rowsOf Cond_c
  let lenI_Cond := @lenI Cond
  have hL : (⟨ar, cm, bo, sc, sa, sx, ss, sl, bs, sb, ln, sr, ap, up, rp, fr, ge, le, lt, nz, mm, ma, sm, fl, al⟩ : Lf) = Ls := rfl
  show AC Try.prog 97 [.v (.im false (eCond_c a0)), .v (.im false (eCond_c a1))] _ _
  refine AC.of_run2 tab_ok Try.func97 (by rfl) (by rfl) (by cbv) ⟨by decide, rfl⟩ fun F hP hA => ?_
  have hT : TabOk F.P tab := hP ▸ tab_ok
  have hM : F.P.follows .mixedOrders = true := hP ▸ mixed
  have hC : ∀ {f a o r}, AC Try.prog f a o r → AC F.P f a o r := fun h => hP ▸ h
  refine Run.seq ?_
  refine Run.region hL hT [] (by cbv) ?_ ?_
  · exact hq0
  refine Run.seq ?_
  refine Run.seq ?_
  refine Run.region hL hT [] (by cbv) ?_ ?_
  · exact (hq trivial hq0)
  rw [show ln (eCond_c a0) = lenI_Cond a0 from ln_eq Cond_c _]
  rw [show ln (eCond_c a1) = lenI_Cond a1 from ln_eq Cond_c _]
  refine Run.cond (by cbv) (hq0) (fun c1 => ?_) (fun c1 => ?_)
  · have h := if_t c1 h
    refine Run.seq ?_
    refine Run.region hL hT [] (by cbv) ?_ ?_
    · exact hq0
    refine Run.ret ?_
    cases h
    refine ⟨_, _, by cbv, ?_, ?_⟩
    · exact LLe.r
    · exact (ALe.v LLe.r ALe.nil)
  · have h := if_f c1 h
    refine Run.skip ?_
    refine Run.seq ?_
    refine Run.seq ?_
    refine Run.region hL hT [] (by cbv) ?_ ?_
    · exact hq0
    refine Run.block ?_
    refine Run.loop1 (fun (z5 : Int) => ⟨27, 100000, [(0, .t (.im false (eCond_c a0))), (1, .t (.im false (eCond_c a1))), (5, .t (.s (.int .i64 z5)))], []⟩) (x0 := 0) h (Weak.of _ [] hA (by cbv) ?_) (fun _ => rfl) ?_
    · repeat (first | exact hq0 | refine hq (by first | exact True.intro | rfl) ?_)
    · intro k z5 h
      rw [laws_eqCondS.l0] at h
      refine Run.seq ?_
      refine Run.seq ?_
      refine Run.region hL hT [] (by cbv) ?_ ?_
      · exact (hq trivial hq0)
      rw [show ln (eCond_c a0) = lenI_Cond a0 from ln_eq Cond_c _]
      refine Run.cond (by cbv) (hq0) (fun c6 => ?_) (fun c6 => ?_)
      · have h := if_t c6 h
        refine Run.skip ?_
        refine Run.seq ?_
        refine Run.block ?_
        refine Run.seq ?_
        obtain ⟨⟨x7v_Col, x7v_Op, x7v_V⟩, h_x7, h⟩ := bnd h
        obtain ⟨⟨x8v_Col, x8v_Op, x8v_V⟩, h_x8, h⟩ := bnd h
        obtain ⟨r9, h_r9, h⟩ := bnd h
        refine Run.draw hL hT hM [(2, .el [.s (.int .i64 x7v_Col), .s (.int .i64 x7v_Op), .s (.int .i64 x7v_V)]), (6, .el [.s (.int .i64 x8v_Col), .s (.int .i64 x8v_Op), .s (.int .i64 x8v_V)]), (8, .call [false, false] [.ag [.jk, .jk, .jk], .ag [.jk, .jk, .jk]] [.v (.s (.bool r9))])] (by cbv) (by cbv) (by cbv) (by cbv) (by cbv) ?_ ?_
        · exact (hq (get_le h_x7) (hq (get_lt (f := Cond_c) h_x7) (hq (get_ge (f := Cond_c) h_x7) (hq (get_le h_x8) (hq (get_lt (f := Cond_c) h_x8) (hq (get_ge (f := Cond_c) h_x8) (hq (hC (laws_eqCond_ac h_r9)) hq0)))))))
        refine Run.cond (by cbv) (hq0) (fun c10 => ?_) (fun c10 => ?_)
        · have h := if_t c10 h
          refine Run.seq ?_
          refine Run.region hL hT [] (by cbv) ?_ ?_
          · exact hq0
          refine Run.ret ?_
          cases h
          refine ⟨_, _, by cbv, ?_, ?_⟩
          · exact LLe.r
          · exact (ALe.v LLe.r ALe.nil)
        · have h := if_f c10 h
          refine Run.skip ?_
          refine Run.region hL hT [] (by cbv) ?_ ?_
          · exact (hq trivial hq0)
          refine ⟨(ar .add .i64 z5 1), h, Weak.of _ [] hA (by cbv) ?_⟩
          repeat (first | exact hq0 | refine hq (by first | exact True.intro | rfl) ?_)
      · have h := if_f c6 h
        refine Run.exit ?_
        refine Run.seq ?_
        refine Run.region hL hT [] (by cbv) ?_ ?_
        · exact hq0
        refine Run.ret ?_
        cases h
        refine ⟨_, _, by cbv, ?_, ?_⟩
        · exact LLe.r
        · exact (ALe.v LLe.r ALe.nil)

set_option maxRecDepth 8000 in
theorem laws_eqQuery_ac {a0v_Table : Int} {a0v_Where : List Cond} {a0v_Order : Int} {a0v_Down : Bool} {a0v_First : Int} {a0v_Show : List Int} {a0v_Kids : Bool} {a0v_KidTable : Int} {a0v_KidCol : Int} {a1v_Table : Int} {a1v_Where : List Cond} {a1v_Order : Int} {a1v_Down : Bool} {a1v_First : Int} {a1v_Show : List Int} {a1v_Kids : Bool} {a1v_KidTable : Int} {a1v_KidCol : Int} {r : Bool} (h : laws_eqQuery.f (Query.mk a0v_Table a0v_Where a0v_Order a0v_Down a0v_First a0v_Show a0v_Kids a0v_KidTable a0v_KidCol) (Query.mk a1v_Table a1v_Where a1v_Order a1v_Down a1v_First a1v_Show a1v_Kids a1v_KidTable a1v_KidCol) = some r) : AC Try.prog 22 [.ag [.s (.int .i64 a0v_Table), .im false (rowsOf Cond_c a0v_Where), .s (.int .i64 a0v_Order), .s (.bool a0v_Down), .s (.int .i64 a0v_First), .im false (rowsOf Int_c a0v_Show), .s (.bool a0v_Kids), .s (.int .i64 a0v_KidTable), .s (.int .i64 a0v_KidCol)], .ag [.s (.int .i64 a1v_Table), .im false (rowsOf Cond_c a1v_Where), .s (.int .i64 a1v_Order), .s (.bool a1v_Down), .s (.int .i64 a1v_First), .im false (rowsOf Int_c a1v_Show), .s (.bool a1v_Kids), .s (.int .i64 a1v_KidTable), .s (.int .i64 a1v_KidCol)]] [.ag [.jk, .jk, .jk, .jk, .jk, .jk, .jk, .jk, .jk], .ag [.jk, .jk, .jk, .jk, .jk, .jk, .jk, .jk, .jk]] [.v (.s (.bool r))] := by
  unfold laws_eqQuery.f at h
  let ar := Ls.ar; let cm := Ls.cm; let bo := Ls.bo; let sc := Ls.sc; let sa := Ls.sa; let sx := Ls.sx; let ss := Ls.ss; let sl := Ls.sl; let bs := Ls.bs; let sb := Ls.sb; let ln := Ls.ln; let sr := Ls.sr; let ap := Ls.ap; let up := Ls.up; let rp := Ls.rp; let fr := Ls.fr; let ge := Ls.ge; let le := Ls.le; let lt := Ls.lt; let nz := Ls.nz; let mm := Ls.mm; let ma := Ls.ma; let sm := Ls.sm; let fl := Ls.fl; let al := Ls.al
  let eCond_c := rowsOf Cond_c
  let eInt_c := rowsOf Int_c
  have hL : (⟨ar, cm, bo, sc, sa, sx, ss, sl, bs, sb, ln, sr, ap, up, rp, fr, ge, le, lt, nz, mm, ma, sm, fl, al⟩ : Lf) = Ls := rfl
  show AC Try.prog 22 [.ag [.s (.int .i64 a0v_Table), .im false (eCond_c a0v_Where), .s (.int .i64 a0v_Order), .s (.bool a0v_Down), .s (.int .i64 a0v_First), .im false (eInt_c a0v_Show), .s (.bool a0v_Kids), .s (.int .i64 a0v_KidTable), .s (.int .i64 a0v_KidCol)], .ag [.s (.int .i64 a1v_Table), .im false (eCond_c a1v_Where), .s (.int .i64 a1v_Order), .s (.bool a1v_Down), .s (.int .i64 a1v_First), .im false (eInt_c a1v_Show), .s (.bool a1v_Kids), .s (.int .i64 a1v_KidTable), .s (.int .i64 a1v_KidCol)]] _ _
  refine AC.of_run2 tab_ok Try.func22 (by rfl) (by rfl) (by cbv) ⟨by decide, rfl⟩ fun F hP hA => ?_
  have hT : TabOk F.P tab := hP ▸ tab_ok
  have hM : F.P.follows .mixedOrders = true := hP ▸ mixed
  have hC : ∀ {f a o r}, AC Try.prog f a o r → AC F.P f a o r := fun h => hP ▸ h
  refine Run.seq ?_
  refine Run.region hL hT [] (by cbv) ?_ ?_
  · exact hq0
  refine Run.seq ?_
  refine Run.seq ?_
  refine Run.region hL hT [] (by cbv) ?_ ?_
  · exact (hq trivial (hq trivial (hq trivial hq0)))
  refine Run.cond (by cbv) (hq0) (fun c1 => ?_) (fun c1 => ?_)
  · have h := if_t c1 h
    refine Run.seq ?_
    refine Run.region hL hT [] (by cbv) ?_ ?_
    · exact hq0
    refine Run.ret ?_
    cases h
    refine ⟨_, _, by cbv, ?_, ?_⟩
    · exact LLe.r
    · exact (ALe.v LLe.r ALe.nil)
  · have h := if_f c1 h
    refine Run.skip ?_
    refine Run.seq ?_
    refine Run.seq ?_
    obtain ⟨r2, h_r2, h⟩ := bnd h
    refine Run.region hL hT [(4, .call [false, false] [.v (.jk), .v (.jk)] [.v (.s (.bool r2))])] (by cbv) ?_ ?_
    · exact (hq trivial (hq trivial (hq (hC (laws_eqCondS_ac h_r2)) hq0)))
    refine Run.cond (by cbv) (hq0) (fun c3 => ?_) (fun c3 => ?_)
    · have h := if_t c3 h
      refine Run.seq ?_
      refine Run.region hL hT [] (by cbv) ?_ ?_
      · exact hq0
      refine Run.ret ?_
      cases h
      refine ⟨_, _, by cbv, ?_, ?_⟩
      · exact LLe.r
      · exact (ALe.v LLe.r ALe.nil)
    · have h := if_f c3 h
      refine Run.skip ?_
      refine Run.seq ?_
      refine Run.seq ?_
      refine Run.region hL hT [] (by cbv) ?_ ?_
      · exact (hq trivial (hq trivial (hq trivial hq0)))
      refine Run.cond (by cbv) (hq0) (fun c4 => ?_) (fun c4 => ?_)
      · have h := if_t c4 h
        refine Run.seq ?_
        refine Run.region hL hT [] (by cbv) ?_ ?_
        · exact hq0
        refine Run.ret ?_
        cases h
        refine ⟨_, _, by cbv, ?_, ?_⟩
        · exact LLe.r
        · exact (ALe.v LLe.r ALe.nil)
      · have h := if_f c4 h
        refine Run.skip ?_
        refine Run.seq ?_
        refine Run.seq ?_
        refine Run.region hL hT [] (by cbv) ?_ ?_
        · exact (hq trivial (hq trivial hq0))
        refine Run.cond (by cbv) (hq0) (fun c5 => ?_) (fun c5 => ?_)
        · have h := if_t c5 h
          refine Run.seq ?_
          refine Run.region hL hT [] (by cbv) ?_ ?_
          · exact hq0
          refine Run.ret ?_
          cases h
          refine ⟨_, _, by cbv, ?_, ?_⟩
          · exact LLe.r
          · exact (ALe.v LLe.r ALe.nil)
        · have h := if_f c5 h
          refine Run.skip ?_
          refine Run.seq ?_
          refine Run.seq ?_
          refine Run.region hL hT [] (by cbv) ?_ ?_
          · exact (hq trivial (hq trivial (hq trivial hq0)))
          refine Run.cond (by cbv) (hq0) (fun c6 => ?_) (fun c6 => ?_)
          · have h := if_t c6 h
            refine Run.seq ?_
            refine Run.region hL hT [] (by cbv) ?_ ?_
            · exact hq0
            refine Run.ret ?_
            cases h
            refine ⟨_, _, by cbv, ?_, ?_⟩
            · exact LLe.r
            · exact (ALe.v LLe.r ALe.nil)
          · have h := if_f c6 h
            refine Run.skip ?_
            refine Run.seq ?_
            refine Run.seq ?_
            obtain ⟨r7, h_r7, h⟩ := bnd h
            refine Run.region hL hT [(4, .call [false, false] [.v (.jk), .v (.jk)] [.v (.s (.bool r7))])] (by cbv) ?_ ?_
            · exact (hq trivial (hq trivial (hq (hC (laws_eqIntS_ac h_r7)) hq0)))
            refine Run.cond (by cbv) (hq0) (fun c8 => ?_) (fun c8 => ?_)
            · have h := if_t c8 h
              refine Run.seq ?_
              refine Run.region hL hT [] (by cbv) ?_ ?_
              · exact hq0
              refine Run.ret ?_
              cases h
              refine ⟨_, _, by cbv, ?_, ?_⟩
              · exact LLe.r
              · exact (ALe.v LLe.r ALe.nil)
            · have h := if_f c8 h
              refine Run.skip ?_
              refine Run.seq ?_
              refine Run.seq ?_
              refine Run.region hL hT [] (by cbv) ?_ ?_
              · exact (hq trivial (hq trivial hq0))
              refine Run.cond (by cbv) (hq0) (fun c9 => ?_) (fun c9 => ?_)
              · have h := if_t c9 h
                refine Run.seq ?_
                refine Run.region hL hT [] (by cbv) ?_ ?_
                · exact hq0
                refine Run.ret ?_
                cases h
                refine ⟨_, _, by cbv, ?_, ?_⟩
                · exact LLe.r
                · exact (ALe.v LLe.r ALe.nil)
              · have h := if_f c9 h
                refine Run.skip ?_
                refine Run.seq ?_
                refine Run.seq ?_
                refine Run.region hL hT [] (by cbv) ?_ ?_
                · exact (hq trivial (hq trivial (hq trivial hq0)))
                refine Run.cond (by cbv) (hq0) (fun c10 => ?_) (fun c10 => ?_)
                · have h := if_t c10 h
                  refine Run.seq ?_
                  refine Run.region hL hT [] (by cbv) ?_ ?_
                  · exact hq0
                  refine Run.ret ?_
                  cases h
                  refine ⟨_, _, by cbv, ?_, ?_⟩
                  · exact LLe.r
                  · exact (ALe.v LLe.r ALe.nil)
                · have h := if_f c10 h
                  refine Run.skip ?_
                  refine Run.seq ?_
                  refine Run.seq ?_
                  refine Run.region hL hT [] (by cbv) ?_ ?_
                  · exact (hq trivial (hq trivial (hq trivial hq0)))
                  refine Run.cond (by cbv) (hq0) (fun c11 => ?_) (fun c11 => ?_)
                  · have h := if_t c11 h
                    refine Run.seq ?_
                    refine Run.region hL hT [] (by cbv) ?_ ?_
                    · exact hq0
                    refine Run.ret ?_
                    cases h
                    refine ⟨_, _, by cbv, ?_, ?_⟩
                    · exact LLe.r
                    · exact (ALe.v LLe.r ALe.nil)
                  · have h := if_f c11 h
                    refine Run.skip ?_
                    refine Run.seq ?_
                    refine Run.region hL hT [] (by cbv) ?_ ?_
                    · exact hq0
                    refine Run.ret ?_
                    cases h
                    refine ⟨_, _, by cbv, ?_, ?_⟩
                    · exact LLe.r
                    · exact (ALe.v LLe.r ALe.nil)

set_option maxRecDepth 8000 in
theorem laws_eqView_ac {a0v_Qv_Table : Int} {a0v_Qv_Where : List Cond} {a0v_Qv_Order : Int} {a0v_Qv_Down : Bool} {a0v_Qv_First : Int} {a0v_Qv_Show : List Int} {a0v_Qv_Kids : Bool} {a0v_Qv_KidTable : Int} {a0v_Qv_KidCol : Int} {a0v_Rows : List Row} {a0v_Kids : List Kid} {a1v_Qv_Table : Int} {a1v_Qv_Where : List Cond} {a1v_Qv_Order : Int} {a1v_Qv_Down : Bool} {a1v_Qv_First : Int} {a1v_Qv_Show : List Int} {a1v_Qv_Kids : Bool} {a1v_Qv_KidTable : Int} {a1v_Qv_KidCol : Int} {a1v_Rows : List Row} {a1v_Kids : List Kid} {r : Bool} (h : laws_eqView.f (View.mk (Query.mk a0v_Qv_Table a0v_Qv_Where a0v_Qv_Order a0v_Qv_Down a0v_Qv_First a0v_Qv_Show a0v_Qv_Kids a0v_Qv_KidTable a0v_Qv_KidCol) a0v_Rows a0v_Kids) (View.mk (Query.mk a1v_Qv_Table a1v_Qv_Where a1v_Qv_Order a1v_Qv_Down a1v_Qv_First a1v_Qv_Show a1v_Qv_Kids a1v_Qv_KidTable a1v_Qv_KidCol) a1v_Rows a1v_Kids) = some r) : AC Try.prog 30 [.ag [.s (.int .i64 a0v_Qv_Table), .im false (rowsOf Cond_c a0v_Qv_Where), .s (.int .i64 a0v_Qv_Order), .s (.bool a0v_Qv_Down), .s (.int .i64 a0v_Qv_First), .im false (rowsOf Int_c a0v_Qv_Show), .s (.bool a0v_Qv_Kids), .s (.int .i64 a0v_Qv_KidTable), .s (.int .i64 a0v_Qv_KidCol), .im false (rowsOf Row_i a0v_Rows), .im false (rowsOf Kid_c a0v_Kids)], .ag [.s (.int .i64 a1v_Qv_Table), .im false (rowsOf Cond_c a1v_Qv_Where), .s (.int .i64 a1v_Qv_Order), .s (.bool a1v_Qv_Down), .s (.int .i64 a1v_Qv_First), .im false (rowsOf Int_c a1v_Qv_Show), .s (.bool a1v_Qv_Kids), .s (.int .i64 a1v_Qv_KidTable), .s (.int .i64 a1v_Qv_KidCol), .im false (rowsOf Row_i a1v_Rows), .im false (rowsOf Kid_c a1v_Kids)]] [.ag [.jk, .jk, .jk, .jk, .jk, .jk, .jk, .jk, .jk, .jk, .jk], .ag [.jk, .jk, .jk, .jk, .jk, .jk, .jk, .jk, .jk, .jk, .jk]] [.v (.s (.bool r))] := by
  unfold laws_eqView.f at h
  let ar := Ls.ar; let cm := Ls.cm; let bo := Ls.bo; let sc := Ls.sc; let sa := Ls.sa; let sx := Ls.sx; let ss := Ls.ss; let sl := Ls.sl; let bs := Ls.bs; let sb := Ls.sb; let ln := Ls.ln; let sr := Ls.sr; let ap := Ls.ap; let up := Ls.up; let rp := Ls.rp; let fr := Ls.fr; let ge := Ls.ge; let le := Ls.le; let lt := Ls.lt; let nz := Ls.nz; let mm := Ls.mm; let ma := Ls.ma; let sm := Ls.sm; let fl := Ls.fl; let al := Ls.al
  let eCond_c := rowsOf Cond_c
  let eInt_c := rowsOf Int_c
  let eKid_c := rowsOf Kid_c
  let eRow_i := rowsOf Row_i
  have hL : (⟨ar, cm, bo, sc, sa, sx, ss, sl, bs, sb, ln, sr, ap, up, rp, fr, ge, le, lt, nz, mm, ma, sm, fl, al⟩ : Lf) = Ls := rfl
  show AC Try.prog 30 [.ag [.s (.int .i64 a0v_Qv_Table), .im false (eCond_c a0v_Qv_Where), .s (.int .i64 a0v_Qv_Order), .s (.bool a0v_Qv_Down), .s (.int .i64 a0v_Qv_First), .im false (eInt_c a0v_Qv_Show), .s (.bool a0v_Qv_Kids), .s (.int .i64 a0v_Qv_KidTable), .s (.int .i64 a0v_Qv_KidCol), .im false (eRow_i a0v_Rows), .im false (eKid_c a0v_Kids)], .ag [.s (.int .i64 a1v_Qv_Table), .im false (eCond_c a1v_Qv_Where), .s (.int .i64 a1v_Qv_Order), .s (.bool a1v_Qv_Down), .s (.int .i64 a1v_Qv_First), .im false (eInt_c a1v_Qv_Show), .s (.bool a1v_Qv_Kids), .s (.int .i64 a1v_Qv_KidTable), .s (.int .i64 a1v_Qv_KidCol), .im false (eRow_i a1v_Rows), .im false (eKid_c a1v_Kids)]] _ _
  refine AC.of_run2 tab_ok Try.func30 (by rfl) (by rfl) (by cbv) ⟨by decide, rfl⟩ fun F hP hA => ?_
  have hT : TabOk F.P tab := hP ▸ tab_ok
  have hM : F.P.follows .mixedOrders = true := hP ▸ mixed
  have hC : ∀ {f a o r}, AC Try.prog f a o r → AC F.P f a o r := fun h => hP ▸ h
  refine Run.seq ?_
  refine Run.region hL hT [] (by cbv) ?_ ?_
  · exact hq0
  refine Run.seq ?_
  refine Run.seq ?_
  obtain ⟨r1, h_r1, h⟩ := bnd h
  refine Run.region hL hT [(4, .call [false, false] [.ag [.jk, .jk, .jk, .jk, .jk, .jk, .jk, .jk, .jk], .ag [.jk, .jk, .jk, .jk, .jk, .jk, .jk, .jk, .jk]] [.v (.s (.bool r1))])] (by cbv) ?_ ?_
  · exact (hq trivial (hq trivial (hq (hC (laws_eqQuery_ac h_r1)) hq0)))
  refine Run.cond (by cbv) (hq0) (fun c2 => ?_) (fun c2 => ?_)
  · have h := if_t c2 h
    refine Run.seq ?_
    refine Run.region hL hT [] (by cbv) ?_ ?_
    · exact hq0
    refine Run.ret ?_
    cases h
    refine ⟨_, _, by cbv, ?_, ?_⟩
    · exact LLe.r
    · exact (ALe.v LLe.r ALe.nil)
  · have h := if_f c2 h
    refine Run.skip ?_
    refine Run.seq ?_
    refine Run.seq ?_
    obtain ⟨r3, h_r3, h⟩ := bnd h
    refine Run.region hL hT [(4, .call [false, false] [.v (.jk), .v (.jk)] [.v (.s (.bool r3))])] (by cbv) ?_ ?_
    · exact (hq trivial (hq trivial (hq (hC (laws_eqRowS_ac h_r3)) hq0)))
    refine Run.cond (by cbv) (hq0) (fun c4 => ?_) (fun c4 => ?_)
    · have h := if_t c4 h
      refine Run.seq ?_
      refine Run.region hL hT [] (by cbv) ?_ ?_
      · exact hq0
      refine Run.ret ?_
      cases h
      refine ⟨_, _, by cbv, ?_, ?_⟩
      · exact LLe.r
      · exact (ALe.v LLe.r ALe.nil)
    · have h := if_f c4 h
      refine Run.skip ?_
      refine Run.seq ?_
      refine Run.seq ?_
      obtain ⟨r5, h_r5, h⟩ := bnd h
      refine Run.region hL hT [(4, .call [false, false] [.v (.jk), .v (.jk)] [.v (.s (.bool r5))])] (by cbv) ?_ ?_
      · exact (hq trivial (hq trivial (hq (hC (laws_eqKidS_ac h_r5)) hq0)))
      refine Run.cond (by cbv) (hq0) (fun c6 => ?_) (fun c6 => ?_)
      · have h := if_t c6 h
        refine Run.seq ?_
        refine Run.region hL hT [] (by cbv) ?_ ?_
        · exact hq0
        refine Run.ret ?_
        cases h
        refine ⟨_, _, by cbv, ?_, ?_⟩
        · exact LLe.r
        · exact (ALe.v LLe.r ALe.nil)
      · have h := if_f c6 h
        refine Run.skip ?_
        refine Run.seq ?_
        refine Run.region hL hT [] (by cbv) ?_ ?_
        · exact hq0
        refine Run.ret ?_
        cases h
        refine ⟨_, _, by cbv, ?_, ?_⟩
        · exact LLe.r
        · exact (ALe.v LLe.r ALe.nil)

set_option maxRecDepth 8000 in
theorem laws_eqChange_ac {a0v_Table : Int} {a0v_Had : Bool} {a0v_Has : Bool} {a0v_Oldv_Id : Int} {a0v_Oldv_Cells : List Int} {a0v_Newv_Id : Int} {a0v_Newv_Cells : List Int} {a1v_Table : Int} {a1v_Had : Bool} {a1v_Has : Bool} {a1v_Oldv_Id : Int} {a1v_Oldv_Cells : List Int} {a1v_Newv_Id : Int} {a1v_Newv_Cells : List Int} {r : Bool} (h : laws_eqChange.f (Change.mk a0v_Table a0v_Had a0v_Has (Row.mk a0v_Oldv_Id a0v_Oldv_Cells) (Row.mk a0v_Newv_Id a0v_Newv_Cells)) (Change.mk a1v_Table a1v_Had a1v_Has (Row.mk a1v_Oldv_Id a1v_Oldv_Cells) (Row.mk a1v_Newv_Id a1v_Newv_Cells)) = some r) : AC Try.prog 55 [.ag [.s (.int .i64 a0v_Table), .s (.bool a0v_Had), .s (.bool a0v_Has), .s (.int .i64 a0v_Oldv_Id), .im false (rowsOf Int_c a0v_Oldv_Cells), .s (.int .i64 a0v_Newv_Id), .im false (rowsOf Int_c a0v_Newv_Cells)], .ag [.s (.int .i64 a1v_Table), .s (.bool a1v_Had), .s (.bool a1v_Has), .s (.int .i64 a1v_Oldv_Id), .im false (rowsOf Int_c a1v_Oldv_Cells), .s (.int .i64 a1v_Newv_Id), .im false (rowsOf Int_c a1v_Newv_Cells)]] [.ag [.jk, .jk, .jk, .jk, .jk, .jk, .jk], .ag [.jk, .jk, .jk, .jk, .jk, .jk, .jk]] [.v (.s (.bool r))] := by
  unfold laws_eqChange.f at h
  let ar := Ls.ar; let cm := Ls.cm; let bo := Ls.bo; let sc := Ls.sc; let sa := Ls.sa; let sx := Ls.sx; let ss := Ls.ss; let sl := Ls.sl; let bs := Ls.bs; let sb := Ls.sb; let ln := Ls.ln; let sr := Ls.sr; let ap := Ls.ap; let up := Ls.up; let rp := Ls.rp; let fr := Ls.fr; let ge := Ls.ge; let le := Ls.le; let lt := Ls.lt; let nz := Ls.nz; let mm := Ls.mm; let ma := Ls.ma; let sm := Ls.sm; let fl := Ls.fl; let al := Ls.al
  let eInt_c := rowsOf Int_c
  have hL : (⟨ar, cm, bo, sc, sa, sx, ss, sl, bs, sb, ln, sr, ap, up, rp, fr, ge, le, lt, nz, mm, ma, sm, fl, al⟩ : Lf) = Ls := rfl
  show AC Try.prog 55 [.ag [.s (.int .i64 a0v_Table), .s (.bool a0v_Had), .s (.bool a0v_Has), .s (.int .i64 a0v_Oldv_Id), .im false (eInt_c a0v_Oldv_Cells), .s (.int .i64 a0v_Newv_Id), .im false (eInt_c a0v_Newv_Cells)], .ag [.s (.int .i64 a1v_Table), .s (.bool a1v_Had), .s (.bool a1v_Has), .s (.int .i64 a1v_Oldv_Id), .im false (eInt_c a1v_Oldv_Cells), .s (.int .i64 a1v_Newv_Id), .im false (eInt_c a1v_Newv_Cells)]] _ _
  refine AC.of_run2 tab_ok Try.func55 (by rfl) (by rfl) (by cbv) ⟨by decide, rfl⟩ fun F hP hA => ?_
  have hT : TabOk F.P tab := hP ▸ tab_ok
  have hM : F.P.follows .mixedOrders = true := hP ▸ mixed
  have hC : ∀ {f a o r}, AC Try.prog f a o r → AC F.P f a o r := fun h => hP ▸ h
  refine Run.seq ?_
  refine Run.region hL hT [] (by cbv) ?_ ?_
  · exact hq0
  refine Run.seq ?_
  refine Run.seq ?_
  refine Run.region hL hT [] (by cbv) ?_ ?_
  · exact (hq trivial (hq trivial (hq trivial hq0)))
  refine Run.cond (by cbv) (hq0) (fun c1 => ?_) (fun c1 => ?_)
  · have h := if_t c1 h
    refine Run.seq ?_
    refine Run.region hL hT [] (by cbv) ?_ ?_
    · exact hq0
    refine Run.ret ?_
    cases h
    refine ⟨_, _, by cbv, ?_, ?_⟩
    · exact LLe.r
    · exact (ALe.v LLe.r ALe.nil)
  · have h := if_f c1 h
    refine Run.skip ?_
    refine Run.seq ?_
    refine Run.seq ?_
    refine Run.region hL hT [] (by cbv) ?_ ?_
    · exact (hq trivial (hq trivial hq0))
    refine Run.cond (by cbv) (hq0) (fun c2 => ?_) (fun c2 => ?_)
    · have h := if_t c2 h
      refine Run.seq ?_
      refine Run.region hL hT [] (by cbv) ?_ ?_
      · exact hq0
      refine Run.ret ?_
      cases h
      refine ⟨_, _, by cbv, ?_, ?_⟩
      · exact LLe.r
      · exact (ALe.v LLe.r ALe.nil)
    · have h := if_f c2 h
      refine Run.skip ?_
      refine Run.seq ?_
      refine Run.seq ?_
      refine Run.region hL hT [] (by cbv) ?_ ?_
      · exact (hq trivial (hq trivial hq0))
      refine Run.cond (by cbv) (hq0) (fun c3 => ?_) (fun c3 => ?_)
      · have h := if_t c3 h
        refine Run.seq ?_
        refine Run.region hL hT [] (by cbv) ?_ ?_
        · exact hq0
        refine Run.ret ?_
        cases h
        refine ⟨_, _, by cbv, ?_, ?_⟩
        · exact LLe.r
        · exact (ALe.v LLe.r ALe.nil)
      · have h := if_f c3 h
        refine Run.skip ?_
        refine Run.seq ?_
        refine Run.seq ?_
        obtain ⟨r4, h_r4, h⟩ := bnd h
        refine Run.region hL hT [(4, .call [false, false] [.ag [.jk, .jk], .ag [.jk, .jk]] [.v (.s (.bool r4))])] (by cbv) ?_ ?_
        · exact (hq trivial (hq trivial (hq (hC (laws_eqRow_ac h_r4)) hq0)))
        refine Run.cond (by cbv) (hq0) (fun c5 => ?_) (fun c5 => ?_)
        · have h := if_t c5 h
          refine Run.seq ?_
          refine Run.region hL hT [] (by cbv) ?_ ?_
          · exact hq0
          refine Run.ret ?_
          cases h
          refine ⟨_, _, by cbv, ?_, ?_⟩
          · exact LLe.r
          · exact (ALe.v LLe.r ALe.nil)
        · have h := if_f c5 h
          refine Run.skip ?_
          refine Run.seq ?_
          refine Run.seq ?_
          obtain ⟨r6, h_r6, h⟩ := bnd h
          refine Run.region hL hT [(4, .call [false, false] [.ag [.jk, .jk], .ag [.jk, .jk]] [.v (.s (.bool r6))])] (by cbv) ?_ ?_
          · exact (hq trivial (hq trivial (hq (hC (laws_eqRow_ac h_r6)) hq0)))
          refine Run.cond (by cbv) (hq0) (fun c7 => ?_) (fun c7 => ?_)
          · have h := if_t c7 h
            refine Run.seq ?_
            refine Run.region hL hT [] (by cbv) ?_ ?_
            · exact hq0
            refine Run.ret ?_
            cases h
            refine ⟨_, _, by cbv, ?_, ?_⟩
            · exact LLe.r
            · exact (ALe.v LLe.r ALe.nil)
          · have h := if_f c7 h
            refine Run.skip ?_
            refine Run.seq ?_
            refine Run.region hL hT [] (by cbv) ?_ ?_
            · exact hq0
            refine Run.ret ?_
            cases h
            refine ⟨_, _, by cbv, ?_, ?_⟩
            · exact LLe.r
            · exact (ALe.v LLe.r ALe.nil)

set_option maxRecDepth 8000 in
theorem laws_markIntS_ac {a0 : List Int} {a1 : Int} {r : (List Int) × Int} (h : laws_markIntS.f a0 a1 = some r) : AC Try.prog 49 [.v (.ow 3 (rowsOf Int_c a0)), .v (.s (.int .i64 a1))] [.v (.ow 3 (rowsOf Int_c r.1)), .v (.jk)] [.v (.s (.int .i64 r.2))] := by
  unfold laws_markIntS.f at h
  let ar := Ls.ar; let cm := Ls.cm; let bo := Ls.bo; let sc := Ls.sc; let sa := Ls.sa; let sx := Ls.sx; let ss := Ls.ss; let sl := Ls.sl; let bs := Ls.bs; let sb := Ls.sb; let ln := Ls.ln; let sr := Ls.sr; let ap := Ls.ap; let up := Ls.up; let rp := Ls.rp; let fr := Ls.fr; let ge := Ls.ge; let le := Ls.le; let lt := Ls.lt; let nz := Ls.nz; let mm := Ls.mm; let ma := Ls.ma; let sm := Ls.sm; let fl := Ls.fl; let al := Ls.al
  let eInt_c := rowsOf Int_c
  let lenI_Int := @lenI Int
  have hL : (⟨ar, cm, bo, sc, sa, sx, ss, sl, bs, sb, ln, sr, ap, up, rp, fr, ge, le, lt, nz, mm, ma, sm, fl, al⟩ : Lf) = Ls := rfl
  show AC Try.prog 49 [.v (.ow 3 (eInt_c a0)), .v (.s (.int .i64 a1))] _ _
  refine AC.of_run2 tab_ok Try.func49 (by rfl) (by rfl) (by cbv) ⟨by decide, rfl⟩ fun F hP hA => ?_
  have hT : TabOk F.P tab := hP ▸ tab_ok
  have hM : F.P.follows .mixedOrders = true := hP ▸ mixed
  have hC : ∀ {f a o r}, AC Try.prog f a o r → AC F.P f a o r := fun h => hP ▸ h
  refine Run.seq ?_
  refine Run.region hL hT [] (by cbv) ?_ ?_
  · exact hq0
  refine Run.seq ?_
  refine Run.seq ?_
  refine Run.region hL hT [] (by cbv) ?_ ?_
  · exact hq0
  refine Run.block ?_
  refine Run.loop3 (fun (z4 : List Int) (z5 : Int) (z6 : Int) => ⟨19, 100000, [(0, .rf 0), (1, .t (.s (.int .i64 z5))), (5, .t (.s (.int .i64 z6)))], [(0, .row 0 3 1 (eInt_c z4))]⟩) (x0 := a0) (x1 := a1) (x2 := 0) h (Weak.of _ [(0, 0)] hA (by cbv) ?_) (fun _ _ _ => rfl) ?_
  · repeat (first | exact hq0 | refine hq (by first | exact True.intro | rfl) ?_)
  · intro k z4 z5 z6 h
    rw [laws_markIntS.l0] at h
    refine Run.seq ?_
    refine Run.seq ?_
    refine Run.region hL hT [] (by cbv) ?_ ?_
    · exact (hq trivial hq0)
    rw [show ln (eInt_c z4) = lenI_Int z4 from ln_eq Int_c _]
    refine Run.cond (by cbv) (hq0) (fun c7 => ?_) (fun c7 => ?_)
    · have h := if_t c7 h
      refine Run.skip ?_
      refine Run.seq ?_
      refine Run.block ?_
      refine Run.seq ?_
      obtain ⟨x8, h_x8, h⟩ := bnd h
      obtain ⟨l9, h_l9, h⟩ := bnd h
      refine Run.region hL hT [] (by cbv) ?_ ?_
      · exact (hq (get_le h_x8) (hq (get_lt (f := Int_c) h_x8) (hq (get_le h_x8) (hq (get_lt (f := Int_c) h_x8) hq0))))
      refine Run.row (rows := (up (eInt_c z4) z6 0 [.s (.int .i64 z5)])) 0 (eInt_c l9) (by cbv) (sto_le (f := Int_c) h_x8 h_l9 rfl LLe.r) ?_
      refine Run.region hL hT [] (by cbv) ?_ ?_
      · exact (hq trivial hq0)
      refine Run.region hL hT [] (by cbv) ?_ ?_
      · exact (hq trivial hq0)
      refine ⟨l9, (ar .add .i64 z5 1), (ar .add .i64 z6 1), h, Weak.of _ [(0, 0)] hA (by cbv) ?_⟩
      repeat (first | exact hq0 | refine hq (by first | exact True.intro | rfl) ?_)
    · have h := if_f c7 h
      refine Run.exit ?_
      refine Run.seq ?_
      refine Run.region hL hT [] (by cbv) ?_ ?_
      · exact hq0
      refine Run.ret ?_
      cases h
      refine ⟨_, _, by cbv, ?_, ?_⟩
      · exact LLe.r
      · exact (ALe.v LLe.r ALe.nil)

set_option maxRecDepth 8000 in
theorem laws_markRow_ac {a0v_Id : Int} {a0v_Cells : List Int} {a1 : Int} {r : Row × Int} (h : laws_markRow.f (Row.mk a0v_Id a0v_Cells) a1 = some r) : AC Try.prog 133 [.ag [.s (.int .i64 a0v_Id), .ow 3 (rowsOf Int_c a0v_Cells)], .v (.s (.int .i64 a1))] [.ag [.jk, .ow 3 (rowsOf Int_c r.1.Cells)], .v (.jk)] [.v (.s (.int .i64 r.2))] := by
  unfold laws_markRow.f at h
  let ar := Ls.ar; let cm := Ls.cm; let bo := Ls.bo; let sc := Ls.sc; let sa := Ls.sa; let sx := Ls.sx; let ss := Ls.ss; let sl := Ls.sl; let bs := Ls.bs; let sb := Ls.sb; let ln := Ls.ln; let sr := Ls.sr; let ap := Ls.ap; let up := Ls.up; let rp := Ls.rp; let fr := Ls.fr; let ge := Ls.ge; let le := Ls.le; let lt := Ls.lt; let nz := Ls.nz; let mm := Ls.mm; let ma := Ls.ma; let sm := Ls.sm; let fl := Ls.fl; let al := Ls.al
  let eInt_c := rowsOf Int_c
  have hL : (⟨ar, cm, bo, sc, sa, sx, ss, sl, bs, sb, ln, sr, ap, up, rp, fr, ge, le, lt, nz, mm, ma, sm, fl, al⟩ : Lf) = Ls := rfl
  show AC Try.prog 133 [.ag [.s (.int .i64 a0v_Id), .ow 3 (eInt_c a0v_Cells)], .v (.s (.int .i64 a1))] _ _
  refine AC.of_run2 tab_ok Try.func133 (by rfl) (by rfl) (by cbv) ⟨by decide, rfl⟩ fun F hP hA => ?_
  have hT : TabOk F.P tab := hP ▸ tab_ok
  have hM : F.P.follows .mixedOrders = true := hP ▸ mixed
  have hC : ∀ {f a o r}, AC Try.prog f a o r → AC F.P f a o r := fun h => hP ▸ h
  refine Run.seq ?_
  refine Run.region hL hT [] (by cbv) ?_ ?_
  · exact hq0
  refine Run.seq ?_
  obtain ⟨⟨r1v_1, r1v_2⟩, h_r1, h⟩ := bnd h
  refine Run.region hL hT [(3, .call [true, false] [.v (.ow 3 (eInt_c r1v_1)), .v (.jk)] [.v (.s (.int .i64 r1v_2))])] (by cbv) ?_ ?_
  · exact (hq trivial (hq (hC (laws_markIntS_ac h_r1)) hq0))
  refine Run.seq ?_
  refine Run.region hL hT [] (by cbv) ?_ ?_
  · exact hq0
  refine Run.ret ?_
  cases h
  refine ⟨_, _, by cbv, ?_, ?_⟩
  · exact LLe.r
  · exact (ALe.v LLe.r ALe.nil)

set_option maxRecDepth 8000 in
theorem laws_markChange_ac {a0v_Table : Int} {a0v_Had : Bool} {a0v_Has : Bool} {a0v_Oldv_Id : Int} {a0v_Oldv_Cells : List Int} {a0v_Newv_Id : Int} {a0v_Newv_Cells : List Int} {a1 : Int} {r : Change × Int} (h : laws_markChange.f (Change.mk a0v_Table a0v_Had a0v_Has (Row.mk a0v_Oldv_Id a0v_Oldv_Cells) (Row.mk a0v_Newv_Id a0v_Newv_Cells)) a1 = some r) : AC Try.prog 58 [.ag [.s (.int .i64 a0v_Table), .s (.bool a0v_Had), .s (.bool a0v_Has), .s (.int .i64 a0v_Oldv_Id), .ow 3 (rowsOf Int_c a0v_Oldv_Cells), .s (.int .i64 a0v_Newv_Id), .ow 3 (rowsOf Int_c a0v_Newv_Cells)], .v (.s (.int .i64 a1))] [.ag [.jk, .jk, .jk, .jk, .ow 3 (rowsOf Int_c r.1.Old.Cells), .jk, .ow 3 (rowsOf Int_c r.1.New.Cells)], .v (.jk)] [.v (.s (.int .i64 r.2))] := by
  unfold laws_markChange.f at h
  let ar := Ls.ar; let cm := Ls.cm; let bo := Ls.bo; let sc := Ls.sc; let sa := Ls.sa; let sx := Ls.sx; let ss := Ls.ss; let sl := Ls.sl; let bs := Ls.bs; let sb := Ls.sb; let ln := Ls.ln; let sr := Ls.sr; let ap := Ls.ap; let up := Ls.up; let rp := Ls.rp; let fr := Ls.fr; let ge := Ls.ge; let le := Ls.le; let lt := Ls.lt; let nz := Ls.nz; let mm := Ls.mm; let ma := Ls.ma; let sm := Ls.sm; let fl := Ls.fl; let al := Ls.al
  let eInt_c := rowsOf Int_c
  have hL : (⟨ar, cm, bo, sc, sa, sx, ss, sl, bs, sb, ln, sr, ap, up, rp, fr, ge, le, lt, nz, mm, ma, sm, fl, al⟩ : Lf) = Ls := rfl
  show AC Try.prog 58 [.ag [.s (.int .i64 a0v_Table), .s (.bool a0v_Had), .s (.bool a0v_Has), .s (.int .i64 a0v_Oldv_Id), .ow 3 (eInt_c a0v_Oldv_Cells), .s (.int .i64 a0v_Newv_Id), .ow 3 (eInt_c a0v_Newv_Cells)], .v (.s (.int .i64 a1))] _ _
  refine AC.of_run2 tab_ok Try.func58 (by rfl) (by rfl) (by cbv) ⟨by decide, rfl⟩ fun F hP hA => ?_
  have hT : TabOk F.P tab := hP ▸ tab_ok
  have hM : F.P.follows .mixedOrders = true := hP ▸ mixed
  have hC : ∀ {f a o r}, AC Try.prog f a o r → AC F.P f a o r := fun h => hP ▸ h
  refine Run.seq ?_
  refine Run.region hL hT [] (by cbv) ?_ ?_
  · exact hq0
  refine Run.seq ?_
  obtain ⟨⟨⟨r1v_1v_Id, r1v_1v_Cells⟩, r1v_2⟩, h_r1, h⟩ := bnd h
  refine Run.region hL hT [(3, .call [true, false] [.ag [.jk, .ow 3 (eInt_c r1v_1v_Cells)], .v (.jk)] [.v (.s (.int .i64 r1v_2))])] (by cbv) ?_ ?_
  · exact (hq trivial (hq (hC (laws_markRow_ac h_r1)) hq0))
  refine Run.seq ?_
  obtain ⟨⟨⟨r2v_1v_Id, r2v_1v_Cells⟩, r2v_2⟩, h_r2, h⟩ := bnd h
  refine Run.region hL hT [(3, .call [true, false] [.ag [.jk, .ow 3 (eInt_c r2v_1v_Cells)], .v (.jk)] [.v (.s (.int .i64 r2v_2))])] (by cbv) ?_ ?_
  · exact (hq trivial (hq (hC (laws_markRow_ac h_r2)) hq0))
  refine Run.seq ?_
  refine Run.region hL hT [] (by cbv) ?_ ?_
  · exact hq0
  refine Run.ret ?_
  cases h
  refine ⟨_, _, by cbv, ?_, ?_⟩
  · exact LLe.r
  · exact (ALe.v LLe.r ALe.nil)

set_option maxRecDepth 8000 in
theorem laws_szChange_ac {a0v_Table : Int} {a0v_Had : Bool} {a0v_Has : Bool} {a0v_Oldv_Id : Int} {a0v_Oldv_Cells : List Int} {a0v_Newv_Id : Int} {a0v_Newv_Cells : List Int} {a1 : Int} {r : Int} (h : laws_szChange.f (Change.mk a0v_Table a0v_Had a0v_Has (Row.mk a0v_Oldv_Id a0v_Oldv_Cells) (Row.mk a0v_Newv_Id a0v_Newv_Cells)) a1 = some r) : AC Try.prog 76 [.ag [.s (.int .i64 a0v_Table), .s (.bool a0v_Had), .s (.bool a0v_Has), .s (.int .i64 a0v_Oldv_Id), .im false (rowsOf Int_c a0v_Oldv_Cells), .s (.int .i64 a0v_Newv_Id), .im false (rowsOf Int_c a0v_Newv_Cells)], .v (.s (.int .i64 a1))] [.ag [.jk, .jk, .jk, .jk, .jk, .jk, .jk], .v (.jk)] [.v (.s (.int .i64 r))] := by
  unfold laws_szChange.f at h
  let ar := Ls.ar; let cm := Ls.cm; let bo := Ls.bo; let sc := Ls.sc; let sa := Ls.sa; let sx := Ls.sx; let ss := Ls.ss; let sl := Ls.sl; let bs := Ls.bs; let sb := Ls.sb; let ln := Ls.ln; let sr := Ls.sr; let ap := Ls.ap; let up := Ls.up; let rp := Ls.rp; let fr := Ls.fr; let ge := Ls.ge; let le := Ls.le; let lt := Ls.lt; let nz := Ls.nz; let mm := Ls.mm; let ma := Ls.ma; let sm := Ls.sm; let fl := Ls.fl; let al := Ls.al
  let eInt_c := rowsOf Int_c
  have hL : (⟨ar, cm, bo, sc, sa, sx, ss, sl, bs, sb, ln, sr, ap, up, rp, fr, ge, le, lt, nz, mm, ma, sm, fl, al⟩ : Lf) = Ls := rfl
  show AC Try.prog 76 [.ag [.s (.int .i64 a0v_Table), .s (.bool a0v_Had), .s (.bool a0v_Has), .s (.int .i64 a0v_Oldv_Id), .im false (eInt_c a0v_Oldv_Cells), .s (.int .i64 a0v_Newv_Id), .im false (eInt_c a0v_Newv_Cells)], .v (.s (.int .i64 a1))] _ _
  refine AC.of_run2 tab_ok Try.func76 (by rfl) (by rfl) (by cbv) ⟨by decide, rfl⟩ fun F hP hA => ?_
  have hT : TabOk F.P tab := hP ▸ tab_ok
  have hM : F.P.follows .mixedOrders = true := hP ▸ mixed
  have hC : ∀ {f a o r}, AC Try.prog f a o r → AC F.P f a o r := fun h => hP ▸ h
  refine Run.seq ?_
  refine Run.region hL hT [] (by cbv) ?_ ?_
  · exact hq0
  refine Run.seq ?_
  obtain ⟨r1, h_r1, h⟩ := bnd h
  refine Run.region hL hT [(3, .call [false, false] [.ag [.jk, .jk], .v (.jk)] [.v (.s (.int .i64 r1))])] (by cbv) ?_ ?_
  · exact (hq trivial (hq (hC (laws_szRow_ac h_r1)) hq0))
  refine Run.seq ?_
  refine Run.seq ?_
  refine Run.region hL hT [] (by cbv) ?_ ?_
  · exact (hq trivial hq0)
  refine Run.cond (by cbv) (hq0) (fun c2 => ?_) (fun c2 => ?_)
  · have h := if_t c2 h
    refine Run.seq ?_
    refine Run.region hL hT [] (by cbv) ?_ ?_
    · exact hq0
    refine Run.ret ?_
    cases h
    refine ⟨_, _, by cbv, ?_, ?_⟩
    · exact LLe.r
    · exact (ALe.v LLe.r ALe.nil)
  · have h := if_f c2 h
    refine Run.skip ?_
    refine Run.seq ?_
    obtain ⟨r3, h_r3, h⟩ := bnd h
    refine Run.region hL hT [(3, .call [false, false] [.ag [.jk, .jk], .v (.jk)] [.v (.s (.int .i64 r3))])] (by cbv) ?_ ?_
    · exact (hq trivial (hq (hC (laws_szRow_ac h_r3)) hq0))
    refine Run.seq ?_
    refine Run.seq ?_
    refine Run.region hL hT [] (by cbv) ?_ ?_
    · exact (hq trivial hq0)
    refine Run.cond (by cbv) (hq0) (fun c4 => ?_) (fun c4 => ?_)
    · have h := if_t c4 h
      refine Run.seq ?_
      refine Run.region hL hT [] (by cbv) ?_ ?_
      · exact hq0
      refine Run.ret ?_
      cases h
      refine ⟨_, _, by cbv, ?_, ?_⟩
      · exact LLe.r
      · exact (ALe.v LLe.r ALe.nil)
    · have h := if_f c4 h
      refine Run.skip ?_
      refine Run.seq ?_
      refine Run.region hL hT [] (by cbv) ?_ ?_
      · exact hq0
      refine Run.ret ?_
      cases h
      refine ⟨_, _, by cbv, ?_, ?_⟩
      · exact LLe.r
      · exact (ALe.v LLe.r ALe.nil)

set_option maxRecDepth 8000 in
theorem spec_l1In_ac {a0 : Int} {a1 : Int} {a2 : Int} {r : Bool} (h : spec_l1In.f a0 a1 a2 = some r) : AC Try.prog 104 [.v (.s (.int .i64 a0)), .v (.s (.int .i64 a1)), .v (.s (.int .i64 a2))] [.v (.jk), .v (.jk), .v (.jk)] [.v (.s (.bool r))] := by
  unfold spec_l1In.f at h
  let ar := Ls.ar; let cm := Ls.cm; let bo := Ls.bo; let sc := Ls.sc; let sa := Ls.sa; let sx := Ls.sx; let ss := Ls.ss; let sl := Ls.sl; let bs := Ls.bs; let sb := Ls.sb; let ln := Ls.ln; let sr := Ls.sr; let ap := Ls.ap; let up := Ls.up; let rp := Ls.rp; let fr := Ls.fr; let ge := Ls.ge; let le := Ls.le; let lt := Ls.lt; let nz := Ls.nz; let mm := Ls.mm; let ma := Ls.ma; let sm := Ls.sm; let fl := Ls.fl; let al := Ls.al
  have hL : (⟨ar, cm, bo, sc, sa, sx, ss, sl, bs, sb, ln, sr, ap, up, rp, fr, ge, le, lt, nz, mm, ma, sm, fl, al⟩ : Lf) = Ls := rfl
  show AC Try.prog 104 [.v (.s (.int .i64 a0)), .v (.s (.int .i64 a1)), .v (.s (.int .i64 a2))] _ _
  refine AC.of_run2 tab_ok Try.func104 (by rfl) (by rfl) (by cbv) ⟨by decide, rfl⟩ fun F hP hA => ?_
  have hT : TabOk F.P tab := hP ▸ tab_ok
  have hM : F.P.follows .mixedOrders = true := hP ▸ mixed
  have hC : ∀ {f a o r}, AC Try.prog f a o r → AC F.P f a o r := fun h => hP ▸ h
  refine Run.seq ?_
  refine Run.region hL hT [] (by cbv) ?_ ?_
  · exact hq0
  refine Run.seq ?_
  refine Run.region hL hT [] (by cbv) ?_ ?_
  · exact (hq trivial (hq (fun _ => hq0) (hq (fun _ => hq0) (hq (fun g3 => (hq g3 (hq g3 (hq trivial hq0)))) (hq (fun q4 => (hq q4 hq0)) (hq (fun _ => hq0) hq0))))))
  refine Run.ret ?_
  cases h
  refine ⟨_, _, by cbv, ?_, ?_⟩
  · exact LLe.r
  · exact (ALe.v LLe.r ALe.nil)

set_option maxRecDepth 8000 in
theorem spec_l9Holds_ac {a0v_Col : Int} {a0v_Op : Int} {a0v_V : Int} {a1v_Id : Int} {a1v_Cells : List Int} {r : Bool} (h : spec_l9Holds.f (Cond.mk a0v_Col a0v_Op a0v_V) (Row.mk a1v_Id a1v_Cells) = some r) : AC Try.prog 170 [.ag [.s (.int .i64 a0v_Col), .s (.int .i64 a0v_Op), .s (.int .i64 a0v_V)], .ag [.s (.int .i64 a1v_Id), .im false (rowsOf Int_c a1v_Cells)]] [.ag [.jk, .jk, .jk], .ag [.jk, .jk]] [.v (.s (.bool r))] := by
  unfold spec_l9Holds.f at h
  let ar := Ls.ar; let cm := Ls.cm; let bo := Ls.bo; let sc := Ls.sc; let sa := Ls.sa; let sx := Ls.sx; let ss := Ls.ss; let sl := Ls.sl; let bs := Ls.bs; let sb := Ls.sb; let ln := Ls.ln; let sr := Ls.sr; let ap := Ls.ap; let up := Ls.up; let rp := Ls.rp; let fr := Ls.fr; let ge := Ls.ge; let le := Ls.le; let lt := Ls.lt; let nz := Ls.nz; let mm := Ls.mm; let ma := Ls.ma; let sm := Ls.sm; let fl := Ls.fl; let al := Ls.al
  let eInt_c := rowsOf Int_c
  let lenI_Int := @lenI Int
  have hL : (⟨ar, cm, bo, sc, sa, sx, ss, sl, bs, sb, ln, sr, ap, up, rp, fr, ge, le, lt, nz, mm, ma, sm, fl, al⟩ : Lf) = Ls := rfl
  show AC Try.prog 170 [.ag [.s (.int .i64 a0v_Col), .s (.int .i64 a0v_Op), .s (.int .i64 a0v_V)], .ag [.s (.int .i64 a1v_Id), .im false (eInt_c a1v_Cells)]] _ _
  refine AC.of_run2 tab_ok Try.func170 (by rfl) (by rfl) (by cbv) ⟨by decide, rfl⟩ fun F hP hA => ?_
  have hT : TabOk F.P tab := hP ▸ tab_ok
  have hM : F.P.follows .mixedOrders = true := hP ▸ mixed
  have hC : ∀ {f a o r}, AC Try.prog f a o r → AC F.P f a o r := fun h => hP ▸ h
  refine Run.seq ?_
  refine Run.region hL hT [] (by cbv) ?_ ?_
  · exact hq0
  refine Run.seq ?_
  refine Run.seq ?_
  obtain ⟨r1, h_r1, h⟩ := bnd h
  refine Run.region hL hT [(6, .call [false, false, false] [.v (.jk), .v (.jk), .v (.jk)] [.v (.s (.bool r1))])] (by cbv) ?_ ?_
  · exact (hq trivial (hq trivial (hq trivial (hq (by rw [show ln (eInt_c a1v_Cells) = lenI_Int a1v_Cells from ln_eq Int_c _]; exact (hC (spec_l1In_ac h_r1))) hq0))))
  rw [show ln (eInt_c a1v_Cells) = lenI_Int a1v_Cells from ln_eq Int_c _]
  refine Run.cond (by cbv) (hq0) (fun c2 => ?_) (fun c2 => ?_)
  · have h := if_t c2 h
    refine Run.seq ?_
    refine Run.region hL hT [] (by cbv) ?_ ?_
    · exact hq0
    refine Run.ret ?_
    cases h
    refine ⟨_, _, by cbv, ?_, ?_⟩
    · exact LLe.r
    · exact (ALe.v LLe.r ALe.nil)
  · have h := if_f c2 h
    refine Run.skip ?_
    refine Run.seq ?_
    obtain ⟨x3, h_x3, h⟩ := bnd h
    refine Run.region hL hT [(4, .el [.s (.int .i64 x3)])] (by cbv) ?_ ?_
    · exact (hq trivial (hq trivial (hq (get_le h_x3) (hq (get_lt (f := Int_c) h_x3) (hq (get_ge (f := Int_c) h_x3) hq0)))))
    refine Run.seq ?_
    refine Run.seq ?_
    refine Run.region hL hT [] (by cbv) ?_ ?_
    · exact (hq trivial hq0)
    refine Run.block ?_
    refine Run.seq ?_
    refine Run.region hL hT [] (by cbv) ?_ ?_
    · exact (hq trivial hq0)
    refine Run.cond (by cbv) (hq0) (fun c4 => ?_) (fun c4 => ?_)
    · have h := if_t c4 h
      refine Run.seq ?_
      refine Run.region hL hT [] (by cbv) ?_ ?_
      · exact (hq trivial (hq trivial hq0))
      refine Run.ret ?_
      cases h
      refine ⟨_, _, by cbv, ?_, ?_⟩
      · exact LLe.r
      · exact (ALe.v LLe.r ALe.nil)
    · have h := if_f c4 h
      refine Run.seq ?_
      refine Run.region hL hT [] (by cbv) ?_ ?_
      · exact (hq trivial hq0)
      refine Run.cond (by cbv) (hq0) (fun c5 => ?_) (fun c5 => ?_)
      · have h := if_t c5 h
        refine Run.seq ?_
        refine Run.region hL hT [] (by cbv) ?_ ?_
        · exact (hq trivial (hq trivial hq0))
        refine Run.ret ?_
        cases h
        refine ⟨_, _, by cbv, ?_, ?_⟩
        · exact LLe.r
        · exact (ALe.v LLe.r ALe.nil)
      · have h := if_f c5 h
        refine Run.seq ?_
        refine Run.region hL hT [] (by cbv) ?_ ?_
        · exact (hq trivial hq0)
        refine Run.cond (by cbv) (hq0) (fun c6 => ?_) (fun c6 => ?_)
        · have h := if_t c6 h
          refine Run.seq ?_
          refine Run.region hL hT [] (by cbv) ?_ ?_
          · exact (hq trivial (hq trivial hq0))
          refine Run.ret ?_
          cases h
          refine ⟨_, _, by cbv, ?_, ?_⟩
          · exact LLe.r
          · exact (ALe.v LLe.r ALe.nil)
        · have h := if_f c6 h
          refine Run.seq ?_
          refine Run.region hL hT [] (by cbv) ?_ ?_
          · exact (hq trivial hq0)
          refine Run.cond (by cbv) (hq0) (fun c7 => ?_) (fun c7 => ?_)
          · have h := if_t c7 h
            refine Run.seq ?_
            refine Run.region hL hT [] (by cbv) ?_ ?_
            · exact (hq trivial (hq trivial hq0))
            refine Run.ret ?_
            cases h
            refine ⟨_, _, by cbv, ?_, ?_⟩
            · exact LLe.r
            · exact (ALe.v LLe.r ALe.nil)
          · have h := if_f c7 h
            refine Run.skip ?_
            refine Run.seq ?_
            refine Run.region hL hT [] (by cbv) ?_ ?_
            · exact hq0
            refine Run.ret ?_
            cases h
            refine ⟨_, _, by cbv, ?_, ?_⟩
            · exact LLe.r
            · exact (ALe.v LLe.r ALe.nil)

set_option maxRecDepth 8000 in
theorem spec_Matches_ac {a0v_Table : Int} {a0v_Where : List Cond} {a0v_Order : Int} {a0v_Down : Bool} {a0v_First : Int} {a0v_Show : List Int} {a0v_Kids : Bool} {a0v_KidTable : Int} {a0v_KidCol : Int} {a1v_Id : Int} {a1v_Cells : List Int} {r : Bool} (h : spec_Matches.f (Query.mk a0v_Table a0v_Where a0v_Order a0v_Down a0v_First a0v_Show a0v_Kids a0v_KidTable a0v_KidCol) (Row.mk a1v_Id a1v_Cells) = some r) : AC Try.prog 101 [.ag [.s (.int .i64 a0v_Table), .im false (rowsOf Cond_c a0v_Where), .s (.int .i64 a0v_Order), .s (.bool a0v_Down), .s (.int .i64 a0v_First), .im false (rowsOf Int_c a0v_Show), .s (.bool a0v_Kids), .s (.int .i64 a0v_KidTable), .s (.int .i64 a0v_KidCol)], .ag [.s (.int .i64 a1v_Id), .im false (rowsOf Int_c a1v_Cells)]] [.ag [.jk, .jk, .jk, .jk, .jk, .jk, .jk, .jk, .jk], .ag [.jk, .jk]] [.v (.s (.bool r))] := by
  unfold spec_Matches.f at h
  let ar := Ls.ar; let cm := Ls.cm; let bo := Ls.bo; let sc := Ls.sc; let sa := Ls.sa; let sx := Ls.sx; let ss := Ls.ss; let sl := Ls.sl; let bs := Ls.bs; let sb := Ls.sb; let ln := Ls.ln; let sr := Ls.sr; let ap := Ls.ap; let up := Ls.up; let rp := Ls.rp; let fr := Ls.fr; let ge := Ls.ge; let le := Ls.le; let lt := Ls.lt; let nz := Ls.nz; let mm := Ls.mm; let ma := Ls.ma; let sm := Ls.sm; let fl := Ls.fl; let al := Ls.al
  let eCond_c := rowsOf Cond_c
  let eInt_c := rowsOf Int_c
  let lenI_Cond := @lenI Cond
  have hL : (⟨ar, cm, bo, sc, sa, sx, ss, sl, bs, sb, ln, sr, ap, up, rp, fr, ge, le, lt, nz, mm, ma, sm, fl, al⟩ : Lf) = Ls := rfl
  show AC Try.prog 101 [.ag [.s (.int .i64 a0v_Table), .im false (eCond_c a0v_Where), .s (.int .i64 a0v_Order), .s (.bool a0v_Down), .s (.int .i64 a0v_First), .im false (eInt_c a0v_Show), .s (.bool a0v_Kids), .s (.int .i64 a0v_KidTable), .s (.int .i64 a0v_KidCol)], .ag [.s (.int .i64 a1v_Id), .im false (eInt_c a1v_Cells)]] _ _
  refine AC.of_run2 tab_ok Try.func101 (by rfl) (by rfl) (by cbv) ⟨by decide, rfl⟩ fun F hP hA => ?_
  have hT : TabOk F.P tab := hP ▸ tab_ok
  have hM : F.P.follows .mixedOrders = true := hP ▸ mixed
  have hC : ∀ {f a o r}, AC Try.prog f a o r → AC F.P f a o r := fun h => hP ▸ h
  refine Run.seq ?_
  refine Run.region hL hT [] (by cbv) ?_ ?_
  · exact hq0
  refine Run.seq ?_
  refine Run.seq ?_
  refine Run.region hL hT [] (by cbv) ?_ ?_
  · exact hq0
  refine Run.block ?_
  refine Run.loop1 (fun (z13 : Int) => ⟨21, 100000, [(2, .pt 1 0 0), (3, .pt 2 0 0), (5, .t (.s (.int .i64 z13)))], [(1, .box 41 [.t (.s (.int .i64 a0v_Table)), .t (.im false (eCond_c a0v_Where)), .t (.s (.int .i64 a0v_Order)), .t (.s (.bool a0v_Down)), .t (.s (.int .i64 a0v_First)), .t (.im false (eInt_c a0v_Show)), .t (.s (.bool a0v_Kids)), .t (.s (.int .i64 a0v_KidTable)), .t (.s (.int .i64 a0v_KidCol))]), (2, .box 92 [.t (.s (.int .i64 a1v_Id)), .t (.im false (eInt_c a1v_Cells))])]⟩) (x0 := 0) h (Weak.of _ [(1, 0), (2, 1)] hA (by cbv) ?_) (fun _ => rfl) ?_
  · repeat (first | exact hq0 | refine hq (by first | exact True.intro | rfl) ?_)
  · intro k z13 h
    rw [spec_Matches.l0] at h
    refine Run.seq ?_
    refine Run.seq ?_
    refine Run.region hL hT [] (by cbv) ?_ ?_
    · exact (hq trivial (hq trivial hq0))
    rw [show ln (eCond_c a0v_Where) = lenI_Cond a0v_Where from ln_eq Cond_c _]
    refine Run.cond (by cbv) (hq0) (fun c14 => ?_) (fun c14 => ?_)
    · have h := if_t c14 h
      refine Run.skip ?_
      refine Run.seq ?_
      refine Run.block ?_
      refine Run.seq ?_
      obtain ⟨⟨x15v_Col, x15v_Op, x15v_V⟩, h_x15, h⟩ := bnd h
      obtain ⟨r16, h_r16, h⟩ := bnd h
      refine Run.draw hL hT hM [(3, .el [.s (.int .i64 x15v_Col), .s (.int .i64 x15v_Op), .s (.int .i64 x15v_V)]), (6, .call [false, false] [.ag [.jk, .jk, .jk], .ag [.jk, .jk]] [.v (.s (.bool r16))])] (by cbv) (by cbv) (by cbv) (by cbv) (by cbv) ?_ ?_
      · exact (hq trivial (hq (get_le h_x15) (hq (get_lt (f := Cond_c) h_x15) (hq (get_ge (f := Cond_c) h_x15) (hq trivial (hq (hC (spec_l9Holds_ac h_r16)) hq0))))))
      refine Run.cond (by cbv) (hq0) (fun c17 => ?_) (fun c17 => ?_)
      · have h := if_t c17 h
        refine Run.seq ?_
        refine Run.region hL hT [] (by cbv) ?_ ?_
        · exact hq0
        refine Run.ret ?_
        cases h
        refine ⟨_, _, by cbv, ?_, ?_⟩
        · exact LLe.r
        · exact (ALe.v LLe.r ALe.nil)
      · have h := if_f c17 h
        refine Run.skip ?_
        refine Run.region hL hT [] (by cbv) ?_ ?_
        · exact (hq trivial hq0)
        refine ⟨(ar .add .i64 z13 1), h, Weak.of _ [(1, 1), (2, 2)] hA (by cbv) ?_⟩
        repeat (first | exact hq0 | refine hq (by first | exact True.intro | rfl) ?_)
    · have h := if_f c14 h
      refine Run.exit ?_
      refine Run.seq ?_
      refine Run.region hL hT [] (by cbv) ?_ ?_
      · exact hq0
      refine Run.ret ?_
      cases h
      refine ⟨_, _, by cbv, ?_, ?_⟩
      · exact LLe.r
      · exact (ALe.v LLe.r ALe.nil)

set_option maxRecDepth 8000 in
theorem spec_l6Copy_ac {a0v_Id : Int} {a0v_Cells : List Int} {r : Row} (h : spec_l6Copy.f (Row.mk a0v_Id a0v_Cells) = some r) : AC Try.prog 180 [.ag [.s (.int .i64 a0v_Id), .im false (rowsOf Int_c a0v_Cells)]] [.ag [.jk, .jk]] [.ag [.s (.int .i64 r.Id), .ow 3 (rowsOf Int_c r.Cells)]] := by
  unfold spec_l6Copy.f at h
  let ar := Ls.ar; let cm := Ls.cm; let bo := Ls.bo; let sc := Ls.sc; let sa := Ls.sa; let sx := Ls.sx; let ss := Ls.ss; let sl := Ls.sl; let bs := Ls.bs; let sb := Ls.sb; let ln := Ls.ln; let sr := Ls.sr; let ap := Ls.ap; let up := Ls.up; let rp := Ls.rp; let fr := Ls.fr; let ge := Ls.ge; let le := Ls.le; let lt := Ls.lt; let nz := Ls.nz; let mm := Ls.mm; let ma := Ls.ma; let sm := Ls.sm; let fl := Ls.fl; let al := Ls.al
  let eInt_c := rowsOf Int_c
  have hL : (⟨ar, cm, bo, sc, sa, sx, ss, sl, bs, sb, ln, sr, ap, up, rp, fr, ge, le, lt, nz, mm, ma, sm, fl, al⟩ : Lf) = Ls := rfl
  show AC Try.prog 180 [.ag [.s (.int .i64 a0v_Id), .im false (eInt_c a0v_Cells)]] _ _
  refine AC.of_run2 tab_ok Try.func180 (by rfl) (by rfl) (by cbv) ⟨by decide, rfl⟩ fun F hP hA => ?_
  have hT : TabOk F.P tab := hP ▸ tab_ok
  have hM : F.P.follows .mixedOrders = true := hP ▸ mixed
  have hC : ∀ {f a o r}, AC Try.prog f a o r → AC F.P f a o r := fun h => hP ▸ h
  refine Run.seq ?_
  refine Run.region hL hT [] (by cbv) ?_ ?_
  · exact hq0
  refine Run.seq ?_
  obtain ⟨l1, h_l1, h⟩ := bnd h
  refine Run.draw hL hT hM [] (by cbv) (by cbv) (by cbv) (by cbv) (by cbv) ?_ ?_
  · exact (hq trivial (hq trivial (hq (fl_row Int_c_f _) (hq (app_mb (P := Try.prog) (f := Int_c) RLe.r RLe.r h_l1) (hq trivial hq0)))))
  refine Run.row (rows := (ap ([]) ((eInt_c a0v_Cells)))) 4101 (eInt_c l1) (by cbv) (app_le (f := Int_c) RLe.r RLe.r h_l1) ?_
  refine Run.ret ?_
  cases h
  refine ⟨_, _, by cbv, ?_, ?_⟩
  · exact LLe.r
  · exact (ALe.ag rfl LLe.r ALe.nil)

set_option maxRecDepth 8000 in
theorem spec_l6Rows_ac {a0 : List Row} {r : (List Row)} (h : spec_l6Rows.f a0 = some r) : AC Try.prog 177 [.v (.im false (rowsOf Row_i a0))] [.v (.jk)] [.v (.ow 92 (rowsOf Row_o r))] := by
  unfold spec_l6Rows.f at h
  let ar := Ls.ar; let cm := Ls.cm; let bo := Ls.bo; let sc := Ls.sc; let sa := Ls.sa; let sx := Ls.sx; let ss := Ls.ss; let sl := Ls.sl; let bs := Ls.bs; let sb := Ls.sb; let ln := Ls.ln; let sr := Ls.sr; let ap := Ls.ap; let up := Ls.up; let rp := Ls.rp; let fr := Ls.fr; let ge := Ls.ge; let le := Ls.le; let lt := Ls.lt; let nz := Ls.nz; let mm := Ls.mm; let ma := Ls.ma; let sm := Ls.sm; let fl := Ls.fl; let al := Ls.al
  let eInt_c := rowsOf Int_c
  let eRow_i := rowsOf Row_i
  let eRow_o := rowsOf Row_o
  let lenI_Row := @lenI Row
  have hL : (⟨ar, cm, bo, sc, sa, sx, ss, sl, bs, sb, ln, sr, ap, up, rp, fr, ge, le, lt, nz, mm, ma, sm, fl, al⟩ : Lf) = Ls := rfl
  show AC Try.prog 177 [.v (.im false (eRow_i a0))] _ _
  refine AC.of_run2 tab_ok Try.func177 (by rfl) (by rfl) (by cbv) ⟨by decide, rfl⟩ fun F hP hA => ?_
  have hT : TabOk F.P tab := hP ▸ tab_ok
  have hM : F.P.follows .mixedOrders = true := hP ▸ mixed
  have hC : ∀ {f a o r}, AC Try.prog f a o r → AC F.P f a o r := fun h => hP ▸ h
  refine Run.seq ?_
  refine Run.region hL hT [] (by cbv) ?_ ?_
  · exact hq0
  refine Run.seq ?_
  refine Run.region hL hT [] (by cbv) ?_ ?_
  · exact hq0
  refine Run.seq ?_
  refine Run.seq ?_
  refine Run.region hL hT [] (by cbv) ?_ ?_
  · exact hq0
  refine Run.block ?_
  refine Run.loop2 (fun (z4 : List Row) (z5 : Int) => ⟨21, 100000, [(0, .t (.im false (eRow_i a0))), (3, .rf 1), (4, .t (.s (.int .i64 z5)))], [(1, .row 0 92 2 (eRow_o z4))]⟩) (x0 := []) (x1 := 0) h (Weak.of _ [(1, 4096)] hA (by cbv) ?_) (fun _ _ => rfl) ?_
  · repeat (first | exact hq0 | refine hq (by first | exact True.intro | rfl) ?_)
  · intro k z4 z5 h
    rw [spec_l6Rows.l0] at h
    refine Run.seq ?_
    refine Run.seq ?_
    refine Run.region hL hT [] (by cbv) ?_ ?_
    · exact (hq trivial hq0)
    rw [show ln (eRow_i a0) = lenI_Row a0 from ln_eq Row_i _]
    refine Run.cond (by cbv) (hq0) (fun c6 => ?_) (fun c6 => ?_)
    · have h := if_t c6 h
      refine Run.skip ?_
      refine Run.seq ?_
      refine Run.block ?_
      obtain ⟨⟨x7v_Id, x7v_Cells⟩, h_x7, h⟩ := bnd h
      obtain ⟨⟨r8v_Id, r8v_Cells⟩, h_r8, h⟩ := bnd h
      obtain ⟨l9, h_l9, h⟩ := bnd h
      obtain ⟨l10, h_l10, h⟩ := bnd h
      refine Run.region hL hT [(3, .el [.s (.int .i64 x7v_Id), .im false (eInt_c x7v_Cells)]), (5, .call [false] [.ag [.jk, .jk]] [.ag [.s (.int .i64 r8v_Id), .ow 3 (eInt_c r8v_Cells)]])] (by cbv) ?_ ?_
      · exact (hq (get_le h_x7) (hq (get_lt (f := Row_i) h_x7) (hq (get_ge (f := Row_i) h_x7) (hq (hC (spec_l6Copy_ac h_r8)) (hq (app_mb (P := Try.prog) (f := Row_o) RLe.r (some_le (f := Row_o) h_l9 (RLe.cons rfl LLe.r RLe.nil)) h_l10) hq0)))))
      refine Run.row (rows := (ap (eRow_o z4) ([[.s (.int .i64 r8v_Id), .ow 3 (eInt_c r8v_Cells)]]))) 104103 (eRow_o l10) (by cbv) (app_le (f := Row_o) RLe.r (some_le (f := Row_o) h_l9 (RLe.cons rfl LLe.r RLe.nil)) h_l10) ?_
      refine Run.region hL hT [] (by cbv) ?_ ?_
      · exact (hq trivial hq0)
      refine ⟨l10, (ar .add .i64 z5 1), h, Weak.of _ [(1, 104103)] hA (by cbv) ?_⟩
      repeat (first | exact hq0 | refine hq (by first | exact True.intro | rfl) ?_)
    · have h := if_f c6 h
      refine Run.exit ?_
      refine Run.seq ?_
      refine Run.region hL hT [] (by cbv) ?_ ?_
      · exact hq0
      refine Run.ret ?_
      cases h
      refine ⟨_, _, by cbv, ?_, ?_⟩
      · exact LLe.r
      · exact (ALe.v LLe.r ALe.nil)

set_option maxRecDepth 8000 in
theorem spec_l9Copy_ac {a0v_Table : Int} {a0v_Where : List Cond} {a0v_Order : Int} {a0v_Down : Bool} {a0v_First : Int} {a0v_Show : List Int} {a0v_Kids : Bool} {a0v_KidTable : Int} {a0v_KidCol : Int} {r : Query} (h : spec_l9Copy.f (Query.mk a0v_Table a0v_Where a0v_Order a0v_Down a0v_First a0v_Show a0v_Kids a0v_KidTable a0v_KidCol) = some r) : AC Try.prog 190 [.ag [.s (.int .i64 a0v_Table), .im false (rowsOf Cond_c a0v_Where), .s (.int .i64 a0v_Order), .s (.bool a0v_Down), .s (.int .i64 a0v_First), .im false (rowsOf Int_c a0v_Show), .s (.bool a0v_Kids), .s (.int .i64 a0v_KidTable), .s (.int .i64 a0v_KidCol)]] [.ag [.jk, .jk, .jk, .jk, .jk, .jk, .jk, .jk, .jk]] [.ag [.s (.int .i64 r.Table), .ow 187 (rowsOf Cond_c r.Where), .s (.int .i64 r.Order), .s (.bool r.Down), .s (.int .i64 r.First), .ow 3 (rowsOf Int_c r.Show), .s (.bool r.Kids), .s (.int .i64 r.KidTable), .s (.int .i64 r.KidCol)]] := by
  unfold spec_l9Copy.f at h
  let ar := Ls.ar; let cm := Ls.cm; let bo := Ls.bo; let sc := Ls.sc; let sa := Ls.sa; let sx := Ls.sx; let ss := Ls.ss; let sl := Ls.sl; let bs := Ls.bs; let sb := Ls.sb; let ln := Ls.ln; let sr := Ls.sr; let ap := Ls.ap; let up := Ls.up; let rp := Ls.rp; let fr := Ls.fr; let ge := Ls.ge; let le := Ls.le; let lt := Ls.lt; let nz := Ls.nz; let mm := Ls.mm; let ma := Ls.ma; let sm := Ls.sm; let fl := Ls.fl; let al := Ls.al
  let eCond_c := rowsOf Cond_c
  let eInt_c := rowsOf Int_c
  have hL : (⟨ar, cm, bo, sc, sa, sx, ss, sl, bs, sb, ln, sr, ap, up, rp, fr, ge, le, lt, nz, mm, ma, sm, fl, al⟩ : Lf) = Ls := rfl
  show AC Try.prog 190 [.ag [.s (.int .i64 a0v_Table), .im false (eCond_c a0v_Where), .s (.int .i64 a0v_Order), .s (.bool a0v_Down), .s (.int .i64 a0v_First), .im false (eInt_c a0v_Show), .s (.bool a0v_Kids), .s (.int .i64 a0v_KidTable), .s (.int .i64 a0v_KidCol)]] _ _
  refine AC.of_run2 tab_ok Try.func190 (by rfl) (by rfl) (by cbv) ⟨by decide, rfl⟩ fun F hP hA => ?_
  have hT : TabOk F.P tab := hP ▸ tab_ok
  have hM : F.P.follows .mixedOrders = true := hP ▸ mixed
  have hC : ∀ {f a o r}, AC Try.prog f a o r → AC F.P f a o r := fun h => hP ▸ h
  refine Run.seq ?_
  refine Run.region hL hT [] (by cbv) ?_ ?_
  · exact hq0
  refine Run.seq ?_
  obtain ⟨l1, h_l1, h⟩ := bnd h
  refine Run.region hL hT [] (by cbv) ?_ ?_
  · exact (hq trivial (hq (fl_row Cond_c_f _) (hq (app_mb (P := Try.prog) (f := Cond_c) RLe.r RLe.r h_l1) (hq trivial hq0))))
  refine Run.row (rows := (ap ([]) ((eCond_c a0v_Where)))) 4099 (eCond_c l1) (by cbv) (app_le (f := Cond_c) RLe.r RLe.r h_l1) ?_
  refine Run.seq ?_
  obtain ⟨l2, h_l2, h⟩ := bnd h
  refine Run.region hL hT [] (by cbv) ?_ ?_
  · exact (hq trivial (hq (fl_row Int_c_f _) (hq (app_mb (P := Try.prog) (f := Int_c) RLe.r RLe.r h_l2) (hq trivial hq0))))
  refine Run.row (rows := (ap ([]) ((eInt_c a0v_Show)))) 8195 (eInt_c l2) (by cbv) (app_le (f := Int_c) RLe.r RLe.r h_l2) ?_
  refine Run.seq ?_
  refine Run.region hL hT [] (by cbv) ?_ ?_
  · exact (hq trivial (hq trivial hq0))
  refine Run.ret ?_
  cases h
  refine ⟨_, _, by cbv, ?_, ?_⟩
  · exact LLe.r
  · exact (ALe.ag rfl LLe.r ALe.nil)

set_option maxRecDepth 8000 in
theorem spec_l13Copy_ac {a0v_Qv_Table : Int} {a0v_Qv_Where : List Cond} {a0v_Qv_Order : Int} {a0v_Qv_Down : Bool} {a0v_Qv_First : Int} {a0v_Qv_Show : List Int} {a0v_Qv_Kids : Bool} {a0v_Qv_KidTable : Int} {a0v_Qv_KidCol : Int} {a0v_Rows : List Row} {a0v_Kids : List Kid} {r : View} (h : spec_l13Copy.f (View.mk (Query.mk a0v_Qv_Table a0v_Qv_Where a0v_Qv_Order a0v_Qv_Down a0v_Qv_First a0v_Qv_Show a0v_Qv_Kids a0v_Qv_KidTable a0v_Qv_KidCol) a0v_Rows a0v_Kids) = some r) : AC Try.prog 144 [.ag [.s (.int .i64 a0v_Qv_Table), .im false (rowsOf Cond_c a0v_Qv_Where), .s (.int .i64 a0v_Qv_Order), .s (.bool a0v_Qv_Down), .s (.int .i64 a0v_Qv_First), .im false (rowsOf Int_c a0v_Qv_Show), .s (.bool a0v_Qv_Kids), .s (.int .i64 a0v_Qv_KidTable), .s (.int .i64 a0v_Qv_KidCol), .im false (rowsOf Row_i a0v_Rows), .im false (rowsOf Kid_c a0v_Kids)]] [.ag [.jk, .jk, .jk, .jk, .jk, .jk, .jk, .jk, .jk, .jk, .jk]] [.ag [.s (.int .i64 r.Q.Table), .ow 187 (rowsOf Cond_c r.Q.Where), .s (.int .i64 r.Q.Order), .s (.bool r.Q.Down), .s (.int .i64 r.Q.First), .ow 3 (rowsOf Int_c r.Q.Show), .s (.bool r.Q.Kids), .s (.int .i64 r.Q.KidTable), .s (.int .i64 r.Q.KidCol), .ow 92 (rowsOf Row_o r.Rows), .ow 153 (rowsOf Kid_c r.Kids)]] := by
  unfold spec_l13Copy.f at h
  let ar := Ls.ar; let cm := Ls.cm; let bo := Ls.bo; let sc := Ls.sc; let sa := Ls.sa; let sx := Ls.sx; let ss := Ls.ss; let sl := Ls.sl; let bs := Ls.bs; let sb := Ls.sb; let ln := Ls.ln; let sr := Ls.sr; let ap := Ls.ap; let up := Ls.up; let rp := Ls.rp; let fr := Ls.fr; let ge := Ls.ge; let le := Ls.le; let lt := Ls.lt; let nz := Ls.nz; let mm := Ls.mm; let ma := Ls.ma; let sm := Ls.sm; let fl := Ls.fl; let al := Ls.al
  let eCond_c := rowsOf Cond_c
  let eInt_c := rowsOf Int_c
  let eKid_c := rowsOf Kid_c
  let eRow_i := rowsOf Row_i
  let eRow_o := rowsOf Row_o
  have hL : (⟨ar, cm, bo, sc, sa, sx, ss, sl, bs, sb, ln, sr, ap, up, rp, fr, ge, le, lt, nz, mm, ma, sm, fl, al⟩ : Lf) = Ls := rfl
  show AC Try.prog 144 [.ag [.s (.int .i64 a0v_Qv_Table), .im false (eCond_c a0v_Qv_Where), .s (.int .i64 a0v_Qv_Order), .s (.bool a0v_Qv_Down), .s (.int .i64 a0v_Qv_First), .im false (eInt_c a0v_Qv_Show), .s (.bool a0v_Qv_Kids), .s (.int .i64 a0v_Qv_KidTable), .s (.int .i64 a0v_Qv_KidCol), .im false (eRow_i a0v_Rows), .im false (eKid_c a0v_Kids)]] _ _
  refine AC.of_run2 tab_ok Try.func144 (by rfl) (by rfl) (by cbv) ⟨by decide, rfl⟩ fun F hP hA => ?_
  have hT : TabOk F.P tab := hP ▸ tab_ok
  have hM : F.P.follows .mixedOrders = true := hP ▸ mixed
  have hC : ∀ {f a o r}, AC Try.prog f a o r → AC F.P f a o r := fun h => hP ▸ h
  refine Run.seq ?_
  refine Run.region hL hT [] (by cbv) ?_ ?_
  · exact hq0
  refine Run.seq ?_
  obtain ⟨⟨r1v_Table, r1v_Where, r1v_Order, r1v_Down, r1v_First, r1v_Show, r1v_Kids, r1v_KidTable, r1v_KidCol⟩, h_r1, h⟩ := bnd h
  obtain ⟨r2, h_r2, h⟩ := bnd h
  obtain ⟨l3, h_l3, h⟩ := bnd h
  refine Run.draw hL hT hM [(2, .call [false] [.ag [.jk, .jk, .jk, .jk, .jk, .jk, .jk, .jk, .jk]] [.ag [.s (.int .i64 r1v_Table), .ow 187 (eCond_c r1v_Where), .s (.int .i64 r1v_Order), .s (.bool r1v_Down), .s (.int .i64 r1v_First), .ow 3 (eInt_c r1v_Show), .s (.bool r1v_Kids), .s (.int .i64 r1v_KidTable), .s (.int .i64 r1v_KidCol)]]), (5, .call [false] [.v (.jk)] [.v (.ow 92 (eRow_o r2))])] (by cbv) (by cbv) (by cbv) (by cbv) (by cbv) ?_ ?_
  · exact (hq trivial (hq (hC (spec_l9Copy_ac h_r1)) (hq trivial (hq (hC (spec_l6Rows_ac h_r2)) (hq trivial (hq (fl_row Kid_c_f _) (hq (app_mb (P := Try.prog) (f := Kid_c) RLe.r RLe.r h_l3) (hq trivial hq0))))))))
  refine Run.row (rows := (ap ([]) ((eKid_c a0v_Kids)))) 4105 (eKid_c l3) (by cbv) (app_le (f := Kid_c) RLe.r RLe.r h_l3) ?_
  refine Run.ret ?_
  cases h
  refine ⟨_, _, by cbv, ?_, ?_⟩
  · exact LLe.r
  · exact (ALe.ag rfl LLe.r ALe.nil)

set_option maxRecDepth 8000 in
theorem spec_RowAt_ac {a0 : List Row} {a1 : Int} {r : Int} (h : spec_RowAt.f a0 a1 = some r) : AC Try.prog 102 [.v (.im false (rowsOf Row_i a0)), .v (.s (.int .i64 a1))] [.v (.jk), .v (.jk)] [.v (.s (.int .i64 r))] := by
  unfold spec_RowAt.f at h
  let ar := Ls.ar; let cm := Ls.cm; let bo := Ls.bo; let sc := Ls.sc; let sa := Ls.sa; let sx := Ls.sx; let ss := Ls.ss; let sl := Ls.sl; let bs := Ls.bs; let sb := Ls.sb; let ln := Ls.ln; let sr := Ls.sr; let ap := Ls.ap; let up := Ls.up; let rp := Ls.rp; let fr := Ls.fr; let ge := Ls.ge; let le := Ls.le; let lt := Ls.lt; let nz := Ls.nz; let mm := Ls.mm; let ma := Ls.ma; let sm := Ls.sm; let fl := Ls.fl; let al := Ls.al
  let eInt_c := rowsOf Int_c
  let eRow_i := rowsOf Row_i
  let lenI_Row := @lenI Row
  have hL : (⟨ar, cm, bo, sc, sa, sx, ss, sl, bs, sb, ln, sr, ap, up, rp, fr, ge, le, lt, nz, mm, ma, sm, fl, al⟩ : Lf) = Ls := rfl
  show AC Try.prog 102 [.v (.im false (eRow_i a0)), .v (.s (.int .i64 a1))] _ _
  refine AC.of_run2 tab_ok Try.func102 (by rfl) (by rfl) (by cbv) ⟨by decide, rfl⟩ fun F hP hA => ?_
  have hT : TabOk F.P tab := hP ▸ tab_ok
  have hM : F.P.follows .mixedOrders = true := hP ▸ mixed
  have hC : ∀ {f a o r}, AC Try.prog f a o r → AC F.P f a o r := fun h => hP ▸ h
  refine Run.seq ?_
  refine Run.region hL hT [] (by cbv) ?_ ?_
  · exact hq0
  refine Run.seq ?_
  refine Run.seq ?_
  refine Run.region hL hT [] (by cbv) ?_ ?_
  · exact hq0
  refine Run.block ?_
  refine Run.loop1 (fun (z4 : Int) => ⟨20, 100000, [(0, .t (.im false (eRow_i a0))), (1, .t (.s (.int .i64 a1))), (5, .t (.s (.int .i64 z4)))], []⟩) (x0 := 0) h (Weak.of _ [] hA (by cbv) ?_) (fun _ => rfl) ?_
  · repeat (first | exact hq0 | refine hq (by first | exact True.intro | rfl) ?_)
  · intro k z4 h
    rw [spec_RowAt.l0] at h
    refine Run.seq ?_
    refine Run.seq ?_
    refine Run.region hL hT [] (by cbv) ?_ ?_
    · exact (hq trivial hq0)
    rw [show ln (eRow_i a0) = lenI_Row a0 from ln_eq Row_i _]
    refine Run.cond (by cbv) (hq0) (fun c5 => ?_) (fun c5 => ?_)
    · have h := if_t c5 h
      refine Run.skip ?_
      refine Run.seq ?_
      refine Run.block ?_
      refine Run.seq ?_
      obtain ⟨⟨x6v_Id, x6v_Cells⟩, h_x6, h⟩ := bnd h
      refine Run.region hL hT [(2, .el [.s (.int .i64 x6v_Id), .im false (eInt_c x6v_Cells)])] (by cbv) ?_ ?_
      · exact (hq (get_le h_x6) (hq (get_lt (f := Row_i) h_x6) (hq (get_ge (f := Row_i) h_x6) (hq trivial hq0))))
      refine Run.cond (by cbv) (hq0) (fun c7 => ?_) (fun c7 => ?_)
      · have h := if_t c7 h
        refine Run.seq ?_
        refine Run.region hL hT [] (by cbv) ?_ ?_
        · exact hq0
        refine Run.ret ?_
        cases h
        refine ⟨_, _, by cbv, ?_, ?_⟩
        · exact LLe.r
        · exact (ALe.v LLe.r ALe.nil)
      · have h := if_f c7 h
        refine Run.skip ?_
        refine Run.region hL hT [] (by cbv) ?_ ?_
        · exact (hq trivial hq0)
        refine ⟨(ar .add .i64 z4 1), h, Weak.of _ [] hA (by cbv) ?_⟩
        repeat (first | exact hq0 | refine hq (by first | exact True.intro | rfl) ?_)
    · have h := if_f c5 h
      refine Run.exit ?_
      refine Run.seq ?_
      refine Run.region hL hT [] (by cbv) ?_ ?_
      · exact hq0
      refine Run.ret ?_
      cases h
      refine ⟨_, _, by cbv, ?_, ?_⟩
      · exact LLe.r
      · exact (ALe.v LLe.r ALe.nil)

set_option maxRecDepth 8000 in
theorem spec_RowDrop_ac {a0 : List Row} {a1 : Int} {r : (List Row)} (h : spec_RowDrop.f a0 a1 = some r) : AC Try.prog 145 [.v (.im false (rowsOf Row_i a0)), .v (.s (.int .i64 a1))] [.v (.jk), .v (.jk)] [.v (.ow 92 (rowsOf Row_o r))] := by
  unfold spec_RowDrop.f at h
  let ar := Ls.ar; let cm := Ls.cm; let bo := Ls.bo; let sc := Ls.sc; let sa := Ls.sa; let sx := Ls.sx; let ss := Ls.ss; let sl := Ls.sl; let bs := Ls.bs; let sb := Ls.sb; let ln := Ls.ln; let sr := Ls.sr; let ap := Ls.ap; let up := Ls.up; let rp := Ls.rp; let fr := Ls.fr; let ge := Ls.ge; let le := Ls.le; let lt := Ls.lt; let nz := Ls.nz; let mm := Ls.mm; let ma := Ls.ma; let sm := Ls.sm; let fl := Ls.fl; let al := Ls.al
  let eInt_c := rowsOf Int_c
  let eRow_i := rowsOf Row_i
  let eRow_o := rowsOf Row_o
  let lenI_Row := @lenI Row
  have hL : (⟨ar, cm, bo, sc, sa, sx, ss, sl, bs, sb, ln, sr, ap, up, rp, fr, ge, le, lt, nz, mm, ma, sm, fl, al⟩ : Lf) = Ls := rfl
  show AC Try.prog 145 [.v (.im false (eRow_i a0)), .v (.s (.int .i64 a1))] _ _
  refine AC.of_run2 tab_ok Try.func145 (by rfl) (by rfl) (by cbv) ⟨by decide, rfl⟩ fun F hP hA => ?_
  have hT : TabOk F.P tab := hP ▸ tab_ok
  have hM : F.P.follows .mixedOrders = true := hP ▸ mixed
  have hC : ∀ {f a o r}, AC Try.prog f a o r → AC F.P f a o r := fun h => hP ▸ h
  refine Run.seq ?_
  refine Run.region hL hT [] (by cbv) ?_ ?_
  · exact hq0
  refine Run.seq ?_
  obtain ⟨r1, h_r1, h⟩ := bnd h
  refine Run.region hL hT [(2, .call [false, false] [.v (.jk), .v (.jk)] [.v (.s (.int .i64 r1))])] (by cbv) ?_ ?_
  · exact (hq (hC (spec_RowAt_ac h_r1)) hq0)
  refine Run.seq ?_
  refine Run.region hL hT [] (by cbv) ?_ ?_
  · exact hq0
  refine Run.seq ?_
  refine Run.seq ?_
  refine Run.region hL hT [] (by cbv) ?_ ?_
  · exact hq0
  refine Run.block ?_
  refine Run.loop2 (fun (z6 : List Row) (z7 : Int) => ⟨30, 100000, [(0, .t (.im false (eRow_i a0))), (5, .t (.s (.int .i64 r1))), (6, .rf 1), (7, .t (.s (.int .i64 z7)))], [(1, .row 0 92 2 (eRow_o z6))]⟩) (x0 := []) (x1 := 0) h (Weak.of _ [(1, 8192)] hA (by cbv) ?_) (fun _ _ => rfl) ?_
  · repeat (first | exact hq0 | refine hq (by first | exact True.intro | rfl) ?_)
  · intro k z6 z7 h
    rw [spec_RowDrop.l0] at h
    refine Run.seq ?_
    refine Run.seq ?_
    refine Run.region hL hT [] (by cbv) ?_ ?_
    · exact (hq trivial hq0)
    rw [show ln (eRow_i a0) = lenI_Row a0 from ln_eq Row_i _]
    refine Run.cond (by cbv) (hq0) (fun c8 => ?_) (fun c8 => ?_)
    · have h := if_t c8 h
      refine Run.skip ?_
      refine Run.seq ?_
      refine Run.block ?_
      refine Run.seq ?_
      refine Run.region hL hT [] (by cbv) ?_ ?_
      · exact (hq trivial hq0)
      refine Run.cond (by cbv) (hq0) (fun c9 => ?_) (fun c9 => ?_)
      · have h := if_t c9 h
        obtain ⟨⟨x10v_Id, x10v_Cells⟩, h_x10, h⟩ := bnd h
        obtain ⟨⟨r11v_Id, r11v_Cells⟩, h_r11, h⟩ := bnd h
        obtain ⟨l12, h_l12, h⟩ := bnd h
        obtain ⟨l13, h_l13, h⟩ := bnd h
        refine Run.region hL hT [(3, .el [.s (.int .i64 x10v_Id), .im false (eInt_c x10v_Cells)]), (5, .call [false] [.ag [.jk, .jk]] [.ag [.s (.int .i64 r11v_Id), .ow 3 (eInt_c r11v_Cells)]])] (by cbv) ?_ ?_
        · exact (hq (get_le h_x10) (hq (get_lt (f := Row_i) h_x10) (hq (get_ge (f := Row_i) h_x10) (hq (hC (spec_l6Copy_ac h_r11)) (hq (app_mb (P := Try.prog) (f := Row_o) RLe.r (some_le (f := Row_o) h_l12 (RLe.cons rfl LLe.r RLe.nil)) h_l13) hq0)))))
        refine Run.row (rows := (ap (eRow_o z6) ([[.s (.int .i64 r11v_Id), .ow 3 (eInt_c r11v_Cells)]]))) 108199 (eRow_o l13) (by cbv) (app_le (f := Row_o) RLe.r (some_le (f := Row_o) h_l12 (RLe.cons rfl LLe.r RLe.nil)) h_l13) ?_
        refine Run.region hL hT [] (by cbv) ?_ ?_
        · exact (hq trivial hq0)
        refine ⟨l13, (ar .add .i64 z7 1), h, Weak.of _ [(1, 108199)] hA (by cbv) ?_⟩
        repeat (first | exact hq0 | refine hq (by first | exact True.intro | rfl) ?_)
      · have h := if_f c9 h
        refine Run.skip ?_
        refine Run.region hL hT [] (by cbv) ?_ ?_
        · exact (hq trivial hq0)
        refine ⟨z6, (ar .add .i64 z7 1), h, Weak.of _ [(1, 1)] hA (by cbv) ?_⟩
        repeat (first | exact hq0 | refine hq (by first | exact True.intro | rfl) ?_)
    · have h := if_f c8 h
      refine Run.exit ?_
      refine Run.seq ?_
      refine Run.region hL hT [] (by cbv) ?_ ?_
      · exact hq0
      refine Run.ret ?_
      cases h
      refine ⟨_, _, by cbv, ?_, ?_⟩
      · exact LLe.r
      · exact (ALe.v LLe.r ALe.nil)

set_option maxRecDepth 8000 in
theorem spec_l9Cell_ac {a0v_Id : Int} {a0v_Cells : List Int} {a1 : Int} {r : Int} (h : spec_l9Cell.f (Row.mk a0v_Id a0v_Cells) a1 = some r) : AC Try.prog 148 [.ag [.s (.int .i64 a0v_Id), .im false (rowsOf Int_c a0v_Cells)], .v (.s (.int .i64 a1))] [.ag [.jk, .jk], .v (.jk)] [.v (.s (.int .i64 r))] := by
  unfold spec_l9Cell.f at h
  let ar := Ls.ar; let cm := Ls.cm; let bo := Ls.bo; let sc := Ls.sc; let sa := Ls.sa; let sx := Ls.sx; let ss := Ls.ss; let sl := Ls.sl; let bs := Ls.bs; let sb := Ls.sb; let ln := Ls.ln; let sr := Ls.sr; let ap := Ls.ap; let up := Ls.up; let rp := Ls.rp; let fr := Ls.fr; let ge := Ls.ge; let le := Ls.le; let lt := Ls.lt; let nz := Ls.nz; let mm := Ls.mm; let ma := Ls.ma; let sm := Ls.sm; let fl := Ls.fl; let al := Ls.al
  let eInt_c := rowsOf Int_c
  let lenI_Int := @lenI Int
  have hL : (⟨ar, cm, bo, sc, sa, sx, ss, sl, bs, sb, ln, sr, ap, up, rp, fr, ge, le, lt, nz, mm, ma, sm, fl, al⟩ : Lf) = Ls := rfl
  show AC Try.prog 148 [.ag [.s (.int .i64 a0v_Id), .im false (eInt_c a0v_Cells)], .v (.s (.int .i64 a1))] _ _
  refine AC.of_run2 tab_ok Try.func148 (by rfl) (by rfl) (by cbv) ⟨by decide, rfl⟩ fun F hP hA => ?_
  have hT : TabOk F.P tab := hP ▸ tab_ok
  have hM : F.P.follows .mixedOrders = true := hP ▸ mixed
  have hC : ∀ {f a o r}, AC Try.prog f a o r → AC F.P f a o r := fun h => hP ▸ h
  refine Run.seq ?_
  refine Run.region hL hT [] (by cbv) ?_ ?_
  · exact hq0
  refine Run.seq ?_
  refine Run.seq ?_
  obtain ⟨r1, h_r1, h⟩ := bnd h
  refine Run.region hL hT [(5, .call [false, false, false] [.v (.jk), .v (.jk), .v (.jk)] [.v (.s (.bool r1))])] (by cbv) ?_ ?_
  · exact (hq trivial (hq trivial (hq (by rw [show ln (eInt_c a0v_Cells) = lenI_Int a0v_Cells from ln_eq Int_c _]; exact (hC (spec_l1In_ac h_r1))) hq0)))
  rw [show ln (eInt_c a0v_Cells) = lenI_Int a0v_Cells from ln_eq Int_c _]
  refine Run.cond (by cbv) (hq0) (fun c2 => ?_) (fun c2 => ?_)
  · have h := if_t c2 h
    refine Run.seq ?_
    refine Run.region hL hT [] (by cbv) ?_ ?_
    · exact hq0
    refine Run.ret ?_
    cases h
    refine ⟨_, _, by cbv, ?_, ?_⟩
    · exact LLe.r
    · exact (ALe.v LLe.r ALe.nil)
  · have h := if_f c2 h
    refine Run.skip ?_
    refine Run.seq ?_
    obtain ⟨x3, h_x3, h⟩ := bnd h
    refine Run.region hL hT [(3, .el [.s (.int .i64 x3)])] (by cbv) ?_ ?_
    · exact (hq trivial (hq (get_le h_x3) (hq (get_lt (f := Int_c) h_x3) (hq (get_ge (f := Int_c) h_x3) hq0))))
    refine Run.ret ?_
    cases h
    refine ⟨_, _, by cbv, ?_, ?_⟩
    · exact LLe.r
    · exact (ALe.v LLe.r ALe.nil)

set_option maxRecDepth 8000 in
theorem spec_Ahead_ac {a0v_Table : Int} {a0v_Where : List Cond} {a0v_Order : Int} {a0v_Down : Bool} {a0v_First : Int} {a0v_Show : List Int} {a0v_Kids : Bool} {a0v_KidTable : Int} {a0v_KidCol : Int} {a1v_Id : Int} {a1v_Cells : List Int} {a2v_Id : Int} {a2v_Cells : List Int} {r : Bool} (h : spec_Ahead.f (Query.mk a0v_Table a0v_Where a0v_Order a0v_Down a0v_First a0v_Show a0v_Kids a0v_KidTable a0v_KidCol) (Row.mk a1v_Id a1v_Cells) (Row.mk a2v_Id a2v_Cells) = some r) : AC Try.prog 103 [.ag [.s (.int .i64 a0v_Table), .im false (rowsOf Cond_c a0v_Where), .s (.int .i64 a0v_Order), .s (.bool a0v_Down), .s (.int .i64 a0v_First), .im false (rowsOf Int_c a0v_Show), .s (.bool a0v_Kids), .s (.int .i64 a0v_KidTable), .s (.int .i64 a0v_KidCol)], .ag [.s (.int .i64 a1v_Id), .im false (rowsOf Int_c a1v_Cells)], .ag [.s (.int .i64 a2v_Id), .im false (rowsOf Int_c a2v_Cells)]] [.ag [.jk, .jk, .jk, .jk, .jk, .jk, .jk, .jk, .jk], .ag [.jk, .jk], .ag [.jk, .jk]] [.v (.s (.bool r))] := by
  unfold spec_Ahead.f at h
  let ar := Ls.ar; let cm := Ls.cm; let bo := Ls.bo; let sc := Ls.sc; let sa := Ls.sa; let sx := Ls.sx; let ss := Ls.ss; let sl := Ls.sl; let bs := Ls.bs; let sb := Ls.sb; let ln := Ls.ln; let sr := Ls.sr; let ap := Ls.ap; let up := Ls.up; let rp := Ls.rp; let fr := Ls.fr; let ge := Ls.ge; let le := Ls.le; let lt := Ls.lt; let nz := Ls.nz; let mm := Ls.mm; let ma := Ls.ma; let sm := Ls.sm; let fl := Ls.fl; let al := Ls.al
  let eCond_c := rowsOf Cond_c
  let eInt_c := rowsOf Int_c
  have hL : (⟨ar, cm, bo, sc, sa, sx, ss, sl, bs, sb, ln, sr, ap, up, rp, fr, ge, le, lt, nz, mm, ma, sm, fl, al⟩ : Lf) = Ls := rfl
  show AC Try.prog 103 [.ag [.s (.int .i64 a0v_Table), .im false (eCond_c a0v_Where), .s (.int .i64 a0v_Order), .s (.bool a0v_Down), .s (.int .i64 a0v_First), .im false (eInt_c a0v_Show), .s (.bool a0v_Kids), .s (.int .i64 a0v_KidTable), .s (.int .i64 a0v_KidCol)], .ag [.s (.int .i64 a1v_Id), .im false (eInt_c a1v_Cells)], .ag [.s (.int .i64 a2v_Id), .im false (eInt_c a2v_Cells)]] _ _
  refine AC.of_run2 tab_ok Try.func103 (by rfl) (by rfl) (by cbv) ⟨by decide, rfl⟩ fun F hP hA => ?_
  have hT : TabOk F.P tab := hP ▸ tab_ok
  have hM : F.P.follows .mixedOrders = true := hP ▸ mixed
  have hC : ∀ {f a o r}, AC Try.prog f a o r → AC F.P f a o r := fun h => hP ▸ h
  refine Run.seq ?_
  refine Run.region hL hT [] (by cbv) ?_ ?_
  · exact hq0
  refine Run.seq ?_
  refine Run.seq ?_
  refine Run.region hL hT [] (by cbv) ?_ ?_
  · exact (hq trivial (hq trivial hq0))
  refine Run.cond (by cbv) (hq0) (fun c1 => ?_) (fun c1 => ?_)
  · have h := if_t c1 h
    refine Run.seq ?_
    obtain ⟨r2, h_r2, h⟩ := bnd h
    obtain ⟨r3, h_r3, h⟩ := bnd h
    refine Run.draw hL hT hM [(4, .call [false, false] [.ag [.jk, .jk], .v (.jk)] [.v (.s (.int .i64 r2))]), (9, .call [false, false] [.ag [.jk, .jk], .v (.jk)] [.v (.s (.int .i64 r3))])] (by cbv) (by cbv) (by cbv) (by cbv) (by cbv) ?_ ?_
    · exact (hq trivial (hq trivial (hq trivial (hq (hC (spec_l9Cell_ac h_r2)) (hq trivial (hq trivial (hq trivial (hq (hC (spec_l9Cell_ac h_r3)) hq0))))))))
    refine Run.seq ?_
    refine Run.region hL hT [] (by cbv) ?_ ?_
    · exact (hq trivial hq0)
    refine Run.cond (by cbv) (hq0) (fun c4 => ?_) (fun c4 => ?_)
    · have h := if_t c4 h
      refine Run.seq ?_
      refine Run.region hL hT [] (by cbv) ?_ ?_
      · exact (hq trivial (hq trivial hq0))
      refine Run.ret ?_
      cases h
      refine ⟨_, _, by cbv, ?_, ?_⟩
      · exact LLe.r
      · exact (ALe.v LLe.r ALe.nil)
    · have h := if_f c4 h
      refine Run.skip ?_
      refine Run.seq ?_
      refine Run.region hL hT [] (by cbv) ?_ ?_
      · exact (hq trivial (hq trivial (hq trivial hq0)))
      refine Run.ret ?_
      cases h
      refine ⟨_, _, by cbv, ?_, ?_⟩
      · exact LLe.r
      · exact (ALe.v LLe.r ALe.nil)
  · have h := if_f c1 h
    refine Run.skip ?_
    refine Run.seq ?_
    refine Run.region hL hT [] (by cbv) ?_ ?_
    · exact (hq trivial (hq trivial (hq trivial hq0)))
    refine Run.ret ?_
    cases h
    refine ⟨_, _, by cbv, ?_, ?_⟩
    · exact LLe.r
    · exact (ALe.v LLe.r ALe.nil)

set_option maxRecDepth 8000 in
theorem spec_l11Put_ac {a0v_Table : Int} {a0v_Where : List Cond} {a0v_Order : Int} {a0v_Down : Bool} {a0v_First : Int} {a0v_Show : List Int} {a0v_Kids : Bool} {a0v_KidTable : Int} {a0v_KidCol : Int} {a1 : List Row} {a2v_Id : Int} {a2v_Cells : List Int} {r : (List Row)} (h : spec_l11Put.f (Query.mk a0v_Table a0v_Where a0v_Order a0v_Down a0v_First a0v_Show a0v_Kids a0v_KidTable a0v_KidCol) a1 (Row.mk a2v_Id a2v_Cells) = some r) : AC Try.prog 146 [.ag [.s (.int .i64 a0v_Table), .im false (rowsOf Cond_c a0v_Where), .s (.int .i64 a0v_Order), .s (.bool a0v_Down), .s (.int .i64 a0v_First), .im false (rowsOf Int_c a0v_Show), .s (.bool a0v_Kids), .s (.int .i64 a0v_KidTable), .s (.int .i64 a0v_KidCol)], .v (.ow 92 (rowsOf Row_o a1)), .ag [.s (.int .i64 a2v_Id), .im false (rowsOf Int_c a2v_Cells)]] [.ag [.jk, .jk, .jk, .jk, .jk, .jk, .jk, .jk, .jk], .v (.jk), .ag [.jk, .jk]] [.v (.ow 92 (rowsOf Row_o r))] := by
  unfold spec_l11Put.f at h
  let ar := Ls.ar; let cm := Ls.cm; let bo := Ls.bo; let sc := Ls.sc; let sa := Ls.sa; let sx := Ls.sx; let ss := Ls.ss; let sl := Ls.sl; let bs := Ls.bs; let sb := Ls.sb; let ln := Ls.ln; let sr := Ls.sr; let ap := Ls.ap; let up := Ls.up; let rp := Ls.rp; let fr := Ls.fr; let ge := Ls.ge; let le := Ls.le; let lt := Ls.lt; let nz := Ls.nz; let mm := Ls.mm; let ma := Ls.ma; let sm := Ls.sm; let fl := Ls.fl; let al := Ls.al
  let eCond_c := rowsOf Cond_c
  let eInt_c := rowsOf Int_c
  let eRow_o := rowsOf Row_o
  let lenI_Row := @lenI Row
  let jp := jpR
  have hL : (⟨ar, cm, bo, sc, sa, sx, ss, sl, bs, sb, ln, sr, ap, up, rp, fr, ge, le, lt, nz, mm, ma, sm, fl, al⟩ : Lf) = Ls := rfl
  show AC Try.prog 146 [.ag [.s (.int .i64 a0v_Table), .im false (eCond_c a0v_Where), .s (.int .i64 a0v_Order), .s (.bool a0v_Down), .s (.int .i64 a0v_First), .im false (eInt_c a0v_Show), .s (.bool a0v_Kids), .s (.int .i64 a0v_KidTable), .s (.int .i64 a0v_KidCol)], .v (.ow 92 (eRow_o a1)), .ag [.s (.int .i64 a2v_Id), .im false (eInt_c a2v_Cells)]] _ _
  refine AC.of_run2 tab_ok Try.func146 (by rfl) (by rfl) (by cbv) ⟨by decide, rfl⟩ fun F hP hA => ?_
  have hT : TabOk F.P tab := hP ▸ tab_ok
  have hM : F.P.follows .mixedOrders = true := hP ▸ mixed
  have hC : ∀ {f a o r}, AC Try.prog f a o r → AC F.P f a o r := fun h => hP ▸ h
  refine Run.seq ?_
  refine Run.region hL hT [] (by cbv) ?_ ?_
  · exact hq0
  refine Run.seq ?_
  refine Run.region hL hT [] (by cbv) ?_ ?_
  · exact hq0
  refine Run.seq ?_
  refine Run.region hL hT [] (by cbv) ?_ ?_
  · exact hq0
  obtain ⟨K4, h_K4, h⟩ := joinE h
  refine Run.join3 K4 (r := r) (fun (y1 : List Row) (y2 : Bool) (y3 : Int) => ⟨48, 100000, [(5, .pt 1 0 0), (7, .rf 2), (8, .t (.s (.bool y2)))], [(0, .row 0 92 2 ((jp y3 (eRow_o a1)))), (1, .box 92 [.t (.s (.int .i64 a2v_Id)), .t (.im false (eInt_c a2v_Cells))]), (2, .row 0 92 2 (eRow_o y1))]⟩) ?_ ?_
  · skip
    refine Run.seq ?_
    refine Run.region hL hT [] (by cbv) ?_ ?_
    · exact hq0
    refine Run.block ?_
    refine Run.loop3 (fun (z20 : List Row) (z21 : Bool) (z22 : Int) => ⟨48, 100000, [(1, .rf 0), (3, .pt 1 0 0), (5, .pt 2 0 0), (7, .rf 3), (8, .t (.s (.bool z21))), (9, .t (.s (.int .i64 z22)))], [(0, .row 0 92 2 ((jp z22 (eRow_o a1)))), (1, .box 41 [.t (.s (.int .i64 a0v_Table)), .t (.im false (eCond_c a0v_Where)), .t (.s (.int .i64 a0v_Order)), .t (.s (.bool a0v_Down)), .t (.s (.int .i64 a0v_First)), .t (.im false (eInt_c a0v_Show)), .t (.s (.bool a0v_Kids)), .t (.s (.int .i64 a0v_KidTable)), .t (.s (.int .i64 a0v_KidCol))]), (2, .box 92 [.t (.s (.int .i64 a2v_Id)), .t (.im false (eInt_c a2v_Cells))]), (3, .row 0 92 2 (eRow_o z20))]⟩) (x0 := []) (x1 := false) (x2 := 0) h ((Weak.row (rows := eRow_o a1) 0 (jp 0 (eRow_o a1)) (by cbv) (RLe.eq (jp_0 _).symm)).trans (Weak.of _ [(0, 0), (1, 1), (2, 2), (3, 4097)] hA (by cbv) ?_)) (fun _ _ _ => rfl) ?_
    · repeat (first | exact hq0 | refine hq (by first | exact True.intro | rfl) ?_)
    · intro k z20 z21 z22 h
      rw [spec_l11Put.l0] at h
      refine Run.seq ?_
      refine Run.seq ?_
      refine Run.region hL hT [] (by cbv) ?_ ?_
      · exact (hq trivial hq0)
      rw [show ln (jp z22 (eRow_o a1)) = lenI_Row a1 from jp_ln (f := Row_o) _ _]
      refine Run.cond (by cbv) (hq0) (fun c23 => ?_) (fun c23 => ?_)
      · have h := if_t c23 h
        refine Run.skip ?_
        refine Run.seq ?_
        refine Run.block ?_
        refine Run.seq ?_
        refine Run.seq ?_
        obtain ⟨⟨x24v_Id, x24v_Cells⟩, h_x24, h⟩ := bnd h
        obtain ⟨r25, h_r25, h⟩ := bnd h
        refine Run.draw hL hT hM [(8, .el [.s (.int .i64 x24v_Id), .ow 3 (eInt_c x24v_Cells)]), (9, .call [false, false, false] [.ag [.jk, .jk, .jk, .jk, .jk, .jk, .jk, .jk, .jk], .ag [.jk, .jk], .ag [.jk, .jk]] [.v (.s (.bool r25))])] (by cbv) (by cbv) (by cbv) (by cbv) (by cbv) ?_ ?_
        · exact (hq (fun g26 => (hq trivial hq0)) (hq (fun g27 => (hq trivial hq0)) (hq (fun _ => hq0) (hq (fun _ => hq0) (hq (fun g30 => (hq g30 (hq g30 (hq (get_le (gd_t h_x24 g30)) (hq (jp_lt (f := Row_o) (gd_t h_x24 g30)) hq0))))) (hq (fun g31 => (hq g31 (hq (get_le (gd_t h_x24 g31)) (hq (jp_lt (f := Row_o) (gd_t h_x24 g31)) (hq (jp_ge (f := Row_o) (gd_t h_x24 g31)) hq0))))) (hq (fun g32 => (hq g32 (hq g32 (hq g32 (hq (hC (AC.args (spec_Ahead_ac (gd_t h_r25 g32)) (ALe.ag rfl LLe.r (ALe.ag rfl LLe.r (ALe.ag rfl (LLe.c (LLe.cons (LLe.im (RLe.eq (fr_row Int_c_z _))) LLe.nil)) ALe.nil))))) hq0))))) (hq (fun q33 => (hq q33 hq0)) (hq (fun _ => hq0) hq0)))))))))
        refine Run.cond (by cbv) (hq0) (fun c35 => ?_) (fun c35 => ?_)
        · have h := if_t c35 h
          refine Run.seq ?_
          obtain ⟨⟨r36v_Id, r36v_Cells⟩, h_r36, h⟩ := bnd h
          obtain ⟨l37, h_l37, h⟩ := bnd h
          obtain ⟨l38, h_l38, h⟩ := bnd h
          refine Run.region hL hT [(2, .call [false] [.ag [.jk, .jk]] [.ag [.s (.int .i64 r36v_Id), .ow 3 (eInt_c r36v_Cells)]])] (by cbv) ?_ ?_
          · exact (hq trivial (hq (hC (spec_l6Copy_ac h_r36)) (hq (app_mb (P := Try.prog) (f := Row_o) RLe.r (some_le (f := Row_o) h_l37 (RLe.cons rfl LLe.r RLe.nil)) h_l38) hq0)))
          refine Run.row (rows := (ap (eRow_o z20) ([[.s (.int .i64 r36v_Id), .ow 3 (eInt_c r36v_Cells)]]))) 108196 (eRow_o l38) (by cbv) (app_le (f := Row_o) RLe.r (some_le (f := Row_o) h_l37 (RLe.cons rfl LLe.r RLe.nil)) h_l38) ?_
          refine Run.region hL hT [] (by cbv) ?_ ?_
          · exact hq0
          obtain ⟨⟨x39v_Id, x39v_Cells⟩, h_x39, h⟩ := bnd h
          obtain ⟨u40, h_u40, h⟩ := bnd h
          obtain ⟨l41, h_l41, h⟩ := bnd h
          obtain ⟨l42, h_l42, h⟩ := bnd h
          refine Run.weak ?_ (Weak.take (rows := (jp z22 (eRow_o a1))) (e2 := 3) (r2 := eInt_c x39v_Cells) hT 0 z22 1 119384 1119384 (by cbv) (by cbv) (by cbv) (get_le' h_x39) (jp_lt' Row_o h_x39) ((congrArg (fun q => q[1]?) (jp_ge (f := Row_o) h_x39)).trans rfl) rfl (up (jp z22 (eRow_o a1)) z22 1 [.jk]) rfl)
          refine Run.region hL hT [(4, .lk [.s (.int .i64 x39v_Id), .jk] [(1, 1119384)])] (by cbv) ?_ ?_
          · exact (hq (get_le h_x39) (hq (jpu_lt Row_o h_x39) (hq trivial (hq (get_le h_x39) (hq (jpu_lt Row_o h_x39) (hq (jpu_ge Row_o h_x39) (hq (app_mb (P := Try.prog) (f := Row_o) RLe.r (some_le (f := Row_o) h_l41 (RLe.cons rfl LLe.r RLe.nil)) h_l42) hq0)))))))
          refine Run.weak ?_ (Weak.row (rows := (up (jp z22 (eRow_o a1)) z22 1 [.jk])) 0 (jp (ar .add .i64 z22 1) (eRow_o a1)) (by cbv) (jp_step (f := Row_o) h_x39 h_u40 (ltn (Row_o_n _) (by decide))))
          refine Run.row (rows := (ap (eRow_o l38) ([[.s (.int .i64 x39v_Id), .ow 3 (eInt_c x39v_Cells)]]))) 116390 (eRow_o l42) (by cbv) (app_le (f := Row_o) RLe.r (some_le (f := Row_o) h_l41 (RLe.cons rfl LLe.r RLe.nil)) h_l42) ?_
          refine Run.region hL hT [] (by cbv) ?_ ?_
          · exact (hq trivial hq0)
          refine ⟨l42, true, (ar .add .i64 z22 1), h, Weak.of _ [(0, 0), (1, 1), (2, 2), (3, 116390)] hA (by cbv) ?_⟩
          repeat (first | exact hq0 | refine hq (by first | exact True.intro | rfl) ?_)
        · have h := if_f c35 h
          refine Run.skip ?_
          obtain ⟨⟨x43v_Id, x43v_Cells⟩, h_x43, h⟩ := bnd h
          obtain ⟨u44, h_u44, h⟩ := bnd h
          obtain ⟨l45, h_l45, h⟩ := bnd h
          obtain ⟨l46, h_l46, h⟩ := bnd h
          refine Run.weak ?_ (Weak.take (rows := (jp z22 (eRow_o a1))) (e2 := 3) (r2 := eInt_c x43v_Cells) hT 0 z22 1 111192 1111192 (by cbv) (by cbv) (by cbv) (get_le' h_x43) (jp_lt' Row_o h_x43) ((congrArg (fun q => q[1]?) (jp_ge (f := Row_o) h_x43)).trans rfl) rfl (up (jp z22 (eRow_o a1)) z22 1 [.jk]) rfl)
          refine Run.region hL hT [(4, .lk [.s (.int .i64 x43v_Id), .jk] [(1, 1111192)])] (by cbv) ?_ ?_
          · exact (hq (get_le h_x43) (hq (jpu_lt Row_o h_x43) (hq trivial (hq (get_le h_x43) (hq (jpu_lt Row_o h_x43) (hq (jpu_ge Row_o h_x43) (hq (app_mb (P := Try.prog) (f := Row_o) RLe.r (some_le (f := Row_o) h_l45 (RLe.cons rfl LLe.r RLe.nil)) h_l46) hq0)))))))
          refine Run.weak ?_ (Weak.row (rows := (up (jp z22 (eRow_o a1)) z22 1 [.jk])) 0 (jp (ar .add .i64 z22 1) (eRow_o a1)) (by cbv) (jp_step (f := Row_o) h_x43 h_u44 (ltn (Row_o_n _) (by decide))))
          refine Run.row (rows := (ap (eRow_o z20) ([[.s (.int .i64 x43v_Id), .ow 3 (eInt_c x43v_Cells)]]))) 108198 (eRow_o l46) (by cbv) (app_le (f := Row_o) RLe.r (some_le (f := Row_o) h_l45 (RLe.cons rfl LLe.r RLe.nil)) h_l46) ?_
          refine Run.region hL hT [] (by cbv) ?_ ?_
          · exact (hq trivial hq0)
          refine ⟨l46, z21, (ar .add .i64 z22 1), h, Weak.of _ [(0, 0), (1, 1), (2, 2), (3, 108198)] hA (by cbv) ?_⟩
          repeat (first | exact hq0 | refine hq (by first | exact True.intro | rfl) ?_)
      · have h := if_f c23 h
        refine Run.exit ?_
        refine ⟨z20, z21, z22, h, Weak.of _ [(0, 0), (1, 2), (2, 3)] hA (by cbv) ?_⟩
        repeat (first | exact hq0 | refine hq (by first | exact True.intro | rfl) ?_)
  · intro y1 y2 y3 h
    rw [h_K4] at h
    refine Run.seq ?_
    refine Run.seq ?_
    refine Run.region hL hT [] (by cbv) ?_ ?_
    · exact hq0
    refine Run.cond (by cbv) (hq0) (fun c47 => ?_) (fun c47 => ?_)
    · have h := if_t c47 h
      obtain ⟨⟨r48v_Id, r48v_Cells⟩, h_r48, h⟩ := bnd h
      obtain ⟨l49, h_l49, h⟩ := bnd h
      obtain ⟨l50, h_l50, h⟩ := bnd h
      refine Run.region hL hT [(2, .call [false] [.ag [.jk, .jk]] [.ag [.s (.int .i64 r48v_Id), .ow 3 (eInt_c r48v_Cells)]])] (by cbv) ?_ ?_
      · exact (hq trivial (hq (hC (spec_l6Copy_ac h_r48)) (hq (app_mb (P := Try.prog) (f := Row_o) RLe.r (some_le (f := Row_o) h_l49 (RLe.cons rfl LLe.r RLe.nil)) h_l50) hq0)))
      refine Run.row (rows := (ap (eRow_o y1) ([[.s (.int .i64 r48v_Id), .ow 3 (eInt_c r48v_Cells)]]))) 104100 (eRow_o l50) (by cbv) (app_le (f := Row_o) RLe.r (some_le (f := Row_o) h_l49 (RLe.cons rfl LLe.r RLe.nil)) h_l50) ?_
      refine Run.seq ?_
      refine Run.region hL hT [] (by cbv) ?_ ?_
      · exact hq0
      refine Run.ret ?_
      cases h
      refine ⟨_, _, by cbv, ?_, ?_⟩
      · exact (LLe.c (LLe.c (LLe.c (LLe.c (LLe.c (LLe.c (LLe.c (LLe.c (LLe.c (LLe.cons LLe.jk (LLe.c (LLe.c LLe.nil))))))))))))
      · exact (ALe.v LLe.r ALe.nil)
    · have h := if_f c47 h
      refine Run.skip ?_
      refine Run.seq ?_
      refine Run.region hL hT [] (by cbv) ?_ ?_
      · exact hq0
      refine Run.ret ?_
      cases h
      refine ⟨_, _, by cbv, ?_, ?_⟩
      · exact (LLe.c (LLe.c (LLe.c (LLe.c (LLe.c (LLe.c (LLe.c (LLe.c (LLe.c (LLe.cons LLe.jk (LLe.c (LLe.c LLe.nil))))))))))))
      · exact (ALe.v LLe.r ALe.nil)

set_option maxRecDepth 8000 in
theorem spec_KidPut_ac {a0 : List Kid} {a1 : Int} {a2 : Int} {r : (List Kid)} (h : spec_KidPut.f a0 a1 a2 = some r) : AC Try.prog 147 [.v (.im false (rowsOf Kid_c a0)), .v (.s (.int .i64 a1)), .v (.s (.int .i64 a2))] [.v (.jk), .v (.jk), .v (.jk)] [.v (.ow 153 (rowsOf Kid_c r))] := by
  unfold spec_KidPut.f at h
  let ar := Ls.ar; let cm := Ls.cm; let bo := Ls.bo; let sc := Ls.sc; let sa := Ls.sa; let sx := Ls.sx; let ss := Ls.ss; let sl := Ls.sl; let bs := Ls.bs; let sb := Ls.sb; let ln := Ls.ln; let sr := Ls.sr; let ap := Ls.ap; let up := Ls.up; let rp := Ls.rp; let fr := Ls.fr; let ge := Ls.ge; let le := Ls.le; let lt := Ls.lt; let nz := Ls.nz; let mm := Ls.mm; let ma := Ls.ma; let sm := Ls.sm; let fl := Ls.fl; let al := Ls.al
  let eKid_c := rowsOf Kid_c
  let lenI_Kid := @lenI Kid
  have hL : (⟨ar, cm, bo, sc, sa, sx, ss, sl, bs, sb, ln, sr, ap, up, rp, fr, ge, le, lt, nz, mm, ma, sm, fl, al⟩ : Lf) = Ls := rfl
  show AC Try.prog 147 [.v (.im false (eKid_c a0)), .v (.s (.int .i64 a1)), .v (.s (.int .i64 a2))] _ _
  refine AC.of_run2 tab_ok Try.func147 (by rfl) (by rfl) (by cbv) ⟨by decide, rfl⟩ fun F hP hA => ?_
  have hT : TabOk F.P tab := hP ▸ tab_ok
  have hM : F.P.follows .mixedOrders = true := hP ▸ mixed
  have hC : ∀ {f a o r}, AC Try.prog f a o r → AC F.P f a o r := fun h => hP ▸ h
  refine Run.seq ?_
  refine Run.region hL hT [] (by cbv) ?_ ?_
  · exact hq0
  refine Run.seq ?_
  refine Run.region hL hT [] (by cbv) ?_ ?_
  · exact hq0
  refine Run.seq ?_
  refine Run.region hL hT [] (by cbv) ?_ ?_
  · exact hq0
  obtain ⟨K3, h_K3, h⟩ := joinE h
  refine Run.join2 K3 (r := r) (fun (y1 : List Kid) (y2 : Bool) => ⟨69, 100000, [(1, .t (.s (.int .i64 a1))), (2, .t (.s (.int .i64 a2))), (7, .rf 1), (8, .t (.s (.bool y2)))], [(1, .row 0 153 2 (eKid_c y1))]⟩) ?_ ?_
  · skip
    refine Run.seq ?_
    refine Run.region hL hT [] (by cbv) ?_ ?_
    · exact hq0
    refine Run.block ?_
    refine Run.loop3 (fun (z10 : List Kid) (z11 : Bool) (z12 : Int) => ⟨69, 100000, [(0, .t (.im false (eKid_c a0))), (1, .t (.s (.int .i64 a1))), (2, .t (.s (.int .i64 a2))), (7, .rf 1), (8, .t (.s (.bool z11))), (9, .t (.s (.int .i64 z12)))], [(1, .row 0 153 2 (eKid_c z10))]⟩) (x0 := []) (x1 := false) (x2 := 0) h (Weak.of _ [(1, 4096)] hA (by cbv) ?_) (fun _ _ _ => rfl) ?_
    · repeat (first | exact hq0 | refine hq (by first | exact True.intro | rfl) ?_)
    · intro k z10 z11 z12 h
      rw [spec_KidPut.l0] at h
      refine Run.seq ?_
      refine Run.seq ?_
      refine Run.region hL hT [] (by cbv) ?_ ?_
      · exact (hq trivial hq0)
      rw [show ln (eKid_c a0) = lenI_Kid a0 from ln_eq Kid_c _]
      refine Run.cond (by cbv) (hq0) (fun c13 => ?_) (fun c13 => ?_)
      · have h := if_t c13 h
        refine Run.skip ?_
        refine Run.seq ?_
        refine Run.block ?_
        refine Run.seq ?_
        obtain ⟨⟨x14v_Id, x14v_N⟩, h_x14, h⟩ := bnd h
        refine Run.region hL hT [(2, .el [.s (.int .i64 x14v_Id), .s (.int .i64 x14v_N)])] (by cbv) ?_ ?_
        · exact (hq (get_le h_x14) (hq (get_lt (f := Kid_c) h_x14) (hq (get_ge (f := Kid_c) h_x14) (hq trivial hq0))))
        refine Run.seq ?_
        refine Run.seq ?_
        refine Run.region hL hT [] (by cbv) ?_ ?_
        · exact (hq (fun _ => hq0) (hq (fun g16 => (hq g16 (hq trivial hq0))) (hq (fun _ => hq0) (hq (fun g18 => (hq g18 (hq g18 (hq trivial hq0)))) (hq (fun q19 => (hq q19 hq0)) (hq (fun _ => hq0) hq0))))))
        refine Run.cond (by cbv) (hq0) (fun c21 => ?_) (fun c21 => ?_)
        · have h := if_t c21 h
          refine Run.seq ?_
          refine Run.region hL hT [] (by cbv) ?_ ?_
          · exact hq0
          obtain ⟨K23, h_K23, h⟩ := joinE h
          refine Run.join1 K23 (r := r) (fun (y22 : Int) => ⟨69, 100000, [(0, .t (.im false (eKid_c a0))), (1, .t (.s (.int .i64 a1))), (2, .t (.s (.int .i64 a2))), (7, .rf 1), (9, .t (.s (.int .i64 z12))), (10, .pt 2 0 0), (11, .t (.s (.int .i64 y22)))], [(1, .row 0 153 2 (eKid_c z10)), (2, .box 153 [.t (.s (.int .i64 x14v_Id)), .t (.s (.int .i64 x14v_N))])]⟩) ?_ ?_
          · skip
            refine Run.seq ?_
            refine Run.region hL hT [] (by cbv) ?_ ?_
            · exact (hq trivial (hq trivial hq0))
            refine Run.cond (by cbv) (hq0) (fun c24 => ?_) (fun c24 => ?_)
            · have h := if_t c24 h
              refine Run.region hL hT [] (by cbv) ?_ ?_
              · exact (hq trivial (hq trivial hq0))
              refine ⟨(ar .add .i64 x14v_N a2), h, Weak.of _ [(1, 1), (2, 104100)] hA (by cbv) ?_⟩
              repeat (first | exact hq0 | refine hq (by first | exact True.intro | rfl) ?_)
            · have h := if_f c24 h
              refine Run.skip ?_
              refine ⟨a2, h, Weak.of _ [(1, 1), (2, 104100)] hA (by cbv) ?_⟩
              repeat (first | exact hq0 | refine hq (by first | exact True.intro | rfl) ?_)
          · intro y22 h
            rw [h_K23] at h
            obtain ⟨K26, h_K26, h⟩ := joinE h
            refine Run.join1 K26 (r := r) (fun (y25 : List Kid) => ⟨69, 100000, [(0, .t (.im false (eKid_c a0))), (1, .t (.s (.int .i64 a1))), (2, .t (.s (.int .i64 a2))), (7, .rf 1), (9, .t (.s (.int .i64 z12))), (10, .pt 2 0 0)], [(1, .row 0 153 2 (eKid_c y25)), (2, .box 153 [.t (.s (.int .i64 x14v_Id)), .t (.s (.int .i64 x14v_N))])]⟩) ?_ ?_
            · skip
              refine Run.seq ?_
              refine Run.region hL hT [] (by cbv) ?_ ?_
              · exact (hq trivial hq0)
              refine Run.cond (by cbv) (hq0) (fun c27 => ?_) (fun c27 => ?_)
              · have h := if_t c27 h
                obtain ⟨l28, h_l28, h⟩ := bnd h
                obtain ⟨l29, h_l29, h⟩ := bnd h
                refine Run.region hL hT [] (by cbv) ?_ ?_
                · exact (hq (app_mb (P := Try.prog) (f := Kid_c) RLe.r (some_le (f := Kid_c) h_l28 (RLe.cons rfl LLe.r RLe.nil)) h_l29) hq0)
                refine ⟨l29, h, (Weak.row (rows := (ap (eKid_c z10) ([[.s (.int .i64 a1), .s (.int .i64 y22)]]))) 104101 (eKid_c l29) (by cbv) (app_le (f := Kid_c) RLe.r (some_le (f := Kid_c) h_l28 (RLe.cons rfl LLe.r RLe.nil)) h_l29)).trans (Weak.of _ [(1, 104101), (2, 2)] hA (by cbv) ?_)⟩
                repeat (first | exact hq0 | refine hq (by first | exact True.intro | rfl) ?_)
              · have h := if_f c27 h
                refine Run.skip ?_
                refine ⟨z10, h, Weak.of _ [(1, 1), (2, 2)] hA (by cbv) ?_⟩
                repeat (first | exact hq0 | refine hq (by first | exact True.intro | rfl) ?_)
            · intro y25 h
              rw [h_K26] at h
              refine Run.seq ?_
              refine Run.region hL hT [] (by cbv) ?_ ?_
              · exact hq0
              refine Run.seq ?_
              refine Run.region hL hT [] (by cbv) ?_ ?_
              · exact (hq trivial (hq trivial hq0))
              refine Run.cond (by cbv) (hq0) (fun c30 => ?_) (fun c30 => ?_)
              · have h := if_t c30 h
                refine Run.exit ?_
                refine Run.region hL hT [] (by cbv) ?_ ?_
                · exact (hq trivial hq0)
                refine ⟨y25, true, (ar .add .i64 z12 1), h, Weak.of _ [(1, 1)] hA (by cbv) ?_⟩
                repeat (first | exact hq0 | refine hq (by first | exact True.intro | rfl) ?_)
              · have h := if_f c30 h
                refine Run.skip ?_
                obtain ⟨l31, h_l31, h⟩ := bnd h
                obtain ⟨l32, h_l32, h⟩ := bnd h
                refine Run.region hL hT [] (by cbv) ?_ ?_
                · exact (hq trivial (hq (app_mb (P := Try.prog) (f := Kid_c) RLe.r (some_le (f := Kid_c) h_l31 (RLe.cons rfl LLe.r RLe.nil)) h_l32) hq0))
                refine Run.row (rows := (ap (eKid_c y25) ([[.s (.int .i64 x14v_Id), .s (.int .i64 x14v_N)]]))) 108195 (eKid_c l32) (by cbv) (app_le (f := Kid_c) RLe.r (some_le (f := Kid_c) h_l31 (RLe.cons rfl LLe.r RLe.nil)) h_l32) ?_
                refine Run.region hL hT [] (by cbv) ?_ ?_
                · exact (hq trivial hq0)
                refine ⟨l32, true, (ar .add .i64 z12 1), h, Weak.of _ [(1, 108195)] hA (by cbv) ?_⟩
                repeat (first | exact hq0 | refine hq (by first | exact True.intro | rfl) ?_)
        · have h := if_f c21 h
          refine Run.skip ?_
          obtain ⟨l33, h_l33, h⟩ := bnd h
          obtain ⟨l34, h_l34, h⟩ := bnd h
          refine Run.region hL hT [] (by cbv) ?_ ?_
          · exact (hq trivial (hq (app_mb (P := Try.prog) (f := Kid_c) RLe.r (some_le (f := Kid_c) h_l33 (RLe.cons rfl LLe.r RLe.nil)) h_l34) hq0))
          refine Run.row (rows := (ap (eKid_c z10) ([[.s (.int .i64 x14v_Id), .s (.int .i64 x14v_N)]]))) 112291 (eKid_c l34) (by cbv) (app_le (f := Kid_c) RLe.r (some_le (f := Kid_c) h_l33 (RLe.cons rfl LLe.r RLe.nil)) h_l34) ?_
          refine Run.region hL hT [] (by cbv) ?_ ?_
          · exact (hq trivial hq0)
          refine ⟨l34, z11, (ar .add .i64 z12 1), h, Weak.of _ [(1, 112291)] hA (by cbv) ?_⟩
          repeat (first | exact hq0 | refine hq (by first | exact True.intro | rfl) ?_)
      · have h := if_f c13 h
        refine Run.exit ?_
        refine ⟨z10, z11, h, Weak.of _ [(1, 1)] hA (by cbv) ?_⟩
        repeat (first | exact hq0 | refine hq (by first | exact True.intro | rfl) ?_)
  · intro y1 y2 h
    rw [h_K3] at h
    refine Run.seq ?_
    refine Run.seq ?_
    refine Run.region hL hT [] (by cbv) ?_ ?_
    · exact (hq (fun _ => hq0) (hq (fun g36 => (hq g36 (hq trivial hq0))) (hq (fun q37 => (hq q37 hq0)) (hq (fun _ => hq0) hq0))))
    refine Run.cond (by cbv) (hq0) (fun c39 => ?_) (fun c39 => ?_)
    · have h := if_t c39 h
      obtain ⟨l40, h_l40, h⟩ := bnd h
      obtain ⟨l41, h_l41, h⟩ := bnd h
      refine Run.region hL hT [] (by cbv) ?_ ?_
      · exact (hq (app_mb (P := Try.prog) (f := Kid_c) RLe.r (some_le (f := Kid_c) h_l40 (RLe.cons rfl LLe.r RLe.nil)) h_l41) hq0)
      refine Run.row (rows := (ap (eKid_c y1) ([[.s (.int .i64 a1), .s (.int .i64 a2)]]))) 104101 (eKid_c l41) (by cbv) (app_le (f := Kid_c) RLe.r (some_le (f := Kid_c) h_l40 (RLe.cons rfl LLe.r RLe.nil)) h_l41) ?_
      refine Run.seq ?_
      refine Run.region hL hT [] (by cbv) ?_ ?_
      · exact hq0
      refine Run.ret ?_
      cases h
      refine ⟨_, _, by cbv, ?_, ?_⟩
      · exact LLe.r
      · exact (ALe.v LLe.r ALe.nil)
    · have h := if_f c39 h
      refine Run.skip ?_
      refine Run.seq ?_
      refine Run.region hL hT [] (by cbv) ?_ ?_
      · exact hq0
      refine Run.ret ?_
      cases h
      refine ⟨_, _, by cbv, ?_, ?_⟩
      · exact LLe.r
      · exact (ALe.v LLe.r ALe.nil)

set_option maxRecDepth 8000 in
theorem spec_ViewChange_ac {a0v_Qv_Table : Int} {a0v_Qv_Where : List Cond} {a0v_Qv_Order : Int} {a0v_Qv_Down : Bool} {a0v_Qv_First : Int} {a0v_Qv_Show : List Int} {a0v_Qv_Kids : Bool} {a0v_Qv_KidTable : Int} {a0v_Qv_KidCol : Int} {a0v_Rows : List Row} {a0v_Kids : List Kid} {a1v_Table : Int} {a1v_Had : Bool} {a1v_Has : Bool} {a1v_Oldv_Id : Int} {a1v_Oldv_Cells : List Int} {a1v_Newv_Id : Int} {a1v_Newv_Cells : List Int} {r : View} (h : spec_ViewChange.f (View.mk (Query.mk a0v_Qv_Table a0v_Qv_Where a0v_Qv_Order a0v_Qv_Down a0v_Qv_First a0v_Qv_Show a0v_Qv_Kids a0v_Qv_KidTable a0v_Qv_KidCol) a0v_Rows a0v_Kids) (Change.mk a1v_Table a1v_Had a1v_Has (Row.mk a1v_Oldv_Id a1v_Oldv_Cells) (Row.mk a1v_Newv_Id a1v_Newv_Cells)) = some r) : AC Try.prog 77 [.ag [.s (.int .i64 a0v_Qv_Table), .im false (rowsOf Cond_c a0v_Qv_Where), .s (.int .i64 a0v_Qv_Order), .s (.bool a0v_Qv_Down), .s (.int .i64 a0v_Qv_First), .im false (rowsOf Int_c a0v_Qv_Show), .s (.bool a0v_Qv_Kids), .s (.int .i64 a0v_Qv_KidTable), .s (.int .i64 a0v_Qv_KidCol), .im false (rowsOf Row_i a0v_Rows), .im false (rowsOf Kid_c a0v_Kids)], .ag [.s (.int .i64 a1v_Table), .s (.bool a1v_Had), .s (.bool a1v_Has), .s (.int .i64 a1v_Oldv_Id), .im false (rowsOf Int_c a1v_Oldv_Cells), .s (.int .i64 a1v_Newv_Id), .im false (rowsOf Int_c a1v_Newv_Cells)]] [.ag [.jk, .jk, .jk, .jk, .jk, .jk, .jk, .jk, .jk, .jk, .jk], .ag [.jk, .jk, .jk, .jk, .jk, .jk, .jk]] [.ag [.s (.int .i64 r.Q.Table), .ow 187 (rowsOf Cond_c r.Q.Where), .s (.int .i64 r.Q.Order), .s (.bool r.Q.Down), .s (.int .i64 r.Q.First), .ow 3 (rowsOf Int_c r.Q.Show), .s (.bool r.Q.Kids), .s (.int .i64 r.Q.KidTable), .s (.int .i64 r.Q.KidCol), .ow 92 (rowsOf Row_o r.Rows), .ow 153 (rowsOf Kid_c r.Kids)]] := by
  unfold spec_ViewChange.f at h
  let ar := Ls.ar; let cm := Ls.cm; let bo := Ls.bo; let sc := Ls.sc; let sa := Ls.sa; let sx := Ls.sx; let ss := Ls.ss; let sl := Ls.sl; let bs := Ls.bs; let sb := Ls.sb; let ln := Ls.ln; let sr := Ls.sr; let ap := Ls.ap; let up := Ls.up; let rp := Ls.rp; let fr := Ls.fr; let ge := Ls.ge; let le := Ls.le; let lt := Ls.lt; let nz := Ls.nz; let mm := Ls.mm; let ma := Ls.ma; let sm := Ls.sm; let fl := Ls.fl; let al := Ls.al
  let eCond_c := rowsOf Cond_c
  let eInt_c := rowsOf Int_c
  let eKid_c := rowsOf Kid_c
  let eRow_i := rowsOf Row_i
  let eRow_o := rowsOf Row_o
  have hL : (⟨ar, cm, bo, sc, sa, sx, ss, sl, bs, sb, ln, sr, ap, up, rp, fr, ge, le, lt, nz, mm, ma, sm, fl, al⟩ : Lf) = Ls := rfl
  show AC Try.prog 77 [.ag [.s (.int .i64 a0v_Qv_Table), .im false (eCond_c a0v_Qv_Where), .s (.int .i64 a0v_Qv_Order), .s (.bool a0v_Qv_Down), .s (.int .i64 a0v_Qv_First), .im false (eInt_c a0v_Qv_Show), .s (.bool a0v_Qv_Kids), .s (.int .i64 a0v_Qv_KidTable), .s (.int .i64 a0v_Qv_KidCol), .im false (eRow_i a0v_Rows), .im false (eKid_c a0v_Kids)], .ag [.s (.int .i64 a1v_Table), .s (.bool a1v_Had), .s (.bool a1v_Has), .s (.int .i64 a1v_Oldv_Id), .im false (eInt_c a1v_Oldv_Cells), .s (.int .i64 a1v_Newv_Id), .im false (eInt_c a1v_Newv_Cells)]] _ _
  refine AC.of_run2 tab_ok Try.func77 (by rfl) (by rfl) (by cbv) ⟨by decide, rfl⟩ fun F hP hA => ?_
  have hT : TabOk F.P tab := hP ▸ tab_ok
  have hM : F.P.follows .mixedOrders = true := hP ▸ mixed
  have hC : ∀ {f a o r}, AC Try.prog f a o r → AC F.P f a o r := fun h => hP ▸ h
  refine Run.seq ?_
  refine Run.region hL hT [] (by cbv) ?_ ?_
  · exact hq0
  refine Run.seq ?_
  obtain ⟨⟨⟨r1v_Qv_Table, r1v_Qv_Where, r1v_Qv_Order, r1v_Qv_Down, r1v_Qv_First, r1v_Qv_Show, r1v_Qv_Kids, r1v_Qv_KidTable, r1v_Qv_KidCol⟩, r1v_Rows, r1v_Kids⟩, h_r1, h⟩ := bnd h
  refine Run.region hL hT [(1, .call [false] [.ag [.jk, .jk, .jk, .jk, .jk, .jk, .jk, .jk, .jk, .jk, .jk]] [.ag [.s (.int .i64 r1v_Qv_Table), .ow 187 (eCond_c r1v_Qv_Where), .s (.int .i64 r1v_Qv_Order), .s (.bool r1v_Qv_Down), .s (.int .i64 r1v_Qv_First), .ow 3 (eInt_c r1v_Qv_Show), .s (.bool r1v_Qv_Kids), .s (.int .i64 r1v_Qv_KidTable), .s (.int .i64 r1v_Qv_KidCol), .ow 92 (eRow_o r1v_Rows), .ow 153 (eKid_c r1v_Kids)]])] (by cbv) ?_ ?_
  · exact (hq trivial (hq (hC (spec_l13Copy_ac h_r1)) (hq trivial hq0)))
  obtain ⟨K3, h_K3, h⟩ := joinE h
  refine Run.join1 K3 (r := r) (fun (y2 : List Row) => ⟨76, 100000, [(2, .pt 1 0 0), (3, .pt 2 0 0), (4, .pt 3 0 0), (5, .pt 4 0 0)], [(1, .box 57 [.t (.s (.int .i64 a0v_Qv_Table)), .t (.im false (eCond_c a0v_Qv_Where)), .t (.s (.int .i64 a0v_Qv_Order)), .t (.s (.bool a0v_Qv_Down)), .t (.s (.int .i64 a0v_Qv_First)), .t (.im false (eInt_c a0v_Qv_Show)), .t (.s (.bool a0v_Qv_Kids)), .t (.s (.int .i64 a0v_Qv_KidTable)), .t (.s (.int .i64 a0v_Qv_KidCol)), .t (.im false (eRow_i a0v_Rows)), .t (.im false (eKid_c a0v_Kids))]), (2, .box 94 [.t (.s (.int .i64 a1v_Table)), .t (.s (.bool a1v_Had)), .t (.s (.bool a1v_Has)), .t (.s (.int .i64 a1v_Oldv_Id)), .t (.im false (eInt_c a1v_Oldv_Cells)), .t (.s (.int .i64 a1v_Newv_Id)), .t (.im false (eInt_c a1v_Newv_Cells))]), (3, .box 57 [.t (.s (.int .i64 0)), .t (.s (.slice none 0 0)), .t (.s (.int .i64 0)), .t (.s (.bool false)), .t (.s (.int .i64 0)), .t (.s (.slice none 0 0)), .t (.s (.bool false)), .t (.s (.int .i64 0)), .t (.s (.int .i64 0)), .t (.s (.slice none 0 0)), .t (.s (.slice none 0 0))]), (4, .box 57 [.t (.s (.int .i64 r1v_Qv_Table)), .rf 5, .t (.s (.int .i64 r1v_Qv_Order)), .t (.s (.bool r1v_Qv_Down)), .t (.s (.int .i64 r1v_Qv_First)), .rf 6, .t (.s (.bool r1v_Qv_Kids)), .t (.s (.int .i64 r1v_Qv_KidTable)), .t (.s (.int .i64 r1v_Qv_KidCol)), .rf 7, .rf 8]), (5, .row 0 187 3 (eCond_c r1v_Qv_Where)), (6, .row 0 3 1 (eInt_c r1v_Qv_Show)), (7, .row 0 92 2 (eRow_o y2)), (8, .row 0 153 2 (eKid_c r1v_Kids))]⟩) ?_ ?_
  · skip
    refine Run.seq ?_
    refine Run.region hL hT [] (by cbv) ?_ ?_
    · exact (hq trivial (hq trivial (hq trivial hq0)))
    refine Run.cond (by cbv) (hq0) (fun c4 => ?_) (fun c4 => ?_)
    · have h := if_t c4 h
      obtain ⟨K6, h_K6, h⟩ := joinE h
      refine Run.join1 K6 (r := r) (fun (y5 : List Row) => ⟨76, 100000, [(2, .pt 1 0 0), (3, .pt 2 0 0), (4, .pt 3 0 0), (5, .pt 4 0 0)], [(1, .box 57 [.t (.s (.int .i64 a0v_Qv_Table)), .t (.im false (eCond_c a0v_Qv_Where)), .t (.s (.int .i64 a0v_Qv_Order)), .t (.s (.bool a0v_Qv_Down)), .t (.s (.int .i64 a0v_Qv_First)), .t (.im false (eInt_c a0v_Qv_Show)), .t (.s (.bool a0v_Qv_Kids)), .t (.s (.int .i64 a0v_Qv_KidTable)), .t (.s (.int .i64 a0v_Qv_KidCol)), .t (.im false (eRow_i a0v_Rows)), .t (.im false (eKid_c a0v_Kids))]), (2, .box 94 [.t (.s (.int .i64 a1v_Table)), .t (.s (.bool a1v_Had)), .t (.s (.bool a1v_Has)), .t (.s (.int .i64 a1v_Oldv_Id)), .t (.im false (eInt_c a1v_Oldv_Cells)), .t (.s (.int .i64 a1v_Newv_Id)), .t (.im false (eInt_c a1v_Newv_Cells))]), (3, .box 57 [.t (.s (.int .i64 0)), .t (.s (.slice none 0 0)), .t (.s (.int .i64 0)), .t (.s (.bool false)), .t (.s (.int .i64 0)), .t (.s (.slice none 0 0)), .t (.s (.bool false)), .t (.s (.int .i64 0)), .t (.s (.int .i64 0)), .t (.s (.slice none 0 0)), .t (.s (.slice none 0 0))]), (4, .box 57 [.t (.s (.int .i64 r1v_Qv_Table)), .rf 5, .t (.s (.int .i64 r1v_Qv_Order)), .t (.s (.bool r1v_Qv_Down)), .t (.s (.int .i64 r1v_Qv_First)), .rf 6, .t (.s (.bool r1v_Qv_Kids)), .t (.s (.int .i64 r1v_Qv_KidTable)), .t (.s (.int .i64 r1v_Qv_KidCol)), .rf 7, .rf 8]), (5, .row 0 187 3 (eCond_c r1v_Qv_Where)), (6, .row 0 3 1 (eInt_c r1v_Qv_Show)), (7, .row 0 92 2 (eRow_o y5)), (8, .row 0 153 2 (eKid_c r1v_Kids))]⟩) ?_ ?_
      · skip
        refine Run.seq ?_
        refine Run.region hL hT [] (by cbv) ?_ ?_
        · exact (hq trivial hq0)
        refine Run.cond (by cbv) (hq0) (fun c7 => ?_) (fun c7 => ?_)
        · have h := if_t c7 h
          obtain ⟨r8, h_r8, h⟩ := bnd h
          refine Run.region hL hT [(5, .call [false, false] [.v (.jk), .v (.jk)] [.v (.ow 92 (eRow_o r8))])] (by cbv) ?_ ?_
          · exact (hq trivial (hq trivial (hq (hC (AC.args (spec_RowDrop_ac h_r8) (ALe.v (LLe.im (RLe.eq (fr_row Row_o_z _))) (ALe.v LLe.r ALe.nil)))) (hq trivial hq0))))
          refine ⟨r8, h, Weak.of _ [(1, 0), (2, 1), (3, 2), (4, 4098), (5, 4097), (6, 4353), (7, 16389), (8, 4865)] hA (by cbv) ?_⟩
          repeat (first | exact hq0 | refine hq (by first | exact True.intro | rfl) ?_)
        · have h := if_f c7 h
          refine Run.skip ?_
          refine ⟨r1v_Rows, h, Weak.of _ [(1, 0), (2, 1), (3, 2), (4, 4098), (5, 4097), (6, 4353), (7, 4609), (8, 4865)] hA (by cbv) ?_⟩
          repeat (first | exact hq0 | refine hq (by first | exact True.intro | rfl) ?_)
      · intro y5 h
        rw [h_K6] at h
        refine Run.seq ?_
        obtain ⟨r9, h_r9, h⟩ := bnd h
        refine Run.region hL hT [(7, .call [false, false] [.ag [.jk, .jk, .jk, .jk, .jk, .jk, .jk, .jk, .jk], .ag [.jk, .jk]] [.v (.s (.bool r9))])] (by cbv) ?_ ?_
        · exact (hq trivial (hq (fun _ => hq0) (hq (fun g11 => (hq g11 (hq trivial hq0))) (hq (fun _ => hq0) (hq (fun g13 => (hq g13 (hq trivial hq0))) (hq (fun g14 => (hq g14 (hq g14 (hq (hC (spec_Matches_ac (gd_t h_r9 g14))) hq0)))) (hq (fun q15 => (hq q15 hq0)) (hq (fun _ => hq0) hq0))))))))
        refine Run.cond (by cbv) (hq0) (fun c17 => ?_) (fun c17 => ?_)
        · have h := if_t c17 h
          obtain ⟨r18, h_r18, h⟩ := bnd h
          refine Run.region hL hT [(6, .call [false, true, false] [.ag [.jk, .jk, .jk, .jk, .jk, .jk, .jk, .jk, .jk], .v (.jk), .ag [.jk, .jk]] [.v (.ow 92 (eRow_o r18))])] (by cbv) ?_ ?_
          · exact (hq trivial (hq trivial (hq trivial (hq (hC (spec_l11Put_ac h_r18)) (hq trivial hq0)))))
          refine ⟨r18, h, Weak.of _ [(1, 1), (2, 2), (3, 3), (4, 4), (5, 5), (6, 6), (7, 104102), (8, 8)] hA (by cbv) ?_⟩
          repeat (first | exact hq0 | refine hq (by first | exact True.intro | rfl) ?_)
        · have h := if_f c17 h
          refine Run.skip ?_
          refine ⟨y5, h, Weak.of _ [(1, 1), (2, 2), (3, 3), (4, 4), (5, 5), (6, 6), (7, 7), (8, 8)] hA (by cbv) ?_⟩
          repeat (first | exact hq0 | refine hq (by first | exact True.intro | rfl) ?_)
    · have h := if_f c4 h
      refine Run.skip ?_
      refine ⟨r1v_Rows, h, Weak.of _ [(1, 0), (2, 1), (3, 2), (4, 4098), (5, 4097), (6, 4353), (7, 4609), (8, 4865)] hA (by cbv) ?_⟩
      repeat (first | exact hq0 | refine hq (by first | exact True.intro | rfl) ?_)
  · intro y2 h
    rw [h_K3] at h
    refine Run.seq ?_
    refine Run.seq ?_
    refine Run.region hL hT [] (by cbv) ?_ ?_
    · exact (hq trivial (hq (fun _ => hq0) (hq (fun g20 => (hq g20 (hq trivial hq0))) (hq (fun _ => hq0) (hq (fun g22 => (hq g22 hq0)) (hq (fun g23 => (hq g23 (hq trivial hq0))) (hq (fun g24 => (hq g24 (hq g24 (hq trivial hq0)))) (hq (fun q25 => (hq q25 hq0)) (hq (fun _ => hq0) hq0)))))))))
    refine Run.cond (by cbv) (hq0) (fun c27 => ?_) (fun c27 => ?_)
    · have h := if_t c27 h
      obtain ⟨K29, h_K29, h⟩ := joinE h
      refine Run.join1 K29 (r := r) (fun (y28 : List Kid) => ⟨76, 100000, [(2, .pt 1 0 0), (3, .pt 2 0 0), (4, .pt 3 0 0), (5, .pt 4 0 0)], [(1, .box 57 [.t (.s (.int .i64 a0v_Qv_Table)), .t (.im false (eCond_c a0v_Qv_Where)), .t (.s (.int .i64 a0v_Qv_Order)), .t (.s (.bool a0v_Qv_Down)), .t (.s (.int .i64 a0v_Qv_First)), .t (.im false (eInt_c a0v_Qv_Show)), .t (.s (.bool a0v_Qv_Kids)), .t (.s (.int .i64 a0v_Qv_KidTable)), .t (.s (.int .i64 a0v_Qv_KidCol)), .t (.im false (eRow_i a0v_Rows)), .t (.im false (eKid_c a0v_Kids))]), (2, .box 94 [.t (.s (.int .i64 a1v_Table)), .t (.s (.bool a1v_Had)), .t (.s (.bool a1v_Has)), .t (.s (.int .i64 a1v_Oldv_Id)), .t (.im false (eInt_c a1v_Oldv_Cells)), .t (.s (.int .i64 a1v_Newv_Id)), .t (.im false (eInt_c a1v_Newv_Cells))]), (3, .box 57 [.t (.s (.int .i64 0)), .t (.s (.slice none 0 0)), .t (.s (.int .i64 0)), .t (.s (.bool false)), .t (.s (.int .i64 0)), .t (.s (.slice none 0 0)), .t (.s (.bool false)), .t (.s (.int .i64 0)), .t (.s (.int .i64 0)), .t (.s (.slice none 0 0)), .t (.s (.slice none 0 0))]), (4, .box 57 [.t (.s (.int .i64 r1v_Qv_Table)), .rf 5, .t (.s (.int .i64 r1v_Qv_Order)), .t (.s (.bool r1v_Qv_Down)), .t (.s (.int .i64 r1v_Qv_First)), .rf 6, .t (.s (.bool r1v_Qv_Kids)), .t (.s (.int .i64 r1v_Qv_KidTable)), .t (.s (.int .i64 r1v_Qv_KidCol)), .rf 7, .rf 8]), (5, .row 0 187 3 (eCond_c r1v_Qv_Where)), (6, .row 0 3 1 (eInt_c r1v_Qv_Show)), (7, .row 0 92 2 (eRow_o y2)), (8, .row 0 153 2 (eKid_c y28))]⟩) ?_ ?_
      · skip
        refine Run.seq ?_
        refine Run.region hL hT [] (by cbv) ?_ ?_
        · exact (hq trivial hq0)
        refine Run.cond (by cbv) (hq0) (fun c30 => ?_) (fun c30 => ?_)
        · have h := if_t c30 h
          obtain ⟨r31, h_r31, h⟩ := bnd h
          obtain ⟨r32, h_r32, h⟩ := bnd h
          refine Run.draw hL hT hM [(7, .call [false, false] [.ag [.jk, .jk], .v (.jk)] [.v (.s (.int .i64 r31))]), (8, .call [false, false, false] [.v (.jk), .v (.jk), .v (.jk)] [.v (.ow 153 (eKid_c r32))])] (by cbv) (by cbv) (by cbv) (by cbv) (by cbv) ?_ ?_
          · exact (hq trivial (hq trivial (hq trivial (hq (hC (spec_l9Cell_ac h_r31)) (hq (hC (AC.args (spec_KidPut_ac h_r32) (ALe.v (LLe.im (RLe.eq (fr_row Kid_c_z _))) (ALe.v LLe.r (ALe.v LLe.r ALe.nil))))) (hq trivial hq0))))))
          refine ⟨r32, h, Weak.of _ [(1, 1), (2, 2), (3, 3), (4, 4), (5, 5), (6, 6), (7, 7), (8, 108200)] hA (by cbv) ?_⟩
          repeat (first | exact hq0 | refine hq (by first | exact True.intro | rfl) ?_)
        · have h := if_f c30 h
          refine Run.skip ?_
          refine ⟨r1v_Kids, h, Weak.of _ [(1, 1), (2, 2), (3, 3), (4, 4), (5, 5), (6, 6), (7, 7), (8, 8)] hA (by cbv) ?_⟩
          repeat (first | exact hq0 | refine hq (by first | exact True.intro | rfl) ?_)
      · intro y28 h
        rw [h_K29] at h
        refine Run.seq ?_
        refine Run.region hL hT [] (by cbv) ?_ ?_
        · exact (hq trivial hq0)
        refine Run.cond (by cbv) (hq0) (fun c33 => ?_) (fun c33 => ?_)
        · have h := if_t c33 h
          obtain ⟨r34, h_r34, h⟩ := bnd h
          obtain ⟨r35, h_r35, h⟩ := bnd h
          refine Run.draw hL hT hM [(7, .call [false, false] [.ag [.jk, .jk], .v (.jk)] [.v (.s (.int .i64 r34))]), (8, .call [false, false, false] [.v (.jk), .v (.jk), .v (.jk)] [.v (.ow 153 (eKid_c r35))])] (by cbv) (by cbv) (by cbv) (by cbv) (by cbv) ?_ ?_
          · exact (hq trivial (hq trivial (hq trivial (hq (hC (spec_l9Cell_ac h_r34)) (hq (hC (AC.args (spec_KidPut_ac h_r35) (ALe.v (LLe.im (RLe.eq (fr_row Kid_c_z _))) (ALe.v LLe.r (ALe.v LLe.r ALe.nil))))) (hq trivial hq0))))))
          refine Run.seq ?_
          refine Run.region hL hT [] (by cbv) ?_ ?_
          · exact (hq trivial (hq trivial hq0))
          refine Run.ret ?_
          cases h
          refine ⟨_, _, by cbv, ?_, ?_⟩
          · exact LLe.r
          · exact (ALe.ag rfl LLe.r ALe.nil)
        · have h := if_f c33 h
          refine Run.skip ?_
          refine Run.seq ?_
          refine Run.region hL hT [] (by cbv) ?_ ?_
          · exact (hq trivial (hq trivial hq0))
          refine Run.ret ?_
          cases h
          refine ⟨_, _, by cbv, ?_, ?_⟩
          · exact LLe.r
          · exact (ALe.ag rfl LLe.r ALe.nil)
    · have h := if_f c27 h
      refine Run.skip ?_
      refine Run.seq ?_
      refine Run.region hL hT [] (by cbv) ?_ ?_
      · exact (hq trivial (hq trivial hq0))
      refine Run.ret ?_
      cases h
      refine ⟨_, _, by cbv, ?_, ?_⟩
      · exact LLe.r
      · exact (ALe.ag rfl LLe.r ALe.nil)

set_option maxRecDepth 8000 in
theorem laws_toChange_ac {a0v_Table : Int} {a0v_Had : Bool} {a0v_Has : Bool} {a0v_Oldv_Id : Int} {a0v_Oldv_Cells : List Int} {a0v_Newv_Id : Int} {a0v_Newv_Cells : List Int} {r : Change} (h : laws_toChange.f (Change.mk a0v_Table a0v_Had a0v_Has (Row.mk a0v_Oldv_Id a0v_Oldv_Cells) (Row.mk a0v_Newv_Id a0v_Newv_Cells)) = some r) : AC Try.prog 78 [.ag [.s (.int .i64 a0v_Table), .s (.bool a0v_Had), .s (.bool a0v_Has), .s (.int .i64 a0v_Oldv_Id), .im false (rowsOf Int_c a0v_Oldv_Cells), .s (.int .i64 a0v_Newv_Id), .im false (rowsOf Int_c a0v_Newv_Cells)]] [.ag [.jk, .jk, .jk, .jk, .jk, .jk, .jk]] [.ag [.s (.int .i64 r.Table), .s (.bool r.Had), .s (.bool r.Has), .s (.int .i64 r.Old.Id), .ow 3 (rowsOf Int_c r.Old.Cells), .s (.int .i64 r.New.Id), .ow 3 (rowsOf Int_c r.New.Cells)]] := by
  unfold laws_toChange.f at h
  let ar := Ls.ar; let cm := Ls.cm; let bo := Ls.bo; let sc := Ls.sc; let sa := Ls.sa; let sx := Ls.sx; let ss := Ls.ss; let sl := Ls.sl; let bs := Ls.bs; let sb := Ls.sb; let ln := Ls.ln; let sr := Ls.sr; let ap := Ls.ap; let up := Ls.up; let rp := Ls.rp; let fr := Ls.fr; let ge := Ls.ge; let le := Ls.le; let lt := Ls.lt; let nz := Ls.nz; let mm := Ls.mm; let ma := Ls.ma; let sm := Ls.sm; let fl := Ls.fl; let al := Ls.al
  let eInt_c := rowsOf Int_c
  have hL : (⟨ar, cm, bo, sc, sa, sx, ss, sl, bs, sb, ln, sr, ap, up, rp, fr, ge, le, lt, nz, mm, ma, sm, fl, al⟩ : Lf) = Ls := rfl
  show AC Try.prog 78 [.ag [.s (.int .i64 a0v_Table), .s (.bool a0v_Had), .s (.bool a0v_Has), .s (.int .i64 a0v_Oldv_Id), .im false (eInt_c a0v_Oldv_Cells), .s (.int .i64 a0v_Newv_Id), .im false (eInt_c a0v_Newv_Cells)]] _ _
  refine AC.of_run2 tab_ok Try.func78 (by rfl) (by rfl) (by cbv) ⟨by decide, rfl⟩ fun F hP hA => ?_
  have hT : TabOk F.P tab := hP ▸ tab_ok
  have hM : F.P.follows .mixedOrders = true := hP ▸ mixed
  have hC : ∀ {f a o r}, AC Try.prog f a o r → AC F.P f a o r := fun h => hP ▸ h
  refine Run.seq ?_
  refine Run.region hL hT [] (by cbv) ?_ ?_
  · exact hq0
  refine Run.seq ?_
  refine Run.region hL hT [] (by cbv) ?_ ?_
  · exact hq0
  refine Run.seq ?_
  refine Run.region hL hT [] (by cbv) ?_ ?_
  · exact (hq trivial (hq trivial hq0))
  refine Run.seq ?_
  refine Run.region hL hT [] (by cbv) ?_ ?_
  · exact (hq trivial (hq trivial hq0))
  refine Run.seq ?_
  refine Run.region hL hT [] (by cbv) ?_ ?_
  · exact (hq trivial (hq trivial hq0))
  refine Run.seq ?_
  obtain ⟨⟨r1v_Id, r1v_Cells⟩, h_r1, h⟩ := bnd h
  refine Run.region hL hT [(2, .call [false] [.ag [.jk, .jk]] [.ag [.s (.int .i64 r1v_Id), .ow 3 (eInt_c r1v_Cells)]])] (by cbv) ?_ ?_
  · exact (hq trivial (hq (hC (laws_toRow_ac h_r1)) (hq trivial hq0)))
  refine Run.seq ?_
  obtain ⟨⟨r2v_Id, r2v_Cells⟩, h_r2, h⟩ := bnd h
  refine Run.region hL hT [(2, .call [false] [.ag [.jk, .jk]] [.ag [.s (.int .i64 r2v_Id), .ow 3 (eInt_c r2v_Cells)]])] (by cbv) ?_ ?_
  · exact (hq trivial (hq (hC (laws_toRow_ac h_r2)) (hq trivial hq0)))
  refine Run.seq ?_
  refine Run.region hL hT [] (by cbv) ?_ ?_
  · exact (hq trivial (hq trivial hq0))
  refine Run.ret ?_
  cases h
  refine ⟨_, _, by cbv, ?_, ?_⟩
  · exact LLe.r
  · exact (ALe.ag rfl LLe.r ALe.nil)

set_option maxRecDepth 8000 in
theorem impl_within_ac {a0 : Int} {a1 : Int} {a2 : Int} {r : Bool} (h : impl_within.f a0 a1 a2 = some r) : AC Try.prog 111 [.v (.s (.int .i64 a0)), .v (.s (.int .i64 a1)), .v (.s (.int .i64 a2))] [.v (.jk), .v (.jk), .v (.jk)] [.v (.s (.bool r))] := by
  unfold impl_within.f at h
  let ar := Ls.ar; let cm := Ls.cm; let bo := Ls.bo; let sc := Ls.sc; let sa := Ls.sa; let sx := Ls.sx; let ss := Ls.ss; let sl := Ls.sl; let bs := Ls.bs; let sb := Ls.sb; let ln := Ls.ln; let sr := Ls.sr; let ap := Ls.ap; let up := Ls.up; let rp := Ls.rp; let fr := Ls.fr; let ge := Ls.ge; let le := Ls.le; let lt := Ls.lt; let nz := Ls.nz; let mm := Ls.mm; let ma := Ls.ma; let sm := Ls.sm; let fl := Ls.fl; let al := Ls.al
  have hL : (⟨ar, cm, bo, sc, sa, sx, ss, sl, bs, sb, ln, sr, ap, up, rp, fr, ge, le, lt, nz, mm, ma, sm, fl, al⟩ : Lf) = Ls := rfl
  show AC Try.prog 111 [.v (.s (.int .i64 a0)), .v (.s (.int .i64 a1)), .v (.s (.int .i64 a2))] _ _
  refine AC.of_run2 tab_ok Try.func111 (by rfl) (by rfl) (by cbv) ⟨by decide, rfl⟩ fun F hP hA => ?_
  have hT : TabOk F.P tab := hP ▸ tab_ok
  have hM : F.P.follows .mixedOrders = true := hP ▸ mixed
  have hC : ∀ {f a o r}, AC Try.prog f a o r → AC F.P f a o r := fun h => hP ▸ h
  refine Run.seq ?_
  refine Run.region hL hT [] (by cbv) ?_ ?_
  · exact hq0
  refine Run.seq ?_
  refine Run.region hL hT [] (by cbv) ?_ ?_
  · exact (hq trivial (hq (fun _ => hq0) (hq (fun _ => hq0) (hq (fun g3 => (hq g3 (hq g3 (hq trivial hq0)))) (hq (fun q4 => (hq q4 hq0)) (hq (fun _ => hq0) hq0))))))
  refine Run.ret ?_
  cases h
  refine ⟨_, _, by cbv, ?_, ?_⟩
  · exact LLe.r
  · exact (ALe.v LLe.r ALe.nil)

set_option maxRecDepth 8000 in
theorem impl_holds_ac {a0v_Col : Int} {a0v_Op : Int} {a0v_V : Int} {a1v_Id : Int} {a1v_Cells : List Int} {r : Bool} (h : impl_holds.f (Cond.mk a0v_Col a0v_Op a0v_V) (Row.mk a1v_Id a1v_Cells) = some r) : AC Try.prog 172 [.ag [.s (.int .i64 a0v_Col), .s (.int .i64 a0v_Op), .s (.int .i64 a0v_V)], .ag [.s (.int .i64 a1v_Id), .im false (rowsOf Int_c a1v_Cells)]] [.ag [.jk, .jk, .jk], .ag [.jk, .jk]] [.v (.s (.bool r))] := by
  unfold impl_holds.f at h
  let ar := Ls.ar; let cm := Ls.cm; let bo := Ls.bo; let sc := Ls.sc; let sa := Ls.sa; let sx := Ls.sx; let ss := Ls.ss; let sl := Ls.sl; let bs := Ls.bs; let sb := Ls.sb; let ln := Ls.ln; let sr := Ls.sr; let ap := Ls.ap; let up := Ls.up; let rp := Ls.rp; let fr := Ls.fr; let ge := Ls.ge; let le := Ls.le; let lt := Ls.lt; let nz := Ls.nz; let mm := Ls.mm; let ma := Ls.ma; let sm := Ls.sm; let fl := Ls.fl; let al := Ls.al
  let eInt_c := rowsOf Int_c
  let lenI_Int := @lenI Int
  have hL : (⟨ar, cm, bo, sc, sa, sx, ss, sl, bs, sb, ln, sr, ap, up, rp, fr, ge, le, lt, nz, mm, ma, sm, fl, al⟩ : Lf) = Ls := rfl
  show AC Try.prog 172 [.ag [.s (.int .i64 a0v_Col), .s (.int .i64 a0v_Op), .s (.int .i64 a0v_V)], .ag [.s (.int .i64 a1v_Id), .im false (eInt_c a1v_Cells)]] _ _
  refine AC.of_run2 tab_ok Try.func172 (by rfl) (by rfl) (by cbv) ⟨by decide, rfl⟩ fun F hP hA => ?_
  have hT : TabOk F.P tab := hP ▸ tab_ok
  have hM : F.P.follows .mixedOrders = true := hP ▸ mixed
  have hC : ∀ {f a o r}, AC Try.prog f a o r → AC F.P f a o r := fun h => hP ▸ h
  refine Run.seq ?_
  refine Run.region hL hT [] (by cbv) ?_ ?_
  · exact hq0
  refine Run.seq ?_
  refine Run.seq ?_
  obtain ⟨r1, h_r1, h⟩ := bnd h
  refine Run.region hL hT [(6, .call [false, false, false] [.v (.jk), .v (.jk), .v (.jk)] [.v (.s (.bool r1))])] (by cbv) ?_ ?_
  · exact (hq trivial (hq trivial (hq trivial (hq (by rw [show ln (eInt_c a1v_Cells) = lenI_Int a1v_Cells from ln_eq Int_c _]; exact (hC (impl_within_ac h_r1))) hq0))))
  rw [show ln (eInt_c a1v_Cells) = lenI_Int a1v_Cells from ln_eq Int_c _]
  refine Run.cond (by cbv) (hq0) (fun c2 => ?_) (fun c2 => ?_)
  · have h := if_t c2 h
    refine Run.seq ?_
    refine Run.region hL hT [] (by cbv) ?_ ?_
    · exact hq0
    refine Run.ret ?_
    cases h
    refine ⟨_, _, by cbv, ?_, ?_⟩
    · exact LLe.r
    · exact (ALe.v LLe.r ALe.nil)
  · have h := if_f c2 h
    refine Run.skip ?_
    refine Run.seq ?_
    obtain ⟨x3, h_x3, h⟩ := bnd h
    refine Run.region hL hT [(4, .el [.s (.int .i64 x3)])] (by cbv) ?_ ?_
    · exact (hq trivial (hq trivial (hq (get_le h_x3) (hq (get_lt (f := Int_c) h_x3) (hq (get_ge (f := Int_c) h_x3) hq0)))))
    refine Run.seq ?_
    refine Run.seq ?_
    refine Run.region hL hT [] (by cbv) ?_ ?_
    · exact (hq trivial hq0)
    refine Run.block ?_
    refine Run.seq ?_
    refine Run.region hL hT [] (by cbv) ?_ ?_
    · exact (hq trivial hq0)
    refine Run.cond (by cbv) (hq0) (fun c4 => ?_) (fun c4 => ?_)
    · have h := if_t c4 h
      refine Run.seq ?_
      refine Run.region hL hT [] (by cbv) ?_ ?_
      · exact (hq trivial (hq trivial hq0))
      refine Run.ret ?_
      cases h
      refine ⟨_, _, by cbv, ?_, ?_⟩
      · exact LLe.r
      · exact (ALe.v LLe.r ALe.nil)
    · have h := if_f c4 h
      refine Run.seq ?_
      refine Run.region hL hT [] (by cbv) ?_ ?_
      · exact (hq trivial hq0)
      refine Run.cond (by cbv) (hq0) (fun c5 => ?_) (fun c5 => ?_)
      · have h := if_t c5 h
        refine Run.seq ?_
        refine Run.region hL hT [] (by cbv) ?_ ?_
        · exact (hq trivial (hq trivial hq0))
        refine Run.ret ?_
        cases h
        refine ⟨_, _, by cbv, ?_, ?_⟩
        · exact LLe.r
        · exact (ALe.v LLe.r ALe.nil)
      · have h := if_f c5 h
        refine Run.seq ?_
        refine Run.region hL hT [] (by cbv) ?_ ?_
        · exact (hq trivial hq0)
        refine Run.cond (by cbv) (hq0) (fun c6 => ?_) (fun c6 => ?_)
        · have h := if_t c6 h
          refine Run.seq ?_
          refine Run.region hL hT [] (by cbv) ?_ ?_
          · exact (hq trivial (hq trivial hq0))
          refine Run.ret ?_
          cases h
          refine ⟨_, _, by cbv, ?_, ?_⟩
          · exact LLe.r
          · exact (ALe.v LLe.r ALe.nil)
        · have h := if_f c6 h
          refine Run.skip ?_
          refine Run.seq ?_
          refine Run.region hL hT [] (by cbv) ?_ ?_
          · exact (hq trivial (hq trivial (hq (fun _ => hq0) (hq (fun _ => hq0) (hq (fun g9 => (hq g9 (hq trivial hq0))) (hq (fun g10 => (hq g10 (hq g10 (hq trivial hq0)))) (hq (fun q11 => (hq q11 hq0)) (hq (fun _ => hq0) hq0))))))))
          refine Run.ret ?_
          cases h
          refine ⟨_, _, by cbv, ?_, ?_⟩
          · exact LLe.r
          · exact (ALe.v LLe.r ALe.nil)

set_option maxRecDepth 8000 in
theorem impl_Matches_ac {a0v_Table : Int} {a0v_Where : List Cond} {a0v_Order : Int} {a0v_Down : Bool} {a0v_First : Int} {a0v_Show : List Int} {a0v_Kids : Bool} {a0v_KidTable : Int} {a0v_KidCol : Int} {a1v_Id : Int} {a1v_Cells : List Int} {r : Bool} (h : impl_Matches.f (Query.mk a0v_Table a0v_Where a0v_Order a0v_Down a0v_First a0v_Show a0v_Kids a0v_KidTable a0v_KidCol) (Row.mk a1v_Id a1v_Cells) = some r) : AC Try.prog 108 [.ag [.s (.int .i64 a0v_Table), .im false (rowsOf Cond_c a0v_Where), .s (.int .i64 a0v_Order), .s (.bool a0v_Down), .s (.int .i64 a0v_First), .im false (rowsOf Int_c a0v_Show), .s (.bool a0v_Kids), .s (.int .i64 a0v_KidTable), .s (.int .i64 a0v_KidCol)], .ag [.s (.int .i64 a1v_Id), .im false (rowsOf Int_c a1v_Cells)]] [.ag [.jk, .jk, .jk, .jk, .jk, .jk, .jk, .jk, .jk], .ag [.jk, .jk]] [.v (.s (.bool r))] := by
  unfold impl_Matches.f at h
  let ar := Ls.ar; let cm := Ls.cm; let bo := Ls.bo; let sc := Ls.sc; let sa := Ls.sa; let sx := Ls.sx; let ss := Ls.ss; let sl := Ls.sl; let bs := Ls.bs; let sb := Ls.sb; let ln := Ls.ln; let sr := Ls.sr; let ap := Ls.ap; let up := Ls.up; let rp := Ls.rp; let fr := Ls.fr; let ge := Ls.ge; let le := Ls.le; let lt := Ls.lt; let nz := Ls.nz; let mm := Ls.mm; let ma := Ls.ma; let sm := Ls.sm; let fl := Ls.fl; let al := Ls.al
  let eCond_c := rowsOf Cond_c
  let eInt_c := rowsOf Int_c
  let lenI_Cond := @lenI Cond
  have hL : (⟨ar, cm, bo, sc, sa, sx, ss, sl, bs, sb, ln, sr, ap, up, rp, fr, ge, le, lt, nz, mm, ma, sm, fl, al⟩ : Lf) = Ls := rfl
  show AC Try.prog 108 [.ag [.s (.int .i64 a0v_Table), .im false (eCond_c a0v_Where), .s (.int .i64 a0v_Order), .s (.bool a0v_Down), .s (.int .i64 a0v_First), .im false (eInt_c a0v_Show), .s (.bool a0v_Kids), .s (.int .i64 a0v_KidTable), .s (.int .i64 a0v_KidCol)], .ag [.s (.int .i64 a1v_Id), .im false (eInt_c a1v_Cells)]] _ _
  refine AC.of_run2 tab_ok Try.func108 (by rfl) (by rfl) (by cbv) ⟨by decide, rfl⟩ fun F hP hA => ?_
  have hT : TabOk F.P tab := hP ▸ tab_ok
  have hM : F.P.follows .mixedOrders = true := hP ▸ mixed
  have hC : ∀ {f a o r}, AC Try.prog f a o r → AC F.P f a o r := fun h => hP ▸ h
  refine Run.seq ?_
  refine Run.region hL hT [] (by cbv) ?_ ?_
  · exact hq0
  refine Run.seq ?_
  refine Run.seq ?_
  refine Run.region hL hT [] (by cbv) ?_ ?_
  · exact (hq trivial hq0)
  rw [show ln (eCond_c a0v_Where) = lenI_Cond a0v_Where from ln_eq Cond_c _]
  refine Run.block ?_
  refine Run.loop1 (fun (z6 : Int) => ⟨19, 100000, [(3, .pt 1 0 0), (8, .t (.im false (eCond_c a0v_Where))), (9, .t (.s (.int .i64 (lenI_Cond a0v_Where)))), (10, .t (.s (.int .i64 z6)))], [(1, .box 92 [.t (.s (.int .i64 a1v_Id)), .t (.im false (eInt_c a1v_Cells))])]⟩) (x0 := 0) h (Weak.of _ [(1, 1)] hA (by cbv) ?_) (fun _ => rfl) ?_
  · repeat (first | exact hq0 | refine hq (by first | exact True.intro | rfl) ?_)
  · intro k z6 h
    rw [impl_Matches.l0] at h
    refine Run.seq ?_
    refine Run.region hL hT [] (by cbv) ?_ ?_
    · exact (hq trivial hq0)
    refine Run.seq ?_
    refine Run.cond (by cbv) (hq0) (fun c7 => ?_) (fun c7 => ?_)
    · have h := if_t c7 h
      refine Run.skip ?_
      refine Run.seq ?_
      refine Run.block ?_
      refine Run.seq ?_
      obtain ⟨⟨x8v_Col, x8v_Op, x8v_V⟩, h_x8, h⟩ := bnd h
      refine Run.region hL hT [(0, .el [.s (.int .i64 x8v_Col), .s (.int .i64 x8v_Op), .s (.int .i64 x8v_V)])] (by cbv) ?_ ?_
      · exact (hq (get_le h_x8) (hq (get_lt (f := Cond_c) h_x8) (hq (get_ge (f := Cond_c) h_x8) (hq trivial hq0))))
      refine Run.seq ?_
      obtain ⟨r9, h_r9, h⟩ := bnd h
      refine Run.region hL hT [(2, .call [false, false] [.ag [.jk, .jk, .jk], .ag [.jk, .jk]] [.v (.s (.bool r9))])] (by cbv) ?_ ?_
      · exact (hq trivial (hq trivial (hq (hC (impl_holds_ac h_r9)) hq0)))
      refine Run.cond (by cbv) (hq0) (fun c10 => ?_) (fun c10 => ?_)
      · have h := if_t c10 h
        refine Run.seq ?_
        refine Run.region hL hT [] (by cbv) ?_ ?_
        · exact hq0
        refine Run.ret ?_
        cases h
        refine ⟨_, _, by cbv, ?_, ?_⟩
        · exact LLe.r
        · exact (ALe.v LLe.r ALe.nil)
      · have h := if_f c10 h
        refine Run.skip ?_
        refine Run.region hL hT [] (by cbv) ?_ ?_
        · exact (hq trivial hq0)
        refine ⟨(ar .add .i64 z6 1), h, Weak.of _ [(1, 1)] hA (by cbv) ?_⟩
        repeat (first | exact hq0 | refine hq (by first | exact True.intro | rfl) ?_)
    · have h := if_f c7 h
      refine Run.exit ?_
      refine Run.seq ?_
      refine Run.region hL hT [] (by cbv) ?_ ?_
      · exact hq0
      refine Run.ret ?_
      cases h
      refine ⟨_, _, by cbv, ?_, ?_⟩
      · exact LLe.r
      · exact (ALe.v LLe.r ALe.nil)

set_option maxRecDepth 8000 in
theorem impl_RowAt_1_ac {a0v_Id : Int} {a0v_Cells : List Int} {a1 : Int} {r : Bool} (h : impl_RowAt_1.f (Row.mk a0v_Id a0v_Cells) a1 = some r) : AC Try.prog 174 [.ag [.s (.int .i64 a0v_Id), .im false (rowsOf Int_c a0v_Cells)], .v (.ip [.s (.int .i64 a1)])] [.ag [.jk, .jk], .v (.jk)] [.v (.s (.bool r))] := by
  unfold impl_RowAt_1.f at h
  let ar := Ls.ar; let cm := Ls.cm; let bo := Ls.bo; let sc := Ls.sc; let sa := Ls.sa; let sx := Ls.sx; let ss := Ls.ss; let sl := Ls.sl; let bs := Ls.bs; let sb := Ls.sb; let ln := Ls.ln; let sr := Ls.sr; let ap := Ls.ap; let up := Ls.up; let rp := Ls.rp; let fr := Ls.fr; let ge := Ls.ge; let le := Ls.le; let lt := Ls.lt; let nz := Ls.nz; let mm := Ls.mm; let ma := Ls.ma; let sm := Ls.sm; let fl := Ls.fl; let al := Ls.al
  let eInt_c := rowsOf Int_c
  have hL : (⟨ar, cm, bo, sc, sa, sx, ss, sl, bs, sb, ln, sr, ap, up, rp, fr, ge, le, lt, nz, mm, ma, sm, fl, al⟩ : Lf) = Ls := rfl
  show AC Try.prog 174 [.ag [.s (.int .i64 a0v_Id), .im false (eInt_c a0v_Cells)], .v (.ip [.s (.int .i64 a1)])] _ _
  refine AC.of_run2 tab_ok Try.func174 (by rfl) (by rfl) (by cbv) ⟨by decide, rfl⟩ fun F hP hA => ?_
  have hT : TabOk F.P tab := hP ▸ tab_ok
  have hM : F.P.follows .mixedOrders = true := hP ▸ mixed
  have hC : ∀ {f a o r}, AC Try.prog f a o r → AC F.P f a o r := fun h => hP ▸ h
  refine Run.seq ?_
  refine Run.region hL hT [] (by cbv) ?_ ?_
  · exact hq0
  refine Run.seq ?_
  refine Run.region hL hT [] (by cbv) ?_ ?_
  · exact (hq trivial (hq trivial hq0))
  refine Run.ret ?_
  cases h
  refine ⟨_, _, by cbv, ?_, ?_⟩
  · exact LLe.r
  · exact (ALe.v LLe.r ALe.nil)

set_option maxRecDepth 8000 in
theorem slices_IndexFunc_impl_Row__impl_RowAt_1_ac {a0 : List Row} {a1c0 : Int} {r : Int} (h : slices_IndexFunc_impl_Row__impl_RowAt_1.f a0 a1c0 = some r) : AC Try.prog 173 [.v (.im false (rowsOf Row_i a0)), .v (.fn 174 [.ip [.s (.int .i64 a1c0)]])] [.v (.jk), .v (.jk)] [.v (.s (.int .i64 r))] := by
  unfold slices_IndexFunc_impl_Row__impl_RowAt_1.f at h
  let ar := Ls.ar; let cm := Ls.cm; let bo := Ls.bo; let sc := Ls.sc; let sa := Ls.sa; let sx := Ls.sx; let ss := Ls.ss; let sl := Ls.sl; let bs := Ls.bs; let sb := Ls.sb; let ln := Ls.ln; let sr := Ls.sr; let ap := Ls.ap; let up := Ls.up; let rp := Ls.rp; let fr := Ls.fr; let ge := Ls.ge; let le := Ls.le; let lt := Ls.lt; let nz := Ls.nz; let mm := Ls.mm; let ma := Ls.ma; let sm := Ls.sm; let fl := Ls.fl; let al := Ls.al
  let eInt_c := rowsOf Int_c
  let eRow_i := rowsOf Row_i
  let lenI_Row := @lenI Row
  have hL : (⟨ar, cm, bo, sc, sa, sx, ss, sl, bs, sb, ln, sr, ap, up, rp, fr, ge, le, lt, nz, mm, ma, sm, fl, al⟩ : Lf) = Ls := rfl
  show AC Try.prog 173 [.v (.im false (eRow_i a0)), .v (.fn 174 [.ip [.s (.int .i64 a1c0)]])] _ _
  refine AC.of_run2 tab_ok Try.func173 (by rfl) (by rfl) (by cbv) ⟨by decide, rfl⟩ fun F hP hA => ?_
  have hT : TabOk F.P tab := hP ▸ tab_ok
  have hM : F.P.follows .mixedOrders = true := hP ▸ mixed
  have hC : ∀ {f a o r}, AC Try.prog f a o r → AC F.P f a o r := fun h => hP ▸ h
  refine Run.weak ?_ (Weak.fnT 1 (by cbv))
  refine Run.seq ?_
  refine Run.region hL hT [] (by cbv) ?_ ?_
  · exact hq0
  refine Run.seq ?_
  refine Run.seq ?_
  refine Run.region hL hT [] (by cbv) ?_ ?_
  · exact hq0
  rw [show ln (eRow_i a0) = lenI_Row a0 from ln_eq Row_i _]
  refine Run.block ?_
  refine Run.loop1 (fun (z5 : Int) => ⟨19, 100000, [(0, .t (.im false (eRow_i a0))), (1, .fn 174 [.t (.ip [.s (.int .i64 a1c0)])]), (7, .t (.s (.int .i64 (lenI_Row a0)))), (8, .t (.s (.int .i64 z5)))], []⟩) (x0 := 0) h (Weak.of _ [] hA (by cbv) ?_) (fun _ => rfl) ?_
  · repeat (first | exact hq0 | refine hq (by first | exact True.intro | rfl) ?_)
  · intro k z5 h
    rw [slices_IndexFunc_impl_Row__impl_RowAt_1.l0] at h
    refine Run.seq ?_
    refine Run.region hL hT [] (by cbv) ?_ ?_
    · exact (hq trivial hq0)
    refine Run.seq ?_
    refine Run.cond (by cbv) (hq0) (fun c6 => ?_) (fun c6 => ?_)
    · have h := if_t c6 h
      refine Run.skip ?_
      refine Run.seq ?_
      refine Run.block ?_
      refine Run.seq ?_
      refine Run.region hL hT [] (by cbv) ?_ ?_
      · exact hq0
      refine Run.seq ?_
      obtain ⟨⟨x7v_Id, x7v_Cells⟩, h_x7, h⟩ := bnd h
      obtain ⟨r8, h_r8, h⟩ := bnd h
      refine Run.region hL hT [(3, .el [.s (.int .i64 x7v_Id), .im false (eInt_c x7v_Cells)]), (5, .call [false] [.ag [.jk, .jk], .v (.jk)] [.v (.s (.bool r8))])] (by cbv) ?_ ?_
      · exact (hq (get_le h_x7) (hq (get_lt (f := Row_i) h_x7) (hq (get_ge (f := Row_i) h_x7) (hq (hC (impl_RowAt_1_ac h_r8)) hq0))))
      refine Run.cond (by cbv) (hq0) (fun c9 => ?_) (fun c9 => ?_)
      · have h := if_t c9 h
        refine Run.seq ?_
        refine Run.region hL hT [] (by cbv) ?_ ?_
        · exact hq0
        refine Run.ret ?_
        cases h
        refine ⟨_, _, by cbv, ?_, ?_⟩
        · exact LLe.r
        · exact (ALe.v LLe.r ALe.nil)
      · have h := if_f c9 h
        refine Run.skip ?_
        refine Run.region hL hT [] (by cbv) ?_ ?_
        · exact (hq trivial hq0)
        refine ⟨(ar .add .i64 z5 1), h, Weak.of _ [] hA (by cbv) ?_⟩
        repeat (first | exact hq0 | refine hq (by first | exact True.intro | rfl) ?_)
    · have h := if_f c6 h
      refine Run.exit ?_
      refine Run.seq ?_
      refine Run.region hL hT [] (by cbv) ?_ ?_
      · exact hq0
      refine Run.ret ?_
      cases h
      refine ⟨_, _, by cbv, ?_, ?_⟩
      · exact LLe.r
      · exact (ALe.v LLe.r ALe.nil)

set_option maxRecDepth 8000 in
theorem impl_RowAt_ac {a0 : List Row} {a1 : Int} {r : Int} (h : impl_RowAt.f a0 a1 = some r) : AC Try.prog 110 [.v (.im false (rowsOf Row_i a0)), .v (.s (.int .i64 a1))] [.v (.jk), .v (.jk)] [.v (.s (.int .i64 r))] := by
  unfold impl_RowAt.f at h
  let ar := Ls.ar; let cm := Ls.cm; let bo := Ls.bo; let sc := Ls.sc; let sa := Ls.sa; let sx := Ls.sx; let ss := Ls.ss; let sl := Ls.sl; let bs := Ls.bs; let sb := Ls.sb; let ln := Ls.ln; let sr := Ls.sr; let ap := Ls.ap; let up := Ls.up; let rp := Ls.rp; let fr := Ls.fr; let ge := Ls.ge; let le := Ls.le; let lt := Ls.lt; let nz := Ls.nz; let mm := Ls.mm; let ma := Ls.ma; let sm := Ls.sm; let fl := Ls.fl; let al := Ls.al
  let eRow_i := rowsOf Row_i
  have hL : (⟨ar, cm, bo, sc, sa, sx, ss, sl, bs, sb, ln, sr, ap, up, rp, fr, ge, le, lt, nz, mm, ma, sm, fl, al⟩ : Lf) = Ls := rfl
  show AC Try.prog 110 [.v (.im false (eRow_i a0)), .v (.s (.int .i64 a1))] _ _
  refine AC.of_run2 tab_ok Try.func110 (by rfl) (by rfl) (by cbv) ⟨by decide, rfl⟩ fun F hP hA => ?_
  have hT : TabOk F.P tab := hP ▸ tab_ok
  have hM : F.P.follows .mixedOrders = true := hP ▸ mixed
  have hC : ∀ {f a o r}, AC Try.prog f a o r → AC F.P f a o r := fun h => hP ▸ h
  refine Run.seq ?_
  refine Run.region hL hT [] (by cbv) ?_ ?_
  · exact hq0
  refine Run.seq ?_
  obtain ⟨r1, h_r1, h⟩ := bnd h
  refine Run.region hL hT [(2, .call [false, false] [.v (.jk), .v (.jk)] [.v (.s (.int .i64 r1))])] (by cbv) ?_ ?_
  · exact (hq (hC (slices_IndexFunc_impl_Row__impl_RowAt_1_ac h_r1)) hq0)
  refine Run.ret ?_
  cases h
  refine ⟨_, _, by cbv, ?_, ?_⟩
  · exact LLe.r
  · exact (ALe.v LLe.r ALe.nil)

set_option maxRecDepth 8000 in
theorem impl_copyInts_ac {a0 : List Int} {r : (List Int)} (h : impl_copyInts.f a0 = some r) : AC Try.prog 182 [.v (.im false (rowsOf Int_c a0))] [.v (.jk)] [.v (.ow 3 (rowsOf Int_c r))] := by
  unfold impl_copyInts.f at h
  let ar := Ls.ar; let cm := Ls.cm; let bo := Ls.bo; let sc := Ls.sc; let sa := Ls.sa; let sx := Ls.sx; let ss := Ls.ss; let sl := Ls.sl; let bs := Ls.bs; let sb := Ls.sb; let ln := Ls.ln; let sr := Ls.sr; let ap := Ls.ap; let up := Ls.up; let rp := Ls.rp; let fr := Ls.fr; let ge := Ls.ge; let le := Ls.le; let lt := Ls.lt; let nz := Ls.nz; let mm := Ls.mm; let ma := Ls.ma; let sm := Ls.sm; let fl := Ls.fl; let al := Ls.al
  let eInt_c := rowsOf Int_c
  have hL : (⟨ar, cm, bo, sc, sa, sx, ss, sl, bs, sb, ln, sr, ap, up, rp, fr, ge, le, lt, nz, mm, ma, sm, fl, al⟩ : Lf) = Ls := rfl
  show AC Try.prog 182 [.v (.im false (eInt_c a0))] _ _
  refine AC.of_run2 tab_ok Try.func182 (by rfl) (by rfl) (by cbv) ⟨by decide, rfl⟩ fun F hP hA => ?_
  have hT : TabOk F.P tab := hP ▸ tab_ok
  have hM : F.P.follows .mixedOrders = true := hP ▸ mixed
  have hC : ∀ {f a o r}, AC Try.prog f a o r → AC F.P f a o r := fun h => hP ▸ h
  refine Run.seq ?_
  refine Run.region hL hT [] (by cbv) ?_ ?_
  · exact hq0
  refine Run.seq ?_
  obtain ⟨l1, h_l1, h⟩ := bnd h
  refine Run.region hL hT [] (by cbv) ?_ ?_
  · exact (hq (fl_row Int_c_f _) (hq (app_mb (P := Try.prog) (f := Int_c) RLe.r RLe.r h_l1) hq0))
  refine Run.row (rows := (ap ([]) ((eInt_c a0)))) 4098 (eInt_c l1) (by cbv) (app_le (f := Int_c) RLe.r RLe.r h_l1) ?_
  refine Run.ret ?_
  cases h
  refine ⟨_, _, by cbv, ?_, ?_⟩
  · exact LLe.r
  · exact (ALe.v LLe.r ALe.nil)

set_option maxRecDepth 8000 in
theorem impl_copyRow_ac {a0v_Id : Int} {a0v_Cells : List Int} {r : Row} (h : impl_copyRow.f (Row.mk a0v_Id a0v_Cells) = some r) : AC Try.prog 129 [.ag [.s (.int .i64 a0v_Id), .im false (rowsOf Int_c a0v_Cells)]] [.ag [.jk, .jk]] [.ag [.s (.int .i64 r.Id), .ow 3 (rowsOf Int_c r.Cells)]] := by
  unfold impl_copyRow.f at h
  let ar := Ls.ar; let cm := Ls.cm; let bo := Ls.bo; let sc := Ls.sc; let sa := Ls.sa; let sx := Ls.sx; let ss := Ls.ss; let sl := Ls.sl; let bs := Ls.bs; let sb := Ls.sb; let ln := Ls.ln; let sr := Ls.sr; let ap := Ls.ap; let up := Ls.up; let rp := Ls.rp; let fr := Ls.fr; let ge := Ls.ge; let le := Ls.le; let lt := Ls.lt; let nz := Ls.nz; let mm := Ls.mm; let ma := Ls.ma; let sm := Ls.sm; let fl := Ls.fl; let al := Ls.al
  let eInt_c := rowsOf Int_c
  have hL : (⟨ar, cm, bo, sc, sa, sx, ss, sl, bs, sb, ln, sr, ap, up, rp, fr, ge, le, lt, nz, mm, ma, sm, fl, al⟩ : Lf) = Ls := rfl
  show AC Try.prog 129 [.ag [.s (.int .i64 a0v_Id), .im false (eInt_c a0v_Cells)]] _ _
  refine AC.of_run2 tab_ok Try.func129 (by rfl) (by rfl) (by cbv) ⟨by decide, rfl⟩ fun F hP hA => ?_
  have hT : TabOk F.P tab := hP ▸ tab_ok
  have hM : F.P.follows .mixedOrders = true := hP ▸ mixed
  have hC : ∀ {f a o r}, AC Try.prog f a o r → AC F.P f a o r := fun h => hP ▸ h
  refine Run.seq ?_
  refine Run.region hL hT [] (by cbv) ?_ ?_
  · exact hq0
  refine Run.seq ?_
  obtain ⟨r1, h_r1, h⟩ := bnd h
  refine Run.draw hL hT hM [(4, .call [false] [.v (.jk)] [.v (.ow 3 (eInt_c r1))])] (by cbv) (by cbv) (by cbv) (by cbv) (by cbv) ?_ ?_
  · exact (hq trivial (hq trivial (hq (hC (impl_copyInts_ac h_r1)) (hq trivial hq0))))
  refine Run.ret ?_
  cases h
  refine ⟨_, _, by cbv, ?_, ?_⟩
  · exact LLe.r
  · exact (ALe.ag rfl LLe.r ALe.nil)

set_option maxRecDepth 8000 in
theorem impl_copyRows_ac {a0 : List Row} {r : (List Row)} (h : impl_copyRows.f a0 = some r) : AC Try.prog 183 [.v (.im false (rowsOf Row_i a0))] [.v (.jk)] [.v (.ow 92 (rowsOf Row_o r))] := by
  unfold impl_copyRows.f at h
  let ar := Ls.ar; let cm := Ls.cm; let bo := Ls.bo; let sc := Ls.sc; let sa := Ls.sa; let sx := Ls.sx; let ss := Ls.ss; let sl := Ls.sl; let bs := Ls.bs; let sb := Ls.sb; let ln := Ls.ln; let sr := Ls.sr; let ap := Ls.ap; let up := Ls.up; let rp := Ls.rp; let fr := Ls.fr; let ge := Ls.ge; let le := Ls.le; let lt := Ls.lt; let nz := Ls.nz; let mm := Ls.mm; let ma := Ls.ma; let sm := Ls.sm; let fl := Ls.fl; let al := Ls.al
  let eInt_c := rowsOf Int_c
  let eRow_i := rowsOf Row_i
  let eRow_o := rowsOf Row_o
  let lenI_Row := @lenI Row
  have hL : (⟨ar, cm, bo, sc, sa, sx, ss, sl, bs, sb, ln, sr, ap, up, rp, fr, ge, le, lt, nz, mm, ma, sm, fl, al⟩ : Lf) = Ls := rfl
  show AC Try.prog 183 [.v (.im false (eRow_i a0))] _ _
  refine AC.of_run2 tab_ok Try.func183 (by rfl) (by rfl) (by cbv) ⟨by decide, rfl⟩ fun F hP hA => ?_
  have hT : TabOk F.P tab := hP ▸ tab_ok
  have hM : F.P.follows .mixedOrders = true := hP ▸ mixed
  have hC : ∀ {f a o r}, AC Try.prog f a o r → AC F.P f a o r := fun h => hP ▸ h
  refine Run.seq ?_
  refine Run.region hL hT [] (by cbv) ?_ ?_
  · exact hq0
  refine Run.seq ?_
  refine Run.region hL hT [] (by cbv) ?_ ?_
  · exact hq0
  refine Run.seq ?_
  refine Run.seq ?_
  refine Run.region hL hT [] (by cbv) ?_ ?_
  · exact hq0
  rw [show ln (eRow_i a0) = lenI_Row a0 from ln_eq Row_i _]
  refine Run.block ?_
  refine Run.loop2 (fun (z5 : List Row) (z6 : Int) => ⟨20, 100000, [(3, .rf 1), (7, .t (.im false (eRow_i a0))), (8, .t (.s (.int .i64 (lenI_Row a0)))), (9, .t (.s (.int .i64 z6)))], [(1, .row 0 92 2 (eRow_o z5))]⟩) (x0 := []) (x1 := 0) h (Weak.of _ [(1, 4096)] hA (by cbv) ?_) (fun _ _ => rfl) ?_
  · repeat (first | exact hq0 | refine hq (by first | exact True.intro | rfl) ?_)
  · intro k z5 z6 h
    rw [impl_copyRows.l0] at h
    refine Run.seq ?_
    refine Run.region hL hT [] (by cbv) ?_ ?_
    · exact (hq trivial hq0)
    refine Run.seq ?_
    refine Run.cond (by cbv) (hq0) (fun c7 => ?_) (fun c7 => ?_)
    · have h := if_t c7 h
      refine Run.skip ?_
      refine Run.seq ?_
      refine Run.block ?_
      refine Run.seq ?_
      obtain ⟨⟨x8v_Id, x8v_Cells⟩, h_x8, h⟩ := bnd h
      refine Run.region hL hT [(0, .el [.s (.int .i64 x8v_Id), .im false (eInt_c x8v_Cells)])] (by cbv) ?_ ?_
      · exact (hq (get_le h_x8) (hq (get_lt (f := Row_i) h_x8) (hq (get_ge (f := Row_i) h_x8) (hq trivial hq0))))
      obtain ⟨⟨r9v_Id, r9v_Cells⟩, h_r9, h⟩ := bnd h
      obtain ⟨l10, h_l10, h⟩ := bnd h
      obtain ⟨l11, h_l11, h⟩ := bnd h
      refine Run.region hL hT [(2, .call [false] [.ag [.jk, .jk]] [.ag [.s (.int .i64 r9v_Id), .ow 3 (eInt_c r9v_Cells)]])] (by cbv) ?_ ?_
      · exact (hq trivial (hq (hC (impl_copyRow_ac h_r9)) (hq (app_mb (P := Try.prog) (f := Row_o) RLe.r (some_le (f := Row_o) h_l10 (RLe.cons rfl LLe.r RLe.nil)) h_l11) hq0)))
      refine Run.row (rows := (ap (eRow_o z5) ([[.s (.int .i64 r9v_Id), .ow 3 (eInt_c r9v_Cells)]]))) 108196 (eRow_o l11) (by cbv) (app_le (f := Row_o) RLe.r (some_le (f := Row_o) h_l10 (RLe.cons rfl LLe.r RLe.nil)) h_l11) ?_
      refine Run.region hL hT [] (by cbv) ?_ ?_
      · exact (hq trivial hq0)
      refine ⟨l11, (ar .add .i64 z6 1), h, Weak.of _ [(1, 108196)] hA (by cbv) ?_⟩
      repeat (first | exact hq0 | refine hq (by first | exact True.intro | rfl) ?_)
    · have h := if_f c7 h
      refine Run.exit ?_
      refine Run.seq ?_
      refine Run.region hL hT [] (by cbv) ?_ ?_
      · exact hq0
      refine Run.ret ?_
      cases h
      refine ⟨_, _, by cbv, ?_, ?_⟩
      · exact LLe.r
      · exact (ALe.v LLe.r ALe.nil)

set_option maxRecDepth 8000 in
theorem slices_Delete_impl_Row_ac {a0 : List Row} {a1 a2 : Int} {r : List Row} (h : slices_Delete_impl_Row.f a0 a1 a2 = some r) : AC Try.prog 184 [.v (.ow 92 (rowsOf Row_o a0)), .v (.s (.int .i64 a1)), .v (.s (.int .i64 a2))] [.v .jk, .v .jk, .v .jk] [.v (.ow 92 (rowsOf Row_o r))] := by
  unfold slices_Delete_impl_Row.f delO at h
  split at h
  · rename_i hc
    obtain ⟨c0, c1, c2⟩ := hc
    obtain ⟨i, rfl⟩ : ∃ k : Nat, a1 = k := ⟨a1.toNat, by omega⟩
    obtain ⟨j, rfl⟩ : ∃ k : Nat, a2 = k := ⟨a2.toNat, by omega⟩
    simp only [Option.some.injEq] at h
    subst h
    have hr : rowsOf Row_o (a0.take ((i : Nat) : Int).toNat ++ a0.drop ((j : Nat) : Int).toNat) = (rowsOf Row_o a0).take i ++ (rowsOf Row_o a0).drop j := by simp [rowsOf, List.map_take, List.map_drop]
    rw [hr]
    have hl := rowsOf_len Row_o a0
    generalize rowsOf Row_o a0 = R at *
    obtain ⟨D3, hD3⟩ : ∃ D, D = R.take i ++ R.drop j := ⟨_, rfl⟩
    rw [← hD3]
    have c1 : i ≤ j := by omega
    have c2 : j ≤ R.length := by omega
    have hlR : Ls.ln R = (R.length : Int) := rfl
    let ar := Ls.ar; let cm := Ls.cm; let bo := Ls.bo; let sc := Ls.sc; let sa := Ls.sa; let sx := Ls.sx; let ss := Ls.ss; let sl := Ls.sl; let bs := Ls.bs; let sb := Ls.sb; let ln := Ls.ln; let sr := Ls.sr; let ap := Ls.ap; let up := Ls.up; let rp := Ls.rp; let fr := Ls.fr; let ge := Ls.ge; let le := Ls.le; let lt := Ls.lt; let nz := Ls.nz; let mm := Ls.mm; let ma := Ls.ma; let sm := Ls.sm; let fl := Ls.fl; let al := Ls.al
    have hL : (⟨ar, cm, bo, sc, sa, sx, ss, sl, bs, sb, ln, sr, ap, up, rp, fr, ge, le, lt, nz, mm, ma, sm, fl, al⟩ : Lf) = Ls := rfl
    refine AC.of_run2 tab_ok Try.func184 (by rfl) (by rfl) (by cbv) ⟨by decide, rfl⟩ fun F hP hA => ?_
    have hT : TabOk F.P tab := hP ▸ tab_ok
    have hM : F.P.follows .mixedOrders = true := hP ▸ mixed
    refine Run.seq ?_
    refine Run.region hL hT [] (by cbv) ?_ ?_
    · exact hq0
    refine Run.seq ?_
    refine Run.region hL hT [(5, .hd [0] .u [])] (by cbv) ?_ ?_
    · exact hq (hand_slice3r (hT 54 _ rfl) rfl (hT 92 _ rfl) (by omega) (by omega) (by show (j : Int) ≤ (R.length : Int); omega) (Int.le_refl _)) hq0
    refine Run.seq ?_
    refine Run.seq ?_
    refine Run.region hL hT [] (by cbv) ?_ ?_
    · exact hq trivial hq0
    refine Run.cond (by cbv) hq0 (fun c => ?_) (fun c => ?_)
    · have e : (i : Int) = j := of_decide_eq_true c
      obtain rfl : i = j := by omega
      rw [List.take_append_drop] at hD3
      subst hD3
      refine Run.seq ?_
      refine Run.region hL hT [] (by cbv) ?_ ?_
      · exact hq0
      refine Run.weak ?_ (Weak.mv (v := .rf 0) 0 900000 6 (by cbv) (by cbv) (by cbv) (by cbv))
      refine Run.ret ?_
      refine ⟨_, _, by cbv, ?_, ?_⟩
      · exact LLe.r
      · exact ALe.r
    have e : ¬ (i : Int) = j := of_decide_eq_false c
    have c1 : i < j := by omega
    obtain ⟨D1, hD1⟩ : ∃ D, D = delR R i j R.length 2 := ⟨_, rfl⟩
    obtain ⟨D2, hD2⟩ : ∃ D, D = delR D1 (i + (R.length - j)) D1.length D1.length 2 := ⟨_, rfl⟩
    have hl1 : D1.length = R.length := by rw [hD1]; exact delR_len (by omega) (by omega) (Nat.le_refl _)
    have hl2 : D2.take (i + (R.length - j)) = D3 := by rw [hD3]; rw [hD2, hl1, hD1]; exact delR_take2 (by omega) (by omega)
    have hj1 := hand_append_in (P := F.P) (x := .tmp 22) (y := .tmp 25) (id := 0) (ver := 0) (hT 54 _ rfl) rfl (hT 92 _ rfl) (h := R.length) (rows := R) c1 c2 (Nat.le_refl _) (rfl : ((i + (R.length - j) : Nat) : Int) = _)
    rw [← hD1] at hj1
    obtain ⟨ki, hki⟩ : ∃ k : Int, k = ((i + (R.length - j) : Nat) : Int) := ⟨_, rfl⟩
    rw [← hki] at hj1
    refine Run.skip ?_
    refine Run.seq ?_
    refine Run.region hL hT [] (by cbv) ?_ ?_
    · exact hq0
    refine Run.seq ?_
    refine Run.draw hL hT hM [(6, .hd [0] (.sb 0 0 ki) [(0, .row 1 92 2 D1)])] (by cbv) (by cbv) (by cbv) (by cbv) (by cbv) ?_ ?_
    · exact hq (Int.le_refl _) (hq (by show (0 : Int) ≤ (i : Int); omega) (hq (by show (i : Int) ≤ (R.length : Int); omega) (hq (by show (0 : Int) ≤ (j : Int); omega) (hq (by show (j : Int) ≤ (R.length : Int); omega) (hq (Int.le_refl _) (hq hj1 hq0))))))
    refine Run.seq ?_
    refine Run.region hL hT [(2, .hd [0] (.t (.s (.int .i64 ki))) []), (4, .hd [0] (.sb 0 ki (ln R)) []), (5, .hd [0] .u [(0, .row 2 92 2 D2)])] (by cbv) ?_ ?_
    · have hj2 := hand_clear (P := F.P) (x := .tmp 31) (id := 0) (ver := 1) (hT 54 _ rfl) rfl (hT 92 _ rfl) (by simp) (b0 := i + (R.length - j)) (b1 := R.length) (rows := D1) (by omega) (by omega)
      rw [← hD2, ← hki] at hj2
      exact hq (hand_len (hT 54 _ rfl) rfl (by omega)) (hq (hand_slice (hT 54 _ rfl) rfl (hT 92 _ rfl) (l := ki) (hh := R.length) rfl (.inr ⟨_, _, rfl, rfl⟩) (.inr ⟨_, _, rfl, rfl⟩) (by omega) (by omega) (by show (0 : Int) + (R.length : Int) ≤ (D1.length : Int); omega) (by omega) (by show (R.length : Int) = _; omega)) (hq hj2 hq0))
    refine Run.seq ?_
    refine Run.region hL hT [] (by cbv) ?_ ?_
    · exact hq0
    refine Run.weak ?_ (Weak.shrink 0 900000 6 (by cbv) (by cbv) (by cbv) (by cbv) hki _ hl2)
    refine Run.ret ?_
    refine ⟨_, _, by cbv, ?_, ?_⟩
    · exact LLe.r
    · exact ALe.r
  · cases h

set_option maxRecDepth 8000 in
theorem impl_RowDrop_ac {a0 : List Row} {a1 : Int} {r : (List Row)} (h : impl_RowDrop.f a0 a1 = some r) : AC Try.prog 130 [.v (.im false (rowsOf Row_i a0)), .v (.s (.int .i64 a1))] [.v (.jk), .v (.jk)] [.v (.ow 92 (rowsOf Row_o r))] := by
  unfold impl_RowDrop.f at h
  let ar := Ls.ar; let cm := Ls.cm; let bo := Ls.bo; let sc := Ls.sc; let sa := Ls.sa; let sx := Ls.sx; let ss := Ls.ss; let sl := Ls.sl; let bs := Ls.bs; let sb := Ls.sb; let ln := Ls.ln; let sr := Ls.sr; let ap := Ls.ap; let up := Ls.up; let rp := Ls.rp; let fr := Ls.fr; let ge := Ls.ge; let le := Ls.le; let lt := Ls.lt; let nz := Ls.nz; let mm := Ls.mm; let ma := Ls.ma; let sm := Ls.sm; let fl := Ls.fl; let al := Ls.al
  let eRow_i := rowsOf Row_i
  let eRow_o := rowsOf Row_o
  have hL : (⟨ar, cm, bo, sc, sa, sx, ss, sl, bs, sb, ln, sr, ap, up, rp, fr, ge, le, lt, nz, mm, ma, sm, fl, al⟩ : Lf) = Ls := rfl
  show AC Try.prog 130 [.v (.im false (eRow_i a0)), .v (.s (.int .i64 a1))] _ _
  refine AC.of_run2 tab_ok Try.func130 (by rfl) (by rfl) (by cbv) ⟨by decide, rfl⟩ fun F hP hA => ?_
  have hT : TabOk F.P tab := hP ▸ tab_ok
  have hM : F.P.follows .mixedOrders = true := hP ▸ mixed
  have hC : ∀ {f a o r}, AC Try.prog f a o r → AC F.P f a o r := fun h => hP ▸ h
  refine Run.seq ?_
  refine Run.region hL hT [] (by cbv) ?_ ?_
  · exact hq0
  refine Run.seq ?_
  obtain ⟨r1, h_r1, h⟩ := bnd h
  refine Run.region hL hT [(1, .call [false] [.v (.jk)] [.v (.ow 92 (eRow_o r1))])] (by cbv) ?_ ?_
  · exact (hq (hC (impl_copyRows_ac h_r1)) hq0)
  refine Run.seq ?_
  obtain ⟨r2, h_r2, h⟩ := bnd h
  refine Run.region hL hT [(2, .call [false, false] [.v (.jk), .v (.jk)] [.v (.s (.int .i64 r2))])] (by cbv) ?_ ?_
  · exact (hq (hC (impl_RowAt_ac h_r2)) hq0)
  refine Run.seq ?_
  refine Run.seq ?_
  refine Run.region hL hT [] (by cbv) ?_ ?_
  · exact (hq trivial hq0)
  refine Run.cond (by cbv) (hq0) (fun c3 => ?_) (fun c3 => ?_)
  · have h := if_t c3 h
    obtain ⟨r4, h_r4, h⟩ := bnd h
    refine Run.region hL hT [(4, .call [true, false, false] [.v (.jk), .v (.jk), .v (.jk)] [.v (.ow 92 (eRow_o r4))])] (by cbv) ?_ ?_
    · exact (hq trivial (hq (hC (slices_Delete_impl_Row_ac h_r4)) hq0))
    refine Run.seq ?_
    refine Run.region hL hT [] (by cbv) ?_ ?_
    · exact hq0
    refine Run.ret ?_
    cases h
    refine ⟨_, _, by cbv, ?_, ?_⟩
    · exact LLe.r
    · exact (ALe.v LLe.r ALe.nil)
  · have h := if_f c3 h
    refine Run.skip ?_
    refine Run.seq ?_
    refine Run.region hL hT [] (by cbv) ?_ ?_
    · exact hq0
    refine Run.ret ?_
    cases h
    refine ⟨_, _, by cbv, ?_, ?_⟩
    · exact LLe.r
    · exact (ALe.v LLe.r ALe.nil)

set_option maxRecDepth 8000 in
theorem impl_copyQuery_ac {a0v_Table : Int} {a0v_Where : List Cond} {a0v_Order : Int} {a0v_Down : Bool} {a0v_First : Int} {a0v_Show : List Int} {a0v_Kids : Bool} {a0v_KidTable : Int} {a0v_KidCol : Int} {r : Query} (h : impl_copyQuery.f (Query.mk a0v_Table a0v_Where a0v_Order a0v_Down a0v_First a0v_Show a0v_Kids a0v_KidTable a0v_KidCol) = some r) : AC Try.prog 191 [.ag [.s (.int .i64 a0v_Table), .im false (rowsOf Cond_c a0v_Where), .s (.int .i64 a0v_Order), .s (.bool a0v_Down), .s (.int .i64 a0v_First), .im false (rowsOf Int_c a0v_Show), .s (.bool a0v_Kids), .s (.int .i64 a0v_KidTable), .s (.int .i64 a0v_KidCol)]] [.ag [.jk, .jk, .jk, .jk, .jk, .jk, .jk, .jk, .jk]] [.ag [.s (.int .i64 r.Table), .ow 187 (rowsOf Cond_c r.Where), .s (.int .i64 r.Order), .s (.bool r.Down), .s (.int .i64 r.First), .ow 3 (rowsOf Int_c r.Show), .s (.bool r.Kids), .s (.int .i64 r.KidTable), .s (.int .i64 r.KidCol)]] := by
  unfold impl_copyQuery.f at h
  let ar := Ls.ar; let cm := Ls.cm; let bo := Ls.bo; let sc := Ls.sc; let sa := Ls.sa; let sx := Ls.sx; let ss := Ls.ss; let sl := Ls.sl; let bs := Ls.bs; let sb := Ls.sb; let ln := Ls.ln; let sr := Ls.sr; let ap := Ls.ap; let up := Ls.up; let rp := Ls.rp; let fr := Ls.fr; let ge := Ls.ge; let le := Ls.le; let lt := Ls.lt; let nz := Ls.nz; let mm := Ls.mm; let ma := Ls.ma; let sm := Ls.sm; let fl := Ls.fl; let al := Ls.al
  let eCond_c := rowsOf Cond_c
  let eInt_c := rowsOf Int_c
  have hL : (⟨ar, cm, bo, sc, sa, sx, ss, sl, bs, sb, ln, sr, ap, up, rp, fr, ge, le, lt, nz, mm, ma, sm, fl, al⟩ : Lf) = Ls := rfl
  show AC Try.prog 191 [.ag [.s (.int .i64 a0v_Table), .im false (eCond_c a0v_Where), .s (.int .i64 a0v_Order), .s (.bool a0v_Down), .s (.int .i64 a0v_First), .im false (eInt_c a0v_Show), .s (.bool a0v_Kids), .s (.int .i64 a0v_KidTable), .s (.int .i64 a0v_KidCol)]] _ _
  refine AC.of_run2 tab_ok Try.func191 (by rfl) (by rfl) (by cbv) ⟨by decide, rfl⟩ fun F hP hA => ?_
  have hT : TabOk F.P tab := hP ▸ tab_ok
  have hM : F.P.follows .mixedOrders = true := hP ▸ mixed
  have hC : ∀ {f a o r}, AC Try.prog f a o r → AC F.P f a o r := fun h => hP ▸ h
  refine Run.seq ?_
  refine Run.region hL hT [] (by cbv) ?_ ?_
  · exact hq0
  refine Run.seq ?_
  obtain ⟨l1, h_l1, h⟩ := bnd h
  obtain ⟨r2, h_r2, h⟩ := bnd h
  refine Run.draw hL hT hM [(6, .call [false] [.v (.jk)] [.v (.ow 3 (eInt_c r2))])] (by cbv) (by cbv) (by cbv) (by cbv) (by cbv) ?_ ?_
  · exact (hq trivial (hq (fl_row Cond_c_f _) (hq (app_mb (P := Try.prog) (f := Cond_c) RLe.r RLe.r h_l1) (hq trivial (hq (hC (impl_copyInts_ac h_r2)) (hq trivial (hq trivial hq0)))))))
  refine Run.row (rows := (ap ([]) ((eCond_c a0v_Where)))) 4099 (eCond_c l1) (by cbv) (app_le (f := Cond_c) RLe.r RLe.r h_l1) ?_
  refine Run.seq ?_
  refine Run.region hL hT [] (by cbv) ?_ ?_
  · exact (hq trivial (hq trivial hq0))
  refine Run.ret ?_
  cases h
  refine ⟨_, _, by cbv, ?_, ?_⟩
  · exact LLe.r
  · exact (ALe.ag rfl LLe.r ALe.nil)

set_option maxRecDepth 8000 in
theorem impl_copyView_ac {a0v_Qv_Table : Int} {a0v_Qv_Where : List Cond} {a0v_Qv_Order : Int} {a0v_Qv_Down : Bool} {a0v_Qv_First : Int} {a0v_Qv_Show : List Int} {a0v_Qv_Kids : Bool} {a0v_Qv_KidTable : Int} {a0v_Qv_KidCol : Int} {a0v_Rows : List Row} {a0v_Kids : List Kid} {r : View} (h : impl_copyView.f (View.mk (Query.mk a0v_Qv_Table a0v_Qv_Where a0v_Qv_Order a0v_Qv_Down a0v_Qv_First a0v_Qv_Show a0v_Qv_Kids a0v_Qv_KidTable a0v_Qv_KidCol) a0v_Rows a0v_Kids) = some r) : AC Try.prog 149 [.ag [.s (.int .i64 a0v_Qv_Table), .im false (rowsOf Cond_c a0v_Qv_Where), .s (.int .i64 a0v_Qv_Order), .s (.bool a0v_Qv_Down), .s (.int .i64 a0v_Qv_First), .im false (rowsOf Int_c a0v_Qv_Show), .s (.bool a0v_Qv_Kids), .s (.int .i64 a0v_Qv_KidTable), .s (.int .i64 a0v_Qv_KidCol), .im false (rowsOf Row_i a0v_Rows), .im false (rowsOf Kid_c a0v_Kids)]] [.ag [.jk, .jk, .jk, .jk, .jk, .jk, .jk, .jk, .jk, .jk, .jk]] [.ag [.s (.int .i64 r.Q.Table), .ow 187 (rowsOf Cond_c r.Q.Where), .s (.int .i64 r.Q.Order), .s (.bool r.Q.Down), .s (.int .i64 r.Q.First), .ow 3 (rowsOf Int_c r.Q.Show), .s (.bool r.Q.Kids), .s (.int .i64 r.Q.KidTable), .s (.int .i64 r.Q.KidCol), .ow 92 (rowsOf Row_o r.Rows), .ow 153 (rowsOf Kid_c r.Kids)]] := by
  unfold impl_copyView.f at h
  let ar := Ls.ar; let cm := Ls.cm; let bo := Ls.bo; let sc := Ls.sc; let sa := Ls.sa; let sx := Ls.sx; let ss := Ls.ss; let sl := Ls.sl; let bs := Ls.bs; let sb := Ls.sb; let ln := Ls.ln; let sr := Ls.sr; let ap := Ls.ap; let up := Ls.up; let rp := Ls.rp; let fr := Ls.fr; let ge := Ls.ge; let le := Ls.le; let lt := Ls.lt; let nz := Ls.nz; let mm := Ls.mm; let ma := Ls.ma; let sm := Ls.sm; let fl := Ls.fl; let al := Ls.al
  let eCond_c := rowsOf Cond_c
  let eInt_c := rowsOf Int_c
  let eKid_c := rowsOf Kid_c
  let eRow_i := rowsOf Row_i
  let eRow_o := rowsOf Row_o
  have hL : (⟨ar, cm, bo, sc, sa, sx, ss, sl, bs, sb, ln, sr, ap, up, rp, fr, ge, le, lt, nz, mm, ma, sm, fl, al⟩ : Lf) = Ls := rfl
  show AC Try.prog 149 [.ag [.s (.int .i64 a0v_Qv_Table), .im false (eCond_c a0v_Qv_Where), .s (.int .i64 a0v_Qv_Order), .s (.bool a0v_Qv_Down), .s (.int .i64 a0v_Qv_First), .im false (eInt_c a0v_Qv_Show), .s (.bool a0v_Qv_Kids), .s (.int .i64 a0v_Qv_KidTable), .s (.int .i64 a0v_Qv_KidCol), .im false (eRow_i a0v_Rows), .im false (eKid_c a0v_Kids)]] _ _
  refine AC.of_run2 tab_ok Try.func149 (by rfl) (by rfl) (by cbv) ⟨by decide, rfl⟩ fun F hP hA => ?_
  have hT : TabOk F.P tab := hP ▸ tab_ok
  have hM : F.P.follows .mixedOrders = true := hP ▸ mixed
  have hC : ∀ {f a o r}, AC Try.prog f a o r → AC F.P f a o r := fun h => hP ▸ h
  refine Run.seq ?_
  refine Run.region hL hT [] (by cbv) ?_ ?_
  · exact hq0
  refine Run.seq ?_
  obtain ⟨⟨r1v_Table, r1v_Where, r1v_Order, r1v_Down, r1v_First, r1v_Show, r1v_Kids, r1v_KidTable, r1v_KidCol⟩, h_r1, h⟩ := bnd h
  obtain ⟨r2, h_r2, h⟩ := bnd h
  obtain ⟨l3, h_l3, h⟩ := bnd h
  refine Run.draw hL hT hM [(2, .call [false] [.ag [.jk, .jk, .jk, .jk, .jk, .jk, .jk, .jk, .jk]] [.ag [.s (.int .i64 r1v_Table), .ow 187 (eCond_c r1v_Where), .s (.int .i64 r1v_Order), .s (.bool r1v_Down), .s (.int .i64 r1v_First), .ow 3 (eInt_c r1v_Show), .s (.bool r1v_Kids), .s (.int .i64 r1v_KidTable), .s (.int .i64 r1v_KidCol)]]), (5, .call [false] [.v (.jk)] [.v (.ow 92 (eRow_o r2))])] (by cbv) (by cbv) (by cbv) (by cbv) (by cbv) ?_ ?_
  · exact (hq trivial (hq (hC (impl_copyQuery_ac h_r1)) (hq trivial (hq (hC (impl_copyRows_ac h_r2)) (hq trivial (hq (fl_row Kid_c_f _) (hq (app_mb (P := Try.prog) (f := Kid_c) RLe.r RLe.r h_l3) (hq trivial hq0))))))))
  refine Run.row (rows := (ap ([]) ((eKid_c a0v_Kids)))) 4105 (eKid_c l3) (by cbv) (app_le (f := Kid_c) RLe.r RLe.r h_l3) ?_
  refine Run.ret ?_
  cases h
  refine ⟨_, _, by cbv, ?_, ?_⟩
  · exact LLe.r
  · exact (ALe.ag rfl LLe.r ALe.nil)

set_option maxRecDepth 8000 in
theorem impl_cellOf_ac {a0v_Id : Int} {a0v_Cells : List Int} {a1 : Int} {r : Int} (h : impl_cellOf.f (Row.mk a0v_Id a0v_Cells) a1 = some r) : AC Try.prog 152 [.ag [.s (.int .i64 a0v_Id), .im false (rowsOf Int_c a0v_Cells)], .v (.s (.int .i64 a1))] [.ag [.jk, .jk], .v (.jk)] [.v (.s (.int .i64 r))] := by
  unfold impl_cellOf.f at h
  let ar := Ls.ar; let cm := Ls.cm; let bo := Ls.bo; let sc := Ls.sc; let sa := Ls.sa; let sx := Ls.sx; let ss := Ls.ss; let sl := Ls.sl; let bs := Ls.bs; let sb := Ls.sb; let ln := Ls.ln; let sr := Ls.sr; let ap := Ls.ap; let up := Ls.up; let rp := Ls.rp; let fr := Ls.fr; let ge := Ls.ge; let le := Ls.le; let lt := Ls.lt; let nz := Ls.nz; let mm := Ls.mm; let ma := Ls.ma; let sm := Ls.sm; let fl := Ls.fl; let al := Ls.al
  let eInt_c := rowsOf Int_c
  let lenI_Int := @lenI Int
  have hL : (⟨ar, cm, bo, sc, sa, sx, ss, sl, bs, sb, ln, sr, ap, up, rp, fr, ge, le, lt, nz, mm, ma, sm, fl, al⟩ : Lf) = Ls := rfl
  show AC Try.prog 152 [.ag [.s (.int .i64 a0v_Id), .im false (eInt_c a0v_Cells)], .v (.s (.int .i64 a1))] _ _
  refine AC.of_run2 tab_ok Try.func152 (by rfl) (by rfl) (by cbv) ⟨by decide, rfl⟩ fun F hP hA => ?_
  have hT : TabOk F.P tab := hP ▸ tab_ok
  have hM : F.P.follows .mixedOrders = true := hP ▸ mixed
  have hC : ∀ {f a o r}, AC Try.prog f a o r → AC F.P f a o r := fun h => hP ▸ h
  refine Run.seq ?_
  refine Run.region hL hT [] (by cbv) ?_ ?_
  · exact hq0
  refine Run.seq ?_
  refine Run.seq ?_
  obtain ⟨r1, h_r1, h⟩ := bnd h
  refine Run.region hL hT [(5, .call [false, false, false] [.v (.jk), .v (.jk), .v (.jk)] [.v (.s (.bool r1))])] (by cbv) ?_ ?_
  · exact (hq trivial (hq trivial (hq (by rw [show ln (eInt_c a0v_Cells) = lenI_Int a0v_Cells from ln_eq Int_c _]; exact (hC (impl_within_ac h_r1))) hq0)))
  rw [show ln (eInt_c a0v_Cells) = lenI_Int a0v_Cells from ln_eq Int_c _]
  refine Run.cond (by cbv) (hq0) (fun c2 => ?_) (fun c2 => ?_)
  · have h := if_t c2 h
    refine Run.seq ?_
    refine Run.region hL hT [] (by cbv) ?_ ?_
    · exact hq0
    refine Run.ret ?_
    cases h
    refine ⟨_, _, by cbv, ?_, ?_⟩
    · exact LLe.r
    · exact (ALe.v LLe.r ALe.nil)
  · have h := if_f c2 h
    refine Run.skip ?_
    refine Run.seq ?_
    obtain ⟨x3, h_x3, h⟩ := bnd h
    refine Run.region hL hT [(3, .el [.s (.int .i64 x3)])] (by cbv) ?_ ?_
    · exact (hq trivial (hq (get_le h_x3) (hq (get_lt (f := Int_c) h_x3) (hq (get_ge (f := Int_c) h_x3) hq0))))
    refine Run.ret ?_
    cases h
    refine ⟨_, _, by cbv, ?_, ?_⟩
    · exact LLe.r
    · exact (ALe.v LLe.r ALe.nil)

set_option maxRecDepth 8000 in
theorem impl_Ahead_ac {a0v_Table : Int} {a0v_Where : List Cond} {a0v_Order : Int} {a0v_Down : Bool} {a0v_First : Int} {a0v_Show : List Int} {a0v_Kids : Bool} {a0v_KidTable : Int} {a0v_KidCol : Int} {a1v_Id : Int} {a1v_Cells : List Int} {a2v_Id : Int} {a2v_Cells : List Int} {r : Bool} (h : impl_Ahead.f (Query.mk a0v_Table a0v_Where a0v_Order a0v_Down a0v_First a0v_Show a0v_Kids a0v_KidTable a0v_KidCol) (Row.mk a1v_Id a1v_Cells) (Row.mk a2v_Id a2v_Cells) = some r) : AC Try.prog 109 [.ag [.s (.int .i64 a0v_Table), .im false (rowsOf Cond_c a0v_Where), .s (.int .i64 a0v_Order), .s (.bool a0v_Down), .s (.int .i64 a0v_First), .im false (rowsOf Int_c a0v_Show), .s (.bool a0v_Kids), .s (.int .i64 a0v_KidTable), .s (.int .i64 a0v_KidCol)], .ag [.s (.int .i64 a1v_Id), .im false (rowsOf Int_c a1v_Cells)], .ag [.s (.int .i64 a2v_Id), .im false (rowsOf Int_c a2v_Cells)]] [.ag [.jk, .jk, .jk, .jk, .jk, .jk, .jk, .jk, .jk], .ag [.jk, .jk], .ag [.jk, .jk]] [.v (.s (.bool r))] := by
  unfold impl_Ahead.f at h
  let ar := Ls.ar; let cm := Ls.cm; let bo := Ls.bo; let sc := Ls.sc; let sa := Ls.sa; let sx := Ls.sx; let ss := Ls.ss; let sl := Ls.sl; let bs := Ls.bs; let sb := Ls.sb; let ln := Ls.ln; let sr := Ls.sr; let ap := Ls.ap; let up := Ls.up; let rp := Ls.rp; let fr := Ls.fr; let ge := Ls.ge; let le := Ls.le; let lt := Ls.lt; let nz := Ls.nz; let mm := Ls.mm; let ma := Ls.ma; let sm := Ls.sm; let fl := Ls.fl; let al := Ls.al
  let eCond_c := rowsOf Cond_c
  let eInt_c := rowsOf Int_c
  have hL : (⟨ar, cm, bo, sc, sa, sx, ss, sl, bs, sb, ln, sr, ap, up, rp, fr, ge, le, lt, nz, mm, ma, sm, fl, al⟩ : Lf) = Ls := rfl
  show AC Try.prog 109 [.ag [.s (.int .i64 a0v_Table), .im false (eCond_c a0v_Where), .s (.int .i64 a0v_Order), .s (.bool a0v_Down), .s (.int .i64 a0v_First), .im false (eInt_c a0v_Show), .s (.bool a0v_Kids), .s (.int .i64 a0v_KidTable), .s (.int .i64 a0v_KidCol)], .ag [.s (.int .i64 a1v_Id), .im false (eInt_c a1v_Cells)], .ag [.s (.int .i64 a2v_Id), .im false (eInt_c a2v_Cells)]] _ _
  refine AC.of_run2 tab_ok Try.func109 (by rfl) (by rfl) (by cbv) ⟨by decide, rfl⟩ fun F hP hA => ?_
  have hT : TabOk F.P tab := hP ▸ tab_ok
  have hM : F.P.follows .mixedOrders = true := hP ▸ mixed
  have hC : ∀ {f a o r}, AC Try.prog f a o r → AC F.P f a o r := fun h => hP ▸ h
  refine Run.seq ?_
  refine Run.region hL hT [] (by cbv) ?_ ?_
  · exact hq0
  refine Run.seq ?_
  refine Run.seq ?_
  refine Run.region hL hT [] (by cbv) ?_ ?_
  · exact (hq trivial (hq trivial hq0))
  refine Run.cond (by cbv) (hq0) (fun c1 => ?_) (fun c1 => ?_)
  · have h := if_t c1 h
    refine Run.seq ?_
    refine Run.region hL hT [] (by cbv) ?_ ?_
    · exact (hq trivial (hq trivial (hq trivial hq0)))
    refine Run.ret ?_
    cases h
    refine ⟨_, _, by cbv, ?_, ?_⟩
    · exact LLe.r
    · exact (ALe.v LLe.r ALe.nil)
  · have h := if_f c1 h
    refine Run.skip ?_
    refine Run.seq ?_
    obtain ⟨r2, h_r2, h⟩ := bnd h
    obtain ⟨r3, h_r3, h⟩ := bnd h
    refine Run.draw hL hT hM [(4, .call [false, false] [.ag [.jk, .jk], .v (.jk)] [.v (.s (.int .i64 r2))]), (9, .call [false, false] [.ag [.jk, .jk], .v (.jk)] [.v (.s (.int .i64 r3))])] (by cbv) (by cbv) (by cbv) (by cbv) (by cbv) ?_ ?_
    · exact (hq trivial (hq trivial (hq trivial (hq (hC (impl_cellOf_ac h_r2)) (hq trivial (hq trivial (hq trivial (hq (hC (impl_cellOf_ac h_r3)) hq0))))))))
    refine Run.seq ?_
    refine Run.block ?_
    refine Run.seq ?_
    refine Run.region hL hT [] (by cbv) ?_ ?_
    · exact (hq trivial hq0)
    refine Run.cond (by cbv) (hq0) (fun c4 => ?_) (fun c4 => ?_)
    · have h := if_t c4 h
      refine Run.seq ?_
      refine Run.region hL hT [] (by cbv) ?_ ?_
      · exact (hq trivial (hq trivial (hq trivial hq0)))
      refine Run.ret ?_
      cases h
      refine ⟨_, _, by cbv, ?_, ?_⟩
      · exact LLe.r
      · exact (ALe.v LLe.r ALe.nil)
    · have h := if_f c4 h
      refine Run.seq ?_
      refine Run.region hL hT [] (by cbv) ?_ ?_
      · exact (hq trivial hq0)
      refine Run.cond (by cbv) (hq0) (fun c5 => ?_) (fun c5 => ?_)
      · have h := if_t c5 h
        refine Run.seq ?_
        refine Run.region hL hT [] (by cbv) ?_ ?_
        · exact (hq trivial hq0)
        refine Run.ret ?_
        cases h
        refine ⟨_, _, by cbv, ?_, ?_⟩
        · exact LLe.r
        · exact (ALe.v LLe.r ALe.nil)
      · have h := if_f c5 h
        refine Run.skip ?_
        refine Run.seq ?_
        refine Run.region hL hT [] (by cbv) ?_ ?_
        · exact (hq trivial hq0)
        refine Run.ret ?_
        cases h
        refine ⟨_, _, by cbv, ?_, ?_⟩
        · exact LLe.r
        · exact (ALe.v LLe.r ALe.nil)

set_option maxRecDepth 8000 in
theorem impl_rowPut_1_ac {a0v_Id : Int} {a0v_Cells : List Int} {a1v_Table : Int} {a1v_Where : List Cond} {a1v_Order : Int} {a1v_Down : Bool} {a1v_First : Int} {a1v_Show : List Int} {a1v_Kids : Bool} {a1v_KidTable : Int} {a1v_KidCol : Int} {a2v_Id : Int} {a2v_Cells : List Int} {r : Bool} (h : impl_rowPut_1.f (Row.mk a0v_Id a0v_Cells) (Query.mk a1v_Table a1v_Where a1v_Order a1v_Down a1v_First a1v_Show a1v_Kids a1v_KidTable a1v_KidCol) (Row.mk a2v_Id a2v_Cells) = some r) : AC Try.prog 192 [.ag [.s (.int .i64 a0v_Id), .im false (rowsOf Int_c a0v_Cells)], .v (.ip [.s (.int .i64 a1v_Table), .im false (rowsOf Cond_c a1v_Where), .s (.int .i64 a1v_Order), .s (.bool a1v_Down), .s (.int .i64 a1v_First), .im false (rowsOf Int_c a1v_Show), .s (.bool a1v_Kids), .s (.int .i64 a1v_KidTable), .s (.int .i64 a1v_KidCol)]), .v (.ip [.s (.int .i64 a2v_Id), .im false (rowsOf Int_c a2v_Cells)])] [.ag [.jk, .jk], .v (.jk), .v (.jk)] [.v (.s (.bool r))] := by
  unfold impl_rowPut_1.f at h
  let ar := Ls.ar; let cm := Ls.cm; let bo := Ls.bo; let sc := Ls.sc; let sa := Ls.sa; let sx := Ls.sx; let ss := Ls.ss; let sl := Ls.sl; let bs := Ls.bs; let sb := Ls.sb; let ln := Ls.ln; let sr := Ls.sr; let ap := Ls.ap; let up := Ls.up; let rp := Ls.rp; let fr := Ls.fr; let ge := Ls.ge; let le := Ls.le; let lt := Ls.lt; let nz := Ls.nz; let mm := Ls.mm; let ma := Ls.ma; let sm := Ls.sm; let fl := Ls.fl; let al := Ls.al
  let eCond_c := rowsOf Cond_c
  let eInt_c := rowsOf Int_c
  have hL : (⟨ar, cm, bo, sc, sa, sx, ss, sl, bs, sb, ln, sr, ap, up, rp, fr, ge, le, lt, nz, mm, ma, sm, fl, al⟩ : Lf) = Ls := rfl
  show AC Try.prog 192 [.ag [.s (.int .i64 a0v_Id), .im false (eInt_c a0v_Cells)], .v (.ip [.s (.int .i64 a1v_Table), .im false (eCond_c a1v_Where), .s (.int .i64 a1v_Order), .s (.bool a1v_Down), .s (.int .i64 a1v_First), .im false (eInt_c a1v_Show), .s (.bool a1v_Kids), .s (.int .i64 a1v_KidTable), .s (.int .i64 a1v_KidCol)]), .v (.ip [.s (.int .i64 a2v_Id), .im false (eInt_c a2v_Cells)])] _ _
  refine AC.of_run2 tab_ok Try.func192 (by rfl) (by rfl) (by cbv) ⟨by decide, rfl⟩ fun F hP hA => ?_
  have hT : TabOk F.P tab := hP ▸ tab_ok
  have hM : F.P.follows .mixedOrders = true := hP ▸ mixed
  have hC : ∀ {f a o r}, AC Try.prog f a o r → AC F.P f a o r := fun h => hP ▸ h
  refine Run.seq ?_
  refine Run.region hL hT [] (by cbv) ?_ ?_
  · exact hq0
  refine Run.seq ?_
  obtain ⟨r1, h_r1, h⟩ := bnd h
  refine Run.region hL hT [(3, .call [false, false, false] [.ag [.jk, .jk, .jk, .jk, .jk, .jk, .jk, .jk, .jk], .ag [.jk, .jk], .ag [.jk, .jk]] [.v (.s (.bool r1))])] (by cbv) ?_ ?_
  · exact (hq trivial (hq (hC (impl_Ahead_ac h_r1)) hq0))
  refine Run.ret ?_
  cases h
  refine ⟨_, _, by cbv, ?_, ?_⟩
  · exact LLe.r
  · exact (ALe.v LLe.r ALe.nil)


end Go.Proofs.Ytibmfkomdhnhbaa.L
