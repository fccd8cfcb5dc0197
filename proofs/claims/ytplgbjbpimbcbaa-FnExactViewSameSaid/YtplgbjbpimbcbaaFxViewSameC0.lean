/- The contracts of the program's functions. -/
import Derived.Test.YtplgbjbpimbcbaaProg
import Derived.Test.YtplgbjbpimbcbaaFxViewSameU
import Derived.KernelRfl
namespace Go.Proofs.Ytplgbjbpimbcbaa.L
open Go Go.Proofs
set_option linter.unusedVariables false
set_option linter.unusedSimpArgs false
def Cond_c (x : Cond) : List T := [.s (.int .i64 x.Col), .s (.int .i64 x.Op), .s (.int .i64 x.V)]
theorem Cond_c_n : ∀ x, (Cond_c x).length = 3 := fun _ => rfl
theorem Cond_c_f : ∀ x, (Cond_c x).length = 3 ∧ ∀ c ∈ Cond_c x, ∃ v, c = T.s v := fun x => ⟨rfl, by simp [Cond_c]⟩
theorem Cond_c_z : ∀ x, fzL (Cond_c x) = Cond_c x := fun _ => rfl
def Int_c (x : Int) : List T := [.s (.int .i64 x)]
theorem Int_c_n : ∀ x, (Int_c x).length = 1 := fun _ => rfl
theorem Int_c_f : ∀ x, (Int_c x).length = 1 ∧ ∀ c ∈ Int_c x, ∃ v, c = T.s v := fun x => ⟨rfl, by simp [Int_c]⟩
theorem Int_c_z : ∀ x, fzL (Int_c x) = Int_c x := fun _ => rfl
def Row_i (x : Row) : List T := [.s (.int .i64 x.Id), .im false (rowsOf Int_c x.Cells)]
theorem Row_i_n : ∀ x, (Row_i x).length = 2 := fun _ => rfl
def Kid_c (x : Kid) : List T := [.s (.int .i64 x.Id), .s (.int .i64 x.N)]
theorem Kid_c_n : ∀ x, (Kid_c x).length = 2 := fun _ => rfl
theorem Kid_c_f : ∀ x, (Kid_c x).length = 2 ∧ ∀ c ∈ Kid_c x, ∃ v, c = T.s v := fun x => ⟨rfl, by simp [Kid_c]⟩
theorem Kid_c_z : ∀ x, fzL (Kid_c x) = Kid_c x := fun _ => rfl
def Row_o (x : Row) : List T := [.s (.int .i64 x.Id), .ow 3 (rowsOf Int_c x.Cells)]
theorem Row_o_n : ∀ x, (Row_o x).length = 2 := fun _ => rfl
theorem Row_o_z : ∀ x, fzL (Row_o x) = Row_i x := by
  intro x
  simp only [Row_o, Row_i, fzL, T.fz, fr_rows Int_c_z]
def tab : List (Nat × Ty) := [(3, Ty.mk false 1 8 0 [] [.int .i64 0] (some .i64) false false false false none),
  (4, Ty.mk false 1 1 0 [] [.bool false] (none) true false false false none),
  (22, Ty.mk false 1 24 133 [] [.slice none 0 0] (none) false false true false none),
  (23, Ty.mk false 1 24 3 [] [.slice none 0 0] (none) false false true false none),
  (25, Ty.mk true 9 104 0 [(0, 1), (1, 1), (2, 1), (3, 1), (4, 1), (5, 1), (6, 1), (7, 1), (8, 1)] [.int .i64 0, .slice none 0 0, .int .i64 0, .bool false, .int .i64 0, .slice none 0 0, .bool false, .int .i64 0, .int .i64 0] (none) false false false false none),
  (28, Ty.mk false 1 24 76 [] [.slice none 0 0] (none) false false true false none),
  (30, Ty.mk true 9 104 0 [(0, 1), (1, 1), (2, 1), (3, 1), (4, 1), (5, 1), (6, 1), (7, 1), (8, 1)] [.int .i64 0, .slice none 0 0, .int .i64 0, .bool false, .int .i64 0, .slice none 0 0, .bool false, .int .i64 0, .int .i64 0] (none) false false false false none),
  (34, Ty.mk true 2 32 0 [(0, 1), (1, 1)] [.int .i64 0, .slice none 0 0] (none) false false false false none),
  (37, Ty.mk true 2 32 0 [(0, 1), (1, 1)] [.int .i64 0, .slice none 0 0] (none) false false false false none),
  (53, Ty.mk false 1 24 63 [] [.slice none 0 0] (none) false false true false none),
  (57, Ty.mk false 1 24 37 [] [.slice none 0 0] (none) false false true false none),
  (59, Ty.mk true 11 152 0 [(0, 9), (9, 1), (10, 1)] [.int .i64 0, .slice none 0 0, .int .i64 0, .bool false, .int .i64 0, .slice none 0 0, .bool false, .int .i64 0, .int .i64 0, .slice none 0 0, .slice none 0 0] (none) false false false false none),
  (63, Ty.mk true 2 16 0 [(0, 1), (1, 1)] [.int .i64 0, .int .i64 0] (none) false false false false (some [.i64, .i64])),
  (64, Ty.mk false 1 24 122 [] [.slice none 0 0] (none) false false true false none),
  (76, Ty.mk true 3 24 0 [(0, 1), (1, 1), (2, 1)] [.int .i64 0, .int .i64 0, .int .i64 0] (none) false false false false (some [.i64, .i64, .i64])),
  (81, Ty.mk false 1 24 34 [] [.slice none 0 0] (none) false false true false none),
  (83, Ty.mk true 11 152 0 [(0, 9), (9, 1), (10, 1)] [.int .i64 0, .slice none 0 0, .int .i64 0, .bool false, .int .i64 0, .slice none 0 0, .bool false, .int .i64 0, .int .i64 0, .slice none 0 0, .slice none 0 0] (none) false false false false none),
  (122, Ty.mk true 2 16 0 [(0, 1), (1, 1)] [.int .i64 0, .int .i64 0] (none) false false false false none),
  (133, Ty.mk true 3 24 0 [(0, 1), (1, 1), (2, 1)] [.int .i64 0, .int .i64 0, .int .i64 0] (none) false false false false none)]
theorem tab_ok : TabOk Try.prog tab := TabOk.of (l := [(3, false), (4, false), (22, false), (23, false), (25, false), (28, false), (30, false), (34, false), (37, false), (53, false), (57, false), (59, false), (63, true), (64, false), (76, true), (81, false), (83, false), (122, false), (133, false)]) (by kernel_rfl)
theorem mixed : Try.prog.follows .mixedOrders = true := by rfl

set_option maxRecDepth 8000 in
theorem laws_szCondS_ac {a0 : List Cond} {a1 : Int} {r : Int} (h : laws_szCondS.f a0 a1 = some r) : AC Try.prog 64 [.v (.im false (rowsOf Cond_c a0)), .v (.s (.int .i64 a1))] [.v (.jk), .v (.jk)] [.v (.s (.int .i64 r))] := by
  unfold laws_szCondS.f at h
  let ar := Ls.ar; let cm := Ls.cm; let bo := Ls.bo; let sc := Ls.sc; let sa := Ls.sa; let sx := Ls.sx; let ss := Ls.ss; let sl := Ls.sl; let bs := Ls.bs; let sb := Ls.sb; let ln := Ls.ln; let sr := Ls.sr; let ap := Ls.ap; let up := Ls.up; let rp := Ls.rp; let fr := Ls.fr; let ge := Ls.ge; let le := Ls.le; let lt := Ls.lt; let nz := Ls.nz; let mm := Ls.mm; let ma := Ls.ma; let sm := Ls.sm; let fl := Ls.fl; let al := Ls.al
  let eCond_c := rowsOf Cond_c
  let lenI_Cond := @lenI Cond
  have hL : (⟨ar, cm, bo, sc, sa, sx, ss, sl, bs, sb, ln, sr, ap, up, rp, fr, ge, le, lt, nz, mm, ma, sm, fl, al⟩ : Lf) = Ls := rfl
  show AC Try.prog 64 [.v (.im false (eCond_c a0)), .v (.s (.int .i64 a1))] _ _
  refine AC.of_run2 tab_ok Try.func64 (by rfl) (by rfl) (by cbv) ⟨by decide, rfl⟩ fun F hP hA => ?_
  have hT : TabOk F.P tab := hP ▸ tab_ok
  have hM : F.P.follows .mixedOrders = true := hP ▸ mixed
  have hC : ∀ {f a o r}, AC Try.prog f a o r → AC F.P f a o r := fun h => hP ▸ h
  refine Run.seq ?_
  refine Run.region hL hT [] (by cbv) ?_ ?_
  · exact hq0
  refine Run.seq ?_
  refine Run.region hL hT [] (by cbv) ?_ ?_
  · exact (hq trivial hq0)
  rw [show ln (eCond_c a0) = lenI_Cond a0 from ln_eq Cond_c _]
  refine Run.seq ?_
  refine Run.seq ?_
  refine Run.region hL hT [] (by cbv) ?_ ?_
  · exact (hq trivial hq0)
  refine Run.cond (by cbv) (hq0) (fun c1 => ?_) (fun c1 => ?_)
  · have h := if_t c1 h
    refine Run.seq ?_
    refine Run.region hL hT [] (by cbv) ?_ ?_
    · exact hq0
    refine Run.ret ?_
    cases h
    refine ⟨_, _, by cbv, ?_, ?_⟩
    · exact LLe.r
    · exact (ALe.v LLe.r ALe.nil)
  · have h := if_f c1 h
    refine Run.skip ?_
    refine Run.seq ?_
    refine Run.region hL hT [] (by cbv) ?_ ?_
    · exact hq0
    refine Run.ret ?_
    cases h
    refine ⟨_, _, by cbv, ?_, ?_⟩
    · exact LLe.r
    · exact (ALe.v LLe.r ALe.nil)

set_option maxRecDepth 8000 in
theorem laws_szIntS_ac {a0 : List Int} {a1 : Int} {r : Int} (h : laws_szIntS.f a0 a1 = some r) : AC Try.prog 65 [.v (.im false (rowsOf Int_c a0)), .v (.s (.int .i64 a1))] [.v (.jk), .v (.jk)] [.v (.s (.int .i64 r))] := by
  unfold laws_szIntS.f at h
  let ar := Ls.ar; let cm := Ls.cm; let bo := Ls.bo; let sc := Ls.sc; let sa := Ls.sa; let sx := Ls.sx; let ss := Ls.ss; let sl := Ls.sl; let bs := Ls.bs; let sb := Ls.sb; let ln := Ls.ln; let sr := Ls.sr; let ap := Ls.ap; let up := Ls.up; let rp := Ls.rp; let fr := Ls.fr; let ge := Ls.ge; let le := Ls.le; let lt := Ls.lt; let nz := Ls.nz; let mm := Ls.mm; let ma := Ls.ma; let sm := Ls.sm; let fl := Ls.fl; let al := Ls.al
  let eInt_c := rowsOf Int_c
  let lenI_Int := @lenI Int
  have hL : (⟨ar, cm, bo, sc, sa, sx, ss, sl, bs, sb, ln, sr, ap, up, rp, fr, ge, le, lt, nz, mm, ma, sm, fl, al⟩ : Lf) = Ls := rfl
  show AC Try.prog 65 [.v (.im false (eInt_c a0)), .v (.s (.int .i64 a1))] _ _
  refine AC.of_run2 tab_ok Try.func65 (by rfl) (by rfl) (by cbv) ⟨by decide, rfl⟩ fun F hP hA => ?_
  have hT : TabOk F.P tab := hP ▸ tab_ok
  have hM : F.P.follows .mixedOrders = true := hP ▸ mixed
  have hC : ∀ {f a o r}, AC Try.prog f a o r → AC F.P f a o r := fun h => hP ▸ h
  refine Run.seq ?_
  refine Run.region hL hT [] (by cbv) ?_ ?_
  · exact hq0
  refine Run.seq ?_
  refine Run.region hL hT [] (by cbv) ?_ ?_
  · exact (hq trivial hq0)
  rw [show ln (eInt_c a0) = lenI_Int a0 from ln_eq Int_c _]
  refine Run.seq ?_
  refine Run.seq ?_
  refine Run.region hL hT [] (by cbv) ?_ ?_
  · exact (hq trivial hq0)
  refine Run.cond (by cbv) (hq0) (fun c1 => ?_) (fun c1 => ?_)
  · have h := if_t c1 h
    refine Run.seq ?_
    refine Run.region hL hT [] (by cbv) ?_ ?_
    · exact hq0
    refine Run.ret ?_
    cases h
    refine ⟨_, _, by cbv, ?_, ?_⟩
    · exact LLe.r
    · exact (ALe.v LLe.r ALe.nil)
  · have h := if_f c1 h
    refine Run.skip ?_
    refine Run.seq ?_
    refine Run.region hL hT [] (by cbv) ?_ ?_
    · exact hq0
    refine Run.ret ?_
    cases h
    refine ⟨_, _, by cbv, ?_, ?_⟩
    · exact LLe.r
    · exact (ALe.v LLe.r ALe.nil)

set_option maxRecDepth 8000 in
theorem laws_szQuery_ac {a0v_Table : Int} {a0v_Where : List Cond} {a0v_Order : Int} {a0v_Down : Bool} {a0v_First : Int} {a0v_Show : List Int} {a0v_Kids : Bool} {a0v_KidTable : Int} {a0v_KidCol : Int} {a1 : Int} {r : Int} (h : laws_szQuery.f (Query.mk a0v_Table a0v_Where a0v_Order a0v_Down a0v_First a0v_Show a0v_Kids a0v_KidTable a0v_KidCol) a1 = some r) : AC Try.prog 15 [.ag [.s (.int .i64 a0v_Table), .im false (rowsOf Cond_c a0v_Where), .s (.int .i64 a0v_Order), .s (.bool a0v_Down), .s (.int .i64 a0v_First), .im false (rowsOf Int_c a0v_Show), .s (.bool a0v_Kids), .s (.int .i64 a0v_KidTable), .s (.int .i64 a0v_KidCol)], .v (.s (.int .i64 a1))] [.ag [.jk, .jk, .jk, .jk, .jk, .jk, .jk, .jk, .jk], .v (.jk)] [.v (.s (.int .i64 r))] := by
  unfold laws_szQuery.f at h
  let ar := Ls.ar; let cm := Ls.cm; let bo := Ls.bo; let sc := Ls.sc; let sa := Ls.sa; let sx := Ls.sx; let ss := Ls.ss; let sl := Ls.sl; let bs := Ls.bs; let sb := Ls.sb; let ln := Ls.ln; let sr := Ls.sr; let ap := Ls.ap; let up := Ls.up; let rp := Ls.rp; let fr := Ls.fr; let ge := Ls.ge; let le := Ls.le; let lt := Ls.lt; let nz := Ls.nz; let mm := Ls.mm; let ma := Ls.ma; let sm := Ls.sm; let fl := Ls.fl; let al := Ls.al
  let eCond_c := rowsOf Cond_c
  let eInt_c := rowsOf Int_c
  have hL : (⟨ar, cm, bo, sc, sa, sx, ss, sl, bs, sb, ln, sr, ap, up, rp, fr, ge, le, lt, nz, mm, ma, sm, fl, al⟩ : Lf) = Ls := rfl
  show AC Try.prog 15 [.ag [.s (.int .i64 a0v_Table), .im false (eCond_c a0v_Where), .s (.int .i64 a0v_Order), .s (.bool a0v_Down), .s (.int .i64 a0v_First), .im false (eInt_c a0v_Show), .s (.bool a0v_Kids), .s (.int .i64 a0v_KidTable), .s (.int .i64 a0v_KidCol)], .v (.s (.int .i64 a1))] _ _
  refine AC.of_run2 tab_ok Try.func15 (by rfl) (by rfl) (by cbv) ⟨by decide, rfl⟩ fun F hP hA => ?_
  have hT : TabOk F.P tab := hP ▸ tab_ok
  have hM : F.P.follows .mixedOrders = true := hP ▸ mixed
  have hC : ∀ {f a o r}, AC Try.prog f a o r → AC F.P f a o r := fun h => hP ▸ h
  refine Run.seq ?_
  refine Run.region hL hT [] (by cbv) ?_ ?_
  · exact hq0
  refine Run.seq ?_
  obtain ⟨r1, h_r1, h⟩ := bnd h
  refine Run.region hL hT [(3, .call [false, false] [.v (.jk), .v (.jk)] [.v (.s (.int .i64 r1))])] (by cbv) ?_ ?_
  · exact (hq trivial (hq (hC (laws_szCondS_ac h_r1)) hq0))
  refine Run.seq ?_
  refine Run.seq ?_
  refine Run.region hL hT [] (by cbv) ?_ ?_
  · exact (hq trivial hq0)
  refine Run.cond (by cbv) (hq0) (fun c2 => ?_) (fun c2 => ?_)
  · have h := if_t c2 h
    refine Run.seq ?_
    refine Run.region hL hT [] (by cbv) ?_ ?_
    · exact hq0
    refine Run.ret ?_
    cases h
    refine ⟨_, _, by cbv, ?_, ?_⟩
    · exact LLe.r
    · exact (ALe.v LLe.r ALe.nil)
  · have h := if_f c2 h
    refine Run.skip ?_
    refine Run.seq ?_
    obtain ⟨r3, h_r3, h⟩ := bnd h
    refine Run.region hL hT [(3, .call [false, false] [.v (.jk), .v (.jk)] [.v (.s (.int .i64 r3))])] (by cbv) ?_ ?_
    · exact (hq trivial (hq (hC (laws_szIntS_ac h_r3)) hq0))
    refine Run.seq ?_
    refine Run.seq ?_
    refine Run.region hL hT [] (by cbv) ?_ ?_
    · exact (hq trivial hq0)
    refine Run.cond (by cbv) (hq0) (fun c4 => ?_) (fun c4 => ?_)
    · have h := if_t c4 h
      refine Run.seq ?_
      refine Run.region hL hT [] (by cbv) ?_ ?_
      · exact hq0
      refine Run.ret ?_
      cases h
      refine ⟨_, _, by cbv, ?_, ?_⟩
      · exact LLe.r
      · exact (ALe.v LLe.r ALe.nil)
    · have h := if_f c4 h
      refine Run.skip ?_
      refine Run.seq ?_
      refine Run.region hL hT [] (by cbv) ?_ ?_
      · exact hq0
      refine Run.ret ?_
      cases h
      refine ⟨_, _, by cbv, ?_, ?_⟩
      · exact LLe.r
      · exact (ALe.v LLe.r ALe.nil)

set_option maxRecDepth 8000 in
theorem laws_szKidS_ac {a0 : List Kid} {a1 : Int} {r : Int} (h : laws_szKidS.f a0 a1 = some r) : AC Try.prog 38 [.v (.im false (rowsOf Kid_c a0)), .v (.s (.int .i64 a1))] [.v (.jk), .v (.jk)] [.v (.s (.int .i64 r))] := by
  unfold laws_szKidS.f at h
  let ar := Ls.ar; let cm := Ls.cm; let bo := Ls.bo; let sc := Ls.sc; let sa := Ls.sa; let sx := Ls.sx; let ss := Ls.ss; let sl := Ls.sl; let bs := Ls.bs; let sb := Ls.sb; let ln := Ls.ln; let sr := Ls.sr; let ap := Ls.ap; let up := Ls.up; let rp := Ls.rp; let fr := Ls.fr; let ge := Ls.ge; let le := Ls.le; let lt := Ls.lt; let nz := Ls.nz; let mm := Ls.mm; let ma := Ls.ma; let sm := Ls.sm; let fl := Ls.fl; let al := Ls.al
  let eKid_c := rowsOf Kid_c
  let lenI_Kid := @lenI Kid
  have hL : (⟨ar, cm, bo, sc, sa, sx, ss, sl, bs, sb, ln, sr, ap, up, rp, fr, ge, le, lt, nz, mm, ma, sm, fl, al⟩ : Lf) = Ls := rfl
  show AC Try.prog 38 [.v (.im false (eKid_c a0)), .v (.s (.int .i64 a1))] _ _
  refine AC.of_run2 tab_ok Try.func38 (by rfl) (by rfl) (by cbv) ⟨by decide, rfl⟩ fun F hP hA => ?_
  have hT : TabOk F.P tab := hP ▸ tab_ok
  have hM : F.P.follows .mixedOrders = true := hP ▸ mixed
  have hC : ∀ {f a o r}, AC Try.prog f a o r → AC F.P f a o r := fun h => hP ▸ h
  refine Run.seq ?_
  refine Run.region hL hT [] (by cbv) ?_ ?_
  · exact hq0
  refine Run.seq ?_
  refine Run.region hL hT [] (by cbv) ?_ ?_
  · exact (hq trivial hq0)
  rw [show ln (eKid_c a0) = lenI_Kid a0 from ln_eq Kid_c _]
  refine Run.seq ?_
  refine Run.seq ?_
  refine Run.region hL hT [] (by cbv) ?_ ?_
  · exact (hq trivial hq0)
  refine Run.cond (by cbv) (hq0) (fun c1 => ?_) (fun c1 => ?_)
  · have h := if_t c1 h
    refine Run.seq ?_
    refine Run.region hL hT [] (by cbv) ?_ ?_
    · exact hq0
    refine Run.ret ?_
    cases h
    refine ⟨_, _, by cbv, ?_, ?_⟩
    · exact LLe.r
    · exact (ALe.v LLe.r ALe.nil)
  · have h := if_f c1 h
    refine Run.skip ?_
    refine Run.seq ?_
    refine Run.region hL hT [] (by cbv) ?_ ?_
    · exact hq0
    refine Run.ret ?_
    cases h
    refine ⟨_, _, by cbv, ?_, ?_⟩
    · exact LLe.r
    · exact (ALe.v LLe.r ALe.nil)

set_option maxRecDepth 8000 in
theorem laws_szRow_ac {a0v_Id : Int} {a0v_Cells : List Int} {a1 : Int} {r : Int} (h : laws_szRow.f (Row.mk a0v_Id a0v_Cells) a1 = some r) : AC Try.prog 20 [.ag [.s (.int .i64 a0v_Id), .im false (rowsOf Int_c a0v_Cells)], .v (.s (.int .i64 a1))] [.ag [.jk, .jk], .v (.jk)] [.v (.s (.int .i64 r))] := by
  unfold laws_szRow.f at h
  let ar := Ls.ar; let cm := Ls.cm; let bo := Ls.bo; let sc := Ls.sc; let sa := Ls.sa; let sx := Ls.sx; let ss := Ls.ss; let sl := Ls.sl; let bs := Ls.bs; let sb := Ls.sb; let ln := Ls.ln; let sr := Ls.sr; let ap := Ls.ap; let up := Ls.up; let rp := Ls.rp; let fr := Ls.fr; let ge := Ls.ge; let le := Ls.le; let lt := Ls.lt; let nz := Ls.nz; let mm := Ls.mm; let ma := Ls.ma; let sm := Ls.sm; let fl := Ls.fl; let al := Ls.al
  let eInt_c := rowsOf Int_c
  have hL : (⟨ar, cm, bo, sc, sa, sx, ss, sl, bs, sb, ln, sr, ap, up, rp, fr, ge, le, lt, nz, mm, ma, sm, fl, al⟩ : Lf) = Ls := rfl
  show AC Try.prog 20 [.ag [.s (.int .i64 a0v_Id), .im false (eInt_c a0v_Cells)], .v (.s (.int .i64 a1))] _ _
  refine AC.of_run2 tab_ok Try.func20 (by rfl) (by rfl) (by cbv) ⟨by decide, rfl⟩ fun F hP hA => ?_
  have hT : TabOk F.P tab := hP ▸ tab_ok
  have hM : F.P.follows .mixedOrders = true := hP ▸ mixed
  have hC : ∀ {f a o r}, AC Try.prog f a o r → AC F.P f a o r := fun h => hP ▸ h
  refine Run.seq ?_
  refine Run.region hL hT [] (by cbv) ?_ ?_
  · exact hq0
  refine Run.seq ?_
  obtain ⟨r1, h_r1, h⟩ := bnd h
  refine Run.region hL hT [(3, .call [false, false] [.v (.jk), .v (.jk)] [.v (.s (.int .i64 r1))])] (by cbv) ?_ ?_
  · exact (hq trivial (hq (hC (laws_szIntS_ac h_r1)) hq0))
  refine Run.seq ?_
  refine Run.seq ?_
  refine Run.region hL hT [] (by cbv) ?_ ?_
  · exact (hq trivial hq0)
  refine Run.cond (by cbv) (hq0) (fun c2 => ?_) (fun c2 => ?_)
  · have h := if_t c2 h
    refine Run.seq ?_
    refine Run.region hL hT [] (by cbv) ?_ ?_
    · exact hq0
    refine Run.ret ?_
    cases h
    refine ⟨_, _, by cbv, ?_, ?_⟩
    · exact LLe.r
    · exact (ALe.v LLe.r ALe.nil)
  · have h := if_f c2 h
    refine Run.skip ?_
    refine Run.seq ?_
    refine Run.region hL hT [] (by cbv) ?_ ?_
    · exact hq0
    refine Run.ret ?_
    cases h
    refine ⟨_, _, by cbv, ?_, ?_⟩
    · exact LLe.r
    · exact (ALe.v LLe.r ALe.nil)

set_option maxRecDepth 8000 in
theorem laws_szRowS_ac {a0 : List Row} {a1 : Int} {r : Int} (h : laws_szRowS.f a0 a1 = some r) : AC Try.prog 97 [.v (.im false (rowsOf Row_i a0)), .v (.s (.int .i64 a1))] [.v (.jk), .v (.jk)] [.v (.s (.int .i64 r))] := by
  unfold laws_szRowS.f at h
  let ar := Ls.ar; let cm := Ls.cm; let bo := Ls.bo; let sc := Ls.sc; let sa := Ls.sa; let sx := Ls.sx; let ss := Ls.ss; let sl := Ls.sl; let bs := Ls.bs; let sb := Ls.sb; let ln := Ls.ln; let sr := Ls.sr; let ap := Ls.ap; let up := Ls.up; let rp := Ls.rp; let fr := Ls.fr; let ge := Ls.ge; let le := Ls.le; let lt := Ls.lt; let nz := Ls.nz; let mm := Ls.mm; let ma := Ls.ma; let sm := Ls.sm; let fl := Ls.fl; let al := Ls.al
  let eInt_c := rowsOf Int_c
  let eRow_i := rowsOf Row_i
  let lenI_Row := @lenI Row
  have hL : (⟨ar, cm, bo, sc, sa, sx, ss, sl, bs, sb, ln, sr, ap, up, rp, fr, ge, le, lt, nz, mm, ma, sm, fl, al⟩ : Lf) = Ls := rfl
  show AC Try.prog 97 [.v (.im false (eRow_i a0)), .v (.s (.int .i64 a1))] _ _
  refine AC.of_run2 tab_ok Try.func97 (by rfl) (by rfl) (by cbv) ⟨by decide, rfl⟩ fun F hP hA => ?_
  have hT : TabOk F.P tab := hP ▸ tab_ok
  have hM : F.P.follows .mixedOrders = true := hP ▸ mixed
  have hC : ∀ {f a o r}, AC Try.prog f a o r → AC F.P f a o r := fun h => hP ▸ h
  refine Run.seq ?_
  refine Run.region hL hT [] (by cbv) ?_ ?_
  · exact hq0
  refine Run.seq ?_
  refine Run.region hL hT [] (by cbv) ?_ ?_
  · exact (hq trivial hq0)
  rw [show ln (eRow_i a0) = lenI_Row a0 from ln_eq Row_i _]
  refine Run.seq ?_
  refine Run.seq ?_
  refine Run.region hL hT [] (by cbv) ?_ ?_
  · exact (hq trivial hq0)
  refine Run.cond (by cbv) (hq0) (fun c1 => ?_) (fun c1 => ?_)
  · have h := if_t c1 h
    refine Run.seq ?_
    refine Run.region hL hT [] (by cbv) ?_ ?_
    · exact hq0
    refine Run.ret ?_
    cases h
    refine ⟨_, _, by cbv, ?_, ?_⟩
    · exact LLe.r
    · exact (ALe.v LLe.r ALe.nil)
  · have h := if_f c1 h
    refine Run.skip ?_
    refine Run.seq ?_
    refine Run.seq ?_
    refine Run.region hL hT [] (by cbv) ?_ ?_
    · exact hq0
    refine Run.block ?_
    refine Run.loop2 (fun (z5 : Int) (z6 : Int) => ⟨27, 100000, [(0, .t (.im false (eRow_i a0))), (1, .t (.s (.int .i64 z5))), (5, .t (.s (.int .i64 z6)))], []⟩) (x0 := (ar .sub .i64 a1 (lenI_Row a0))) (x1 := 0) h (Weak.of _ [] hA (by cbv) ?_) (fun _ _ => rfl) ?_
    · repeat (first | exact hq0 | refine hq (by first | exact True.intro | rfl) ?_)
    · intro k z5 z6 h
      rw [laws_szRowS.l0] at h
      refine Run.seq ?_
      refine Run.seq ?_
      refine Run.region hL hT [] (by cbv) ?_ ?_
      · exact (hq trivial hq0)
      rw [show ln (eRow_i a0) = lenI_Row a0 from ln_eq Row_i _]
      refine Run.cond (by cbv) (hq0) (fun c7 => ?_) (fun c7 => ?_)
      · have h := if_t c7 h
        refine Run.skip ?_
        refine Run.seq ?_
        refine Run.block ?_
        refine Run.seq ?_
        obtain ⟨⟨x8v_Id, x8v_Cells⟩, h_x8, h⟩ := bnd h
        obtain ⟨r9, h_r9, h⟩ := bnd h
        refine Run.region hL hT [(2, .el [.s (.int .i64 x8v_Id), .im false (eInt_c x8v_Cells)]), (5, .call [false, false] [.ag [.jk, .jk], .v (.jk)] [.v (.s (.int .i64 r9))])] (by cbv) ?_ ?_
        · exact (hq (get_le h_x8) (hq (get_lt (f := Row_i) h_x8) (hq (get_ge (f := Row_i) h_x8) (hq (hC (laws_szRow_ac h_r9)) hq0))))
        refine Run.seq ?_
        refine Run.region hL hT [] (by cbv) ?_ ?_
        · exact (hq trivial hq0)
        refine Run.cond (by cbv) (hq0) (fun c10 => ?_) (fun c10 => ?_)
        · have h := if_t c10 h
          refine Run.seq ?_
          refine Run.region hL hT [] (by cbv) ?_ ?_
          · exact hq0
          refine Run.ret ?_
          cases h
          refine ⟨_, _, by cbv, ?_, ?_⟩
          · exact LLe.r
          · exact (ALe.v LLe.r ALe.nil)
        · have h := if_f c10 h
          refine Run.skip ?_
          refine Run.region hL hT [] (by cbv) ?_ ?_
          · exact (hq trivial hq0)
          refine ⟨r9, (ar .add .i64 z6 1), h, Weak.of _ [] hA (by cbv) ?_⟩
          repeat (first | exact hq0 | refine hq (by first | exact True.intro | rfl) ?_)
      · have h := if_f c7 h
        refine Run.exit ?_
        refine Run.seq ?_
        refine Run.region hL hT [] (by cbv) ?_ ?_
        · exact hq0
        refine Run.ret ?_
        cases h
        refine ⟨_, _, by cbv, ?_, ?_⟩
        · exact LLe.r
        · exact (ALe.v LLe.r ALe.nil)

set_option maxRecDepth 8000 in
theorem laws_szView_ac {a0v_Qv_Table : Int} {a0v_Qv_Where : List Cond} {a0v_Qv_Order : Int} {a0v_Qv_Down : Bool} {a0v_Qv_First : Int} {a0v_Qv_Show : List Int} {a0v_Qv_Kids : Bool} {a0v_Qv_KidTable : Int} {a0v_Qv_KidCol : Int} {a0v_Rows : List Row} {a0v_Kids : List Kid} {a1 : Int} {r : Int} (h : laws_szView.f (View.mk (Query.mk a0v_Qv_Table a0v_Qv_Where a0v_Qv_Order a0v_Qv_Down a0v_Qv_First a0v_Qv_Show a0v_Qv_Kids a0v_Qv_KidTable a0v_Qv_KidCol) a0v_Rows a0v_Kids) a1 = some r) : AC Try.prog 48 [.ag [.s (.int .i64 a0v_Qv_Table), .im false (rowsOf Cond_c a0v_Qv_Where), .s (.int .i64 a0v_Qv_Order), .s (.bool a0v_Qv_Down), .s (.int .i64 a0v_Qv_First), .im false (rowsOf Int_c a0v_Qv_Show), .s (.bool a0v_Qv_Kids), .s (.int .i64 a0v_Qv_KidTable), .s (.int .i64 a0v_Qv_KidCol), .im false (rowsOf Row_i a0v_Rows), .im false (rowsOf Kid_c a0v_Kids)], .v (.s (.int .i64 a1))] [.ag [.jk, .jk, .jk, .jk, .jk, .jk, .jk, .jk, .jk, .jk, .jk], .v (.jk)] [.v (.s (.int .i64 r))] := by
  unfold laws_szView.f at h
  let ar := Ls.ar; let cm := Ls.cm; let bo := Ls.bo; let sc := Ls.sc; let sa := Ls.sa; let sx := Ls.sx; let ss := Ls.ss; let sl := Ls.sl; let bs := Ls.bs; let sb := Ls.sb; let ln := Ls.ln; let sr := Ls.sr; let ap := Ls.ap; let up := Ls.up; let rp := Ls.rp; let fr := Ls.fr; let ge := Ls.ge; let le := Ls.le; let lt := Ls.lt; let nz := Ls.nz; let mm := Ls.mm; let ma := Ls.ma; let sm := Ls.sm; let fl := Ls.fl; let al := Ls.al
  let eCond_c := rowsOf Cond_c
  let eInt_c := rowsOf Int_c
  let eKid_c := rowsOf Kid_c
  let eRow_i := rowsOf Row_i
  have hL : (⟨ar, cm, bo, sc, sa, sx, ss, sl, bs, sb, ln, sr, ap, up, rp, fr, ge, le, lt, nz, mm, ma, sm, fl, al⟩ : Lf) = Ls := rfl
  show AC Try.prog 48 [.ag [.s (.int .i64 a0v_Qv_Table), .im false (eCond_c a0v_Qv_Where), .s (.int .i64 a0v_Qv_Order), .s (.bool a0v_Qv_Down), .s (.int .i64 a0v_Qv_First), .im false (eInt_c a0v_Qv_Show), .s (.bool a0v_Qv_Kids), .s (.int .i64 a0v_Qv_KidTable), .s (.int .i64 a0v_Qv_KidCol), .im false (eRow_i a0v_Rows), .im false (eKid_c a0v_Kids)], .v (.s (.int .i64 a1))] _ _
  refine AC.of_run2 tab_ok Try.func48 (by rfl) (by rfl) (by cbv) ⟨by decide, rfl⟩ fun F hP hA => ?_
  have hT : TabOk F.P tab := hP ▸ tab_ok
  have hM : F.P.follows .mixedOrders = true := hP ▸ mixed
  have hC : ∀ {f a o r}, AC Try.prog f a o r → AC F.P f a o r := fun h => hP ▸ h
  refine Run.seq ?_
  refine Run.region hL hT [] (by cbv) ?_ ?_
  · exact hq0
  refine Run.seq ?_
  obtain ⟨r1, h_r1, h⟩ := bnd h
  refine Run.region hL hT [(3, .call [false, false] [.ag [.jk, .jk, .jk, .jk, .jk, .jk, .jk, .jk, .jk], .v (.jk)] [.v (.s (.int .i64 r1))])] (by cbv) ?_ ?_
  · exact (hq trivial (hq (hC (laws_szQuery_ac h_r1)) hq0))
  refine Run.seq ?_
  refine Run.seq ?_
  refine Run.region hL hT [] (by cbv) ?_ ?_
  · exact (hq trivial hq0)
  refine Run.cond (by cbv) (hq0) (fun c2 => ?_) (fun c2 => ?_)
  · have h := if_t c2 h
    refine Run.seq ?_
    refine Run.region hL hT [] (by cbv) ?_ ?_
    · exact hq0
    refine Run.ret ?_
    cases h
    refine ⟨_, _, by cbv, ?_, ?_⟩
    · exact LLe.r
    · exact (ALe.v LLe.r ALe.nil)
  · have h := if_f c2 h
    refine Run.skip ?_
    refine Run.seq ?_
    obtain ⟨r3, h_r3, h⟩ := bnd h
    refine Run.region hL hT [(3, .call [false, false] [.v (.jk), .v (.jk)] [.v (.s (.int .i64 r3))])] (by cbv) ?_ ?_
    · exact (hq trivial (hq (hC (laws_szRowS_ac h_r3)) hq0))
    refine Run.seq ?_
    refine Run.seq ?_
    refine Run.region hL hT [] (by cbv) ?_ ?_
    · exact (hq trivial hq0)
    refine Run.cond (by cbv) (hq0) (fun c4 => ?_) (fun c4 => ?_)
    · have h := if_t c4 h
      refine Run.seq ?_
      refine Run.region hL hT [] (by cbv) ?_ ?_
      · exact hq0
      refine Run.ret ?_
      cases h
      refine ⟨_, _, by cbv, ?_, ?_⟩
      · exact LLe.r
      · exact (ALe.v LLe.r ALe.nil)
    · have h := if_f c4 h
      refine Run.skip ?_
      refine Run.seq ?_
      obtain ⟨r5, h_r5, h⟩ := bnd h
      refine Run.region hL hT [(3, .call [false, false] [.v (.jk), .v (.jk)] [.v (.s (.int .i64 r5))])] (by cbv) ?_ ?_
      · exact (hq trivial (hq (hC (laws_szKidS_ac h_r5)) hq0))
      refine Run.seq ?_
      refine Run.seq ?_
      refine Run.region hL hT [] (by cbv) ?_ ?_
      · exact (hq trivial hq0)
      refine Run.cond (by cbv) (hq0) (fun c6 => ?_) (fun c6 => ?_)
      · have h := if_t c6 h
        refine Run.seq ?_
        refine Run.region hL hT [] (by cbv) ?_ ?_
        · exact hq0
        refine Run.ret ?_
        cases h
        refine ⟨_, _, by cbv, ?_, ?_⟩
        · exact LLe.r
        · exact (ALe.v LLe.r ALe.nil)
      · have h := if_f c6 h
        refine Run.skip ?_
        refine Run.seq ?_
        refine Run.region hL hT [] (by cbv) ?_ ?_
        · exact hq0
        refine Run.ret ?_
        cases h
        refine ⟨_, _, by cbv, ?_, ?_⟩
        · exact LLe.r
        · exact (ALe.v LLe.r ALe.nil)

set_option maxRecDepth 8000 in
theorem laws_toCond_ac {a0v_Col : Int} {a0v_Op : Int} {a0v_V : Int} {r : Cond} (h : laws_toCond.f (Cond.mk a0v_Col a0v_Op a0v_V) = some r) : AC Try.prog 105 [.ag [.s (.int .i64 a0v_Col), .s (.int .i64 a0v_Op), .s (.int .i64 a0v_V)]] [.ag [.jk, .jk, .jk]] [.ag [.s (.int .i64 r.Col), .s (.int .i64 r.Op), .s (.int .i64 r.V)]] := by
  unfold laws_toCond.f at h
  let ar := Ls.ar; let cm := Ls.cm; let bo := Ls.bo; let sc := Ls.sc; let sa := Ls.sa; let sx := Ls.sx; let ss := Ls.ss; let sl := Ls.sl; let bs := Ls.bs; let sb := Ls.sb; let ln := Ls.ln; let sr := Ls.sr; let ap := Ls.ap; let up := Ls.up; let rp := Ls.rp; let fr := Ls.fr; let ge := Ls.ge; let le := Ls.le; let lt := Ls.lt; let nz := Ls.nz; let mm := Ls.mm; let ma := Ls.ma; let sm := Ls.sm; let fl := Ls.fl; let al := Ls.al
  have hL : (⟨ar, cm, bo, sc, sa, sx, ss, sl, bs, sb, ln, sr, ap, up, rp, fr, ge, le, lt, nz, mm, ma, sm, fl, al⟩ : Lf) = Ls := rfl
  show AC Try.prog 105 [.ag [.s (.int .i64 a0v_Col), .s (.int .i64 a0v_Op), .s (.int .i64 a0v_V)]] _ _
  refine AC.of_run2 tab_ok Try.func105 (by rfl) (by rfl) (by cbv) ⟨by decide, rfl⟩ fun F hP hA => ?_
  have hT : TabOk F.P tab := hP ▸ tab_ok
  have hM : F.P.follows .mixedOrders = true := hP ▸ mixed
  have hC : ∀ {f a o r}, AC Try.prog f a o r → AC F.P f a o r := fun h => hP ▸ h
  refine Run.seq ?_
  refine Run.region hL hT [] (by cbv) ?_ ?_
  · exact hq0
  refine Run.seq ?_
  refine Run.region hL hT [] (by cbv) ?_ ?_
  · exact hq0
  refine Run.seq ?_
  refine Run.region hL hT [] (by cbv) ?_ ?_
  · exact (hq trivial (hq trivial hq0))
  refine Run.seq ?_
  refine Run.region hL hT [] (by cbv) ?_ ?_
  · exact (hq trivial (hq trivial hq0))
  refine Run.seq ?_
  refine Run.region hL hT [] (by cbv) ?_ ?_
  · exact (hq trivial (hq trivial hq0))
  refine Run.seq ?_
  refine Run.region hL hT [] (by cbv) ?_ ?_
  · exact (hq trivial (hq trivial hq0))
  refine Run.ret ?_
  cases h
  refine ⟨_, _, by cbv, ?_, ?_⟩
  · exact LLe.r
  · exact (ALe.ag rfl LLe.r ALe.nil)

set_option maxRecDepth 8000 in
theorem laws_toCondS_ac {a0 : List Cond} {r : (List Cond)} (h : laws_toCondS.f a0 = some r) : AC Try.prog 68 [.v (.im false (rowsOf Cond_c a0))] [.v (.jk)] [.v (.ow 76 (rowsOf Cond_c r))] := by
  unfold laws_toCondS.f at h
  let ar := Ls.ar; let cm := Ls.cm; let bo := Ls.bo; let sc := Ls.sc; let sa := Ls.sa; let sx := Ls.sx; let ss := Ls.ss; let sl := Ls.sl; let bs := Ls.bs; let sb := Ls.sb; let ln := Ls.ln; let sr := Ls.sr; let ap := Ls.ap; let up := Ls.up; let rp := Ls.rp; let fr := Ls.fr; let ge := Ls.ge; let le := Ls.le; let lt := Ls.lt; let nz := Ls.nz; let mm := Ls.mm; let ma := Ls.ma; let sm := Ls.sm; let fl := Ls.fl; let al := Ls.al
  let eCond_c := rowsOf Cond_c
  let lenI_Cond := @lenI Cond
  have hL : (⟨ar, cm, bo, sc, sa, sx, ss, sl, bs, sb, ln, sr, ap, up, rp, fr, ge, le, lt, nz, mm, ma, sm, fl, al⟩ : Lf) = Ls := rfl
  show AC Try.prog 68 [.v (.im false (eCond_c a0))] _ _
  refine AC.of_run2 tab_ok Try.func68 (by rfl) (by rfl) (by cbv) ⟨by decide, rfl⟩ fun F hP hA => ?_
  have hT : TabOk F.P tab := hP ▸ tab_ok
  have hM : F.P.follows .mixedOrders = true := hP ▸ mixed
  have hC : ∀ {f a o r}, AC Try.prog f a o r → AC F.P f a o r := fun h => hP ▸ h
  refine Run.seq ?_
  refine Run.region hL hT [] (by cbv) ?_ ?_
  · exact hq0
  refine Run.seq ?_
  obtain ⟨l1, h_l1, h⟩ := bnd h
  refine Run.region hL hT [] (by cbv) ?_ ?_
  · exact (hq trivial (hq (by rw [show ln (eCond_c a0) = lenI_Cond a0 from ln_eq Cond_c _]; exact (mk_0 h_l1)) (hq (by rw [show ln (eCond_c a0) = lenI_Cond a0 from ln_eq Cond_c _]; exact (mk_mm h_l1)) hq0)))
  rw [show ln (eCond_c a0) = lenI_Cond a0 from ln_eq Cond_c _]
  refine Run.row (rows := (rp (lenI_Cond a0) [.s (.int .i64 0), .s (.int .i64 0), .s (.int .i64 0)])) 4098 (eCond_c l1) (by cbv) (mk_le (f := Cond_c) rfl LLe.r h_l1) ?_
  refine Run.seq ?_
  refine Run.seq ?_
  refine Run.region hL hT [] (by cbv) ?_ ?_
  · exact hq0
  refine Run.block ?_
  refine Run.loop2 (fun (z5 : List Cond) (z6 : Int) => ⟨23, 100000, [(0, .t (.im false (eCond_c a0))), (3, .rf 1), (4, .t (.s (.int .i64 z6)))], [(1, .row 0 76 3 (eCond_c z5))]⟩) (x0 := l1) (x1 := 0) h (Weak.of _ [(1, 4098)] hA (by cbv) ?_) (fun _ _ => rfl) ?_
  · repeat (first | exact hq0 | refine hq (by first | exact True.intro | rfl) ?_)
  · intro k z5 z6 h
    rw [laws_toCondS.l0] at h
    refine Run.seq ?_
    refine Run.seq ?_
    refine Run.region hL hT [] (by cbv) ?_ ?_
    · exact (hq trivial hq0)
    rw [show ln (eCond_c a0) = lenI_Cond a0 from ln_eq Cond_c _]
    refine Run.cond (by cbv) (hq0) (fun c7 => ?_) (fun c7 => ?_)
    · have h := if_t c7 h
      refine Run.skip ?_
      refine Run.seq ?_
      refine Run.block ?_
      obtain ⟨⟨x8v_Col, x8v_Op, x8v_V⟩, h_x8, h⟩ := bnd h
      obtain ⟨⟨r9v_Col, r9v_Op, r9v_V⟩, h_r9, h⟩ := bnd h
      obtain ⟨⟨x10v_Col, x10v_Op, x10v_V⟩, h_x10, h⟩ := bnd h
      obtain ⟨l11, h_l11, h⟩ := bnd h
      refine Run.region hL hT [(4, .el [.s (.int .i64 x8v_Col), .s (.int .i64 x8v_Op), .s (.int .i64 x8v_V)]), (6, .call [false] [.ag [.jk, .jk, .jk]] [.ag [.s (.int .i64 r9v_Col), .s (.int .i64 r9v_Op), .s (.int .i64 r9v_V)]])] (by cbv) ?_ ?_
      · exact (hq (get_le h_x8) (hq (get_lt (f := Cond_c) h_x8) (hq (get_ge (f := Cond_c) h_x8) (hq (hC (laws_toCond_ac h_r9)) (hq (get_le h_x10) (hq (get_lt (f := Cond_c) h_x10) (hq (get_le h_x10) (hq (get_lt (f := Cond_c) h_x10) hq0))))))))
      refine Run.row (rows := (up (eCond_c z5) z6 0 [.s (.int .i64 r9v_Col), .s (.int .i64 r9v_Op), .s (.int .i64 r9v_V)])) 1 (eCond_c l11) (by cbv) (sto_le (f := Cond_c) h_x10 h_l11 rfl LLe.r) ?_
      refine Run.region hL hT [] (by cbv) ?_ ?_
      · exact (hq trivial hq0)
      refine ⟨l11, (ar .add .i64 z6 1), h, Weak.of _ [(1, 1)] hA (by cbv) ?_⟩
      repeat (first | exact hq0 | refine hq (by first | exact True.intro | rfl) ?_)
    · have h := if_f c7 h
      refine Run.exit ?_
      refine Run.seq ?_
      refine Run.region hL hT [] (by cbv) ?_ ?_
      · exact hq0
      refine Run.ret ?_
      cases h
      refine ⟨_, _, by cbv, ?_, ?_⟩
      · exact LLe.r
      · exact (ALe.v LLe.r ALe.nil)

set_option maxRecDepth 8000 in
theorem laws_toIntS_ac {a0 : List Int} {r : (List Int)} (h : laws_toIntS.f a0 = some r) : AC Try.prog 69 [.v (.im false (rowsOf Int_c a0))] [.v (.jk)] [.v (.ow 3 (rowsOf Int_c r))] := by
  unfold laws_toIntS.f at h
  let ar := Ls.ar; let cm := Ls.cm; let bo := Ls.bo; let sc := Ls.sc; let sa := Ls.sa; let sx := Ls.sx; let ss := Ls.ss; let sl := Ls.sl; let bs := Ls.bs; let sb := Ls.sb; let ln := Ls.ln; let sr := Ls.sr; let ap := Ls.ap; let up := Ls.up; let rp := Ls.rp; let fr := Ls.fr; let ge := Ls.ge; let le := Ls.le; let lt := Ls.lt; let nz := Ls.nz; let mm := Ls.mm; let ma := Ls.ma; let sm := Ls.sm; let fl := Ls.fl; let al := Ls.al
  let eInt_c := rowsOf Int_c
  let lenI_Int := @lenI Int
  have hL : (⟨ar, cm, bo, sc, sa, sx, ss, sl, bs, sb, ln, sr, ap, up, rp, fr, ge, le, lt, nz, mm, ma, sm, fl, al⟩ : Lf) = Ls := rfl
  show AC Try.prog 69 [.v (.im false (eInt_c a0))] _ _
  refine AC.of_run2 tab_ok Try.func69 (by rfl) (by rfl) (by cbv) ⟨by decide, rfl⟩ fun F hP hA => ?_
  have hT : TabOk F.P tab := hP ▸ tab_ok
  have hM : F.P.follows .mixedOrders = true := hP ▸ mixed
  have hC : ∀ {f a o r}, AC Try.prog f a o r → AC F.P f a o r := fun h => hP ▸ h
  refine Run.seq ?_
  refine Run.region hL hT [] (by cbv) ?_ ?_
  · exact hq0
  refine Run.seq ?_
  obtain ⟨l1, h_l1, h⟩ := bnd h
  refine Run.region hL hT [] (by cbv) ?_ ?_
  · exact (hq trivial (hq (by rw [show ln (eInt_c a0) = lenI_Int a0 from ln_eq Int_c _]; exact (mk_0 h_l1)) (hq (by rw [show ln (eInt_c a0) = lenI_Int a0 from ln_eq Int_c _]; exact (mk_mm h_l1)) hq0)))
  rw [show ln (eInt_c a0) = lenI_Int a0 from ln_eq Int_c _]
  refine Run.row (rows := (rp (lenI_Int a0) [.s (.int .i64 0)])) 4098 (eInt_c l1) (by cbv) (mk_le (f := Int_c) rfl LLe.r h_l1) ?_
  refine Run.seq ?_
  refine Run.seq ?_
  refine Run.region hL hT [] (by cbv) ?_ ?_
  · exact hq0
  refine Run.block ?_
  refine Run.loop2 (fun (z5 : List Int) (z6 : Int) => ⟨22, 100000, [(0, .t (.im false (eInt_c a0))), (3, .rf 1), (4, .t (.s (.int .i64 z6)))], [(1, .row 0 3 1 (eInt_c z5))]⟩) (x0 := l1) (x1 := 0) h (Weak.of _ [(1, 4098)] hA (by cbv) ?_) (fun _ _ => rfl) ?_
  · repeat (first | exact hq0 | refine hq (by first | exact True.intro | rfl) ?_)
  · intro k z5 z6 h
    rw [laws_toIntS.l0] at h
    refine Run.seq ?_
    refine Run.seq ?_
    refine Run.region hL hT [] (by cbv) ?_ ?_
    · exact (hq trivial hq0)
    rw [show ln (eInt_c a0) = lenI_Int a0 from ln_eq Int_c _]
    refine Run.cond (by cbv) (hq0) (fun c7 => ?_) (fun c7 => ?_)
    · have h := if_t c7 h
      refine Run.skip ?_
      refine Run.seq ?_
      refine Run.block ?_
      obtain ⟨x8, h_x8, h⟩ := bnd h
      obtain ⟨x9, h_x9, h⟩ := bnd h
      obtain ⟨l10, h_l10, h⟩ := bnd h
      refine Run.region hL hT [(4, .el [.s (.int .i64 x8)])] (by cbv) ?_ ?_
      · exact (hq (get_le h_x8) (hq (get_lt (f := Int_c) h_x8) (hq (get_ge (f := Int_c) h_x8) (hq (get_le h_x9) (hq (get_lt (f := Int_c) h_x9) (hq (get_le h_x9) (hq (get_lt (f := Int_c) h_x9) hq0)))))))
      refine Run.row (rows := (up (eInt_c z5) z6 0 [.s (.int .i64 x8)])) 1 (eInt_c l10) (by cbv) (sto_le (f := Int_c) h_x9 h_l10 rfl LLe.r) ?_
      refine Run.region hL hT [] (by cbv) ?_ ?_
      · exact (hq trivial hq0)
      refine ⟨l10, (ar .add .i64 z6 1), h, Weak.of _ [(1, 1)] hA (by cbv) ?_⟩
      repeat (first | exact hq0 | refine hq (by first | exact True.intro | rfl) ?_)
    · have h := if_f c7 h
      refine Run.exit ?_
      refine Run.seq ?_
      refine Run.region hL hT [] (by cbv) ?_ ?_
      · exact hq0
      refine Run.ret ?_
      cases h
      refine ⟨_, _, by cbv, ?_, ?_⟩
      · exact LLe.r
      · exact (ALe.v LLe.r ALe.nil)

set_option maxRecDepth 8000 in
theorem laws_toQuery_ac {a0v_Table : Int} {a0v_Where : List Cond} {a0v_Order : Int} {a0v_Down : Bool} {a0v_First : Int} {a0v_Show : List Int} {a0v_Kids : Bool} {a0v_KidTable : Int} {a0v_KidCol : Int} {r : Query} (h : laws_toQuery.f (Query.mk a0v_Table a0v_Where a0v_Order a0v_Down a0v_First a0v_Show a0v_Kids a0v_KidTable a0v_KidCol) = some r) : AC Try.prog 17 [.ag [.s (.int .i64 a0v_Table), .im false (rowsOf Cond_c a0v_Where), .s (.int .i64 a0v_Order), .s (.bool a0v_Down), .s (.int .i64 a0v_First), .im false (rowsOf Int_c a0v_Show), .s (.bool a0v_Kids), .s (.int .i64 a0v_KidTable), .s (.int .i64 a0v_KidCol)]] [.ag [.jk, .jk, .jk, .jk, .jk, .jk, .jk, .jk, .jk]] [.ag [.s (.int .i64 r.Table), .ow 76 (rowsOf Cond_c r.Where), .s (.int .i64 r.Order), .s (.bool r.Down), .s (.int .i64 r.First), .ow 3 (rowsOf Int_c r.Show), .s (.bool r.Kids), .s (.int .i64 r.KidTable), .s (.int .i64 r.KidCol)]] := by
  unfold laws_toQuery.f at h
  let ar := Ls.ar; let cm := Ls.cm; let bo := Ls.bo; let sc := Ls.sc; let sa := Ls.sa; let sx := Ls.sx; let ss := Ls.ss; let sl := Ls.sl; let bs := Ls.bs; let sb := Ls.sb; let ln := Ls.ln; let sr := Ls.sr; let ap := Ls.ap; let up := Ls.up; let rp := Ls.rp; let fr := Ls.fr; let ge := Ls.ge; let le := Ls.le; let lt := Ls.lt; let nz := Ls.nz; let mm := Ls.mm; let ma := Ls.ma; let sm := Ls.sm; let fl := Ls.fl; let al := Ls.al
  let eCond_c := rowsOf Cond_c
  let eInt_c := rowsOf Int_c
  have hL : (⟨ar, cm, bo, sc, sa, sx, ss, sl, bs, sb, ln, sr, ap, up, rp, fr, ge, le, lt, nz, mm, ma, sm, fl, al⟩ : Lf) = Ls := rfl
  show AC Try.prog 17 [.ag [.s (.int .i64 a0v_Table), .im false (eCond_c a0v_Where), .s (.int .i64 a0v_Order), .s (.bool a0v_Down), .s (.int .i64 a0v_First), .im false (eInt_c a0v_Show), .s (.bool a0v_Kids), .s (.int .i64 a0v_KidTable), .s (.int .i64 a0v_KidCol)]] _ _
  refine AC.of_run2 tab_ok Try.func17 (by rfl) (by rfl) (by cbv) ⟨by decide, rfl⟩ fun F hP hA => ?_
  have hT : TabOk F.P tab := hP ▸ tab_ok
  have hM : F.P.follows .mixedOrders = true := hP ▸ mixed
  have hC : ∀ {f a o r}, AC Try.prog f a o r → AC F.P f a o r := fun h => hP ▸ h
  refine Run.seq ?_
  refine Run.region hL hT [] (by cbv) ?_ ?_
  · exact hq0
  refine Run.seq ?_
  refine Run.region hL hT [] (by cbv) ?_ ?_
  · exact hq0
  refine Run.seq ?_
  refine Run.region hL hT [] (by cbv) ?_ ?_
  · exact (hq trivial (hq trivial hq0))
  refine Run.seq ?_
  obtain ⟨r1, h_r1, h⟩ := bnd h
  refine Run.region hL hT [(2, .call [false] [.v (.jk)] [.v (.ow 76 (eCond_c r1))])] (by cbv) ?_ ?_
  · exact (hq trivial (hq (hC (laws_toCondS_ac h_r1)) (hq trivial hq0)))
  refine Run.seq ?_
  refine Run.region hL hT [] (by cbv) ?_ ?_
  · exact (hq trivial (hq trivial hq0))
  refine Run.seq ?_
  refine Run.region hL hT [] (by cbv) ?_ ?_
  · exact (hq trivial (hq trivial hq0))
  refine Run.seq ?_
  refine Run.region hL hT [] (by cbv) ?_ ?_
  · exact (hq trivial (hq trivial hq0))
  refine Run.seq ?_
  obtain ⟨r2, h_r2, h⟩ := bnd h
  refine Run.region hL hT [(2, .call [false] [.v (.jk)] [.v (.ow 3 (eInt_c r2))])] (by cbv) ?_ ?_
  · exact (hq trivial (hq (hC (laws_toIntS_ac h_r2)) (hq trivial hq0)))
  refine Run.seq ?_
  refine Run.region hL hT [] (by cbv) ?_ ?_
  · exact (hq trivial (hq trivial hq0))
  refine Run.seq ?_
  refine Run.region hL hT [] (by cbv) ?_ ?_
  · exact (hq trivial (hq trivial hq0))
  refine Run.seq ?_
  refine Run.region hL hT [] (by cbv) ?_ ?_
  · exact (hq trivial (hq trivial hq0))
  refine Run.seq ?_
  refine Run.region hL hT [] (by cbv) ?_ ?_
  · exact (hq trivial (hq trivial hq0))
  refine Run.ret ?_
  cases h
  refine ⟨_, _, by cbv, ?_, ?_⟩
  · exact LLe.r
  · exact (ALe.ag rfl LLe.r ALe.nil)

set_option maxRecDepth 8000 in
theorem laws_toKid_ac {a0v_Id : Int} {a0v_N : Int} {r : Kid} (h : laws_toKid.f (Kid.mk a0v_Id a0v_N) = some r) : AC Try.prog 89 [.ag [.s (.int .i64 a0v_Id), .s (.int .i64 a0v_N)]] [.ag [.jk, .jk]] [.ag [.s (.int .i64 r.Id), .s (.int .i64 r.N)]] := by
  unfold laws_toKid.f at h
  let ar := Ls.ar; let cm := Ls.cm; let bo := Ls.bo; let sc := Ls.sc; let sa := Ls.sa; let sx := Ls.sx; let ss := Ls.ss; let sl := Ls.sl; let bs := Ls.bs; let sb := Ls.sb; let ln := Ls.ln; let sr := Ls.sr; let ap := Ls.ap; let up := Ls.up; let rp := Ls.rp; let fr := Ls.fr; let ge := Ls.ge; let le := Ls.le; let lt := Ls.lt; let nz := Ls.nz; let mm := Ls.mm; let ma := Ls.ma; let sm := Ls.sm; let fl := Ls.fl; let al := Ls.al
  have hL : (⟨ar, cm, bo, sc, sa, sx, ss, sl, bs, sb, ln, sr, ap, up, rp, fr, ge, le, lt, nz, mm, ma, sm, fl, al⟩ : Lf) = Ls := rfl
  show AC Try.prog 89 [.ag [.s (.int .i64 a0v_Id), .s (.int .i64 a0v_N)]] _ _
  refine AC.of_run2 tab_ok Try.func89 (by rfl) (by rfl) (by cbv) ⟨by decide, rfl⟩ fun F hP hA => ?_
  have hT : TabOk F.P tab := hP ▸ tab_ok
  have hM : F.P.follows .mixedOrders = true := hP ▸ mixed
  have hC : ∀ {f a o r}, AC Try.prog f a o r → AC F.P f a o r := fun h => hP ▸ h
  refine Run.seq ?_
  refine Run.region hL hT [] (by cbv) ?_ ?_
  · exact hq0
  refine Run.seq ?_
  refine Run.region hL hT [] (by cbv) ?_ ?_
  · exact hq0
  refine Run.seq ?_
  refine Run.region hL hT [] (by cbv) ?_ ?_
  · exact (hq trivial (hq trivial hq0))
  refine Run.seq ?_
  refine Run.region hL hT [] (by cbv) ?_ ?_
  · exact (hq trivial (hq trivial hq0))
  refine Run.seq ?_
  refine Run.region hL hT [] (by cbv) ?_ ?_
  · exact (hq trivial (hq trivial hq0))
  refine Run.ret ?_
  cases h
  refine ⟨_, _, by cbv, ?_, ?_⟩
  · exact LLe.r
  · exact (ALe.ag rfl LLe.r ALe.nil)

set_option maxRecDepth 8000 in
theorem laws_toKidS_ac {a0 : List Kid} {r : (List Kid)} (h : laws_toKidS.f a0 = some r) : AC Try.prog 39 [.v (.im false (rowsOf Kid_c a0))] [.v (.jk)] [.v (.ow 63 (rowsOf Kid_c r))] := by
  unfold laws_toKidS.f at h
  let ar := Ls.ar; let cm := Ls.cm; let bo := Ls.bo; let sc := Ls.sc; let sa := Ls.sa; let sx := Ls.sx; let ss := Ls.ss; let sl := Ls.sl; let bs := Ls.bs; let sb := Ls.sb; let ln := Ls.ln; let sr := Ls.sr; let ap := Ls.ap; let up := Ls.up; let rp := Ls.rp; let fr := Ls.fr; let ge := Ls.ge; let le := Ls.le; let lt := Ls.lt; let nz := Ls.nz; let mm := Ls.mm; let ma := Ls.ma; let sm := Ls.sm; let fl := Ls.fl; let al := Ls.al
  let eKid_c := rowsOf Kid_c
  let lenI_Kid := @lenI Kid
  have hL : (⟨ar, cm, bo, sc, sa, sx, ss, sl, bs, sb, ln, sr, ap, up, rp, fr, ge, le, lt, nz, mm, ma, sm, fl, al⟩ : Lf) = Ls := rfl
  show AC Try.prog 39 [.v (.im false (eKid_c a0))] _ _
  refine AC.of_run2 tab_ok Try.func39 (by rfl) (by rfl) (by cbv) ⟨by decide, rfl⟩ fun F hP hA => ?_
  have hT : TabOk F.P tab := hP ▸ tab_ok
  have hM : F.P.follows .mixedOrders = true := hP ▸ mixed
  have hC : ∀ {f a o r}, AC Try.prog f a o r → AC F.P f a o r := fun h => hP ▸ h
  refine Run.seq ?_
  refine Run.region hL hT [] (by cbv) ?_ ?_
  · exact hq0
  refine Run.seq ?_
  obtain ⟨l1, h_l1, h⟩ := bnd h
  refine Run.region hL hT [] (by cbv) ?_ ?_
  · exact (hq trivial (hq (by rw [show ln (eKid_c a0) = lenI_Kid a0 from ln_eq Kid_c _]; exact (mk_0 h_l1)) (hq (by rw [show ln (eKid_c a0) = lenI_Kid a0 from ln_eq Kid_c _]; exact (mk_mm h_l1)) hq0)))
  rw [show ln (eKid_c a0) = lenI_Kid a0 from ln_eq Kid_c _]
  refine Run.row (rows := (rp (lenI_Kid a0) [.s (.int .i64 0), .s (.int .i64 0)])) 4098 (eKid_c l1) (by cbv) (mk_le (f := Kid_c) rfl LLe.r h_l1) ?_
  refine Run.seq ?_
  refine Run.seq ?_
  refine Run.region hL hT [] (by cbv) ?_ ?_
  · exact hq0
  refine Run.block ?_
  refine Run.loop2 (fun (z5 : List Kid) (z6 : Int) => ⟨23, 100000, [(0, .t (.im false (eKid_c a0))), (3, .rf 1), (4, .t (.s (.int .i64 z6)))], [(1, .row 0 63 2 (eKid_c z5))]⟩) (x0 := l1) (x1 := 0) h (Weak.of _ [(1, 4098)] hA (by cbv) ?_) (fun _ _ => rfl) ?_
  · repeat (first | exact hq0 | refine hq (by first | exact True.intro | rfl) ?_)
  · intro k z5 z6 h
    rw [laws_toKidS.l0] at h
    refine Run.seq ?_
    refine Run.seq ?_
    refine Run.region hL hT [] (by cbv) ?_ ?_
    · exact (hq trivial hq0)
    rw [show ln (eKid_c a0) = lenI_Kid a0 from ln_eq Kid_c _]
    refine Run.cond (by cbv) (hq0) (fun c7 => ?_) (fun c7 => ?_)
    · have h := if_t c7 h
      refine Run.skip ?_
      refine Run.seq ?_
      refine Run.block ?_
      obtain ⟨⟨x8v_Id, x8v_N⟩, h_x8, h⟩ := bnd h
      obtain ⟨⟨r9v_Id, r9v_N⟩, h_r9, h⟩ := bnd h
      obtain ⟨⟨x10v_Id, x10v_N⟩, h_x10, h⟩ := bnd h
      obtain ⟨l11, h_l11, h⟩ := bnd h
      refine Run.region hL hT [(4, .el [.s (.int .i64 x8v_Id), .s (.int .i64 x8v_N)]), (6, .call [false] [.ag [.jk, .jk]] [.ag [.s (.int .i64 r9v_Id), .s (.int .i64 r9v_N)]])] (by cbv) ?_ ?_
      · exact (hq (get_le h_x8) (hq (get_lt (f := Kid_c) h_x8) (hq (get_ge (f := Kid_c) h_x8) (hq (hC (laws_toKid_ac h_r9)) (hq (get_le h_x10) (hq (get_lt (f := Kid_c) h_x10) (hq (get_le h_x10) (hq (get_lt (f := Kid_c) h_x10) hq0))))))))
      refine Run.row (rows := (up (eKid_c z5) z6 0 [.s (.int .i64 r9v_Id), .s (.int .i64 r9v_N)])) 1 (eKid_c l11) (by cbv) (sto_le (f := Kid_c) h_x10 h_l11 rfl LLe.r) ?_
      refine Run.region hL hT [] (by cbv) ?_ ?_
      · exact (hq trivial hq0)
      refine ⟨l11, (ar .add .i64 z6 1), h, Weak.of _ [(1, 1)] hA (by cbv) ?_⟩
      repeat (first | exact hq0 | refine hq (by first | exact True.intro | rfl) ?_)
    · have h := if_f c7 h
      refine Run.exit ?_
      refine Run.seq ?_
      refine Run.region hL hT [] (by cbv) ?_ ?_
      · exact hq0
      refine Run.ret ?_
      cases h
      refine ⟨_, _, by cbv, ?_, ?_⟩
      · exact LLe.r
      · exact (ALe.v LLe.r ALe.nil)

set_option maxRecDepth 8000 in
theorem laws_toRow_ac {a0v_Id : Int} {a0v_Cells : List Int} {r : Row} (h : laws_toRow.f (Row.mk a0v_Id a0v_Cells) = some r) : AC Try.prog 22 [.ag [.s (.int .i64 a0v_Id), .im false (rowsOf Int_c a0v_Cells)]] [.ag [.jk, .jk]] [.ag [.s (.int .i64 r.Id), .ow 3 (rowsOf Int_c r.Cells)]] := by
  unfold laws_toRow.f at h
  let ar := Ls.ar; let cm := Ls.cm; let bo := Ls.bo; let sc := Ls.sc; let sa := Ls.sa; let sx := Ls.sx; let ss := Ls.ss; let sl := Ls.sl; let bs := Ls.bs; let sb := Ls.sb; let ln := Ls.ln; let sr := Ls.sr; let ap := Ls.ap; let up := Ls.up; let rp := Ls.rp; let fr := Ls.fr; let ge := Ls.ge; let le := Ls.le; let lt := Ls.lt; let nz := Ls.nz; let mm := Ls.mm; let ma := Ls.ma; let sm := Ls.sm; let fl := Ls.fl; let al := Ls.al
  let eInt_c := rowsOf Int_c
  have hL : (⟨ar, cm, bo, sc, sa, sx, ss, sl, bs, sb, ln, sr, ap, up, rp, fr, ge, le, lt, nz, mm, ma, sm, fl, al⟩ : Lf) = Ls := rfl
  show AC Try.prog 22 [.ag [.s (.int .i64 a0v_Id), .im false (eInt_c a0v_Cells)]] _ _
  refine AC.of_run2 tab_ok Try.func22 (by rfl) (by rfl) (by cbv) ⟨by decide, rfl⟩ fun F hP hA => ?_
  have hT : TabOk F.P tab := hP ▸ tab_ok
  have hM : F.P.follows .mixedOrders = true := hP ▸ mixed
  have hC : ∀ {f a o r}, AC Try.prog f a o r → AC F.P f a o r := fun h => hP ▸ h
  refine Run.seq ?_
  refine Run.region hL hT [] (by cbv) ?_ ?_
  · exact hq0
  refine Run.seq ?_
  refine Run.region hL hT [] (by cbv) ?_ ?_
  · exact hq0
  refine Run.seq ?_
  refine Run.region hL hT [] (by cbv) ?_ ?_
  · exact (hq trivial (hq trivial hq0))
  refine Run.seq ?_
  obtain ⟨r1, h_r1, h⟩ := bnd h
  refine Run.region hL hT [(2, .call [false] [.v (.jk)] [.v (.ow 3 (eInt_c r1))])] (by cbv) ?_ ?_
  · exact (hq trivial (hq (hC (laws_toIntS_ac h_r1)) (hq trivial hq0)))
  refine Run.seq ?_
  refine Run.region hL hT [] (by cbv) ?_ ?_
  · exact (hq trivial (hq trivial hq0))
  refine Run.ret ?_
  cases h
  refine ⟨_, _, by cbv, ?_, ?_⟩
  · exact LLe.r
  · exact (ALe.ag rfl LLe.r ALe.nil)

set_option maxRecDepth 8000 in
theorem laws_toRowS_ac {a0 : List Row} {r : (List Row)} (h : laws_toRowS.f a0 = some r) : AC Try.prog 98 [.v (.im false (rowsOf Row_i a0))] [.v (.jk)] [.v (.ow 37 (rowsOf Row_o r))] := by
  unfold laws_toRowS.f at h
  let ar := Ls.ar; let cm := Ls.cm; let bo := Ls.bo; let sc := Ls.sc; let sa := Ls.sa; let sx := Ls.sx; let ss := Ls.ss; let sl := Ls.sl; let bs := Ls.bs; let sb := Ls.sb; let ln := Ls.ln; let sr := Ls.sr; let ap := Ls.ap; let up := Ls.up; let rp := Ls.rp; let fr := Ls.fr; let ge := Ls.ge; let le := Ls.le; let lt := Ls.lt; let nz := Ls.nz; let mm := Ls.mm; let ma := Ls.ma; let sm := Ls.sm; let fl := Ls.fl; let al := Ls.al
  let eInt_c := rowsOf Int_c
  let eRow_i := rowsOf Row_i
  let eRow_o := rowsOf Row_o
  let lenI_Row := @lenI Row
  have hL : (⟨ar, cm, bo, sc, sa, sx, ss, sl, bs, sb, ln, sr, ap, up, rp, fr, ge, le, lt, nz, mm, ma, sm, fl, al⟩ : Lf) = Ls := rfl
  show AC Try.prog 98 [.v (.im false (eRow_i a0))] _ _
  refine AC.of_run2 tab_ok Try.func98 (by rfl) (by rfl) (by cbv) ⟨by decide, rfl⟩ fun F hP hA => ?_
  have hT : TabOk F.P tab := hP ▸ tab_ok
  have hM : F.P.follows .mixedOrders = true := hP ▸ mixed
  have hC : ∀ {f a o r}, AC Try.prog f a o r → AC F.P f a o r := fun h => hP ▸ h
  refine Run.seq ?_
  refine Run.region hL hT [] (by cbv) ?_ ?_
  · exact hq0
  refine Run.seq ?_
  obtain ⟨l1, h_l1, h⟩ := bnd h
  refine Run.region hL hT [] (by cbv) ?_ ?_
  · exact (hq trivial (hq (by rw [show ln (eRow_i a0) = lenI_Row a0 from ln_eq Row_i _]; exact (mk_0 h_l1)) (hq (by rw [show ln (eRow_i a0) = lenI_Row a0 from ln_eq Row_i _]; exact (mk_mm h_l1)) hq0)))
  rw [show ln (eRow_i a0) = lenI_Row a0 from ln_eq Row_i _]
  refine Run.row (rows := (rp (lenI_Row a0) [.s (.int .i64 0), .s (.slice none 0 0)])) 4098 (eRow_o l1) (by cbv) (mk_le (f := Row_o) rfl (LLe.c (LLe.cons LLe.nilO LLe.nil)) h_l1) ?_
  refine Run.seq ?_
  refine Run.seq ?_
  refine Run.region hL hT [] (by cbv) ?_ ?_
  · exact hq0
  refine Run.block ?_
  refine Run.loop2 (fun (z5 : List Row) (z6 : Int) => ⟨23, 100000, [(0, .t (.im false (eRow_i a0))), (3, .rf 1), (4, .t (.s (.int .i64 z6)))], [(1, .row 0 37 2 (eRow_o z5))]⟩) (x0 := l1) (x1 := 0) h (Weak.of _ [(1, 4098)] hA (by cbv) ?_) (fun _ _ => rfl) ?_
  · repeat (first | exact hq0 | refine hq (by first | exact True.intro | rfl) ?_)
  · intro k z5 z6 h
    rw [laws_toRowS.l0] at h
    refine Run.seq ?_
    refine Run.seq ?_
    refine Run.region hL hT [] (by cbv) ?_ ?_
    · exact (hq trivial hq0)
    rw [show ln (eRow_i a0) = lenI_Row a0 from ln_eq Row_i _]
    refine Run.cond (by cbv) (hq0) (fun c7 => ?_) (fun c7 => ?_)
    · have h := if_t c7 h
      refine Run.skip ?_
      refine Run.seq ?_
      refine Run.block ?_
      obtain ⟨⟨x8v_Id, x8v_Cells⟩, h_x8, h⟩ := bnd h
      obtain ⟨⟨r9v_Id, r9v_Cells⟩, h_r9, h⟩ := bnd h
      obtain ⟨⟨x10v_Id, x10v_Cells⟩, h_x10, h⟩ := bnd h
      obtain ⟨l11, h_l11, h⟩ := bnd h
      refine Run.region hL hT [(4, .el [.s (.int .i64 x8v_Id), .im false (eInt_c x8v_Cells)]), (6, .call [false] [.ag [.jk, .jk]] [.ag [.s (.int .i64 r9v_Id), .ow 3 (eInt_c r9v_Cells)]])] (by cbv) ?_ ?_
      · exact (hq (get_le h_x8) (hq (get_lt (f := Row_i) h_x8) (hq (get_ge (f := Row_i) h_x8) (hq (hC (laws_toRow_ac h_r9)) (hq (get_le h_x10) (hq (get_lt (f := Row_o) h_x10) (hq (get_le h_x10) (hq (get_lt (f := Row_o) h_x10) hq0))))))))
      refine Run.row (rows := (up (eRow_o z5) z6 0 [.s (.int .i64 r9v_Id), .ow 3 (eInt_c r9v_Cells)])) 1 (eRow_o l11) (by cbv) (sto_le (f := Row_o) h_x10 h_l11 rfl LLe.r) ?_
      refine Run.region hL hT [] (by cbv) ?_ ?_
      · exact (hq trivial hq0)
      refine ⟨l11, (ar .add .i64 z6 1), h, Weak.of _ [(1, 1)] hA (by cbv) ?_⟩
      repeat (first | exact hq0 | refine hq (by first | exact True.intro | rfl) ?_)
    · have h := if_f c7 h
      refine Run.exit ?_
      refine Run.seq ?_
      refine Run.region hL hT [] (by cbv) ?_ ?_
      · exact hq0
      refine Run.ret ?_
      cases h
      refine ⟨_, _, by cbv, ?_, ?_⟩
      · exact LLe.r
      · exact (ALe.v LLe.r ALe.nil)

set_option maxRecDepth 8000 in
theorem laws_toView_ac {a0v_Qv_Table : Int} {a0v_Qv_Where : List Cond} {a0v_Qv_Order : Int} {a0v_Qv_Down : Bool} {a0v_Qv_First : Int} {a0v_Qv_Show : List Int} {a0v_Qv_Kids : Bool} {a0v_Qv_KidTable : Int} {a0v_Qv_KidCol : Int} {a0v_Rows : List Row} {a0v_Kids : List Kid} {r : View} (h : laws_toView.f (View.mk (Query.mk a0v_Qv_Table a0v_Qv_Where a0v_Qv_Order a0v_Qv_Down a0v_Qv_First a0v_Qv_Show a0v_Qv_Kids a0v_Qv_KidTable a0v_Qv_KidCol) a0v_Rows a0v_Kids) = some r) : AC Try.prog 50 [.ag [.s (.int .i64 a0v_Qv_Table), .im false (rowsOf Cond_c a0v_Qv_Where), .s (.int .i64 a0v_Qv_Order), .s (.bool a0v_Qv_Down), .s (.int .i64 a0v_Qv_First), .im false (rowsOf Int_c a0v_Qv_Show), .s (.bool a0v_Qv_Kids), .s (.int .i64 a0v_Qv_KidTable), .s (.int .i64 a0v_Qv_KidCol), .im false (rowsOf Row_i a0v_Rows), .im false (rowsOf Kid_c a0v_Kids)]] [.ag [.jk, .jk, .jk, .jk, .jk, .jk, .jk, .jk, .jk, .jk, .jk]] [.ag [.s (.int .i64 r.Q.Table), .ow 76 (rowsOf Cond_c r.Q.Where), .s (.int .i64 r.Q.Order), .s (.bool r.Q.Down), .s (.int .i64 r.Q.First), .ow 3 (rowsOf Int_c r.Q.Show), .s (.bool r.Q.Kids), .s (.int .i64 r.Q.KidTable), .s (.int .i64 r.Q.KidCol), .ow 37 (rowsOf Row_o r.Rows), .ow 63 (rowsOf Kid_c r.Kids)]] := by
  unfold laws_toView.f at h
  let ar := Ls.ar; let cm := Ls.cm; let bo := Ls.bo; let sc := Ls.sc; let sa := Ls.sa; let sx := Ls.sx; let ss := Ls.ss; let sl := Ls.sl; let bs := Ls.bs; let sb := Ls.sb; let ln := Ls.ln; let sr := Ls.sr; let ap := Ls.ap; let up := Ls.up; let rp := Ls.rp; let fr := Ls.fr; let ge := Ls.ge; let le := Ls.le; let lt := Ls.lt; let nz := Ls.nz; let mm := Ls.mm; let ma := Ls.ma; let sm := Ls.sm; let fl := Ls.fl; let al := Ls.al
  let eCond_c := rowsOf Cond_c
  let eInt_c := rowsOf Int_c
  let eKid_c := rowsOf Kid_c
  let eRow_i := rowsOf Row_i
  let eRow_o := rowsOf Row_o
  have hL : (⟨ar, cm, bo, sc, sa, sx, ss, sl, bs, sb, ln, sr, ap, up, rp, fr, ge, le, lt, nz, mm, ma, sm, fl, al⟩ : Lf) = Ls := rfl
  show AC Try.prog 50 [.ag [.s (.int .i64 a0v_Qv_Table), .im false (eCond_c a0v_Qv_Where), .s (.int .i64 a0v_Qv_Order), .s (.bool a0v_Qv_Down), .s (.int .i64 a0v_Qv_First), .im false (eInt_c a0v_Qv_Show), .s (.bool a0v_Qv_Kids), .s (.int .i64 a0v_Qv_KidTable), .s (.int .i64 a0v_Qv_KidCol), .im false (eRow_i a0v_Rows), .im false (eKid_c a0v_Kids)]] _ _
  refine AC.of_run2 tab_ok Try.func50 (by rfl) (by rfl) (by cbv) ⟨by decide, rfl⟩ fun F hP hA => ?_
  have hT : TabOk F.P tab := hP ▸ tab_ok
  have hM : F.P.follows .mixedOrders = true := hP ▸ mixed
  have hC : ∀ {f a o r}, AC Try.prog f a o r → AC F.P f a o r := fun h => hP ▸ h
  refine Run.seq ?_
  refine Run.region hL hT [] (by cbv) ?_ ?_
  · exact hq0
  refine Run.seq ?_
  refine Run.region hL hT [] (by cbv) ?_ ?_
  · exact hq0
  refine Run.seq ?_
  obtain ⟨⟨r1v_Table, r1v_Where, r1v_Order, r1v_Down, r1v_First, r1v_Show, r1v_Kids, r1v_KidTable, r1v_KidCol⟩, h_r1, h⟩ := bnd h
  refine Run.region hL hT [(2, .call [false] [.ag [.jk, .jk, .jk, .jk, .jk, .jk, .jk, .jk, .jk]] [.ag [.s (.int .i64 r1v_Table), .ow 76 (eCond_c r1v_Where), .s (.int .i64 r1v_Order), .s (.bool r1v_Down), .s (.int .i64 r1v_First), .ow 3 (eInt_c r1v_Show), .s (.bool r1v_Kids), .s (.int .i64 r1v_KidTable), .s (.int .i64 r1v_KidCol)]])] (by cbv) ?_ ?_
  · exact (hq trivial (hq (hC (laws_toQuery_ac h_r1)) (hq trivial hq0)))
  refine Run.seq ?_
  obtain ⟨r2, h_r2, h⟩ := bnd h
  refine Run.region hL hT [(2, .call [false] [.v (.jk)] [.v (.ow 37 (eRow_o r2))])] (by cbv) ?_ ?_
  · exact (hq trivial (hq (hC (laws_toRowS_ac h_r2)) (hq trivial hq0)))
  refine Run.seq ?_
  obtain ⟨r3, h_r3, h⟩ := bnd h
  refine Run.region hL hT [(2, .call [false] [.v (.jk)] [.v (.ow 63 (eKid_c r3))])] (by cbv) ?_ ?_
  · exact (hq trivial (hq (hC (laws_toKidS_ac h_r3)) (hq trivial hq0)))
  refine Run.seq ?_
  refine Run.region hL hT [] (by cbv) ?_ ?_
  · exact (hq trivial (hq trivial hq0))
  refine Run.ret ?_
  cases h
  refine ⟨_, _, by cbv, ?_, ?_⟩
  · exact LLe.r
  · exact (ALe.ag rfl LLe.r ALe.nil)

set_option maxRecDepth 8000 in
theorem laws_eqCond_ac {a0v_Col : Int} {a0v_Op : Int} {a0v_V : Int} {a1v_Col : Int} {a1v_Op : Int} {a1v_V : Int} {r : Bool} (h : laws_eqCond.f (Cond.mk a0v_Col a0v_Op a0v_V) (Cond.mk a1v_Col a1v_Op a1v_V) = some r) : AC Try.prog 106 [.ag [.s (.int .i64 a0v_Col), .s (.int .i64 a0v_Op), .s (.int .i64 a0v_V)], .ag [.s (.int .i64 a1v_Col), .s (.int .i64 a1v_Op), .s (.int .i64 a1v_V)]] [.ag [.jk, .jk, .jk], .ag [.jk, .jk, .jk]] [.v (.s (.bool r))] := by
  unfold laws_eqCond.f at h
  let ar := Ls.ar; let cm := Ls.cm; let bo := Ls.bo; let sc := Ls.sc; let sa := Ls.sa; let sx := Ls.sx; let ss := Ls.ss; let sl := Ls.sl; let bs := Ls.bs; let sb := Ls.sb; let ln := Ls.ln; let sr := Ls.sr; let ap := Ls.ap; let up := Ls.up; let rp := Ls.rp; let fr := Ls.fr; let ge := Ls.ge; let le := Ls.le; let lt := Ls.lt; let nz := Ls.nz; let mm := Ls.mm; let ma := Ls.ma; let sm := Ls.sm; let fl := Ls.fl; let al := Ls.al
  have hL : (⟨ar, cm, bo, sc, sa, sx, ss, sl, bs, sb, ln, sr, ap, up, rp, fr, ge, le, lt, nz, mm, ma, sm, fl, al⟩ : Lf) = Ls := rfl
  show AC Try.prog 106 [.ag [.s (.int .i64 a0v_Col), .s (.int .i64 a0v_Op), .s (.int .i64 a0v_V)], .ag [.s (.int .i64 a1v_Col), .s (.int .i64 a1v_Op), .s (.int .i64 a1v_V)]] _ _
  refine AC.of_run2 tab_ok Try.func106 (by rfl) (by rfl) (by cbv) ⟨by decide, rfl⟩ fun F hP hA => ?_
  have hT : TabOk F.P tab := hP ▸ tab_ok
  have hM : F.P.follows .mixedOrders = true := hP ▸ mixed
  have hC : ∀ {f a o r}, AC Try.prog f a o r → AC F.P f a o r := fun h => hP ▸ h
  refine Run.seq ?_
  refine Run.region hL hT [] (by cbv) ?_ ?_
  · exact hq0
  refine Run.seq ?_
  refine Run.seq ?_
  refine Run.region hL hT [] (by cbv) ?_ ?_
  · exact (hq trivial (hq trivial (hq trivial hq0)))
  refine Run.cond (by cbv) (hq0) (fun c1 => ?_) (fun c1 => ?_)
  · have h := if_t c1 h
    refine Run.seq ?_
    refine Run.region hL hT [] (by cbv) ?_ ?_
    · exact hq0
    refine Run.ret ?_
    cases h
    refine ⟨_, _, by cbv, ?_, ?_⟩
    · exact LLe.r
    · exact (ALe.v LLe.r ALe.nil)
  · have h := if_f c1 h
    refine Run.skip ?_
    refine Run.seq ?_
    refine Run.seq ?_
    refine Run.region hL hT [] (by cbv) ?_ ?_
    · exact (hq trivial (hq trivial (hq trivial hq0)))
    refine Run.cond (by cbv) (hq0) (fun c2 => ?_) (fun c2 => ?_)
    · have h := if_t c2 h
      refine Run.seq ?_
      refine Run.region hL hT [] (by cbv) ?_ ?_
      · exact hq0
      refine Run.ret ?_
      cases h
      refine ⟨_, _, by cbv, ?_, ?_⟩
      · exact LLe.r
      · exact (ALe.v LLe.r ALe.nil)
    · have h := if_f c2 h
      refine Run.skip ?_
      refine Run.seq ?_
      refine Run.seq ?_
      refine Run.region hL hT [] (by cbv) ?_ ?_
      · exact (hq trivial (hq trivial (hq trivial hq0)))
      refine Run.cond (by cbv) (hq0) (fun c3 => ?_) (fun c3 => ?_)
      · have h := if_t c3 h
        refine Run.seq ?_
        refine Run.region hL hT [] (by cbv) ?_ ?_
        · exact hq0
        refine Run.ret ?_
        cases h
        refine ⟨_, _, by cbv, ?_, ?_⟩
        · exact LLe.r
        · exact (ALe.v LLe.r ALe.nil)
      · have h := if_f c3 h
        refine Run.skip ?_
        refine Run.seq ?_
        refine Run.region hL hT [] (by cbv) ?_ ?_
        · exact hq0
        refine Run.ret ?_
        cases h
        refine ⟨_, _, by cbv, ?_, ?_⟩
        · exact LLe.r
        · exact (ALe.v LLe.r ALe.nil)

set_option maxRecDepth 8000 in
theorem laws_eqCondS_ac {a0 : List Cond} {a1 : List Cond} {r : Bool} (h : laws_eqCondS.f a0 a1 = some r) : AC Try.prog 72 [.v (.im false (rowsOf Cond_c a0)), .v (.im false (rowsOf Cond_c a1))] [.v (.jk), .v (.jk)] [.v (.s (.bool r))] := by
  unfold laws_eqCondS.f at h
  let ar := Ls.ar; let cm := Ls.cm; let bo := Ls.bo; let sc := Ls.sc; let sa := Ls.sa; let sx := Ls.sx; let ss := Ls.ss; let sl := Ls.sl; let bs := Ls.bs; let sb := Ls.sb; let ln := Ls.ln; let sr := Ls.sr; let ap := Ls.ap; let up := Ls.up; let rp := Ls.rp; let fr := Ls.fr; let ge := Ls.ge; let le := Ls.le; let lt := Ls.lt; let nz := Ls.nz; let mm := Ls.mm; let ma := Ls.ma; let sm := Ls.sm; let fl := Ls.fl; let al := Ls.al
  let eCond_c := rowsOf Cond_c
  let lenI_Cond := @lenI Cond
  have hL : (⟨ar, cm, bo, sc, sa, sx, ss, sl, bs, sb, ln, sr, ap, up, rp, fr, ge, le, lt, nz, mm, ma, sm, fl, al⟩ : Lf) = Ls := rfl
  show AC Try.prog 72 [.v (.im false (eCond_c a0)), .v (.im false (eCond_c a1))] _ _
  refine AC.of_run2 tab_ok Try.func72 (by rfl) (by rfl) (by cbv) ⟨by decide, rfl⟩ fun F hP hA => ?_
  have hT : TabOk F.P tab := hP ▸ tab_ok
  have hM : F.P.follows .mixedOrders = true := hP ▸ mixed
  have hC : ∀ {f a o r}, AC Try.prog f a o r → AC F.P f a o r := fun h => hP ▸ h
  refine Run.seq ?_
  refine Run.region hL hT [] (by cbv) ?_ ?_
  · exact hq0
  refine Run.seq ?_
  refine Run.seq ?_
  refine Run.region hL hT [] (by cbv) ?_ ?_
  · exact (hq trivial hq0)
  rw [show ln (eCond_c a0) = lenI_Cond a0 from ln_eq Cond_c _]
  rw [show ln (eCond_c a1) = lenI_Cond a1 from ln_eq Cond_c _]
  refine Run.cond (by cbv) (hq0) (fun c1 => ?_) (fun c1 => ?_)
  · have h := if_t c1 h
    refine Run.seq ?_
    refine Run.region hL hT [] (by cbv) ?_ ?_
    · exact hq0
    refine Run.ret ?_
    cases h
    refine ⟨_, _, by cbv, ?_, ?_⟩
    · exact LLe.r
    · exact (ALe.v LLe.r ALe.nil)
  · have h := if_f c1 h
    refine Run.skip ?_
    refine Run.seq ?_
    refine Run.seq ?_
    refine Run.region hL hT [] (by cbv) ?_ ?_
    · exact hq0
    refine Run.block ?_
    refine Run.loop1 (fun (z5 : Int) => ⟨27, 100000, [(0, .t (.im false (eCond_c a0))), (1, .t (.im false (eCond_c a1))), (5, .t (.s (.int .i64 z5)))], []⟩) (x0 := 0) h (Weak.of _ [] hA (by cbv) ?_) (fun _ => rfl) ?_
    · repeat (first | exact hq0 | refine hq (by first | exact True.intro | rfl) ?_)
    · intro k z5 h
      rw [laws_eqCondS.l0] at h
      refine Run.seq ?_
      refine Run.seq ?_
      refine Run.region hL hT [] (by cbv) ?_ ?_
      · exact (hq trivial hq0)
      rw [show ln (eCond_c a0) = lenI_Cond a0 from ln_eq Cond_c _]
      refine Run.cond (by cbv) (hq0) (fun c6 => ?_) (fun c6 => ?_)
      · have h := if_t c6 h
        refine Run.skip ?_
        refine Run.seq ?_
        refine Run.block ?_
        refine Run.seq ?_
        obtain ⟨⟨x7v_Col, x7v_Op, x7v_V⟩, h_x7, h⟩ := bnd h
        obtain ⟨⟨x8v_Col, x8v_Op, x8v_V⟩, h_x8, h⟩ := bnd h
        obtain ⟨r9, h_r9, h⟩ := bnd h
        refine Run.draw hL hT hM [(2, .el [.s (.int .i64 x7v_Col), .s (.int .i64 x7v_Op), .s (.int .i64 x7v_V)]), (6, .el [.s (.int .i64 x8v_Col), .s (.int .i64 x8v_Op), .s (.int .i64 x8v_V)]), (8, .call [false, false] [.ag [.jk, .jk, .jk], .ag [.jk, .jk, .jk]] [.v (.s (.bool r9))])] (by cbv) (by cbv) (by cbv) (by cbv) (by cbv) ?_ ?_
        · exact (hq (get_le h_x7) (hq (get_lt (f := Cond_c) h_x7) (hq (get_ge (f := Cond_c) h_x7) (hq (get_le h_x8) (hq (get_lt (f := Cond_c) h_x8) (hq (get_ge (f := Cond_c) h_x8) (hq (hC (laws_eqCond_ac h_r9)) hq0)))))))
        refine Run.cond (by cbv) (hq0) (fun c10 => ?_) (fun c10 => ?_)
        · have h := if_t c10 h
          refine Run.seq ?_
          refine Run.region hL hT [] (by cbv) ?_ ?_
          · exact hq0
          refine Run.ret ?_
          cases h
          refine ⟨_, _, by cbv, ?_, ?_⟩
          · exact LLe.r
          · exact (ALe.v LLe.r ALe.nil)
        · have h := if_f c10 h
          refine Run.skip ?_
          refine Run.region hL hT [] (by cbv) ?_ ?_
          · exact (hq trivial hq0)
          refine ⟨(ar .add .i64 z5 1), h, Weak.of _ [] hA (by cbv) ?_⟩
          repeat (first | exact hq0 | refine hq (by first | exact True.intro | rfl) ?_)
      · have h := if_f c6 h
        refine Run.exit ?_
        refine Run.seq ?_
        refine Run.region hL hT [] (by cbv) ?_ ?_
        · exact hq0
        refine Run.ret ?_
        cases h
        refine ⟨_, _, by cbv, ?_, ?_⟩
        · exact LLe.r
        · exact (ALe.v LLe.r ALe.nil)

set_option maxRecDepth 8000 in
theorem laws_eqIntS_ac {a0 : List Int} {a1 : List Int} {r : Bool} (h : laws_eqIntS.f a0 a1 = some r) : AC Try.prog 73 [.v (.im false (rowsOf Int_c a0)), .v (.im false (rowsOf Int_c a1))] [.v (.jk), .v (.jk)] [.v (.s (.bool r))] := by
  unfold laws_eqIntS.f at h
  let ar := Ls.ar; let cm := Ls.cm; let bo := Ls.bo; let sc := Ls.sc; let sa := Ls.sa; let sx := Ls.sx; let ss := Ls.ss; let sl := Ls.sl; let bs := Ls.bs; let sb := Ls.sb; let ln := Ls.ln; let sr := Ls.sr; let ap := Ls.ap; let up := Ls.up; let rp := Ls.rp; let fr := Ls.fr; let ge := Ls.ge; let le := Ls.le; let lt := Ls.lt; let nz := Ls.nz; let mm := Ls.mm; let ma := Ls.ma; let sm := Ls.sm; let fl := Ls.fl; let al := Ls.al
  let eInt_c := rowsOf Int_c
  let lenI_Int := @lenI Int
  have hL : (⟨ar, cm, bo, sc, sa, sx, ss, sl, bs, sb, ln, sr, ap, up, rp, fr, ge, le, lt, nz, mm, ma, sm, fl, al⟩ : Lf) = Ls := rfl
  show AC Try.prog 73 [.v (.im false (eInt_c a0)), .v (.im false (eInt_c a1))] _ _
  refine AC.of_run2 tab_ok Try.func73 (by rfl) (by rfl) (by cbv) ⟨by decide, rfl⟩ fun F hP hA => ?_
  have hT : TabOk F.P tab := hP ▸ tab_ok
  have hM : F.P.follows .mixedOrders = true := hP ▸ mixed
  have hC : ∀ {f a o r}, AC Try.prog f a o r → AC F.P f a o r := fun h => hP ▸ h
  refine Run.seq ?_
  refine Run.region hL hT [] (by cbv) ?_ ?_
  · exact hq0
  refine Run.seq ?_
  refine Run.seq ?_
  refine Run.region hL hT [] (by cbv) ?_ ?_
  · exact (hq trivial hq0)
  rw [show ln (eInt_c a0) = lenI_Int a0 from ln_eq Int_c _]
  rw [show ln (eInt_c a1) = lenI_Int a1 from ln_eq Int_c _]
  refine Run.cond (by cbv) (hq0) (fun c1 => ?_) (fun c1 => ?_)
  · have h := if_t c1 h
    refine Run.seq ?_
    refine Run.region hL hT [] (by cbv) ?_ ?_
    · exact hq0
    refine Run.ret ?_
    cases h
    refine ⟨_, _, by cbv, ?_, ?_⟩
    · exact LLe.r
    · exact (ALe.v LLe.r ALe.nil)
  · have h := if_f c1 h
    refine Run.skip ?_
    refine Run.seq ?_
    refine Run.seq ?_
    refine Run.region hL hT [] (by cbv) ?_ ?_
    · exact hq0
    refine Run.block ?_
    refine Run.loop1 (fun (z5 : Int) => ⟨26, 100000, [(0, .t (.im false (eInt_c a0))), (1, .t (.im false (eInt_c a1))), (5, .t (.s (.int .i64 z5)))], []⟩) (x0 := 0) h (Weak.of _ [] hA (by cbv) ?_) (fun _ => rfl) ?_
    · repeat (first | exact hq0 | refine hq (by first | exact True.intro | rfl) ?_)
    · intro k z5 h
      rw [laws_eqIntS.l0] at h
      refine Run.seq ?_
      refine Run.seq ?_
      refine Run.region hL hT [] (by cbv) ?_ ?_
      · exact (hq trivial hq0)
      rw [show ln (eInt_c a0) = lenI_Int a0 from ln_eq Int_c _]
      refine Run.cond (by cbv) (hq0) (fun c6 => ?_) (fun c6 => ?_)
      · have h := if_t c6 h
        refine Run.skip ?_
        refine Run.seq ?_
        refine Run.block ?_
        refine Run.seq ?_
        obtain ⟨x7, h_x7, h⟩ := bnd h
        obtain ⟨x8, h_x8, h⟩ := bnd h
        refine Run.draw hL hT hM [(2, .el [.s (.int .i64 x7)]), (6, .el [.s (.int .i64 x8)])] (by cbv) (by cbv) (by cbv) (by cbv) (by cbv) ?_ ?_
        · exact (hq (get_le h_x7) (hq (get_lt (f := Int_c) h_x7) (hq (get_ge (f := Int_c) h_x7) (hq (get_le h_x8) (hq (get_lt (f := Int_c) h_x8) (hq (get_ge (f := Int_c) h_x8) (hq trivial hq0)))))))
        refine Run.cond (by cbv) (hq0) (fun c9 => ?_) (fun c9 => ?_)
        · have h := if_t c9 h
          refine Run.seq ?_
          refine Run.region hL hT [] (by cbv) ?_ ?_
          · exact hq0
          refine Run.ret ?_
          cases h
          refine ⟨_, _, by cbv, ?_, ?_⟩
          · exact LLe.r
          · exact (ALe.v LLe.r ALe.nil)
        · have h := if_f c9 h
          refine Run.skip ?_
          refine Run.region hL hT [] (by cbv) ?_ ?_
          · exact (hq trivial hq0)
          refine ⟨(ar .add .i64 z5 1), h, Weak.of _ [] hA (by cbv) ?_⟩
          repeat (first | exact hq0 | refine hq (by first | exact True.intro | rfl) ?_)
      · have h := if_f c6 h
        refine Run.exit ?_
        refine Run.seq ?_
        refine Run.region hL hT [] (by cbv) ?_ ?_
        · exact hq0
        refine Run.ret ?_
        cases h
        refine ⟨_, _, by cbv, ?_, ?_⟩
        · exact LLe.r
        · exact (ALe.v LLe.r ALe.nil)

set_option maxRecDepth 8000 in
theorem laws_eqQuery_ac {a0v_Table : Int} {a0v_Where : List Cond} {a0v_Order : Int} {a0v_Down : Bool} {a0v_First : Int} {a0v_Show : List Int} {a0v_Kids : Bool} {a0v_KidTable : Int} {a0v_KidCol : Int} {a1v_Table : Int} {a1v_Where : List Cond} {a1v_Order : Int} {a1v_Down : Bool} {a1v_First : Int} {a1v_Show : List Int} {a1v_Kids : Bool} {a1v_KidTable : Int} {a1v_KidCol : Int} {r : Bool} (h : laws_eqQuery.f (Query.mk a0v_Table a0v_Where a0v_Order a0v_Down a0v_First a0v_Show a0v_Kids a0v_KidTable a0v_KidCol) (Query.mk a1v_Table a1v_Where a1v_Order a1v_Down a1v_First a1v_Show a1v_Kids a1v_KidTable a1v_KidCol) = some r) : AC Try.prog 19 [.ag [.s (.int .i64 a0v_Table), .im false (rowsOf Cond_c a0v_Where), .s (.int .i64 a0v_Order), .s (.bool a0v_Down), .s (.int .i64 a0v_First), .im false (rowsOf Int_c a0v_Show), .s (.bool a0v_Kids), .s (.int .i64 a0v_KidTable), .s (.int .i64 a0v_KidCol)], .ag [.s (.int .i64 a1v_Table), .im false (rowsOf Cond_c a1v_Where), .s (.int .i64 a1v_Order), .s (.bool a1v_Down), .s (.int .i64 a1v_First), .im false (rowsOf Int_c a1v_Show), .s (.bool a1v_Kids), .s (.int .i64 a1v_KidTable), .s (.int .i64 a1v_KidCol)]] [.ag [.jk, .jk, .jk, .jk, .jk, .jk, .jk, .jk, .jk], .ag [.jk, .jk, .jk, .jk, .jk, .jk, .jk, .jk, .jk]] [.v (.s (.bool r))] := by
  unfold laws_eqQuery.f at h
  let ar := Ls.ar; let cm := Ls.cm; let bo := Ls.bo; let sc := Ls.sc; let sa := Ls.sa; let sx := Ls.sx; let ss := Ls.ss; let sl := Ls.sl; let bs := Ls.bs; let sb := Ls.sb; let ln := Ls.ln; let sr := Ls.sr; let ap := Ls.ap; let up := Ls.up; let rp := Ls.rp; let fr := Ls.fr; let ge := Ls.ge; let le := Ls.le; let lt := Ls.lt; let nz := Ls.nz; let mm := Ls.mm; let ma := Ls.ma; let sm := Ls.sm; let fl := Ls.fl; let al := Ls.al
  let eCond_c := rowsOf Cond_c
  let eInt_c := rowsOf Int_c
  have hL : (⟨ar, cm, bo, sc, sa, sx, ss, sl, bs, sb, ln, sr, ap, up, rp, fr, ge, le, lt, nz, mm, ma, sm, fl, al⟩ : Lf) = Ls := rfl
  show AC Try.prog 19 [.ag [.s (.int .i64 a0v_Table), .im false (eCond_c a0v_Where), .s (.int .i64 a0v_Order), .s (.bool a0v_Down), .s (.int .i64 a0v_First), .im false (eInt_c a0v_Show), .s (.bool a0v_Kids), .s (.int .i64 a0v_KidTable), .s (.int .i64 a0v_KidCol)], .ag [.s (.int .i64 a1v_Table), .im false (eCond_c a1v_Where), .s (.int .i64 a1v_Order), .s (.bool a1v_Down), .s (.int .i64 a1v_First), .im false (eInt_c a1v_Show), .s (.bool a1v_Kids), .s (.int .i64 a1v_KidTable), .s (.int .i64 a1v_KidCol)]] _ _
  refine AC.of_run2 tab_ok Try.func19 (by rfl) (by rfl) (by cbv) ⟨by decide, rfl⟩ fun F hP hA => ?_
  have hT : TabOk F.P tab := hP ▸ tab_ok
  have hM : F.P.follows .mixedOrders = true := hP ▸ mixed
  have hC : ∀ {f a o r}, AC Try.prog f a o r → AC F.P f a o r := fun h => hP ▸ h
  refine Run.seq ?_
  refine Run.region hL hT [] (by cbv) ?_ ?_
  · exact hq0
  refine Run.seq ?_
  refine Run.seq ?_
  refine Run.region hL hT [] (by cbv) ?_ ?_
  · exact (hq trivial (hq trivial (hq trivial hq0)))
  refine Run.cond (by cbv) (hq0) (fun c1 => ?_) (fun c1 => ?_)
  · have h := if_t c1 h
    refine Run.seq ?_
    refine Run.region hL hT [] (by cbv) ?_ ?_
    · exact hq0
    refine Run.ret ?_
    cases h
    refine ⟨_, _, by cbv, ?_, ?_⟩
    · exact LLe.r
    · exact (ALe.v LLe.r ALe.nil)
  · have h := if_f c1 h
    refine Run.skip ?_
    refine Run.seq ?_
    refine Run.seq ?_
    obtain ⟨r2, h_r2, h⟩ := bnd h
    refine Run.region hL hT [(4, .call [false, false] [.v (.jk), .v (.jk)] [.v (.s (.bool r2))])] (by cbv) ?_ ?_
    · exact (hq trivial (hq trivial (hq (hC (laws_eqCondS_ac h_r2)) hq0)))
    refine Run.cond (by cbv) (hq0) (fun c3 => ?_) (fun c3 => ?_)
    · have h := if_t c3 h
      refine Run.seq ?_
      refine Run.region hL hT [] (by cbv) ?_ ?_
      · exact hq0
      refine Run.ret ?_
      cases h
      refine ⟨_, _, by cbv, ?_, ?_⟩
      · exact LLe.r
      · exact (ALe.v LLe.r ALe.nil)
    · have h := if_f c3 h
      refine Run.skip ?_
      refine Run.seq ?_
      refine Run.seq ?_
      refine Run.region hL hT [] (by cbv) ?_ ?_
      · exact (hq trivial (hq trivial (hq trivial hq0)))
      refine Run.cond (by cbv) (hq0) (fun c4 => ?_) (fun c4 => ?_)
      · have h := if_t c4 h
        refine Run.seq ?_
        refine Run.region hL hT [] (by cbv) ?_ ?_
        · exact hq0
        refine Run.ret ?_
        cases h
        refine ⟨_, _, by cbv, ?_, ?_⟩
        · exact LLe.r
        · exact (ALe.v LLe.r ALe.nil)
      · have h := if_f c4 h
        refine Run.skip ?_
        refine Run.seq ?_
        refine Run.seq ?_
        refine Run.region hL hT [] (by cbv) ?_ ?_
        · exact (hq trivial (hq trivial hq0))
        refine Run.cond (by cbv) (hq0) (fun c5 => ?_) (fun c5 => ?_)
        · have h := if_t c5 h
          refine Run.seq ?_
          refine Run.region hL hT [] (by cbv) ?_ ?_
          · exact hq0
          refine Run.ret ?_
          cases h
          refine ⟨_, _, by cbv, ?_, ?_⟩
          · exact LLe.r
          · exact (ALe.v LLe.r ALe.nil)
        · have h := if_f c5 h
          refine Run.skip ?_
          refine Run.seq ?_
          refine Run.seq ?_
          refine Run.region hL hT [] (by cbv) ?_ ?_
          · exact (hq trivial (hq trivial (hq trivial hq0)))
          refine Run.cond (by cbv) (hq0) (fun c6 => ?_) (fun c6 => ?_)
          · have h := if_t c6 h
            refine Run.seq ?_
            refine Run.region hL hT [] (by cbv) ?_ ?_
            · exact hq0
            refine Run.ret ?_
            cases h
            refine ⟨_, _, by cbv, ?_, ?_⟩
            · exact LLe.r
            · exact (ALe.v LLe.r ALe.nil)
          · have h := if_f c6 h
            refine Run.skip ?_
            refine Run.seq ?_
            refine Run.seq ?_
            obtain ⟨r7, h_r7, h⟩ := bnd h
            refine Run.region hL hT [(4, .call [false, false] [.v (.jk), .v (.jk)] [.v (.s (.bool r7))])] (by cbv) ?_ ?_
            · exact (hq trivial (hq trivial (hq (hC (laws_eqIntS_ac h_r7)) hq0)))
            refine Run.cond (by cbv) (hq0) (fun c8 => ?_) (fun c8 => ?_)
            · have h := if_t c8 h
              refine Run.seq ?_
              refine Run.region hL hT [] (by cbv) ?_ ?_
              · exact hq0
              refine Run.ret ?_
              cases h
              refine ⟨_, _, by cbv, ?_, ?_⟩
              · exact LLe.r
              · exact (ALe.v LLe.r ALe.nil)
            · have h := if_f c8 h
              refine Run.skip ?_
              refine Run.seq ?_
              refine Run.seq ?_
              refine Run.region hL hT [] (by cbv) ?_ ?_
              · exact (hq trivial (hq trivial hq0))
              refine Run.cond (by cbv) (hq0) (fun c9 => ?_) (fun c9 => ?_)
              · have h := if_t c9 h
                refine Run.seq ?_
                refine Run.region hL hT [] (by cbv) ?_ ?_
                · exact hq0
                refine Run.ret ?_
                cases h
                refine ⟨_, _, by cbv, ?_, ?_⟩
                · exact LLe.r
                · exact (ALe.v LLe.r ALe.nil)
              · have h := if_f c9 h
                refine Run.skip ?_
                refine Run.seq ?_
                refine Run.seq ?_
                refine Run.region hL hT [] (by cbv) ?_ ?_
                · exact (hq trivial (hq trivial (hq trivial hq0)))
                refine Run.cond (by cbv) (hq0) (fun c10 => ?_) (fun c10 => ?_)
                · have h := if_t c10 h
                  refine Run.seq ?_
                  refine Run.region hL hT [] (by cbv) ?_ ?_
                  · exact hq0
                  refine Run.ret ?_
                  cases h
                  refine ⟨_, _, by cbv, ?_, ?_⟩
                  · exact LLe.r
                  · exact (ALe.v LLe.r ALe.nil)
                · have h := if_f c10 h
                  refine Run.skip ?_
                  refine Run.seq ?_
                  refine Run.seq ?_
                  refine Run.region hL hT [] (by cbv) ?_ ?_
                  · exact (hq trivial (hq trivial (hq trivial hq0)))
                  refine Run.cond (by cbv) (hq0) (fun c11 => ?_) (fun c11 => ?_)
                  · have h := if_t c11 h
                    refine Run.seq ?_
                    refine Run.region hL hT [] (by cbv) ?_ ?_
                    · exact hq0
                    refine Run.ret ?_
                    cases h
                    refine ⟨_, _, by cbv, ?_, ?_⟩
                    · exact LLe.r
                    · exact (ALe.v LLe.r ALe.nil)
                  · have h := if_f c11 h
                    refine Run.skip ?_
                    refine Run.seq ?_
                    refine Run.region hL hT [] (by cbv) ?_ ?_
                    · exact hq0
                    refine Run.ret ?_
                    cases h
                    refine ⟨_, _, by cbv, ?_, ?_⟩
                    · exact LLe.r
                    · exact (ALe.v LLe.r ALe.nil)

set_option maxRecDepth 8000 in
theorem laws_eqKid_ac {a0v_Id : Int} {a0v_N : Int} {a1v_Id : Int} {a1v_N : Int} {r : Bool} (h : laws_eqKid.f (Kid.mk a0v_Id a0v_N) (Kid.mk a1v_Id a1v_N) = some r) : AC Try.prog 90 [.ag [.s (.int .i64 a0v_Id), .s (.int .i64 a0v_N)], .ag [.s (.int .i64 a1v_Id), .s (.int .i64 a1v_N)]] [.ag [.jk, .jk], .ag [.jk, .jk]] [.v (.s (.bool r))] := by
  unfold laws_eqKid.f at h
  let ar := Ls.ar; let cm := Ls.cm; let bo := Ls.bo; let sc := Ls.sc; let sa := Ls.sa; let sx := Ls.sx; let ss := Ls.ss; let sl := Ls.sl; let bs := Ls.bs; let sb := Ls.sb; let ln := Ls.ln; let sr := Ls.sr; let ap := Ls.ap; let up := Ls.up; let rp := Ls.rp; let fr := Ls.fr; let ge := Ls.ge; let le := Ls.le; let lt := Ls.lt; let nz := Ls.nz; let mm := Ls.mm; let ma := Ls.ma; let sm := Ls.sm; let fl := Ls.fl; let al := Ls.al
  have hL : (⟨ar, cm, bo, sc, sa, sx, ss, sl, bs, sb, ln, sr, ap, up, rp, fr, ge, le, lt, nz, mm, ma, sm, fl, al⟩ : Lf) = Ls := rfl
  show AC Try.prog 90 [.ag [.s (.int .i64 a0v_Id), .s (.int .i64 a0v_N)], .ag [.s (.int .i64 a1v_Id), .s (.int .i64 a1v_N)]] _ _
  refine AC.of_run2 tab_ok Try.func90 (by rfl) (by rfl) (by cbv) ⟨by decide, rfl⟩ fun F hP hA => ?_
  have hT : TabOk F.P tab := hP ▸ tab_ok
  have hM : F.P.follows .mixedOrders = true := hP ▸ mixed
  have hC : ∀ {f a o r}, AC Try.prog f a o r → AC F.P f a o r := fun h => hP ▸ h
  refine Run.seq ?_
  refine Run.region hL hT [] (by cbv) ?_ ?_
  · exact hq0
  refine Run.seq ?_
  refine Run.seq ?_
  refine Run.region hL hT [] (by cbv) ?_ ?_
  · exact (hq trivial (hq trivial (hq trivial hq0)))
  refine Run.cond (by cbv) (hq0) (fun c1 => ?_) (fun c1 => ?_)
  · have h := if_t c1 h
    refine Run.seq ?_
    refine Run.region hL hT [] (by cbv) ?_ ?_
    · exact hq0
    refine Run.ret ?_
    cases h
    refine ⟨_, _, by cbv, ?_, ?_⟩
    · exact LLe.r
    · exact (ALe.v LLe.r ALe.nil)
  · have h := if_f c1 h
    refine Run.skip ?_
    refine Run.seq ?_
    refine Run.seq ?_
    refine Run.region hL hT [] (by cbv) ?_ ?_
    · exact (hq trivial (hq trivial (hq trivial hq0)))
    refine Run.cond (by cbv) (hq0) (fun c2 => ?_) (fun c2 => ?_)
    · have h := if_t c2 h
      refine Run.seq ?_
      refine Run.region hL hT [] (by cbv) ?_ ?_
      · exact hq0
      refine Run.ret ?_
      cases h
      refine ⟨_, _, by cbv, ?_, ?_⟩
      · exact LLe.r
      · exact (ALe.v LLe.r ALe.nil)
    · have h := if_f c2 h
      refine Run.skip ?_
      refine Run.seq ?_
      refine Run.region hL hT [] (by cbv) ?_ ?_
      · exact hq0
      refine Run.ret ?_
      cases h
      refine ⟨_, _, by cbv, ?_, ?_⟩
      · exact LLe.r
      · exact (ALe.v LLe.r ALe.nil)

set_option maxRecDepth 8000 in
theorem laws_eqKidS_ac {a0 : List Kid} {a1 : List Kid} {r : Bool} (h : laws_eqKidS.f a0 a1 = some r) : AC Try.prog 40 [.v (.im false (rowsOf Kid_c a0)), .v (.im false (rowsOf Kid_c a1))] [.v (.jk), .v (.jk)] [.v (.s (.bool r))] := by
  unfold laws_eqKidS.f at h
  let ar := Ls.ar; let cm := Ls.cm; let bo := Ls.bo; let sc := Ls.sc; let sa := Ls.sa; let sx := Ls.sx; let ss := Ls.ss; let sl := Ls.sl; let bs := Ls.bs; let sb := Ls.sb; let ln := Ls.ln; let sr := Ls.sr; let ap := Ls.ap; let up := Ls.up; let rp := Ls.rp; let fr := Ls.fr; let ge := Ls.ge; let le := Ls.le; let lt := Ls.lt; let nz := Ls.nz; let mm := Ls.mm; let ma := Ls.ma; let sm := Ls.sm; let fl := Ls.fl; let al := Ls.al
  let eKid_c := rowsOf Kid_c
  let lenI_Kid := @lenI Kid
  have hL : (⟨ar, cm, bo, sc, sa, sx, ss, sl, bs, sb, ln, sr, ap, up, rp, fr, ge, le, lt, nz, mm, ma, sm, fl, al⟩ : Lf) = Ls := rfl
  show AC Try.prog 40 [.v (.im false (eKid_c a0)), .v (.im false (eKid_c a1))] _ _
  refine AC.of_run2 tab_ok Try.func40 (by rfl) (by rfl) (by cbv) ⟨by decide, rfl⟩ fun F hP hA => ?_
  have hT : TabOk F.P tab := hP ▸ tab_ok
  have hM : F.P.follows .mixedOrders = true := hP ▸ mixed
  have hC : ∀ {f a o r}, AC Try.prog f a o r → AC F.P f a o r := fun h => hP ▸ h
  refine Run.seq ?_
  refine Run.region hL hT [] (by cbv) ?_ ?_
  · exact hq0
  refine Run.seq ?_
  refine Run.seq ?_
  refine Run.region hL hT [] (by cbv) ?_ ?_
  · exact (hq trivial hq0)
  rw [show ln (eKid_c a0) = lenI_Kid a0 from ln_eq Kid_c _]
  rw [show ln (eKid_c a1) = lenI_Kid a1 from ln_eq Kid_c _]
  refine Run.cond (by cbv) (hq0) (fun c1 => ?_) (fun c1 => ?_)
  · have h := if_t c1 h
    refine Run.seq ?_
    refine Run.region hL hT [] (by cbv) ?_ ?_
    · exact hq0
    refine Run.ret ?_
    cases h
    refine ⟨_, _, by cbv, ?_, ?_⟩
    · exact LLe.r
    · exact (ALe.v LLe.r ALe.nil)
  · have h := if_f c1 h
    refine Run.skip ?_
    refine Run.seq ?_
    refine Run.seq ?_
    refine Run.region hL hT [] (by cbv) ?_ ?_
    · exact hq0
    refine Run.block ?_
    refine Run.loop1 (fun (z5 : Int) => ⟨27, 100000, [(0, .t (.im false (eKid_c a0))), (1, .t (.im false (eKid_c a1))), (5, .t (.s (.int .i64 z5)))], []⟩) (x0 := 0) h (Weak.of _ [] hA (by cbv) ?_) (fun _ => rfl) ?_
    · repeat (first | exact hq0 | refine hq (by first | exact True.intro | rfl) ?_)
    · intro k z5 h
      rw [laws_eqKidS.l0] at h
      refine Run.seq ?_
      refine Run.seq ?_
      refine Run.region hL hT [] (by cbv) ?_ ?_
      · exact (hq trivial hq0)
      rw [show ln (eKid_c a0) = lenI_Kid a0 from ln_eq Kid_c _]
      refine Run.cond (by cbv) (hq0) (fun c6 => ?_) (fun c6 => ?_)
      · have h := if_t c6 h
        refine Run.skip ?_
        refine Run.seq ?_
        refine Run.block ?_
        refine Run.seq ?_
        obtain ⟨⟨x7v_Id, x7v_N⟩, h_x7, h⟩ := bnd h
        obtain ⟨⟨x8v_Id, x8v_N⟩, h_x8, h⟩ := bnd h
        obtain ⟨r9, h_r9, h⟩ := bnd h
        refine Run.draw hL hT hM [(2, .el [.s (.int .i64 x7v_Id), .s (.int .i64 x7v_N)]), (6, .el [.s (.int .i64 x8v_Id), .s (.int .i64 x8v_N)]), (8, .call [false, false] [.ag [.jk, .jk], .ag [.jk, .jk]] [.v (.s (.bool r9))])] (by cbv) (by cbv) (by cbv) (by cbv) (by cbv) ?_ ?_
        · exact (hq (get_le h_x7) (hq (get_lt (f := Kid_c) h_x7) (hq (get_ge (f := Kid_c) h_x7) (hq (get_le h_x8) (hq (get_lt (f := Kid_c) h_x8) (hq (get_ge (f := Kid_c) h_x8) (hq (hC (laws_eqKid_ac h_r9)) hq0)))))))
        refine Run.cond (by cbv) (hq0) (fun c10 => ?_) (fun c10 => ?_)
        · have h := if_t c10 h
          refine Run.seq ?_
          refine Run.region hL hT [] (by cbv) ?_ ?_
          · exact hq0
          refine Run.ret ?_
          cases h
          refine ⟨_, _, by cbv, ?_, ?_⟩
          · exact LLe.r
          · exact (ALe.v LLe.r ALe.nil)
        · have h := if_f c10 h
          refine Run.skip ?_
          refine Run.region hL hT [] (by cbv) ?_ ?_
          · exact (hq trivial hq0)
          refine ⟨(ar .add .i64 z5 1), h, Weak.of _ [] hA (by cbv) ?_⟩
          repeat (first | exact hq0 | refine hq (by first | exact True.intro | rfl) ?_)
      · have h := if_f c6 h
        refine Run.exit ?_
        refine Run.seq ?_
        refine Run.region hL hT [] (by cbv) ?_ ?_
        · exact hq0
        refine Run.ret ?_
        cases h
        refine ⟨_, _, by cbv, ?_, ?_⟩
        · exact LLe.r
        · exact (ALe.v LLe.r ALe.nil)

set_option maxRecDepth 8000 in
theorem laws_eqRow_ac {a0v_Id : Int} {a0v_Cells : List Int} {a1v_Id : Int} {a1v_Cells : List Int} {r : Bool} (h : laws_eqRow.f (Row.mk a0v_Id a0v_Cells) (Row.mk a1v_Id a1v_Cells) = some r) : AC Try.prog 24 [.ag [.s (.int .i64 a0v_Id), .im false (rowsOf Int_c a0v_Cells)], .ag [.s (.int .i64 a1v_Id), .im false (rowsOf Int_c a1v_Cells)]] [.ag [.jk, .jk], .ag [.jk, .jk]] [.v (.s (.bool r))] := by
  unfold laws_eqRow.f at h
  let ar := Ls.ar; let cm := Ls.cm; let bo := Ls.bo; let sc := Ls.sc; let sa := Ls.sa; let sx := Ls.sx; let ss := Ls.ss; let sl := Ls.sl; let bs := Ls.bs; let sb := Ls.sb; let ln := Ls.ln; let sr := Ls.sr; let ap := Ls.ap; let up := Ls.up; let rp := Ls.rp; let fr := Ls.fr; let ge := Ls.ge; let le := Ls.le; let lt := Ls.lt; let nz := Ls.nz; let mm := Ls.mm; let ma := Ls.ma; let sm := Ls.sm; let fl := Ls.fl; let al := Ls.al
  let eInt_c := rowsOf Int_c
  have hL : (⟨ar, cm, bo, sc, sa, sx, ss, sl, bs, sb, ln, sr, ap, up, rp, fr, ge, le, lt, nz, mm, ma, sm, fl, al⟩ : Lf) = Ls := rfl
  show AC Try.prog 24 [.ag [.s (.int .i64 a0v_Id), .im false (eInt_c a0v_Cells)], .ag [.s (.int .i64 a1v_Id), .im false (eInt_c a1v_Cells)]] _ _
  refine AC.of_run2 tab_ok Try.func24 (by rfl) (by rfl) (by cbv) ⟨by decide, rfl⟩ fun F hP hA => ?_
  have hT : TabOk F.P tab := hP ▸ tab_ok
  have hM : F.P.follows .mixedOrders = true := hP ▸ mixed
  have hC : ∀ {f a o r}, AC Try.prog f a o r → AC F.P f a o r := fun h => hP ▸ h
  refine Run.seq ?_
  refine Run.region hL hT [] (by cbv) ?_ ?_
  · exact hq0
  refine Run.seq ?_
  refine Run.seq ?_
  refine Run.region hL hT [] (by cbv) ?_ ?_
  · exact (hq trivial (hq trivial (hq trivial hq0)))
  refine Run.cond (by cbv) (hq0) (fun c1 => ?_) (fun c1 => ?_)
  · have h := if_t c1 h
    refine Run.seq ?_
    refine Run.region hL hT [] (by cbv) ?_ ?_
    · exact hq0
    refine Run.ret ?_
    cases h
    refine ⟨_, _, by cbv, ?_, ?_⟩
    · exact LLe.r
    · exact (ALe.v LLe.r ALe.nil)
  · have h := if_f c1 h
    refine Run.skip ?_
    refine Run.seq ?_
    refine Run.seq ?_
    obtain ⟨r2, h_r2, h⟩ := bnd h
    refine Run.region hL hT [(4, .call [false, false] [.v (.jk), .v (.jk)] [.v (.s (.bool r2))])] (by cbv) ?_ ?_
    · exact (hq trivial (hq trivial (hq (hC (laws_eqIntS_ac h_r2)) hq0)))
    refine Run.cond (by cbv) (hq0) (fun c3 => ?_) (fun c3 => ?_)
    · have h := if_t c3 h
      refine Run.seq ?_
      refine Run.region hL hT [] (by cbv) ?_ ?_
      · exact hq0
      refine Run.ret ?_
      cases h
      refine ⟨_, _, by cbv, ?_, ?_⟩
      · exact LLe.r
      · exact (ALe.v LLe.r ALe.nil)
    · have h := if_f c3 h
      refine Run.skip ?_
      refine Run.seq ?_
      refine Run.region hL hT [] (by cbv) ?_ ?_
      · exact hq0
      refine Run.ret ?_
      cases h
      refine ⟨_, _, by cbv, ?_, ?_⟩
      · exact LLe.r
      · exact (ALe.v LLe.r ALe.nil)

set_option maxRecDepth 8000 in
theorem laws_eqRowS_ac {a0 : List Row} {a1 : List Row} {r : Bool} (h : laws_eqRowS.f a0 a1 = some r) : AC Try.prog 99 [.v (.im false (rowsOf Row_i a0)), .v (.im false (rowsOf Row_i a1))] [.v (.jk), .v (.jk)] [.v (.s (.bool r))] := by
  unfold laws_eqRowS.f at h
  let ar := Ls.ar; let cm := Ls.cm; let bo := Ls.bo; let sc := Ls.sc; let sa := Ls.sa; let sx := Ls.sx; let ss := Ls.ss; let sl := Ls.sl; let bs := Ls.bs; let sb := Ls.sb; let ln := Ls.ln; let sr := Ls.sr; let ap := Ls.ap; let up := Ls.up; let rp := Ls.rp; let fr := Ls.fr; let ge := Ls.ge; let le := Ls.le; let lt := Ls.lt; let nz := Ls.nz; let mm := Ls.mm; let ma := Ls.ma; let sm := Ls.sm; let fl := Ls.fl; let al := Ls.al
  let eInt_c := rowsOf Int_c
  let eRow_i := rowsOf Row_i
  let lenI_Row := @lenI Row
  have hL : (⟨ar, cm, bo, sc, sa, sx, ss, sl, bs, sb, ln, sr, ap, up, rp, fr, ge, le, lt, nz, mm, ma, sm, fl, al⟩ : Lf) = Ls := rfl
  show AC Try.prog 99 [.v (.im false (eRow_i a0)), .v (.im false (eRow_i a1))] _ _
  refine AC.of_run2 tab_ok Try.func99 (by rfl) (by rfl) (by cbv) ⟨by decide, rfl⟩ fun F hP hA => ?_
  have hT : TabOk F.P tab := hP ▸ tab_ok
  have hM : F.P.follows .mixedOrders = true := hP ▸ mixed
  have hC : ∀ {f a o r}, AC Try.prog f a o r → AC F.P f a o r := fun h => hP ▸ h
  refine Run.seq ?_
  refine Run.region hL hT [] (by cbv) ?_ ?_
  · exact hq0
  refine Run.seq ?_
  refine Run.seq ?_
  refine Run.region hL hT [] (by cbv) ?_ ?_
  · exact (hq trivial hq0)
  rw [show ln (eRow_i a0) = lenI_Row a0 from ln_eq Row_i _]
  rw [show ln (eRow_i a1) = lenI_Row a1 from ln_eq Row_i _]
  refine Run.cond (by cbv) (hq0) (fun c1 => ?_) (fun c1 => ?_)
  · have h := if_t c1 h
    refine Run.seq ?_
    refine Run.region hL hT [] (by cbv) ?_ ?_
    · exact hq0
    refine Run.ret ?_
    cases h
    refine ⟨_, _, by cbv, ?_, ?_⟩
    · exact LLe.r
    · exact (ALe.v LLe.r ALe.nil)
  · have h := if_f c1 h
    refine Run.skip ?_
    refine Run.seq ?_
    refine Run.seq ?_
    refine Run.region hL hT [] (by cbv) ?_ ?_
    · exact hq0
    refine Run.block ?_
    refine Run.loop1 (fun (z5 : Int) => ⟨27, 100000, [(0, .t (.im false (eRow_i a0))), (1, .t (.im false (eRow_i a1))), (5, .t (.s (.int .i64 z5)))], []⟩) (x0 := 0) h (Weak.of _ [] hA (by cbv) ?_) (fun _ => rfl) ?_
    · repeat (first | exact hq0 | refine hq (by first | exact True.intro | rfl) ?_)
    · intro k z5 h
      rw [laws_eqRowS.l0] at h
      refine Run.seq ?_
      refine Run.seq ?_
      refine Run.region hL hT [] (by cbv) ?_ ?_
      · exact (hq trivial hq0)
      rw [show ln (eRow_i a0) = lenI_Row a0 from ln_eq Row_i _]
      refine Run.cond (by cbv) (hq0) (fun c6 => ?_) (fun c6 => ?_)
      · have h := if_t c6 h
        refine Run.skip ?_
        refine Run.seq ?_
        refine Run.block ?_
        refine Run.seq ?_
        obtain ⟨⟨x7v_Id, x7v_Cells⟩, h_x7, h⟩ := bnd h
        obtain ⟨⟨x8v_Id, x8v_Cells⟩, h_x8, h⟩ := bnd h
        obtain ⟨r9, h_r9, h⟩ := bnd h
        refine Run.draw hL hT hM [(2, .el [.s (.int .i64 x7v_Id), .im false (eInt_c x7v_Cells)]), (6, .el [.s (.int .i64 x8v_Id), .im false (eInt_c x8v_Cells)]), (8, .call [false, false] [.ag [.jk, .jk], .ag [.jk, .jk]] [.v (.s (.bool r9))])] (by cbv) (by cbv) (by cbv) (by cbv) (by cbv) ?_ ?_
        · exact (hq (get_le h_x7) (hq (get_lt (f := Row_i) h_x7) (hq (get_ge (f := Row_i) h_x7) (hq (get_le h_x8) (hq (get_lt (f := Row_i) h_x8) (hq (get_ge (f := Row_i) h_x8) (hq (hC (laws_eqRow_ac h_r9)) hq0)))))))
        refine Run.cond (by cbv) (hq0) (fun c10 => ?_) (fun c10 => ?_)
        · have h := if_t c10 h
          refine Run.seq ?_
          refine Run.region hL hT [] (by cbv) ?_ ?_
          · exact hq0
          refine Run.ret ?_
          cases h
          refine ⟨_, _, by cbv, ?_, ?_⟩
          · exact LLe.r
          · exact (ALe.v LLe.r ALe.nil)
        · have h := if_f c10 h
          refine Run.skip ?_
          refine Run.region hL hT [] (by cbv) ?_ ?_
          · exact (hq trivial hq0)
          refine ⟨(ar .add .i64 z5 1), h, Weak.of _ [] hA (by cbv) ?_⟩
          repeat (first | exact hq0 | refine hq (by first | exact True.intro | rfl) ?_)
      · have h := if_f c6 h
        refine Run.exit ?_
        refine Run.seq ?_
        refine Run.region hL hT [] (by cbv) ?_ ?_
        · exact hq0
        refine Run.ret ?_
        cases h
        refine ⟨_, _, by cbv, ?_, ?_⟩
        · exact LLe.r
        · exact (ALe.v LLe.r ALe.nil)

set_option maxRecDepth 8000 in
theorem laws_eqView_ac {a0v_Qv_Table : Int} {a0v_Qv_Where : List Cond} {a0v_Qv_Order : Int} {a0v_Qv_Down : Bool} {a0v_Qv_First : Int} {a0v_Qv_Show : List Int} {a0v_Qv_Kids : Bool} {a0v_Qv_KidTable : Int} {a0v_Qv_KidCol : Int} {a0v_Rows : List Row} {a0v_Kids : List Kid} {a1v_Qv_Table : Int} {a1v_Qv_Where : List Cond} {a1v_Qv_Order : Int} {a1v_Qv_Down : Bool} {a1v_Qv_First : Int} {a1v_Qv_Show : List Int} {a1v_Qv_Kids : Bool} {a1v_Qv_KidTable : Int} {a1v_Qv_KidCol : Int} {a1v_Rows : List Row} {a1v_Kids : List Kid} {r : Bool} (h : laws_eqView.f (View.mk (Query.mk a0v_Qv_Table a0v_Qv_Where a0v_Qv_Order a0v_Qv_Down a0v_Qv_First a0v_Qv_Show a0v_Qv_Kids a0v_Qv_KidTable a0v_Qv_KidCol) a0v_Rows a0v_Kids) (View.mk (Query.mk a1v_Qv_Table a1v_Qv_Where a1v_Qv_Order a1v_Qv_Down a1v_Qv_First a1v_Qv_Show a1v_Qv_Kids a1v_Qv_KidTable a1v_Qv_KidCol) a1v_Rows a1v_Kids) = some r) : AC Try.prog 51 [.ag [.s (.int .i64 a0v_Qv_Table), .im false (rowsOf Cond_c a0v_Qv_Where), .s (.int .i64 a0v_Qv_Order), .s (.bool a0v_Qv_Down), .s (.int .i64 a0v_Qv_First), .im false (rowsOf Int_c a0v_Qv_Show), .s (.bool a0v_Qv_Kids), .s (.int .i64 a0v_Qv_KidTable), .s (.int .i64 a0v_Qv_KidCol), .im false (rowsOf Row_i a0v_Rows), .im false (rowsOf Kid_c a0v_Kids)], .ag [.s (.int .i64 a1v_Qv_Table), .im false (rowsOf Cond_c a1v_Qv_Where), .s (.int .i64 a1v_Qv_Order), .s (.bool a1v_Qv_Down), .s (.int .i64 a1v_Qv_First), .im false (rowsOf Int_c a1v_Qv_Show), .s (.bool a1v_Qv_Kids), .s (.int .i64 a1v_Qv_KidTable), .s (.int .i64 a1v_Qv_KidCol), .im false (rowsOf Row_i a1v_Rows), .im false (rowsOf Kid_c a1v_Kids)]] [.ag [.jk, .jk, .jk, .jk, .jk, .jk, .jk, .jk, .jk, .jk, .jk], .ag [.jk, .jk, .jk, .jk, .jk, .jk, .jk, .jk, .jk, .jk, .jk]] [.v (.s (.bool r))] := by
  unfold laws_eqView.f at h
  let ar := Ls.ar; let cm := Ls.cm; let bo := Ls.bo; let sc := Ls.sc; let sa := Ls.sa; let sx := Ls.sx; let ss := Ls.ss; let sl := Ls.sl; let bs := Ls.bs; let sb := Ls.sb; let ln := Ls.ln; let sr := Ls.sr; let ap := Ls.ap; let up := Ls.up; let rp := Ls.rp; let fr := Ls.fr; let ge := Ls.ge; let le := Ls.le; let lt := Ls.lt; let nz := Ls.nz; let mm := Ls.mm; let ma := Ls.ma; let sm := Ls.sm; let fl := Ls.fl; let al := Ls.al
  let eCond_c := rowsOf Cond_c
  let eInt_c := rowsOf Int_c
  let eKid_c := rowsOf Kid_c
  let eRow_i := rowsOf Row_i
  have hL : (⟨ar, cm, bo, sc, sa, sx, ss, sl, bs, sb, ln, sr, ap, up, rp, fr, ge, le, lt, nz, mm, ma, sm, fl, al⟩ : Lf) = Ls := rfl
  show AC Try.prog 51 [.ag [.s (.int .i64 a0v_Qv_Table), .im false (eCond_c a0v_Qv_Where), .s (.int .i64 a0v_Qv_Order), .s (.bool a0v_Qv_Down), .s (.int .i64 a0v_Qv_First), .im false (eInt_c a0v_Qv_Show), .s (.bool a0v_Qv_Kids), .s (.int .i64 a0v_Qv_KidTable), .s (.int .i64 a0v_Qv_KidCol), .im false (eRow_i a0v_Rows), .im false (eKid_c a0v_Kids)], .ag [.s (.int .i64 a1v_Qv_Table), .im false (eCond_c a1v_Qv_Where), .s (.int .i64 a1v_Qv_Order), .s (.bool a1v_Qv_Down), .s (.int .i64 a1v_Qv_First), .im false (eInt_c a1v_Qv_Show), .s (.bool a1v_Qv_Kids), .s (.int .i64 a1v_Qv_KidTable), .s (.int .i64 a1v_Qv_KidCol), .im false (eRow_i a1v_Rows), .im false (eKid_c a1v_Kids)]] _ _
  refine AC.of_run2 tab_ok Try.func51 (by rfl) (by rfl) (by cbv) ⟨by decide, rfl⟩ fun F hP hA => ?_
  have hT : TabOk F.P tab := hP ▸ tab_ok
  have hM : F.P.follows .mixedOrders = true := hP ▸ mixed
  have hC : ∀ {f a o r}, AC Try.prog f a o r → AC F.P f a o r := fun h => hP ▸ h
  refine Run.seq ?_
  refine Run.region hL hT [] (by cbv) ?_ ?_
  · exact hq0
  refine Run.seq ?_
  refine Run.seq ?_
  obtain ⟨r1, h_r1, h⟩ := bnd h
  refine Run.region hL hT [(4, .call [false, false] [.ag [.jk, .jk, .jk, .jk, .jk, .jk, .jk, .jk, .jk], .ag [.jk, .jk, .jk, .jk, .jk, .jk, .jk, .jk, .jk]] [.v (.s (.bool r1))])] (by cbv) ?_ ?_
  · exact (hq trivial (hq trivial (hq (hC (laws_eqQuery_ac h_r1)) hq0)))
  refine Run.cond (by cbv) (hq0) (fun c2 => ?_) (fun c2 => ?_)
  · have h := if_t c2 h
    refine Run.seq ?_
    refine Run.region hL hT [] (by cbv) ?_ ?_
    · exact hq0
    refine Run.ret ?_
    cases h
    refine ⟨_, _, by cbv, ?_, ?_⟩
    · exact LLe.r
    · exact (ALe.v LLe.r ALe.nil)
  · have h := if_f c2 h
    refine Run.skip ?_
    refine Run.seq ?_
    refine Run.seq ?_
    obtain ⟨r3, h_r3, h⟩ := bnd h
    refine Run.region hL hT [(4, .call [false, false] [.v (.jk), .v (.jk)] [.v (.s (.bool r3))])] (by cbv) ?_ ?_
    · exact (hq trivial (hq trivial (hq (hC (laws_eqRowS_ac h_r3)) hq0)))
    refine Run.cond (by cbv) (hq0) (fun c4 => ?_) (fun c4 => ?_)
    · have h := if_t c4 h
      refine Run.seq ?_
      refine Run.region hL hT [] (by cbv) ?_ ?_
      · exact hq0
      refine Run.ret ?_
      cases h
      refine ⟨_, _, by cbv, ?_, ?_⟩
      · exact LLe.r
      · exact (ALe.v LLe.r ALe.nil)
    · have h := if_f c4 h
      refine Run.skip ?_
      refine Run.seq ?_
      refine Run.seq ?_
      obtain ⟨r5, h_r5, h⟩ := bnd h
      refine Run.region hL hT [(4, .call [false, false] [.v (.jk), .v (.jk)] [.v (.s (.bool r5))])] (by cbv) ?_ ?_
      · exact (hq trivial (hq trivial (hq (hC (laws_eqKidS_ac h_r5)) hq0)))
      refine Run.cond (by cbv) (hq0) (fun c6 => ?_) (fun c6 => ?_)
      · have h := if_t c6 h
        refine Run.seq ?_
        refine Run.region hL hT [] (by cbv) ?_ ?_
        · exact hq0
        refine Run.ret ?_
        cases h
        refine ⟨_, _, by cbv, ?_, ?_⟩
        · exact LLe.r
        · exact (ALe.v LLe.r ALe.nil)
      · have h := if_f c6 h
        refine Run.skip ?_
        refine Run.seq ?_
        refine Run.region hL hT [] (by cbv) ?_ ?_
        · exact hq0
        refine Run.ret ?_
        cases h
        refine ⟨_, _, by cbv, ?_, ?_⟩
        · exact LLe.r
        · exact (ALe.v LLe.r ALe.nil)

set_option maxRecDepth 8000 in
theorem spec_RowSame_ac {a0v_Id : Int} {a0v_Cells : List Int} {a1v_Id : Int} {a1v_Cells : List Int} {r : Bool} (h : spec_RowSame.f (Row.mk a0v_Id a0v_Cells) (Row.mk a1v_Id a1v_Cells) = some r) : AC Try.prog 101 [.ag [.s (.int .i64 a0v_Id), .im false (rowsOf Int_c a0v_Cells)], .ag [.s (.int .i64 a1v_Id), .im false (rowsOf Int_c a1v_Cells)]] [.ag [.jk, .jk], .ag [.jk, .jk]] [.v (.s (.bool r))] := by
  unfold spec_RowSame.f at h
  let ar := Ls.ar; let cm := Ls.cm; let bo := Ls.bo; let sc := Ls.sc; let sa := Ls.sa; let sx := Ls.sx; let ss := Ls.ss; let sl := Ls.sl; let bs := Ls.bs; let sb := Ls.sb; let ln := Ls.ln; let sr := Ls.sr; let ap := Ls.ap; let up := Ls.up; let rp := Ls.rp; let fr := Ls.fr; let ge := Ls.ge; let le := Ls.le; let lt := Ls.lt; let nz := Ls.nz; let mm := Ls.mm; let ma := Ls.ma; let sm := Ls.sm; let fl := Ls.fl; let al := Ls.al
  let eInt_c := rowsOf Int_c
  let lenI_Int := @lenI Int
  have hL : (⟨ar, cm, bo, sc, sa, sx, ss, sl, bs, sb, ln, sr, ap, up, rp, fr, ge, le, lt, nz, mm, ma, sm, fl, al⟩ : Lf) = Ls := rfl
  show AC Try.prog 101 [.ag [.s (.int .i64 a0v_Id), .im false (eInt_c a0v_Cells)], .ag [.s (.int .i64 a1v_Id), .im false (eInt_c a1v_Cells)]] _ _
  refine AC.of_run2 tab_ok Try.func101 (by rfl) (by rfl) (by cbv) ⟨by decide, rfl⟩ fun F hP hA => ?_
  have hT : TabOk F.P tab := hP ▸ tab_ok
  have hM : F.P.follows .mixedOrders = true := hP ▸ mixed
  have hC : ∀ {f a o r}, AC Try.prog f a o r → AC F.P f a o r := fun h => hP ▸ h
  refine Run.seq ?_
  refine Run.region hL hT [] (by cbv) ?_ ?_
  · exact hq0
  refine Run.seq ?_
  refine Run.seq ?_
  refine Run.region hL hT [] (by cbv) ?_ ?_
  · exact (hq trivial (hq trivial (hq trivial (hq (fun _ => hq0) (hq (fun g2 => (hq g2 (hq trivial hq0))) (hq (fun g3 => (hq g3 hq0)) (hq (fun _ => hq0) (hq (fun g5 => (hq g5 (hq trivial hq0))) (hq (fun g6 => (hq g6 hq0)) (hq (fun g7 => (hq g7 (hq g7 (hq trivial hq0)))) (hq (fun _ => hq0) (hq (fun q9 => (hq (bo_m q9) hq0)) hq0))))))))))))
  rw [show ln (eInt_c a0v_Cells) = lenI_Int a0v_Cells from ln_eq Int_c _]
  rw [show ln (eInt_c a1v_Cells) = lenI_Int a1v_Cells from ln_eq Int_c _]
  refine Run.cond (by cbv) (hq0) (fun c10 => ?_) (fun c10 => ?_)
  · have h := if_t c10 h
    refine Run.seq ?_
    refine Run.region hL hT [] (by cbv) ?_ ?_
    · exact hq0
    refine Run.ret ?_
    cases h
    refine ⟨_, _, by cbv, ?_, ?_⟩
    · exact LLe.r
    · exact (ALe.v LLe.r ALe.nil)
  · have h := if_f c10 h
    refine Run.skip ?_
    refine Run.seq ?_
    refine Run.seq ?_
    refine Run.region hL hT [] (by cbv) ?_ ?_
    · exact hq0
    refine Run.block ?_
    refine Run.loop1 (fun (z16 : Int) => ⟨38, 100000, [(2, .pt 1 0 0), (3, .pt 2 0 0), (5, .t (.s (.int .i64 z16)))], [(1, .box 37 [.t (.s (.int .i64 a0v_Id)), .t (.im false (eInt_c a0v_Cells))]), (2, .box 37 [.t (.s (.int .i64 a1v_Id)), .t (.im false (eInt_c a1v_Cells))])]⟩) (x0 := 0) h (Weak.of _ [(1, 0), (2, 1)] hA (by cbv) ?_) (fun _ => rfl) ?_
    · repeat (first | exact hq0 | refine hq (by first | exact True.intro | rfl) ?_)
    · intro k z16 h
      rw [spec_RowSame.l0] at h
      refine Run.seq ?_
      refine Run.seq ?_
      refine Run.region hL hT [] (by cbv) ?_ ?_
      · exact (hq trivial (hq trivial hq0))
      rw [show ln (eInt_c a0v_Cells) = lenI_Int a0v_Cells from ln_eq Int_c _]
      refine Run.cond (by cbv) (hq0) (fun c17 => ?_) (fun c17 => ?_)
      · have h := if_t c17 h
        refine Run.skip ?_
        refine Run.seq ?_
        refine Run.block ?_
        refine Run.seq ?_
        obtain ⟨x18, h_x18, h⟩ := bnd h
        obtain ⟨x19, h_x19, h⟩ := bnd h
        refine Run.draw hL hT hM [(3, .el [.s (.int .i64 x18)]), (8, .el [.s (.int .i64 x19)])] (by cbv) (by cbv) (by cbv) (by cbv) (by cbv) ?_ ?_
        · exact (hq trivial (hq (get_le h_x18) (hq (get_lt (f := Int_c) h_x18) (hq (get_ge (f := Int_c) h_x18) (hq trivial (hq (get_le h_x19) (hq (get_lt (f := Int_c) h_x19) (hq (get_ge (f := Int_c) h_x19) (hq trivial hq0)))))))))
        refine Run.cond (by cbv) (hq0) (fun c20 => ?_) (fun c20 => ?_)
        · have h := if_t c20 h
          refine Run.seq ?_
          refine Run.region hL hT [] (by cbv) ?_ ?_
          · exact hq0
          refine Run.ret ?_
          cases h
          refine ⟨_, _, by cbv, ?_, ?_⟩
          · exact LLe.r
          · exact (ALe.v LLe.r ALe.nil)
        · have h := if_f c20 h
          refine Run.skip ?_
          refine Run.region hL hT [] (by cbv) ?_ ?_
          · exact (hq trivial hq0)
          refine ⟨(ar .add .i64 z16 1), h, Weak.of _ [(1, 1), (2, 2)] hA (by cbv) ?_⟩
          repeat (first | exact hq0 | refine hq (by first | exact True.intro | rfl) ?_)
      · have h := if_f c17 h
        refine Run.exit ?_
        refine Run.seq ?_
        refine Run.region hL hT [] (by cbv) ?_ ?_
        · exact hq0
        refine Run.ret ?_
        cases h
        refine ⟨_, _, by cbv, ?_, ?_⟩
        · exact LLe.r
        · exact (ALe.v LLe.r ALe.nil)

set_option maxRecDepth 8000 in
theorem spec_l9Conds_ac {a0 : List Cond} {a1 : List Cond} {r : Bool} (h : spec_l9Conds.f a0 a1 = some r) : AC Try.prog 66 [.v (.im false (rowsOf Cond_c a0)), .v (.im false (rowsOf Cond_c a1))] [.v (.jk), .v (.jk)] [.v (.s (.bool r))] := by
  unfold spec_l9Conds.f at h
  let ar := Ls.ar; let cm := Ls.cm; let bo := Ls.bo; let sc := Ls.sc; let sa := Ls.sa; let sx := Ls.sx; let ss := Ls.ss; let sl := Ls.sl; let bs := Ls.bs; let sb := Ls.sb; let ln := Ls.ln; let sr := Ls.sr; let ap := Ls.ap; let up := Ls.up; let rp := Ls.rp; let fr := Ls.fr; let ge := Ls.ge; let le := Ls.le; let lt := Ls.lt; let nz := Ls.nz; let mm := Ls.mm; let ma := Ls.ma; let sm := Ls.sm; let fl := Ls.fl; let al := Ls.al
  let eCond_c := rowsOf Cond_c
  let lenI_Cond := @lenI Cond
  have hL : (⟨ar, cm, bo, sc, sa, sx, ss, sl, bs, sb, ln, sr, ap, up, rp, fr, ge, le, lt, nz, mm, ma, sm, fl, al⟩ : Lf) = Ls := rfl
  show AC Try.prog 66 [.v (.im false (eCond_c a0)), .v (.im false (eCond_c a1))] _ _
  refine AC.of_run2 tab_ok Try.func66 (by rfl) (by rfl) (by cbv) ⟨by decide, rfl⟩ fun F hP hA => ?_
  have hT : TabOk F.P tab := hP ▸ tab_ok
  have hM : F.P.follows .mixedOrders = true := hP ▸ mixed
  have hC : ∀ {f a o r}, AC Try.prog f a o r → AC F.P f a o r := fun h => hP ▸ h
  refine Run.seq ?_
  refine Run.region hL hT [] (by cbv) ?_ ?_
  · exact hq0
  refine Run.seq ?_
  refine Run.seq ?_
  refine Run.region hL hT [] (by cbv) ?_ ?_
  · exact hq0
  refine Run.block ?_
  refine Run.loop1 (fun (z4 : Int) => ⟨32, 100000, [(0, .t (.im false (eCond_c a0))), (1, .t (.im false (eCond_c a1))), (5, .t (.s (.int .i64 z4)))], []⟩) (x0 := 0) h (Weak.of _ [] hA (by cbv) ?_) (fun _ => rfl) ?_
  · repeat (first | exact hq0 | refine hq (by first | exact True.intro | rfl) ?_)
  · intro k z4 h
    rw [spec_l9Conds.l0] at h
    refine Run.seq ?_
    refine Run.seq ?_
    refine Run.region hL hT [] (by cbv) ?_ ?_
    · exact (hq trivial (hq (fun _ => hq0) (hq (fun _ => hq0) (hq (fun g7 => (by have g7C := g7; rw [show ln (eCond_c a0) = lenI_Cond a0 from ln_eq Cond_c _] at g7C; exact (hq g7 hq0))) (hq (fun g8 => (by have g8C := g8; rw [show ln (eCond_c a0) = lenI_Cond a0 from ln_eq Cond_c _] at g8C; exact (hq g8 (hq g8 (hq trivial hq0))))) (hq (fun q9 => (by have q9C := q9; rw [show ln (eCond_c a0) = lenI_Cond a0 from ln_eq Cond_c _] at q9C; exact (hq q9 hq0))) (hq (fun _ => hq0) hq0)))))))
    rw [show ln (eCond_c a0) = lenI_Cond a0 from ln_eq Cond_c _]
    rw [show ln (eCond_c a1) = lenI_Cond a1 from ln_eq Cond_c _]
    refine Run.cond (by cbv) (hq0) (fun c11 => ?_) (fun c11 => ?_)
    · have h := if_t c11 h
      refine Run.skip ?_
      refine Run.seq ?_
      refine Run.block ?_
      refine Run.seq ?_
      obtain ⟨⟨x12v_Col, x12v_Op, x12v_V⟩, h_x12, h⟩ := bnd h
      obtain ⟨⟨x13v_Col, x13v_Op, x13v_V⟩, h_x13, h⟩ := bnd h
      refine Run.draw hL hT hM [(2, .el [.s (.int .i64 x12v_Col), .s (.int .i64 x12v_Op), .s (.int .i64 x12v_V)]), (6, .el [.s (.int .i64 x13v_Col), .s (.int .i64 x13v_Op), .s (.int .i64 x13v_V)])] (by cbv) (by cbv) (by cbv) (by cbv) (by cbv) ?_ ?_
      · exact (hq (get_le h_x12) (hq (get_lt (f := Cond_c) h_x12) (hq (get_ge (f := Cond_c) h_x12) (hq (get_le h_x13) (hq (get_lt (f := Cond_c) h_x13) (hq (get_ge (f := Cond_c) h_x13) (hq trivial (hq trivial (hq trivial (hq trivial (hq trivial (hq trivial hq0))))))))))))
      refine Run.cond (by cbv) (hq0) (fun c14 => ?_) (fun c14 => ?_)
      · have h := if_t c14 h
        refine Run.seq ?_
        refine Run.region hL hT [] (by cbv) ?_ ?_
        · exact hq0
        refine Run.ret ?_
        cases h
        refine ⟨_, _, by cbv, ?_, ?_⟩
        · exact LLe.r
        · exact (ALe.v LLe.r ALe.nil)
      · have h := if_f c14 h
        refine Run.skip ?_
        refine Run.region hL hT [] (by cbv) ?_ ?_
        · exact (hq trivial hq0)
        refine ⟨(ar .add .i64 z4 1), h, Weak.of _ [] hA (by cbv) ?_⟩
        repeat (first | exact hq0 | refine hq (by first | exact True.intro | rfl) ?_)
    · have h := if_f c11 h
      refine Run.exit ?_
      refine Run.seq ?_
      refine Run.region hL hT [] (by cbv) ?_ ?_
      · exact (hq trivial hq0)
      rw [show ln (eCond_c a0) = lenI_Cond a0 from ln_eq Cond_c _]
      rw [show ln (eCond_c a1) = lenI_Cond a1 from ln_eq Cond_c _]
      refine Run.ret ?_
      cases h
      refine ⟨_, _, by cbv, ?_, ?_⟩
      · exact LLe.r
      · exact (ALe.v LLe.r ALe.nil)

set_option maxRecDepth 8000 in
theorem spec_l9Ints_ac {a0 : List Int} {a1 : List Int} {r : Bool} (h : spec_l9Ints.f a0 a1 = some r) : AC Try.prog 67 [.v (.im false (rowsOf Int_c a0)), .v (.im false (rowsOf Int_c a1))] [.v (.jk), .v (.jk)] [.v (.s (.bool r))] := by
  unfold spec_l9Ints.f at h
  let ar := Ls.ar; let cm := Ls.cm; let bo := Ls.bo; let sc := Ls.sc; let sa := Ls.sa; let sx := Ls.sx; let ss := Ls.ss; let sl := Ls.sl; let bs := Ls.bs; let sb := Ls.sb; let ln := Ls.ln; let sr := Ls.sr; let ap := Ls.ap; let up := Ls.up; let rp := Ls.rp; let fr := Ls.fr; let ge := Ls.ge; let le := Ls.le; let lt := Ls.lt; let nz := Ls.nz; let mm := Ls.mm; let ma := Ls.ma; let sm := Ls.sm; let fl := Ls.fl; let al := Ls.al
  let eInt_c := rowsOf Int_c
  let lenI_Int := @lenI Int
  have hL : (⟨ar, cm, bo, sc, sa, sx, ss, sl, bs, sb, ln, sr, ap, up, rp, fr, ge, le, lt, nz, mm, ma, sm, fl, al⟩ : Lf) = Ls := rfl
  show AC Try.prog 67 [.v (.im false (eInt_c a0)), .v (.im false (eInt_c a1))] _ _
  refine AC.of_run2 tab_ok Try.func67 (by rfl) (by rfl) (by cbv) ⟨by decide, rfl⟩ fun F hP hA => ?_
  have hT : TabOk F.P tab := hP ▸ tab_ok
  have hM : F.P.follows .mixedOrders = true := hP ▸ mixed
  have hC : ∀ {f a o r}, AC Try.prog f a o r → AC F.P f a o r := fun h => hP ▸ h
  refine Run.seq ?_
  refine Run.region hL hT [] (by cbv) ?_ ?_
  · exact hq0
  refine Run.seq ?_
  refine Run.seq ?_
  refine Run.region hL hT [] (by cbv) ?_ ?_
  · exact hq0
  refine Run.block ?_
  refine Run.loop1 (fun (z4 : Int) => ⟨32, 100000, [(0, .t (.im false (eInt_c a0))), (1, .t (.im false (eInt_c a1))), (5, .t (.s (.int .i64 z4)))], []⟩) (x0 := 0) h (Weak.of _ [] hA (by cbv) ?_) (fun _ => rfl) ?_
  · repeat (first | exact hq0 | refine hq (by first | exact True.intro | rfl) ?_)
  · intro k z4 h
    rw [spec_l9Ints.l0] at h
    refine Run.seq ?_
    refine Run.seq ?_
    refine Run.region hL hT [] (by cbv) ?_ ?_
    · exact (hq trivial (hq (fun _ => hq0) (hq (fun _ => hq0) (hq (fun g7 => (by have g7C := g7; rw [show ln (eInt_c a0) = lenI_Int a0 from ln_eq Int_c _] at g7C; exact (hq g7 hq0))) (hq (fun g8 => (by have g8C := g8; rw [show ln (eInt_c a0) = lenI_Int a0 from ln_eq Int_c _] at g8C; exact (hq g8 (hq g8 (hq trivial hq0))))) (hq (fun q9 => (by have q9C := q9; rw [show ln (eInt_c a0) = lenI_Int a0 from ln_eq Int_c _] at q9C; exact (hq q9 hq0))) (hq (fun _ => hq0) hq0)))))))
    rw [show ln (eInt_c a0) = lenI_Int a0 from ln_eq Int_c _]
    rw [show ln (eInt_c a1) = lenI_Int a1 from ln_eq Int_c _]
    refine Run.cond (by cbv) (hq0) (fun c11 => ?_) (fun c11 => ?_)
    · have h := if_t c11 h
      refine Run.skip ?_
      refine Run.seq ?_
      refine Run.block ?_
      refine Run.seq ?_
      obtain ⟨x12, h_x12, h⟩ := bnd h
      obtain ⟨x13, h_x13, h⟩ := bnd h
      refine Run.draw hL hT hM [(2, .el [.s (.int .i64 x12)]), (6, .el [.s (.int .i64 x13)])] (by cbv) (by cbv) (by cbv) (by cbv) (by cbv) ?_ ?_
      · exact (hq (get_le h_x12) (hq (get_lt (f := Int_c) h_x12) (hq (get_ge (f := Int_c) h_x12) (hq (get_le h_x13) (hq (get_lt (f := Int_c) h_x13) (hq (get_ge (f := Int_c) h_x13) (hq trivial hq0)))))))
      refine Run.cond (by cbv) (hq0) (fun c14 => ?_) (fun c14 => ?_)
      · have h := if_t c14 h
        refine Run.seq ?_
        refine Run.region hL hT [] (by cbv) ?_ ?_
        · exact hq0
        refine Run.ret ?_
        cases h
        refine ⟨_, _, by cbv, ?_, ?_⟩
        · exact LLe.r
        · exact (ALe.v LLe.r ALe.nil)
      · have h := if_f c14 h
        refine Run.skip ?_
        refine Run.region hL hT [] (by cbv) ?_ ?_
        · exact (hq trivial hq0)
        refine ⟨(ar .add .i64 z4 1), h, Weak.of _ [] hA (by cbv) ?_⟩
        repeat (first | exact hq0 | refine hq (by first | exact True.intro | rfl) ?_)
    · have h := if_f c11 h
      refine Run.exit ?_
      refine Run.seq ?_
      refine Run.region hL hT [] (by cbv) ?_ ?_
      · exact (hq trivial hq0)
      rw [show ln (eInt_c a0) = lenI_Int a0 from ln_eq Int_c _]
      rw [show ln (eInt_c a1) = lenI_Int a1 from ln_eq Int_c _]
      refine Run.ret ?_
      cases h
      refine ⟨_, _, by cbv, ?_, ?_⟩
      · exact LLe.r
      · exact (ALe.v LLe.r ALe.nil)

set_option maxRecDepth 8000 in
theorem spec_QuerySame_ac {a0v_Table : Int} {a0v_Where : List Cond} {a0v_Order : Int} {a0v_Down : Bool} {a0v_First : Int} {a0v_Show : List Int} {a0v_Kids : Bool} {a0v_KidTable : Int} {a0v_KidCol : Int} {a1v_Table : Int} {a1v_Where : List Cond} {a1v_Order : Int} {a1v_Down : Bool} {a1v_First : Int} {a1v_Show : List Int} {a1v_Kids : Bool} {a1v_KidTable : Int} {a1v_KidCol : Int} {r : Bool} (h : spec_QuerySame.f (Query.mk a0v_Table a0v_Where a0v_Order a0v_Down a0v_First a0v_Show a0v_Kids a0v_KidTable a0v_KidCol) (Query.mk a1v_Table a1v_Where a1v_Order a1v_Down a1v_First a1v_Show a1v_Kids a1v_KidTable a1v_KidCol) = some r) : AC Try.prog 16 [.ag [.s (.int .i64 a0v_Table), .im false (rowsOf Cond_c a0v_Where), .s (.int .i64 a0v_Order), .s (.bool a0v_Down), .s (.int .i64 a0v_First), .im false (rowsOf Int_c a0v_Show), .s (.bool a0v_Kids), .s (.int .i64 a0v_KidTable), .s (.int .i64 a0v_KidCol)], .ag [.s (.int .i64 a1v_Table), .im false (rowsOf Cond_c a1v_Where), .s (.int .i64 a1v_Order), .s (.bool a1v_Down), .s (.int .i64 a1v_First), .im false (rowsOf Int_c a1v_Show), .s (.bool a1v_Kids), .s (.int .i64 a1v_KidTable), .s (.int .i64 a1v_KidCol)]] [.ag [.jk, .jk, .jk, .jk, .jk, .jk, .jk, .jk, .jk], .ag [.jk, .jk, .jk, .jk, .jk, .jk, .jk, .jk, .jk]] [.v (.s (.bool r))] := by
  unfold spec_QuerySame.f at h
  let ar := Ls.ar; let cm := Ls.cm; let bo := Ls.bo; let sc := Ls.sc; let sa := Ls.sa; let sx := Ls.sx; let ss := Ls.ss; let sl := Ls.sl; let bs := Ls.bs; let sb := Ls.sb; let ln := Ls.ln; let sr := Ls.sr; let ap := Ls.ap; let up := Ls.up; let rp := Ls.rp; let fr := Ls.fr; let ge := Ls.ge; let le := Ls.le; let lt := Ls.lt; let nz := Ls.nz; let mm := Ls.mm; let ma := Ls.ma; let sm := Ls.sm; let fl := Ls.fl; let al := Ls.al
  let eCond_c := rowsOf Cond_c
  let eInt_c := rowsOf Int_c
  have hL : (⟨ar, cm, bo, sc, sa, sx, ss, sl, bs, sb, ln, sr, ap, up, rp, fr, ge, le, lt, nz, mm, ma, sm, fl, al⟩ : Lf) = Ls := rfl
  show AC Try.prog 16 [.ag [.s (.int .i64 a0v_Table), .im false (eCond_c a0v_Where), .s (.int .i64 a0v_Order), .s (.bool a0v_Down), .s (.int .i64 a0v_First), .im false (eInt_c a0v_Show), .s (.bool a0v_Kids), .s (.int .i64 a0v_KidTable), .s (.int .i64 a0v_KidCol)], .ag [.s (.int .i64 a1v_Table), .im false (eCond_c a1v_Where), .s (.int .i64 a1v_Order), .s (.bool a1v_Down), .s (.int .i64 a1v_First), .im false (eInt_c a1v_Show), .s (.bool a1v_Kids), .s (.int .i64 a1v_KidTable), .s (.int .i64 a1v_KidCol)]] _ _
  refine AC.of_run2 tab_ok Try.func16 (by rfl) (by rfl) (by cbv) ⟨by decide, rfl⟩ fun F hP hA => ?_
  have hT : TabOk F.P tab := hP ▸ tab_ok
  have hM : F.P.follows .mixedOrders = true := hP ▸ mixed
  have hC : ∀ {f a o r}, AC Try.prog f a o r → AC F.P f a o r := fun h => hP ▸ h
  refine Run.seq ?_
  refine Run.region hL hT [] (by cbv) ?_ ?_
  · exact hq0
  refine Run.seq ?_
  obtain ⟨r1, h_r1, h⟩ := bnd h
  obtain ⟨r2, h_r2, h⟩ := bnd h
  refine Run.region hL hT [(10, .call [false, false] [.v (.jk), .v (.jk)] [.v (.s (.bool r1))]), (38, .call [false, false] [.v (.jk), .v (.jk)] [.v (.s (.bool r2))])] (by cbv) ?_ ?_
  · exact (hq trivial (hq trivial (hq trivial (hq (fun _ => hq0) (hq (fun g4 => (hq g4 (hq trivial hq0))) (hq (fun _ => hq0) (hq (fun g6 => (hq g6 (hq trivial hq0))) (hq (fun g7 => (hq g7 (hq g7 (hq (hC (spec_l9Conds_ac (gd_t h_r1 g7))) hq0)))) (hq (fun q8 => (hq q8 hq0)) (hq (fun _ => hq0) (hq (fun _ => hq0) (hq (fun g11 => (hq g11 (hq trivial hq0))) (hq (fun _ => hq0) (hq (fun g13 => (hq g13 (hq trivial hq0))) (hq (fun g14 => (hq g14 (hq g14 (hq trivial hq0)))) (hq (fun q15 => (hq q15 hq0)) (hq (fun _ => hq0) (hq (fun _ => hq0) (hq (fun g18 => (hq g18 (hq trivial hq0))) (hq (fun _ => hq0) (hq (fun g20 => (hq g20 (hq trivial hq0))) (hq (fun g21 => (hq g21 (hq g21 hq0))) (hq (fun q22 => (hq q22 hq0)) (hq (fun _ => hq0) (hq (fun _ => hq0) (hq (fun g25 => (hq g25 (hq trivial hq0))) (hq (fun _ => hq0) (hq (fun g27 => (hq g27 (hq trivial hq0))) (hq (fun g28 => (hq g28 (hq g28 (hq trivial hq0)))) (hq (fun q29 => (hq q29 hq0)) (hq (fun _ => hq0) (hq (fun _ => hq0) (hq (fun g32 => (hq g32 (hq trivial hq0))) (hq (fun _ => hq0) (hq (fun g34 => (hq g34 (hq trivial hq0))) (hq (fun g35 => (hq g35 (hq g35 (hq (hC (spec_l9Ints_ac (gd_t h_r2 g35))) hq0)))) (hq (fun q36 => (hq q36 hq0)) (hq (fun _ => hq0) (hq (fun _ => hq0) (hq (fun g39 => (hq g39 (hq trivial hq0))) (hq (fun _ => hq0) (hq (fun g41 => (hq g41 (hq trivial hq0))) (hq (fun g42 => (hq g42 (hq g42 hq0))) (hq (fun q43 => (hq q43 hq0)) (hq (fun _ => hq0) (hq (fun _ => hq0) (hq (fun g46 => (hq g46 (hq trivial hq0))) (hq (fun _ => hq0) (hq (fun g48 => (hq g48 (hq trivial hq0))) (hq (fun g49 => (hq g49 (hq g49 (hq trivial hq0)))) (hq (fun q50 => (hq q50 hq0)) (hq (fun _ => hq0) (hq (fun _ => hq0) (hq (fun g53 => (hq g53 (hq trivial hq0))) (hq (fun _ => hq0) (hq (fun g55 => (hq g55 (hq trivial hq0))) (hq (fun g56 => (hq g56 (hq g56 (hq trivial hq0)))) (hq (fun q57 => (hq q57 hq0)) (hq (fun _ => hq0) hq0)))))))))))))))))))))))))))))))))))))))))))))))))))))))))))
  refine Run.ret ?_
  cases h
  refine ⟨_, _, by cbv, ?_, ?_⟩
  · exact LLe.r
  · exact (ALe.v LLe.r ALe.nil)

set_option maxRecDepth 8000 in
theorem spec_ViewSame_ac {a0v_Qv_Table : Int} {a0v_Qv_Where : List Cond} {a0v_Qv_Order : Int} {a0v_Qv_Down : Bool} {a0v_Qv_First : Int} {a0v_Qv_Show : List Int} {a0v_Qv_Kids : Bool} {a0v_Qv_KidTable : Int} {a0v_Qv_KidCol : Int} {a0v_Rows : List Row} {a0v_Kids : List Kid} {a1v_Qv_Table : Int} {a1v_Qv_Where : List Cond} {a1v_Qv_Order : Int} {a1v_Qv_Down : Bool} {a1v_Qv_First : Int} {a1v_Qv_Show : List Int} {a1v_Qv_Kids : Bool} {a1v_Qv_KidTable : Int} {a1v_Qv_KidCol : Int} {a1v_Rows : List Row} {a1v_Kids : List Kid} {r : Bool} (h : spec_ViewSame.f (View.mk (Query.mk a0v_Qv_Table a0v_Qv_Where a0v_Qv_Order a0v_Qv_Down a0v_Qv_First a0v_Qv_Show a0v_Qv_Kids a0v_Qv_KidTable a0v_Qv_KidCol) a0v_Rows a0v_Kids) (View.mk (Query.mk a1v_Qv_Table a1v_Qv_Where a1v_Qv_Order a1v_Qv_Down a1v_Qv_First a1v_Qv_Show a1v_Qv_Kids a1v_Qv_KidTable a1v_Qv_KidCol) a1v_Rows a1v_Kids) = some r) : AC Try.prog 62 [.ag [.s (.int .i64 a0v_Qv_Table), .im false (rowsOf Cond_c a0v_Qv_Where), .s (.int .i64 a0v_Qv_Order), .s (.bool a0v_Qv_Down), .s (.int .i64 a0v_Qv_First), .im false (rowsOf Int_c a0v_Qv_Show), .s (.bool a0v_Qv_Kids), .s (.int .i64 a0v_Qv_KidTable), .s (.int .i64 a0v_Qv_KidCol), .im false (rowsOf Row_i a0v_Rows), .im false (rowsOf Kid_c a0v_Kids)], .ag [.s (.int .i64 a1v_Qv_Table), .im false (rowsOf Cond_c a1v_Qv_Where), .s (.int .i64 a1v_Qv_Order), .s (.bool a1v_Qv_Down), .s (.int .i64 a1v_Qv_First), .im false (rowsOf Int_c a1v_Qv_Show), .s (.bool a1v_Qv_Kids), .s (.int .i64 a1v_Qv_KidTable), .s (.int .i64 a1v_Qv_KidCol), .im false (rowsOf Row_i a1v_Rows), .im false (rowsOf Kid_c a1v_Kids)]] [.ag [.jk, .jk, .jk, .jk, .jk, .jk, .jk, .jk, .jk, .jk, .jk], .ag [.jk, .jk, .jk, .jk, .jk, .jk, .jk, .jk, .jk, .jk, .jk]] [.v (.s (.bool r))] := by
  unfold spec_ViewSame.f at h
  let ar := Ls.ar; let cm := Ls.cm; let bo := Ls.bo; let sc := Ls.sc; let sa := Ls.sa; let sx := Ls.sx; let ss := Ls.ss; let sl := Ls.sl; let bs := Ls.bs; let sb := Ls.sb; let ln := Ls.ln; let sr := Ls.sr; let ap := Ls.ap; let up := Ls.up; let rp := Ls.rp; let fr := Ls.fr; let ge := Ls.ge; let le := Ls.le; let lt := Ls.lt; let nz := Ls.nz; let mm := Ls.mm; let ma := Ls.ma; let sm := Ls.sm; let fl := Ls.fl; let al := Ls.al
  let eCond_c := rowsOf Cond_c
  let eInt_c := rowsOf Int_c
  let eKid_c := rowsOf Kid_c
  let eRow_i := rowsOf Row_i
  let lenI_Kid := @lenI Kid
  let lenI_Row := @lenI Row
  have hL : (⟨ar, cm, bo, sc, sa, sx, ss, sl, bs, sb, ln, sr, ap, up, rp, fr, ge, le, lt, nz, mm, ma, sm, fl, al⟩ : Lf) = Ls := rfl
  show AC Try.prog 62 [.ag [.s (.int .i64 a0v_Qv_Table), .im false (eCond_c a0v_Qv_Where), .s (.int .i64 a0v_Qv_Order), .s (.bool a0v_Qv_Down), .s (.int .i64 a0v_Qv_First), .im false (eInt_c a0v_Qv_Show), .s (.bool a0v_Qv_Kids), .s (.int .i64 a0v_Qv_KidTable), .s (.int .i64 a0v_Qv_KidCol), .im false (eRow_i a0v_Rows), .im false (eKid_c a0v_Kids)], .ag [.s (.int .i64 a1v_Qv_Table), .im false (eCond_c a1v_Qv_Where), .s (.int .i64 a1v_Qv_Order), .s (.bool a1v_Qv_Down), .s (.int .i64 a1v_Qv_First), .im false (eInt_c a1v_Qv_Show), .s (.bool a1v_Qv_Kids), .s (.int .i64 a1v_Qv_KidTable), .s (.int .i64 a1v_Qv_KidCol), .im false (eRow_i a1v_Rows), .im false (eKid_c a1v_Kids)]] _ _
  refine AC.of_run2 tab_ok Try.func62 (by rfl) (by rfl) (by cbv) ⟨by decide, rfl⟩ fun F hP hA => ?_
  have hT : TabOk F.P tab := hP ▸ tab_ok
  have hM : F.P.follows .mixedOrders = true := hP ▸ mixed
  have hC : ∀ {f a o r}, AC Try.prog f a o r → AC F.P f a o r := fun h => hP ▸ h
  refine Run.seq ?_
  refine Run.region hL hT [] (by cbv) ?_ ?_
  · exact hq0
  refine Run.seq ?_
  refine Run.seq ?_
  obtain ⟨r1, h_r1, h⟩ := bnd h
  refine Run.region hL hT [(4, .call [false, false] [.ag [.jk, .jk, .jk, .jk, .jk, .jk, .jk, .jk, .jk], .ag [.jk, .jk, .jk, .jk, .jk, .jk, .jk, .jk, .jk]] [.v (.s (.bool r1))])] (by cbv) ?_ ?_
  · exact (hq trivial (hq trivial (hq (hC (spec_QuerySame_ac h_r1)) (hq (fun _ => hq0) (hq (fun g3 => (hq g3 (hq trivial hq0))) (hq (fun g4 => (hq g4 hq0)) (hq (fun _ => hq0) (hq (fun g6 => (hq g6 (hq trivial hq0))) (hq (fun g7 => (hq g7 hq0)) (hq (fun g8 => (hq g8 (hq g8 (hq trivial hq0)))) (hq (fun _ => hq0) (hq (fun q10 => (hq (bo_m q10) hq0)) (hq (fun _ => hq0) (hq (fun g12 => (by have g12C := g12; rw [show ln (eRow_i a0v_Rows) = lenI_Row a0v_Rows from ln_eq Row_i _, show ln (eRow_i a1v_Rows) = lenI_Row a1v_Rows from ln_eq Row_i _] at g12C; exact (hq g12 (hq trivial hq0)))) (hq (fun g13 => (by have g13C := g13; rw [show ln (eRow_i a0v_Rows) = lenI_Row a0v_Rows from ln_eq Row_i _, show ln (eRow_i a1v_Rows) = lenI_Row a1v_Rows from ln_eq Row_i _] at g13C; exact (hq g13 hq0))) (hq (fun _ => hq0) (hq (fun g15 => (by have g15C := g15; rw [show ln (eRow_i a0v_Rows) = lenI_Row a0v_Rows from ln_eq Row_i _, show ln (eRow_i a1v_Rows) = lenI_Row a1v_Rows from ln_eq Row_i _] at g15C; exact (hq g15 (hq trivial hq0)))) (hq (fun g16 => (by have g16C := g16; rw [show ln (eRow_i a0v_Rows) = lenI_Row a0v_Rows from ln_eq Row_i _, show ln (eRow_i a1v_Rows) = lenI_Row a1v_Rows from ln_eq Row_i _] at g16C; exact (hq g16 hq0))) (hq (fun g17 => (by have g17C := g17; rw [show ln (eRow_i a0v_Rows) = lenI_Row a0v_Rows from ln_eq Row_i _, show ln (eRow_i a1v_Rows) = lenI_Row a1v_Rows from ln_eq Row_i _] at g17C; exact (hq g17 (hq g17 (hq trivial hq0))))) (hq (fun _ => hq0) (hq (fun q19 => (by have q19C := q19; rw [show ln (eRow_i a0v_Rows) = lenI_Row a0v_Rows from ln_eq Row_i _, show ln (eRow_i a1v_Rows) = lenI_Row a1v_Rows from ln_eq Row_i _] at q19C; exact (hq (bo_m q19) hq0))) hq0)))))))))))))))))))))
  rw [show ln (eKid_c a0v_Kids) = lenI_Kid a0v_Kids from ln_eq Kid_c _]
  rw [show ln (eKid_c a1v_Kids) = lenI_Kid a1v_Kids from ln_eq Kid_c _]
  rw [show ln (eRow_i a0v_Rows) = lenI_Row a0v_Rows from ln_eq Row_i _]
  rw [show ln (eRow_i a1v_Rows) = lenI_Row a1v_Rows from ln_eq Row_i _]
  refine Run.cond (by cbv) (hq0) (fun c20 => ?_) (fun c20 => ?_)
  · have h := if_t c20 h
    refine Run.seq ?_
    refine Run.region hL hT [] (by cbv) ?_ ?_
    · exact hq0
    refine Run.ret ?_
    cases h
    refine ⟨_, _, by cbv, ?_, ?_⟩
    · exact LLe.r
    · exact (ALe.v LLe.r ALe.nil)
  · have h := if_f c20 h
    refine Run.skip ?_
    obtain ⟨K22, h_K22, h⟩ := joinE h
    refine Run.join1 K22 (r := r) (fun (y21 : Unit) => ⟨68, 100000, [(2, .pt 1 0 0), (3, .pt 2 0 0)], [(1, .box 59 [.t (.s (.int .i64 a0v_Qv_Table)), .t (.im false (eCond_c a0v_Qv_Where)), .t (.s (.int .i64 a0v_Qv_Order)), .t (.s (.bool a0v_Qv_Down)), .t (.s (.int .i64 a0v_Qv_First)), .t (.im false (eInt_c a0v_Qv_Show)), .t (.s (.bool a0v_Qv_Kids)), .t (.s (.int .i64 a0v_Qv_KidTable)), .t (.s (.int .i64 a0v_Qv_KidCol)), .t (.im false (eRow_i a0v_Rows)), .t (.im false (eKid_c a0v_Kids))]), (2, .box 59 [.t (.s (.int .i64 a1v_Qv_Table)), .t (.im false (eCond_c a1v_Qv_Where)), .t (.s (.int .i64 a1v_Qv_Order)), .t (.s (.bool a1v_Qv_Down)), .t (.s (.int .i64 a1v_Qv_First)), .t (.im false (eInt_c a1v_Qv_Show)), .t (.s (.bool a1v_Qv_Kids)), .t (.s (.int .i64 a1v_Qv_KidTable)), .t (.s (.int .i64 a1v_Qv_KidCol)), .t (.im false (eRow_i a1v_Rows)), .t (.im false (eKid_c a1v_Kids))])]⟩) ?_ ?_
    · skip
      refine Run.seq ?_
      refine Run.region hL hT [] (by cbv) ?_ ?_
      · exact hq0
      refine Run.block ?_
      refine Run.loop1 (fun (z46 : Int) => ⟨68, 100000, [(2, .pt 1 0 0), (3, .pt 2 0 0), (5, .t (.s (.int .i64 z46)))], [(1, .box 59 [.t (.s (.int .i64 a0v_Qv_Table)), .t (.im false (eCond_c a0v_Qv_Where)), .t (.s (.int .i64 a0v_Qv_Order)), .t (.s (.bool a0v_Qv_Down)), .t (.s (.int .i64 a0v_Qv_First)), .t (.im false (eInt_c a0v_Qv_Show)), .t (.s (.bool a0v_Qv_Kids)), .t (.s (.int .i64 a0v_Qv_KidTable)), .t (.s (.int .i64 a0v_Qv_KidCol)), .t (.im false (eRow_i a0v_Rows)), .t (.im false (eKid_c a0v_Kids))]), (2, .box 59 [.t (.s (.int .i64 a1v_Qv_Table)), .t (.im false (eCond_c a1v_Qv_Where)), .t (.s (.int .i64 a1v_Qv_Order)), .t (.s (.bool a1v_Qv_Down)), .t (.s (.int .i64 a1v_Qv_First)), .t (.im false (eInt_c a1v_Qv_Show)), .t (.s (.bool a1v_Qv_Kids)), .t (.s (.int .i64 a1v_Qv_KidTable)), .t (.s (.int .i64 a1v_Qv_KidCol)), .t (.im false (eRow_i a1v_Rows)), .t (.im false (eKid_c a1v_Kids))])]⟩) (x0 := 0) h (Weak.of _ [(1, 0), (2, 1)] hA (by cbv) ?_) (fun _ => rfl) ?_
      · repeat (first | exact hq0 | refine hq (by first | exact True.intro | rfl) ?_)
      · intro k z46 h
        rw [spec_ViewSame.l0] at h
        refine Run.seq ?_
        refine Run.seq ?_
        refine Run.region hL hT [] (by cbv) ?_ ?_
        · exact (hq trivial (hq trivial hq0))
        rw [show ln (eRow_i a0v_Rows) = lenI_Row a0v_Rows from ln_eq Row_i _]
        refine Run.cond (by cbv) (hq0) (fun c47 => ?_) (fun c47 => ?_)
        · have h := if_t c47 h
          refine Run.skip ?_
          refine Run.seq ?_
          refine Run.block ?_
          refine Run.seq ?_
          obtain ⟨⟨x48v_Id, x48v_Cells⟩, h_x48, h⟩ := bnd h
          obtain ⟨⟨x49v_Id, x49v_Cells⟩, h_x49, h⟩ := bnd h
          obtain ⟨r50, h_r50, h⟩ := bnd h
          refine Run.draw hL hT hM [(3, .el [.s (.int .i64 x48v_Id), .im false (eInt_c x48v_Cells)]), (8, .el [.s (.int .i64 x49v_Id), .im false (eInt_c x49v_Cells)]), (10, .call [false, false] [.ag [.jk, .jk], .ag [.jk, .jk]] [.v (.s (.bool r50))])] (by cbv) (by cbv) (by cbv) (by cbv) (by cbv) ?_ ?_
          · exact (hq trivial (hq (get_le h_x48) (hq (get_lt (f := Row_i) h_x48) (hq (get_ge (f := Row_i) h_x48) (hq trivial (hq (get_le h_x49) (hq (get_lt (f := Row_i) h_x49) (hq (get_ge (f := Row_i) h_x49) (hq (hC (spec_RowSame_ac h_r50)) hq0)))))))))
          refine Run.cond (by cbv) (hq0) (fun c51 => ?_) (fun c51 => ?_)
          · have h := if_t c51 h
            refine Run.seq ?_
            refine Run.region hL hT [] (by cbv) ?_ ?_
            · exact hq0
            refine Run.ret ?_
            cases h
            refine ⟨_, _, by cbv, ?_, ?_⟩
            · exact LLe.r
            · exact (ALe.v LLe.r ALe.nil)
          · have h := if_f c51 h
            refine Run.skip ?_
            refine Run.region hL hT [] (by cbv) ?_ ?_
            · exact (hq trivial hq0)
            refine ⟨(ar .add .i64 z46 1), h, Weak.of _ [(1, 1), (2, 2)] hA (by cbv) ?_⟩
            repeat (first | exact hq0 | refine hq (by first | exact True.intro | rfl) ?_)
        · have h := if_f c47 h
          refine Run.exit ?_
          refine ⟨(), h, Weak.of _ [(1, 1), (2, 2)] hA (by cbv) ?_⟩
          repeat (first | exact hq0 | refine hq (by first | exact True.intro | rfl) ?_)
    · intro y21 h
      rw [h_K22] at h
      refine Run.seq ?_
      refine Run.seq ?_
      refine Run.region hL hT [] (by cbv) ?_ ?_
      · exact hq0
      refine Run.block ?_
      refine Run.loop1 (fun (z75 : Int) => ⟨68, 100000, [(2, .pt 1 0 0), (3, .pt 2 0 0), (6, .t (.s (.int .i64 z75)))], [(1, .box 59 [.t (.s (.int .i64 a0v_Qv_Table)), .t (.im false (eCond_c a0v_Qv_Where)), .t (.s (.int .i64 a0v_Qv_Order)), .t (.s (.bool a0v_Qv_Down)), .t (.s (.int .i64 a0v_Qv_First)), .t (.im false (eInt_c a0v_Qv_Show)), .t (.s (.bool a0v_Qv_Kids)), .t (.s (.int .i64 a0v_Qv_KidTable)), .t (.s (.int .i64 a0v_Qv_KidCol)), .t (.im false (eRow_i a0v_Rows)), .t (.im false (eKid_c a0v_Kids))]), (2, .box 59 [.t (.s (.int .i64 a1v_Qv_Table)), .t (.im false (eCond_c a1v_Qv_Where)), .t (.s (.int .i64 a1v_Qv_Order)), .t (.s (.bool a1v_Qv_Down)), .t (.s (.int .i64 a1v_Qv_First)), .t (.im false (eInt_c a1v_Qv_Show)), .t (.s (.bool a1v_Qv_Kids)), .t (.s (.int .i64 a1v_Qv_KidTable)), .t (.s (.int .i64 a1v_Qv_KidCol)), .t (.im false (eRow_i a1v_Rows)), .t (.im false (eKid_c a1v_Kids))])]⟩) (x0 := 0) h (Weak.of _ [(1, 1), (2, 2)] hA (by cbv) ?_) (fun _ => rfl) ?_
      · repeat (first | exact hq0 | refine hq (by first | exact True.intro | rfl) ?_)
      · intro k z75 h
        rw [spec_ViewSame.l1] at h
        refine Run.seq ?_
        refine Run.seq ?_
        refine Run.region hL hT [] (by cbv) ?_ ?_
        · exact (hq trivial (hq trivial hq0))
        rw [show ln (eKid_c a0v_Kids) = lenI_Kid a0v_Kids from ln_eq Kid_c _]
        refine Run.cond (by cbv) (hq0) (fun c76 => ?_) (fun c76 => ?_)
        · have h := if_t c76 h
          refine Run.skip ?_
          refine Run.seq ?_
          refine Run.block ?_
          refine Run.seq ?_
          obtain ⟨⟨x77v_Id, x77v_N⟩, h_x77, h⟩ := bnd h
          obtain ⟨⟨x78v_Id, x78v_N⟩, h_x78, h⟩ := bnd h
          refine Run.draw hL hT hM [(3, .el [.s (.int .i64 x77v_Id), .s (.int .i64 x77v_N)]), (8, .el [.s (.int .i64 x78v_Id), .s (.int .i64 x78v_N)])] (by cbv) (by cbv) (by cbv) (by cbv) (by cbv) ?_ ?_
          · exact (hq trivial (hq (get_le h_x77) (hq (get_lt (f := Kid_c) h_x77) (hq (get_ge (f := Kid_c) h_x77) (hq trivial (hq (get_le h_x78) (hq (get_lt (f := Kid_c) h_x78) (hq (get_ge (f := Kid_c) h_x78) (hq trivial (hq trivial (hq trivial (hq trivial hq0))))))))))))
          refine Run.cond (by cbv) (hq0) (fun c79 => ?_) (fun c79 => ?_)
          · have h := if_t c79 h
            refine Run.seq ?_
            refine Run.region hL hT [] (by cbv) ?_ ?_
            · exact hq0
            refine Run.ret ?_
            cases h
            refine ⟨_, _, by cbv, ?_, ?_⟩
            · exact LLe.r
            · exact (ALe.v LLe.r ALe.nil)
          · have h := if_f c79 h
            refine Run.skip ?_
            refine Run.region hL hT [] (by cbv) ?_ ?_
            · exact (hq trivial hq0)
            refine ⟨(ar .add .i64 z75 1), h, Weak.of _ [(1, 1), (2, 2)] hA (by cbv) ?_⟩
            repeat (first | exact hq0 | refine hq (by first | exact True.intro | rfl) ?_)
        · have h := if_f c76 h
          refine Run.exit ?_
          refine Run.seq ?_
          refine Run.region hL hT [] (by cbv) ?_ ?_
          · exact hq0
          refine Run.ret ?_
          cases h
          refine ⟨_, _, by cbv, ?_, ?_⟩
          · exact LLe.r
          · exact (ALe.v LLe.r ALe.nil)

set_option maxRecDepth 8000 in
theorem slices_Equal_int_ac {a0 : List Int} {a1 : List Int} {r : Bool} (h : slices_Equal_int.f a0 a1 = some r) : AC Try.prog 71 [.v (.im false (rowsOf Int_c a0)), .v (.im false (rowsOf Int_c a1))] [.v (.jk), .v (.jk)] [.v (.s (.bool r))] := by
  unfold slices_Equal_int.f at h
  let ar := Ls.ar; let cm := Ls.cm; let bo := Ls.bo; let sc := Ls.sc; let sa := Ls.sa; let sx := Ls.sx; let ss := Ls.ss; let sl := Ls.sl; let bs := Ls.bs; let sb := Ls.sb; let ln := Ls.ln; let sr := Ls.sr; let ap := Ls.ap; let up := Ls.up; let rp := Ls.rp; let fr := Ls.fr; let ge := Ls.ge; let le := Ls.le; let lt := Ls.lt; let nz := Ls.nz; let mm := Ls.mm; let ma := Ls.ma; let sm := Ls.sm; let fl := Ls.fl; let al := Ls.al
  let eInt_c := rowsOf Int_c
  let lenI_Int := @lenI Int
  have hL : (⟨ar, cm, bo, sc, sa, sx, ss, sl, bs, sb, ln, sr, ap, up, rp, fr, ge, le, lt, nz, mm, ma, sm, fl, al⟩ : Lf) = Ls := rfl
  show AC Try.prog 71 [.v (.im false (eInt_c a0)), .v (.im false (eInt_c a1))] _ _
  refine AC.of_run2 tab_ok Try.func71 (by rfl) (by rfl) (by cbv) ⟨by decide, rfl⟩ fun F hP hA => ?_
  have hT : TabOk F.P tab := hP ▸ tab_ok
  have hM : F.P.follows .mixedOrders = true := hP ▸ mixed
  have hC : ∀ {f a o r}, AC Try.prog f a o r → AC F.P f a o r := fun h => hP ▸ h
  refine Run.seq ?_
  refine Run.region hL hT [] (by cbv) ?_ ?_
  · exact hq0
  refine Run.seq ?_
  refine Run.seq ?_
  refine Run.region hL hT [] (by cbv) ?_ ?_
  · exact (hq trivial hq0)
  rw [show ln (eInt_c a0) = lenI_Int a0 from ln_eq Int_c _]
  rw [show ln (eInt_c a1) = lenI_Int a1 from ln_eq Int_c _]
  refine Run.cond (by cbv) (hq0) (fun c1 => ?_) (fun c1 => ?_)
  · have h := if_t c1 h
    refine Run.seq ?_
    refine Run.region hL hT [] (by cbv) ?_ ?_
    · exact hq0
    refine Run.ret ?_
    cases h
    refine ⟨_, _, by cbv, ?_, ?_⟩
    · exact LLe.r
    · exact (ALe.v LLe.r ALe.nil)
  · have h := if_f c1 h
    refine Run.skip ?_
    refine Run.seq ?_
    refine Run.seq ?_
    refine Run.region hL hT [] (by cbv) ?_ ?_
    · exact hq0
    rw [show ln (eInt_c a0) = lenI_Int a0 from ln_eq Int_c _]
    refine Run.block ?_
    refine Run.loop1 (fun (z6 : Int) => ⟨26, 100000, [(0, .t (.im false (eInt_c a0))), (1, .t (.im false (eInt_c a1))), (12, .t (.s (.int .i64 (lenI_Int a0)))), (13, .t (.s (.int .i64 z6)))], []⟩) (x0 := 0) h (Weak.of _ [] hA (by cbv) ?_) (fun _ => rfl) ?_
    · repeat (first | exact hq0 | refine hq (by first | exact True.intro | rfl) ?_)
    · intro k z6 h
      rw [slices_Equal_int.l0] at h
      refine Run.seq ?_
      refine Run.region hL hT [] (by cbv) ?_ ?_
      · exact (hq trivial hq0)
      refine Run.seq ?_
      refine Run.cond (by cbv) (hq0) (fun c7 => ?_) (fun c7 => ?_)
      · have h := if_t c7 h
        refine Run.skip ?_
        refine Run.seq ?_
        refine Run.block ?_
        refine Run.seq ?_
        refine Run.region hL hT [] (by cbv) ?_ ?_
        · exact hq0
        refine Run.seq ?_
        obtain ⟨x8, h_x8, h⟩ := bnd h
        obtain ⟨x9, h_x9, h⟩ := bnd h
        refine Run.draw hL hT hM [(2, .el [.s (.int .i64 x8)]), (6, .el [.s (.int .i64 x9)])] (by cbv) (by cbv) (by cbv) (by cbv) (by cbv) ?_ ?_
        · exact (hq (get_le h_x8) (hq (get_lt (f := Int_c) h_x8) (hq (get_ge (f := Int_c) h_x8) (hq (get_le h_x9) (hq (get_lt (f := Int_c) h_x9) (hq (get_ge (f := Int_c) h_x9) (hq trivial hq0)))))))
        refine Run.cond (by cbv) (hq0) (fun c10 => ?_) (fun c10 => ?_)
        · have h := if_t c10 h
          refine Run.seq ?_
          refine Run.region hL hT [] (by cbv) ?_ ?_
          · exact hq0
          refine Run.ret ?_
          cases h
          refine ⟨_, _, by cbv, ?_, ?_⟩
          · exact LLe.r
          · exact (ALe.v LLe.r ALe.nil)
        · have h := if_f c10 h
          refine Run.skip ?_
          refine Run.region hL hT [] (by cbv) ?_ ?_
          · exact (hq trivial hq0)
          refine ⟨(ar .add .i64 z6 1), h, Weak.of _ [] hA (by cbv) ?_⟩
          repeat (first | exact hq0 | refine hq (by first | exact True.intro | rfl) ?_)
      · have h := if_f c7 h
        refine Run.exit ?_
        refine Run.seq ?_
        refine Run.region hL hT [] (by cbv) ?_ ?_
        · exact hq0
        refine Run.ret ?_
        cases h
        refine ⟨_, _, by cbv, ?_, ?_⟩
        · exact LLe.r
        · exact (ALe.v LLe.r ALe.nil)

set_option maxRecDepth 8000 in
theorem impl_RowSame_ac {a0v_Id : Int} {a0v_Cells : List Int} {a1v_Id : Int} {a1v_Cells : List Int} {r : Bool} (h : impl_RowSame.f (Row.mk a0v_Id a0v_Cells) (Row.mk a1v_Id a1v_Cells) = some r) : AC Try.prog 103 [.ag [.s (.int .i64 a0v_Id), .im false (rowsOf Int_c a0v_Cells)], .ag [.s (.int .i64 a1v_Id), .im false (rowsOf Int_c a1v_Cells)]] [.ag [.jk, .jk], .ag [.jk, .jk]] [.v (.s (.bool r))] := by
  unfold impl_RowSame.f at h
  let ar := Ls.ar; let cm := Ls.cm; let bo := Ls.bo; let sc := Ls.sc; let sa := Ls.sa; let sx := Ls.sx; let ss := Ls.ss; let sl := Ls.sl; let bs := Ls.bs; let sb := Ls.sb; let ln := Ls.ln; let sr := Ls.sr; let ap := Ls.ap; let up := Ls.up; let rp := Ls.rp; let fr := Ls.fr; let ge := Ls.ge; let le := Ls.le; let lt := Ls.lt; let nz := Ls.nz; let mm := Ls.mm; let ma := Ls.ma; let sm := Ls.sm; let fl := Ls.fl; let al := Ls.al
  let eInt_c := rowsOf Int_c
  have hL : (⟨ar, cm, bo, sc, sa, sx, ss, sl, bs, sb, ln, sr, ap, up, rp, fr, ge, le, lt, nz, mm, ma, sm, fl, al⟩ : Lf) = Ls := rfl
  show AC Try.prog 103 [.ag [.s (.int .i64 a0v_Id), .im false (eInt_c a0v_Cells)], .ag [.s (.int .i64 a1v_Id), .im false (eInt_c a1v_Cells)]] _ _
  refine AC.of_run2 tab_ok Try.func103 (by rfl) (by rfl) (by cbv) ⟨by decide, rfl⟩ fun F hP hA => ?_
  have hT : TabOk F.P tab := hP ▸ tab_ok
  have hM : F.P.follows .mixedOrders = true := hP ▸ mixed
  have hC : ∀ {f a o r}, AC Try.prog f a o r → AC F.P f a o r := fun h => hP ▸ h
  refine Run.seq ?_
  refine Run.region hL hT [] (by cbv) ?_ ?_
  · exact hq0
  refine Run.seq ?_
  obtain ⟨r1, h_r1, h⟩ := bnd h
  refine Run.region hL hT [(10, .call [false, false] [.v (.jk), .v (.jk)] [.v (.s (.bool r1))])] (by cbv) ?_ ?_
  · exact (hq trivial (hq trivial (hq trivial (hq (fun _ => hq0) (hq (fun g3 => (hq g3 (hq trivial hq0))) (hq (fun _ => hq0) (hq (fun g5 => (hq g5 (hq trivial hq0))) (hq (fun g6 => (hq g6 (hq g6 (hq (hC (slices_Equal_int_ac (gd_t h_r1 g6))) hq0)))) (hq (fun q7 => (hq q7 hq0)) (hq (fun _ => hq0) hq0))))))))))
  refine Run.ret ?_
  cases h
  refine ⟨_, _, by cbv, ?_, ?_⟩
  · exact LLe.r
  · exact (ALe.v LLe.r ALe.nil)

set_option maxRecDepth 8000 in
theorem slices_EqualFunc_impl_Row__impl_RowSame_ac {a0 : List Row} {a1 : List Row} {r : Bool} (h : slices_EqualFunc_impl_Row__impl_RowSame.f a0 a1 = some r) : AC Try.prog 102 [.v (.im false (rowsOf Row_i a0)), .v (.im false (rowsOf Row_i a1)), .v (.fn 103 [])] [.v (.jk), .v (.jk), .v (.jk)] [.v (.s (.bool r))] := by
  unfold slices_EqualFunc_impl_Row__impl_RowSame.f at h
  let ar := Ls.ar; let cm := Ls.cm; let bo := Ls.bo; let sc := Ls.sc; let sa := Ls.sa; let sx := Ls.sx; let ss := Ls.ss; let sl := Ls.sl; let bs := Ls.bs; let sb := Ls.sb; let ln := Ls.ln; let sr := Ls.sr; let ap := Ls.ap; let up := Ls.up; let rp := Ls.rp; let fr := Ls.fr; let ge := Ls.ge; let le := Ls.le; let lt := Ls.lt; let nz := Ls.nz; let mm := Ls.mm; let ma := Ls.ma; let sm := Ls.sm; let fl := Ls.fl; let al := Ls.al
  let eInt_c := rowsOf Int_c
  let eRow_i := rowsOf Row_i
  let lenI_Row := @lenI Row
  have hL : (⟨ar, cm, bo, sc, sa, sx, ss, sl, bs, sb, ln, sr, ap, up, rp, fr, ge, le, lt, nz, mm, ma, sm, fl, al⟩ : Lf) = Ls := rfl
  show AC Try.prog 102 [.v (.im false (eRow_i a0)), .v (.im false (eRow_i a1)), .v (.fn 103 [])] _ _
  refine AC.of_run2 tab_ok Try.func102 (by rfl) (by rfl) (by cbv) ⟨by decide, rfl⟩ fun F hP hA => ?_
  have hT : TabOk F.P tab := hP ▸ tab_ok
  have hM : F.P.follows .mixedOrders = true := hP ▸ mixed
  have hC : ∀ {f a o r}, AC Try.prog f a o r → AC F.P f a o r := fun h => hP ▸ h
  refine Run.weak ?_ (Weak.fnT 2 (by cbv))
  refine Run.seq ?_
  refine Run.region hL hT [] (by cbv) ?_ ?_
  · exact hq0
  refine Run.seq ?_
  refine Run.seq ?_
  refine Run.region hL hT [] (by cbv) ?_ ?_
  · exact (hq trivial hq0)
  rw [show ln (eRow_i a0) = lenI_Row a0 from ln_eq Row_i _]
  rw [show ln (eRow_i a1) = lenI_Row a1 from ln_eq Row_i _]
  refine Run.cond (by cbv) (hq0) (fun c1 => ?_) (fun c1 => ?_)
  · have h := if_t c1 h
    refine Run.seq ?_
    refine Run.region hL hT [] (by cbv) ?_ ?_
    · exact hq0
    refine Run.ret ?_
    cases h
    refine ⟨_, _, by cbv, ?_, ?_⟩
    · exact LLe.r
    · exact (ALe.v LLe.r ALe.nil)
  · have h := if_f c1 h
    refine Run.skip ?_
    refine Run.seq ?_
    refine Run.seq ?_
    refine Run.region hL hT [] (by cbv) ?_ ?_
    · exact hq0
    rw [show ln (eRow_i a0) = lenI_Row a0 from ln_eq Row_i _]
    refine Run.block ?_
    refine Run.loop1 (fun (z6 : Int) => ⟨32, 100000, [(1, .t (.im false (eRow_i a1))), (2, .fn 103 []), (15, .t (.im false (eRow_i a0))), (16, .t (.s (.int .i64 (lenI_Row a0)))), (17, .t (.s (.int .i64 z6)))], []⟩) (x0 := 0) h (Weak.of _ [] hA (by cbv) ?_) (fun _ => rfl) ?_
    · repeat (first | exact hq0 | refine hq (by first | exact True.intro | rfl) ?_)
    · intro k z6 h
      rw [slices_EqualFunc_impl_Row__impl_RowSame.l0] at h
      refine Run.seq ?_
      refine Run.region hL hT [] (by cbv) ?_ ?_
      · exact (hq trivial hq0)
      refine Run.seq ?_
      refine Run.cond (by cbv) (hq0) (fun c7 => ?_) (fun c7 => ?_)
      · have h := if_t c7 h
        refine Run.skip ?_
        refine Run.seq ?_
        refine Run.block ?_
        refine Run.seq ?_
        obtain ⟨⟨x8v_Id, x8v_Cells⟩, h_x8, h⟩ := bnd h
        refine Run.region hL hT [(1, .el [.s (.int .i64 x8v_Id), .im false (eInt_c x8v_Cells)])] (by cbv) ?_ ?_
        · exact (hq (get_le h_x8) (hq (get_lt (f := Row_i) h_x8) (hq (get_ge (f := Row_i) h_x8) (hq trivial hq0))))
        refine Run.seq ?_
        obtain ⟨⟨x9v_Id, x9v_Cells⟩, h_x9, h⟩ := bnd h
        refine Run.region hL hT [(2, .el [.s (.int .i64 x9v_Id), .im false (eInt_c x9v_Cells)])] (by cbv) ?_ ?_
        · exact (hq (get_le h_x9) (hq (get_lt (f := Row_i) h_x9) (hq (get_ge (f := Row_i) h_x9) (hq trivial hq0))))
        refine Run.seq ?_
        obtain ⟨r10, h_r10, h⟩ := bnd h
        refine Run.region hL hT [(3, .call [false, false] [.ag [.jk, .jk], .ag [.jk, .jk]] [.v (.s (.bool r10))])] (by cbv) ?_ ?_
        · exact (hq trivial (hq trivial (hq (hC (impl_RowSame_ac h_r10)) hq0)))
        refine Run.cond (by cbv) (hq0) (fun c11 => ?_) (fun c11 => ?_)
        · have h := if_t c11 h
          refine Run.seq ?_
          refine Run.region hL hT [] (by cbv) ?_ ?_
          · exact hq0
          refine Run.ret ?_
          cases h
          refine ⟨_, _, by cbv, ?_, ?_⟩
          · exact LLe.r
          · exact (ALe.v LLe.r ALe.nil)
        · have h := if_f c11 h
          refine Run.skip ?_
          refine Run.region hL hT [] (by cbv) ?_ ?_
          · exact (hq trivial hq0)
          refine ⟨(ar .add .i64 z6 1), h, Weak.of _ [] hA (by cbv) ?_⟩
          repeat (first | exact hq0 | refine hq (by first | exact True.intro | rfl) ?_)
      · have h := if_f c7 h
        refine Run.exit ?_
        refine Run.seq ?_
        refine Run.region hL hT [] (by cbv) ?_ ?_
        · exact hq0
        refine Run.ret ?_
        cases h
        refine ⟨_, _, by cbv, ?_, ?_⟩
        · exact LLe.r
        · exact (ALe.v LLe.r ALe.nil)

set_option maxRecDepth 8000 in
theorem slices_Equal_impl_Kid_ac {a0 : List Kid} {a1 : List Kid} {r : Bool} (h : slices_Equal_impl_Kid.f a0 a1 = some r) : AC Try.prog 104 [.v (.im false (rowsOf Kid_c a0)), .v (.im false (rowsOf Kid_c a1))] [.v (.jk), .v (.jk)] [.v (.s (.bool r))] := by
  unfold slices_Equal_impl_Kid.f at h
  let ar := Ls.ar; let cm := Ls.cm; let bo := Ls.bo; let sc := Ls.sc; let sa := Ls.sa; let sx := Ls.sx; let ss := Ls.ss; let sl := Ls.sl; let bs := Ls.bs; let sb := Ls.sb; let ln := Ls.ln; let sr := Ls.sr; let ap := Ls.ap; let up := Ls.up; let rp := Ls.rp; let fr := Ls.fr; let ge := Ls.ge; let le := Ls.le; let lt := Ls.lt; let nz := Ls.nz; let mm := Ls.mm; let ma := Ls.ma; let sm := Ls.sm; let fl := Ls.fl; let al := Ls.al
  let eKid_c := rowsOf Kid_c
  let lenI_Kid := @lenI Kid
  have hL : (⟨ar, cm, bo, sc, sa, sx, ss, sl, bs, sb, ln, sr, ap, up, rp, fr, ge, le, lt, nz, mm, ma, sm, fl, al⟩ : Lf) = Ls := rfl
  show AC Try.prog 104 [.v (.im false (eKid_c a0)), .v (.im false (eKid_c a1))] _ _
  refine AC.of_run2 tab_ok Try.func104 (by rfl) (by rfl) (by cbv) ⟨by decide, rfl⟩ fun F hP hA => ?_
  have hT : TabOk F.P tab := hP ▸ tab_ok
  have hM : F.P.follows .mixedOrders = true := hP ▸ mixed
  have hC : ∀ {f a o r}, AC Try.prog f a o r → AC F.P f a o r := fun h => hP ▸ h
  refine Run.seq ?_
  refine Run.region hL hT [] (by cbv) ?_ ?_
  · exact hq0
  refine Run.seq ?_
  refine Run.seq ?_
  refine Run.region hL hT [] (by cbv) ?_ ?_
  · exact (hq trivial hq0)
  rw [show ln (eKid_c a0) = lenI_Kid a0 from ln_eq Kid_c _]
  rw [show ln (eKid_c a1) = lenI_Kid a1 from ln_eq Kid_c _]
  refine Run.cond (by cbv) (hq0) (fun c1 => ?_) (fun c1 => ?_)
  · have h := if_t c1 h
    refine Run.seq ?_
    refine Run.region hL hT [] (by cbv) ?_ ?_
    · exact hq0
    refine Run.ret ?_
    cases h
    refine ⟨_, _, by cbv, ?_, ?_⟩
    · exact LLe.r
    · exact (ALe.v LLe.r ALe.nil)
  · have h := if_f c1 h
    refine Run.skip ?_
    refine Run.seq ?_
    refine Run.seq ?_
    refine Run.region hL hT [] (by cbv) ?_ ?_
    · exact hq0
    rw [show ln (eKid_c a0) = lenI_Kid a0 from ln_eq Kid_c _]
    refine Run.block ?_
    refine Run.loop1 (fun (z6 : Int) => ⟨26, 100000, [(0, .t (.im false (eKid_c a0))), (1, .t (.im false (eKid_c a1))), (12, .t (.s (.int .i64 (lenI_Kid a0)))), (13, .t (.s (.int .i64 z6)))], []⟩) (x0 := 0) h (Weak.of _ [] hA (by cbv) ?_) (fun _ => rfl) ?_
    · repeat (first | exact hq0 | refine hq (by first | exact True.intro | rfl) ?_)
    · intro k z6 h
      rw [slices_Equal_impl_Kid.l0] at h
      refine Run.seq ?_
      refine Run.region hL hT [] (by cbv) ?_ ?_
      · exact (hq trivial hq0)
      refine Run.seq ?_
      refine Run.cond (by cbv) (hq0) (fun c7 => ?_) (fun c7 => ?_)
      · have h := if_t c7 h
        refine Run.skip ?_
        refine Run.seq ?_
        refine Run.block ?_
        refine Run.seq ?_
        refine Run.region hL hT [] (by cbv) ?_ ?_
        · exact hq0
        refine Run.seq ?_
        obtain ⟨⟨x8v_Id, x8v_N⟩, h_x8, h⟩ := bnd h
        obtain ⟨⟨x9v_Id, x9v_N⟩, h_x9, h⟩ := bnd h
        refine Run.draw hL hT hM [(2, .el [.s (.int .i64 x8v_Id), .s (.int .i64 x8v_N)]), (6, .el [.s (.int .i64 x9v_Id), .s (.int .i64 x9v_N)])] (by cbv) (by cbv) (by cbv) (by cbv) (by cbv) ?_ ?_
        · exact (hq (get_le h_x8) (hq (get_lt (f := Kid_c) h_x8) (hq (get_ge (f := Kid_c) h_x8) (hq (get_le h_x9) (hq (get_lt (f := Kid_c) h_x9) (hq (get_ge (f := Kid_c) h_x9) (hq trivial (hq trivial (hq trivial (hq trivial hq0))))))))))
        refine Run.cond (by cbv) (hq0) (fun c10 => ?_) (fun c10 => ?_)
        · have h := if_t c10 h
          refine Run.seq ?_
          refine Run.region hL hT [] (by cbv) ?_ ?_
          · exact hq0
          refine Run.ret ?_
          cases h
          refine ⟨_, _, by cbv, ?_, ?_⟩
          · exact LLe.r
          · exact (ALe.v LLe.r ALe.nil)
        · have h := if_f c10 h
          refine Run.skip ?_
          refine Run.region hL hT [] (by cbv) ?_ ?_
          · exact (hq trivial hq0)
          refine ⟨(ar .add .i64 z6 1), h, Weak.of _ [] hA (by cbv) ?_⟩
          repeat (first | exact hq0 | refine hq (by first | exact True.intro | rfl) ?_)
      · have h := if_f c7 h
        refine Run.exit ?_
        refine Run.seq ?_
        refine Run.region hL hT [] (by cbv) ?_ ?_
        · exact hq0
        refine Run.ret ?_
        cases h
        refine ⟨_, _, by cbv, ?_, ?_⟩
        · exact LLe.r
        · exact (ALe.v LLe.r ALe.nil)

set_option maxRecDepth 8000 in
theorem slices_Equal_impl_Cond_ac {a0 : List Cond} {a1 : List Cond} {r : Bool} (h : slices_Equal_impl_Cond.f a0 a1 = some r) : AC Try.prog 70 [.v (.im false (rowsOf Cond_c a0)), .v (.im false (rowsOf Cond_c a1))] [.v (.jk), .v (.jk)] [.v (.s (.bool r))] := by
  unfold slices_Equal_impl_Cond.f at h
  let ar := Ls.ar; let cm := Ls.cm; let bo := Ls.bo; let sc := Ls.sc; let sa := Ls.sa; let sx := Ls.sx; let ss := Ls.ss; let sl := Ls.sl; let bs := Ls.bs; let sb := Ls.sb; let ln := Ls.ln; let sr := Ls.sr; let ap := Ls.ap; let up := Ls.up; let rp := Ls.rp; let fr := Ls.fr; let ge := Ls.ge; let le := Ls.le; let lt := Ls.lt; let nz := Ls.nz; let mm := Ls.mm; let ma := Ls.ma; let sm := Ls.sm; let fl := Ls.fl; let al := Ls.al
  let eCond_c := rowsOf Cond_c
  let lenI_Cond := @lenI Cond
  have hL : (⟨ar, cm, bo, sc, sa, sx, ss, sl, bs, sb, ln, sr, ap, up, rp, fr, ge, le, lt, nz, mm, ma, sm, fl, al⟩ : Lf) = Ls := rfl
  show AC Try.prog 70 [.v (.im false (eCond_c a0)), .v (.im false (eCond_c a1))] _ _
  refine AC.of_run2 tab_ok Try.func70 (by rfl) (by rfl) (by cbv) ⟨by decide, rfl⟩ fun F hP hA => ?_
  have hT : TabOk F.P tab := hP ▸ tab_ok
  have hM : F.P.follows .mixedOrders = true := hP ▸ mixed
  have hC : ∀ {f a o r}, AC Try.prog f a o r → AC F.P f a o r := fun h => hP ▸ h
  refine Run.seq ?_
  refine Run.region hL hT [] (by cbv) ?_ ?_
  · exact hq0
  refine Run.seq ?_
  refine Run.seq ?_
  refine Run.region hL hT [] (by cbv) ?_ ?_
  · exact (hq trivial hq0)
  rw [show ln (eCond_c a0) = lenI_Cond a0 from ln_eq Cond_c _]
  rw [show ln (eCond_c a1) = lenI_Cond a1 from ln_eq Cond_c _]
  refine Run.cond (by cbv) (hq0) (fun c1 => ?_) (fun c1 => ?_)
  · have h := if_t c1 h
    refine Run.seq ?_
    refine Run.region hL hT [] (by cbv) ?_ ?_
    · exact hq0
    refine Run.ret ?_
    cases h
    refine ⟨_, _, by cbv, ?_, ?_⟩
    · exact LLe.r
    · exact (ALe.v LLe.r ALe.nil)
  · have h := if_f c1 h
    refine Run.skip ?_
    refine Run.seq ?_
    refine Run.seq ?_
    refine Run.region hL hT [] (by cbv) ?_ ?_
    · exact hq0
    rw [show ln (eCond_c a0) = lenI_Cond a0 from ln_eq Cond_c _]
    refine Run.block ?_
    refine Run.loop1 (fun (z6 : Int) => ⟨26, 100000, [(0, .t (.im false (eCond_c a0))), (1, .t (.im false (eCond_c a1))), (12, .t (.s (.int .i64 (lenI_Cond a0)))), (13, .t (.s (.int .i64 z6)))], []⟩) (x0 := 0) h (Weak.of _ [] hA (by cbv) ?_) (fun _ => rfl) ?_
    · repeat (first | exact hq0 | refine hq (by first | exact True.intro | rfl) ?_)
    · intro k z6 h
      rw [slices_Equal_impl_Cond.l0] at h
      refine Run.seq ?_
      refine Run.region hL hT [] (by cbv) ?_ ?_
      · exact (hq trivial hq0)
      refine Run.seq ?_
      refine Run.cond (by cbv) (hq0) (fun c7 => ?_) (fun c7 => ?_)
      · have h := if_t c7 h
        refine Run.skip ?_
        refine Run.seq ?_
        refine Run.block ?_
        refine Run.seq ?_
        refine Run.region hL hT [] (by cbv) ?_ ?_
        · exact hq0
        refine Run.seq ?_
        obtain ⟨⟨x8v_Col, x8v_Op, x8v_V⟩, h_x8, h⟩ := bnd h
        obtain ⟨⟨x9v_Col, x9v_Op, x9v_V⟩, h_x9, h⟩ := bnd h
        refine Run.draw hL hT hM [(2, .el [.s (.int .i64 x8v_Col), .s (.int .i64 x8v_Op), .s (.int .i64 x8v_V)]), (6, .el [.s (.int .i64 x9v_Col), .s (.int .i64 x9v_Op), .s (.int .i64 x9v_V)])] (by cbv) (by cbv) (by cbv) (by cbv) (by cbv) ?_ ?_
        · exact (hq (get_le h_x8) (hq (get_lt (f := Cond_c) h_x8) (hq (get_ge (f := Cond_c) h_x8) (hq (get_le h_x9) (hq (get_lt (f := Cond_c) h_x9) (hq (get_ge (f := Cond_c) h_x9) (hq trivial (hq trivial (hq trivial (hq trivial (hq trivial (hq trivial hq0))))))))))))
        refine Run.cond (by cbv) (hq0) (fun c10 => ?_) (fun c10 => ?_)
        · have h := if_t c10 h
          refine Run.seq ?_
          refine Run.region hL hT [] (by cbv) ?_ ?_
          · exact hq0
          refine Run.ret ?_
          cases h
          refine ⟨_, _, by cbv, ?_, ?_⟩
          · exact LLe.r
          · exact (ALe.v LLe.r ALe.nil)
        · have h := if_f c10 h
          refine Run.skip ?_
          refine Run.region hL hT [] (by cbv) ?_ ?_
          · exact (hq trivial hq0)
          refine ⟨(ar .add .i64 z6 1), h, Weak.of _ [] hA (by cbv) ?_⟩
          repeat (first | exact hq0 | refine hq (by first | exact True.intro | rfl) ?_)
      · have h := if_f c7 h
        refine Run.exit ?_
        refine Run.seq ?_
        refine Run.region hL hT [] (by cbv) ?_ ?_
        · exact hq0
        refine Run.ret ?_
        cases h
        refine ⟨_, _, by cbv, ?_, ?_⟩
        · exact LLe.r
        · exact (ALe.v LLe.r ALe.nil)

set_option maxRecDepth 8000 in
theorem impl_QuerySame_ac {a0v_Table : Int} {a0v_Where : List Cond} {a0v_Order : Int} {a0v_Down : Bool} {a0v_First : Int} {a0v_Show : List Int} {a0v_Kids : Bool} {a0v_KidTable : Int} {a0v_KidCol : Int} {a1v_Table : Int} {a1v_Where : List Cond} {a1v_Order : Int} {a1v_Down : Bool} {a1v_First : Int} {a1v_Show : List Int} {a1v_Kids : Bool} {a1v_KidTable : Int} {a1v_KidCol : Int} {r : Bool} (h : impl_QuerySame.f (Query.mk a0v_Table a0v_Where a0v_Order a0v_Down a0v_First a0v_Show a0v_Kids a0v_KidTable a0v_KidCol) (Query.mk a1v_Table a1v_Where a1v_Order a1v_Down a1v_First a1v_Show a1v_Kids a1v_KidTable a1v_KidCol) = some r) : AC Try.prog 18 [.ag [.s (.int .i64 a0v_Table), .im false (rowsOf Cond_c a0v_Where), .s (.int .i64 a0v_Order), .s (.bool a0v_Down), .s (.int .i64 a0v_First), .im false (rowsOf Int_c a0v_Show), .s (.bool a0v_Kids), .s (.int .i64 a0v_KidTable), .s (.int .i64 a0v_KidCol)], .ag [.s (.int .i64 a1v_Table), .im false (rowsOf Cond_c a1v_Where), .s (.int .i64 a1v_Order), .s (.bool a1v_Down), .s (.int .i64 a1v_First), .im false (rowsOf Int_c a1v_Show), .s (.bool a1v_Kids), .s (.int .i64 a1v_KidTable), .s (.int .i64 a1v_KidCol)]] [.ag [.jk, .jk, .jk, .jk, .jk, .jk, .jk, .jk, .jk], .ag [.jk, .jk, .jk, .jk, .jk, .jk, .jk, .jk, .jk]] [.v (.s (.bool r))] := by
  unfold impl_QuerySame.f at h
  let ar := Ls.ar; let cm := Ls.cm; let bo := Ls.bo; let sc := Ls.sc; let sa := Ls.sa; let sx := Ls.sx; let ss := Ls.ss; let sl := Ls.sl; let bs := Ls.bs; let sb := Ls.sb; let ln := Ls.ln; let sr := Ls.sr; let ap := Ls.ap; let up := Ls.up; let rp := Ls.rp; let fr := Ls.fr; let ge := Ls.ge; let le := Ls.le; let lt := Ls.lt; let nz := Ls.nz; let mm := Ls.mm; let ma := Ls.ma; let sm := Ls.sm; let fl := Ls.fl; let al := Ls.al
  let eCond_c := rowsOf Cond_c
  let eInt_c := rowsOf Int_c
  have hL : (⟨ar, cm, bo, sc, sa, sx, ss, sl, bs, sb, ln, sr, ap, up, rp, fr, ge, le, lt, nz, mm, ma, sm, fl, al⟩ : Lf) = Ls := rfl
  show AC Try.prog 18 [.ag [.s (.int .i64 a0v_Table), .im false (eCond_c a0v_Where), .s (.int .i64 a0v_Order), .s (.bool a0v_Down), .s (.int .i64 a0v_First), .im false (eInt_c a0v_Show), .s (.bool a0v_Kids), .s (.int .i64 a0v_KidTable), .s (.int .i64 a0v_KidCol)], .ag [.s (.int .i64 a1v_Table), .im false (eCond_c a1v_Where), .s (.int .i64 a1v_Order), .s (.bool a1v_Down), .s (.int .i64 a1v_First), .im false (eInt_c a1v_Show), .s (.bool a1v_Kids), .s (.int .i64 a1v_KidTable), .s (.int .i64 a1v_KidCol)]] _ _
  refine AC.of_run2 tab_ok Try.func18 (by rfl) (by rfl) (by cbv) ⟨by decide, rfl⟩ fun F hP hA => ?_
  have hT : TabOk F.P tab := hP ▸ tab_ok
  have hM : F.P.follows .mixedOrders = true := hP ▸ mixed
  have hC : ∀ {f a o r}, AC Try.prog f a o r → AC F.P f a o r := fun h => hP ▸ h
  refine Run.seq ?_
  refine Run.region hL hT [] (by cbv) ?_ ?_
  · exact hq0
  refine Run.seq ?_
  refine Run.region hL hT [] (by cbv) ?_ ?_
  · exact (hq trivial (hq trivial (hq trivial (hq (fun _ => hq0) (hq (fun g2 => (hq g2 (hq trivial hq0))) (hq (fun _ => hq0) (hq (fun g4 => (hq g4 (hq trivial hq0))) (hq (fun g5 => (hq g5 (hq g5 (hq trivial hq0)))) (hq (fun q6 => (hq q6 hq0)) (hq (fun _ => hq0) (hq (fun _ => hq0) (hq (fun g9 => (hq g9 (hq trivial hq0))) (hq (fun _ => hq0) (hq (fun g11 => (hq g11 (hq trivial hq0))) (hq (fun g12 => (hq g12 (hq g12 hq0))) (hq (fun q13 => (hq q13 hq0)) (hq (fun _ => hq0) (hq (fun _ => hq0) (hq (fun g16 => (hq g16 (hq trivial hq0))) (hq (fun _ => hq0) (hq (fun g18 => (hq g18 (hq trivial hq0))) (hq (fun g19 => (hq g19 (hq g19 (hq trivial hq0)))) (hq (fun q20 => (hq q20 hq0)) (hq (fun _ => hq0) hq0))))))))))))))))))))))))
  refine Run.seq ?_
  refine Run.region hL hT [] (by cbv) ?_ ?_
  · exact (hq trivial (hq trivial (hq (fun _ => hq0) (hq (fun g23 => (hq g23 (hq trivial hq0))) (hq (fun _ => hq0) (hq (fun g25 => (hq g25 (hq trivial hq0))) (hq (fun g26 => (hq g26 (hq g26 (hq trivial hq0)))) (hq (fun q27 => (hq q27 hq0)) (hq (fun _ => hq0) (hq (fun _ => hq0) (hq (fun g30 => (hq g30 (hq trivial hq0))) (hq (fun _ => hq0) (hq (fun g32 => (hq g32 (hq trivial hq0))) (hq (fun g33 => (hq g33 (hq g33 (hq trivial hq0)))) (hq (fun q34 => (hq q34 hq0)) (hq (fun _ => hq0) hq0))))))))))))))))
  refine Run.seq ?_
  obtain ⟨r36, h_r36, h⟩ := bnd h
  obtain ⟨r37, h_r37, h⟩ := bnd h
  refine Run.region hL hT [(9, .call [false, false] [.v (.jk), .v (.jk)] [.v (.s (.bool r36))]), (16, .call [false, false] [.v (.jk), .v (.jk)] [.v (.s (.bool r37))])] (by cbv) ?_ ?_
  · exact (hq (fun _ => hq0) (hq (fun q39 => (hq q39 hq0)) (hq (fun _ => hq0) (hq (fun _ => hq0) (hq (fun g42 => (hq g42 (hq trivial hq0))) (hq (fun _ => hq0) (hq (fun g44 => (hq g44 (hq trivial hq0))) (hq (fun g45 => (hq g45 (hq g45 (hq (hC (slices_Equal_impl_Cond_ac (gd_t h_r36 g45))) hq0)))) (hq (fun q46 => (hq q46 hq0)) (hq (fun _ => hq0) (hq (fun _ => hq0) (hq (fun g49 => (hq g49 (hq trivial hq0))) (hq (fun _ => hq0) (hq (fun g51 => (hq g51 (hq trivial hq0))) (hq (fun g52 => (hq g52 (hq g52 (hq (hC (slices_Equal_int_ac (gd_t h_r37 g52))) hq0)))) (hq (fun q53 => (hq q53 hq0)) (hq (fun _ => hq0) hq0)))))))))))))))))
  refine Run.ret ?_
  cases h
  refine ⟨_, _, by cbv, ?_, ?_⟩
  · exact LLe.r
  · exact (ALe.v LLe.r ALe.nil)

set_option maxRecDepth 8000 in
theorem impl_ViewSame_ac {a0v_Qv_Table : Int} {a0v_Qv_Where : List Cond} {a0v_Qv_Order : Int} {a0v_Qv_Down : Bool} {a0v_Qv_First : Int} {a0v_Qv_Show : List Int} {a0v_Qv_Kids : Bool} {a0v_Qv_KidTable : Int} {a0v_Qv_KidCol : Int} {a0v_Rows : List Row} {a0v_Kids : List Kid} {a1v_Qv_Table : Int} {a1v_Qv_Where : List Cond} {a1v_Qv_Order : Int} {a1v_Qv_Down : Bool} {a1v_Qv_First : Int} {a1v_Qv_Show : List Int} {a1v_Qv_Kids : Bool} {a1v_Qv_KidTable : Int} {a1v_Qv_KidCol : Int} {a1v_Rows : List Row} {a1v_Kids : List Kid} {r : Bool} (h : impl_ViewSame.f (View.mk (Query.mk a0v_Qv_Table a0v_Qv_Where a0v_Qv_Order a0v_Qv_Down a0v_Qv_First a0v_Qv_Show a0v_Qv_Kids a0v_Qv_KidTable a0v_Qv_KidCol) a0v_Rows a0v_Kids) (View.mk (Query.mk a1v_Qv_Table a1v_Qv_Where a1v_Qv_Order a1v_Qv_Down a1v_Qv_First a1v_Qv_Show a1v_Qv_Kids a1v_Qv_KidTable a1v_Qv_KidCol) a1v_Rows a1v_Kids) = some r) : AC Try.prog 63 [.ag [.s (.int .i64 a0v_Qv_Table), .im false (rowsOf Cond_c a0v_Qv_Where), .s (.int .i64 a0v_Qv_Order), .s (.bool a0v_Qv_Down), .s (.int .i64 a0v_Qv_First), .im false (rowsOf Int_c a0v_Qv_Show), .s (.bool a0v_Qv_Kids), .s (.int .i64 a0v_Qv_KidTable), .s (.int .i64 a0v_Qv_KidCol), .im false (rowsOf Row_i a0v_Rows), .im false (rowsOf Kid_c a0v_Kids)], .ag [.s (.int .i64 a1v_Qv_Table), .im false (rowsOf Cond_c a1v_Qv_Where), .s (.int .i64 a1v_Qv_Order), .s (.bool a1v_Qv_Down), .s (.int .i64 a1v_Qv_First), .im false (rowsOf Int_c a1v_Qv_Show), .s (.bool a1v_Qv_Kids), .s (.int .i64 a1v_Qv_KidTable), .s (.int .i64 a1v_Qv_KidCol), .im false (rowsOf Row_i a1v_Rows), .im false (rowsOf Kid_c a1v_Kids)]] [.ag [.jk, .jk, .jk, .jk, .jk, .jk, .jk, .jk, .jk, .jk, .jk], .ag [.jk, .jk, .jk, .jk, .jk, .jk, .jk, .jk, .jk, .jk, .jk]] [.v (.s (.bool r))] := by
  unfold impl_ViewSame.f at h
  let ar := Ls.ar; let cm := Ls.cm; let bo := Ls.bo; let sc := Ls.sc; let sa := Ls.sa; let sx := Ls.sx; let ss := Ls.ss; let sl := Ls.sl; let bs := Ls.bs; let sb := Ls.sb; let ln := Ls.ln; let sr := Ls.sr; let ap := Ls.ap; let up := Ls.up; let rp := Ls.rp; let fr := Ls.fr; let ge := Ls.ge; let le := Ls.le; let lt := Ls.lt; let nz := Ls.nz; let mm := Ls.mm; let ma := Ls.ma; let sm := Ls.sm; let fl := Ls.fl; let al := Ls.al
  let eCond_c := rowsOf Cond_c
  let eInt_c := rowsOf Int_c
  let eKid_c := rowsOf Kid_c
  let eRow_i := rowsOf Row_i
  have hL : (⟨ar, cm, bo, sc, sa, sx, ss, sl, bs, sb, ln, sr, ap, up, rp, fr, ge, le, lt, nz, mm, ma, sm, fl, al⟩ : Lf) = Ls := rfl
  show AC Try.prog 63 [.ag [.s (.int .i64 a0v_Qv_Table), .im false (eCond_c a0v_Qv_Where), .s (.int .i64 a0v_Qv_Order), .s (.bool a0v_Qv_Down), .s (.int .i64 a0v_Qv_First), .im false (eInt_c a0v_Qv_Show), .s (.bool a0v_Qv_Kids), .s (.int .i64 a0v_Qv_KidTable), .s (.int .i64 a0v_Qv_KidCol), .im false (eRow_i a0v_Rows), .im false (eKid_c a0v_Kids)], .ag [.s (.int .i64 a1v_Qv_Table), .im false (eCond_c a1v_Qv_Where), .s (.int .i64 a1v_Qv_Order), .s (.bool a1v_Qv_Down), .s (.int .i64 a1v_Qv_First), .im false (eInt_c a1v_Qv_Show), .s (.bool a1v_Qv_Kids), .s (.int .i64 a1v_Qv_KidTable), .s (.int .i64 a1v_Qv_KidCol), .im false (eRow_i a1v_Rows), .im false (eKid_c a1v_Kids)]] _ _
  refine AC.of_run2 tab_ok Try.func63 (by rfl) (by rfl) (by cbv) ⟨by decide, rfl⟩ fun F hP hA => ?_
  have hT : TabOk F.P tab := hP ▸ tab_ok
  have hM : F.P.follows .mixedOrders = true := hP ▸ mixed
  have hC : ∀ {f a o r}, AC Try.prog f a o r → AC F.P f a o r := fun h => hP ▸ h
  refine Run.seq ?_
  refine Run.region hL hT [] (by cbv) ?_ ?_
  · exact hq0
  refine Run.seq ?_
  obtain ⟨r1, h_r1, h⟩ := bnd h
  obtain ⟨r2, h_r2, h⟩ := bnd h
  obtain ⟨r3, h_r3, h⟩ := bnd h
  refine Run.region hL hT [(4, .call [false, false] [.ag [.jk, .jk, .jk, .jk, .jk, .jk, .jk, .jk, .jk], .ag [.jk, .jk, .jk, .jk, .jk, .jk, .jk, .jk, .jk]] [.v (.s (.bool r1))]), (10, .call [false, false, false] [.v (.jk), .v (.jk), .v (.jk)] [.v (.s (.bool r2))]), (17, .call [false, false] [.v (.jk), .v (.jk)] [.v (.s (.bool r3))])] (by cbv) ?_ ?_
  · exact (hq trivial (hq trivial (hq (hC (impl_QuerySame_ac h_r1)) (hq (fun _ => hq0) (hq (fun g5 => (hq g5 (hq trivial hq0))) (hq (fun _ => hq0) (hq (fun g7 => (hq g7 (hq trivial hq0))) (hq (fun g8 => (hq g8 (hq g8 (hq (hC (slices_EqualFunc_impl_Row__impl_RowSame_ac (gd_t h_r2 g8))) hq0)))) (hq (fun q9 => (hq q9 hq0)) (hq (fun _ => hq0) (hq (fun _ => hq0) (hq (fun g12 => (hq g12 (hq trivial hq0))) (hq (fun _ => hq0) (hq (fun g14 => (hq g14 (hq trivial hq0))) (hq (fun g15 => (hq g15 (hq g15 (hq (hC (slices_Equal_impl_Kid_ac (gd_t h_r3 g15))) hq0)))) (hq (fun q16 => (hq q16 hq0)) (hq (fun _ => hq0) hq0)))))))))))))))))
  refine Run.ret ?_
  cases h
  refine ⟨_, _, by cbv, ?_, ?_⟩
  · exact LLe.r
  · exact (ALe.v LLe.r ALe.nil)

set_option maxRecDepth 8000 in
theorem laws_FnExactViewSame_ac {a0v_Qv_Table : Int} {a0v_Qv_Where : List Cond} {a0v_Qv_Order : Int} {a0v_Qv_Down : Bool} {a0v_Qv_First : Int} {a0v_Qv_Show : List Int} {a0v_Qv_Kids : Bool} {a0v_Qv_KidTable : Int} {a0v_Qv_KidCol : Int} {a0v_Rows : List Row} {a0v_Kids : List Kid} {a1v_Qv_Table : Int} {a1v_Qv_Where : List Cond} {a1v_Qv_Order : Int} {a1v_Qv_Down : Bool} {a1v_Qv_First : Int} {a1v_Qv_Show : List Int} {a1v_Qv_Kids : Bool} {a1v_Qv_KidTable : Int} {a1v_Qv_KidCol : Int} {a1v_Rows : List Row} {a1v_Kids : List Kid} {r : Bool} (h : laws_FnExactViewSame.f (View.mk (Query.mk a0v_Qv_Table a0v_Qv_Where a0v_Qv_Order a0v_Qv_Down a0v_Qv_First a0v_Qv_Show a0v_Qv_Kids a0v_Qv_KidTable a0v_Qv_KidCol) a0v_Rows a0v_Kids) (View.mk (Query.mk a1v_Qv_Table a1v_Qv_Where a1v_Qv_Order a1v_Qv_Down a1v_Qv_First a1v_Qv_Show a1v_Qv_Kids a1v_Qv_KidTable a1v_Qv_KidCol) a1v_Rows a1v_Kids) = some r) : AC Try.prog 14 [.ag [.s (.int .i64 a0v_Qv_Table), .im false (rowsOf Cond_c a0v_Qv_Where), .s (.int .i64 a0v_Qv_Order), .s (.bool a0v_Qv_Down), .s (.int .i64 a0v_Qv_First), .im false (rowsOf Int_c a0v_Qv_Show), .s (.bool a0v_Qv_Kids), .s (.int .i64 a0v_Qv_KidTable), .s (.int .i64 a0v_Qv_KidCol), .im false (rowsOf Row_i a0v_Rows), .im false (rowsOf Kid_c a0v_Kids)], .ag [.s (.int .i64 a1v_Qv_Table), .im false (rowsOf Cond_c a1v_Qv_Where), .s (.int .i64 a1v_Qv_Order), .s (.bool a1v_Qv_Down), .s (.int .i64 a1v_Qv_First), .im false (rowsOf Int_c a1v_Qv_Show), .s (.bool a1v_Qv_Kids), .s (.int .i64 a1v_Qv_KidTable), .s (.int .i64 a1v_Qv_KidCol), .im false (rowsOf Row_i a1v_Rows), .im false (rowsOf Kid_c a1v_Kids)]] [.ag [.jk, .jk, .jk, .jk, .jk, .jk, .jk, .jk, .jk, .jk, .jk], .ag [.jk, .jk, .jk, .jk, .jk, .jk, .jk, .jk, .jk, .jk, .jk]] [.v (.s (.bool r))] := by
  unfold laws_FnExactViewSame.f at h
  let ar := Ls.ar; let cm := Ls.cm; let bo := Ls.bo; let sc := Ls.sc; let sa := Ls.sa; let sx := Ls.sx; let ss := Ls.ss; let sl := Ls.sl; let bs := Ls.bs; let sb := Ls.sb; let ln := Ls.ln; let sr := Ls.sr; let ap := Ls.ap; let up := Ls.up; let rp := Ls.rp; let fr := Ls.fr; let ge := Ls.ge; let le := Ls.le; let lt := Ls.lt; let nz := Ls.nz; let mm := Ls.mm; let ma := Ls.ma; let sm := Ls.sm; let fl := Ls.fl; let al := Ls.al
  let eCond_c := rowsOf Cond_c
  let eInt_c := rowsOf Int_c
  let eKid_c := rowsOf Kid_c
  let eRow_i := rowsOf Row_i
  let eRow_o := rowsOf Row_o
  have hL : (⟨ar, cm, bo, sc, sa, sx, ss, sl, bs, sb, ln, sr, ap, up, rp, fr, ge, le, lt, nz, mm, ma, sm, fl, al⟩ : Lf) = Ls := rfl
  show AC Try.prog 14 [.ag [.s (.int .i64 a0v_Qv_Table), .im false (eCond_c a0v_Qv_Where), .s (.int .i64 a0v_Qv_Order), .s (.bool a0v_Qv_Down), .s (.int .i64 a0v_Qv_First), .im false (eInt_c a0v_Qv_Show), .s (.bool a0v_Qv_Kids), .s (.int .i64 a0v_Qv_KidTable), .s (.int .i64 a0v_Qv_KidCol), .im false (eRow_i a0v_Rows), .im false (eKid_c a0v_Kids)], .ag [.s (.int .i64 a1v_Qv_Table), .im false (eCond_c a1v_Qv_Where), .s (.int .i64 a1v_Qv_Order), .s (.bool a1v_Qv_Down), .s (.int .i64 a1v_Qv_First), .im false (eInt_c a1v_Qv_Show), .s (.bool a1v_Qv_Kids), .s (.int .i64 a1v_Qv_KidTable), .s (.int .i64 a1v_Qv_KidCol), .im false (eRow_i a1v_Rows), .im false (eKid_c a1v_Kids)]] _ _
  refine AC.of_run2 tab_ok Try.func14 (by rfl) (by rfl) (by cbv) ⟨by decide, rfl⟩ fun F hP hA => ?_
  have hT : TabOk F.P tab := hP ▸ tab_ok
  have hM : F.P.follows .mixedOrders = true := hP ▸ mixed
  have hC : ∀ {f a o r}, AC Try.prog f a o r → AC F.P f a o r := fun h => hP ▸ h
  refine Run.seq ?_
  refine Run.region hL hT [] (by cbv) ?_ ?_
  · exact hq0
  refine Run.seq ?_
  refine Run.region hL hT [] (by cbv) ?_ ?_
  · exact hq0
  refine Run.seq ?_
  obtain ⟨r1, h_r1, h⟩ := bnd h
  refine Run.region hL hT [(2, .call [false, false] [.ag [.jk, .jk, .jk, .jk, .jk, .jk, .jk, .jk, .jk, .jk, .jk], .v (.jk)] [.v (.s (.int .i64 r1))])] (by cbv) ?_ ?_
  · exact (hq trivial (hq (hC (laws_szView_ac h_r1)) hq0))
  refine Run.seq ?_
  refine Run.seq ?_
  refine Run.region hL hT [] (by cbv) ?_ ?_
  · exact (hq trivial hq0)
  refine Run.cond (by cbv) (hq0) (fun c2 => ?_) (fun c2 => ?_)
  · have h := if_t c2 h
    refine Run.seq ?_
    refine Run.region hL hT [] (by cbv) ?_ ?_
    · exact hq0
    refine Run.ret ?_
    cases h
    refine ⟨_, _, by cbv, ?_, ?_⟩
    · exact LLe.r
    · exact (ALe.v LLe.r ALe.nil)
  · have h := if_f c2 h
    refine Run.skip ?_
    refine Run.seq ?_
    obtain ⟨r3, h_r3, h⟩ := bnd h
    refine Run.region hL hT [(2, .call [false, false] [.ag [.jk, .jk, .jk, .jk, .jk, .jk, .jk, .jk, .jk, .jk, .jk], .v (.jk)] [.v (.s (.int .i64 r3))])] (by cbv) ?_ ?_
    · exact (hq trivial (hq (hC (laws_szView_ac h_r3)) hq0))
    refine Run.seq ?_
    refine Run.seq ?_
    refine Run.region hL hT [] (by cbv) ?_ ?_
    · exact (hq trivial hq0)
    refine Run.cond (by cbv) (hq0) (fun c4 => ?_) (fun c4 => ?_)
    · have h := if_t c4 h
      refine Run.seq ?_
      refine Run.region hL hT [] (by cbv) ?_ ?_
      · exact hq0
      refine Run.ret ?_
      cases h
      refine ⟨_, _, by cbv, ?_, ?_⟩
      · exact LLe.r
      · exact (ALe.v LLe.r ALe.nil)
    · have h := if_f c4 h
      refine Run.skip ?_
      refine Run.seq ?_
      obtain ⟨⟨⟨r5v_Qv_Table, r5v_Qv_Where, r5v_Qv_Order, r5v_Qv_Down, r5v_Qv_First, r5v_Qv_Show, r5v_Qv_Kids, r5v_Qv_KidTable, r5v_Qv_KidCol⟩, r5v_Rows, r5v_Kids⟩, h_r5, h⟩ := bnd h
      obtain ⟨⟨⟨r6v_Qv_Table, r6v_Qv_Where, r6v_Qv_Order, r6v_Qv_Down, r6v_Qv_First, r6v_Qv_Show, r6v_Qv_Kids, r6v_Qv_KidTable, r6v_Qv_KidCol⟩, r6v_Rows, r6v_Kids⟩, h_r6, h⟩ := bnd h
      obtain ⟨r7, h_r7, h⟩ := bnd h
      refine Run.draw hL hT hM [(1, .call [false] [.ag [.jk, .jk, .jk, .jk, .jk, .jk, .jk, .jk, .jk, .jk, .jk]] [.ag [.s (.int .i64 r5v_Qv_Table), .ow 76 (eCond_c r5v_Qv_Where), .s (.int .i64 r5v_Qv_Order), .s (.bool r5v_Qv_Down), .s (.int .i64 r5v_Qv_First), .ow 3 (eInt_c r5v_Qv_Show), .s (.bool r5v_Qv_Kids), .s (.int .i64 r5v_Qv_KidTable), .s (.int .i64 r5v_Qv_KidCol), .ow 37 (eRow_o r5v_Rows), .ow 63 (eKid_c r5v_Kids)]]), (3, .call [false] [.ag [.jk, .jk, .jk, .jk, .jk, .jk, .jk, .jk, .jk, .jk, .jk]] [.ag [.s (.int .i64 r6v_Qv_Table), .ow 76 (eCond_c r6v_Qv_Where), .s (.int .i64 r6v_Qv_Order), .s (.bool r6v_Qv_Down), .s (.int .i64 r6v_Qv_First), .ow 3 (eInt_c r6v_Qv_Show), .s (.bool r6v_Qv_Kids), .s (.int .i64 r6v_Qv_KidTable), .s (.int .i64 r6v_Qv_KidCol), .ow 37 (eRow_o r6v_Rows), .ow 63 (eKid_c r6v_Kids)]]), (4, .call [false, false] [.ag [.jk, .jk, .jk, .jk, .jk, .jk, .jk, .jk, .jk, .jk, .jk], .ag [.jk, .jk, .jk, .jk, .jk, .jk, .jk, .jk, .jk, .jk, .jk]] [.v (.s (.bool r7))])] (by cbv) (by cbv) (by cbv) (by cbv) (by cbv) ?_ ?_
      · exact (hq trivial (hq (hC (laws_toView_ac h_r5)) (hq trivial (hq (hC (laws_toView_ac h_r6)) (hq (hC (AC.args (spec_ViewSame_ac h_r7) (ALe.ag rfl (LLe.c (LLe.cons (LLe.im (RLe.eq (fr_row Cond_c_z _))) (LLe.c (LLe.c (LLe.c (LLe.cons (LLe.im (RLe.eq (fr_row Int_c_z _))) (LLe.c (LLe.c (LLe.c (LLe.cons (LLe.im (RLe.eq (fr_row Row_o_z _))) (LLe.cons (LLe.im (RLe.eq (fr_row Kid_c_z _))) LLe.nil))))))))))) (ALe.ag rfl (LLe.c (LLe.cons (LLe.im (RLe.eq (fr_row Cond_c_z _))) (LLe.c (LLe.c (LLe.c (LLe.cons (LLe.im (RLe.eq (fr_row Int_c_z _))) (LLe.c (LLe.c (LLe.c (LLe.cons (LLe.im (RLe.eq (fr_row Row_o_z _))) (LLe.cons (LLe.im (RLe.eq (fr_row Kid_c_z _))) LLe.nil))))))))))) ALe.nil)))) hq0)))))
      refine Run.seq ?_
      obtain ⟨⟨⟨r8v_Qv_Table, r8v_Qv_Where, r8v_Qv_Order, r8v_Qv_Down, r8v_Qv_First, r8v_Qv_Show, r8v_Qv_Kids, r8v_Qv_KidTable, r8v_Qv_KidCol⟩, r8v_Rows, r8v_Kids⟩, h_r8, h⟩ := bnd h
      refine Run.region hL hT [(1, .call [false] [.ag [.jk, .jk, .jk, .jk, .jk, .jk, .jk, .jk, .jk, .jk, .jk]] [.ag [.s (.int .i64 r8v_Qv_Table), .ow 76 (eCond_c r8v_Qv_Where), .s (.int .i64 r8v_Qv_Order), .s (.bool r8v_Qv_Down), .s (.int .i64 r8v_Qv_First), .ow 3 (eInt_c r8v_Qv_Show), .s (.bool r8v_Qv_Kids), .s (.int .i64 r8v_Qv_KidTable), .s (.int .i64 r8v_Qv_KidCol), .ow 37 (eRow_o r8v_Rows), .ow 63 (eKid_c r8v_Kids)]])] (by cbv) ?_ ?_
      · exact (hq trivial (hq (hC (laws_toView_ac h_r8)) (hq trivial hq0)))
      refine Run.seq ?_
      obtain ⟨⟨⟨r9v_Qv_Table, r9v_Qv_Where, r9v_Qv_Order, r9v_Qv_Down, r9v_Qv_First, r9v_Qv_Show, r9v_Qv_Kids, r9v_Qv_KidTable, r9v_Qv_KidCol⟩, r9v_Rows, r9v_Kids⟩, h_r9, h⟩ := bnd h
      refine Run.region hL hT [(1, .call [false] [.ag [.jk, .jk, .jk, .jk, .jk, .jk, .jk, .jk, .jk, .jk, .jk]] [.ag [.s (.int .i64 r9v_Qv_Table), .ow 76 (eCond_c r9v_Qv_Where), .s (.int .i64 r9v_Qv_Order), .s (.bool r9v_Qv_Down), .s (.int .i64 r9v_Qv_First), .ow 3 (eInt_c r9v_Qv_Show), .s (.bool r9v_Qv_Kids), .s (.int .i64 r9v_Qv_KidTable), .s (.int .i64 r9v_Qv_KidCol), .ow 37 (eRow_o r9v_Rows), .ow 63 (eKid_c r9v_Kids)]])] (by cbv) ?_ ?_
      · exact (hq trivial (hq (hC (laws_toView_ac h_r9)) (hq trivial hq0)))
      refine Run.seq ?_
      obtain ⟨r10, h_r10, h⟩ := bnd h
      refine Run.region hL hT [(2, .call [false, false] [.ag [.jk, .jk, .jk, .jk, .jk, .jk, .jk, .jk, .jk, .jk, .jk], .ag [.jk, .jk, .jk, .jk, .jk, .jk, .jk, .jk, .jk, .jk, .jk]] [.v (.s (.bool r10))])] (by cbv) ?_ ?_
      · exact (hq trivial (hq trivial (hq (hC (AC.args (impl_ViewSame_ac h_r10) (ALe.ag rfl (LLe.c (LLe.cons (LLe.im (RLe.eq (fr_row Cond_c_z _))) (LLe.c (LLe.c (LLe.c (LLe.cons (LLe.im (RLe.eq (fr_row Int_c_z _))) (LLe.c (LLe.c (LLe.c (LLe.cons (LLe.im (RLe.eq (fr_row Row_o_z _))) (LLe.cons (LLe.im (RLe.eq (fr_row Kid_c_z _))) LLe.nil))))))))))) (ALe.ag rfl (LLe.c (LLe.cons (LLe.im (RLe.eq (fr_row Cond_c_z _))) (LLe.c (LLe.c (LLe.c (LLe.cons (LLe.im (RLe.eq (fr_row Int_c_z _))) (LLe.c (LLe.c (LLe.c (LLe.cons (LLe.im (RLe.eq (fr_row Row_o_z _))) (LLe.cons (LLe.im (RLe.eq (fr_row Kid_c_z _))) LLe.nil))))))))))) ALe.nil)))) hq0)))
      refine Run.seq ?_
      refine Run.seq ?_
      refine Run.region hL hT [] (by cbv) ?_ ?_
      · exact hq0
      refine Run.cond (by cbv) (hq0) (fun c11 => ?_) (fun c11 => ?_)
      · have h := if_t c11 h
        refine Run.seq ?_
        refine Run.region hL hT [] (by cbv) ?_ ?_
        · exact hq0
        refine Run.ret ?_
        cases h
        refine ⟨_, _, by cbv, ?_, ?_⟩
        · exact LLe.r
        · exact (ALe.v LLe.r ALe.nil)
      · have h := if_f c11 h
        refine Run.skip ?_
        refine Run.seq ?_
        refine Run.seq ?_
        obtain ⟨⟨⟨r12v_Qv_Table, r12v_Qv_Where, r12v_Qv_Order, r12v_Qv_Down, r12v_Qv_First, r12v_Qv_Show, r12v_Qv_Kids, r12v_Qv_KidTable, r12v_Qv_KidCol⟩, r12v_Rows, r12v_Kids⟩, h_r12, h⟩ := bnd h
        obtain ⟨r13, h_r13, h⟩ := bnd h
        refine Run.draw hL hT hM [(2, .call [false] [.ag [.jk, .jk, .jk, .jk, .jk, .jk, .jk, .jk, .jk, .jk, .jk]] [.ag [.s (.int .i64 r12v_Qv_Table), .ow 76 (eCond_c r12v_Qv_Where), .s (.int .i64 r12v_Qv_Order), .s (.bool r12v_Qv_Down), .s (.int .i64 r12v_Qv_First), .ow 3 (eInt_c r12v_Qv_Show), .s (.bool r12v_Qv_Kids), .s (.int .i64 r12v_Qv_KidTable), .s (.int .i64 r12v_Qv_KidCol), .ow 37 (eRow_o r12v_Rows), .ow 63 (eKid_c r12v_Kids)]]), (3, .call [false, false] [.ag [.jk, .jk, .jk, .jk, .jk, .jk, .jk, .jk, .jk, .jk, .jk], .ag [.jk, .jk, .jk, .jk, .jk, .jk, .jk, .jk, .jk, .jk, .jk]] [.v (.s (.bool r13))])] (by cbv) (by cbv) (by cbv) (by cbv) (by cbv) ?_ ?_
        · exact (hq trivial (hq trivial (hq (hC (laws_toView_ac h_r12)) (hq (hC (AC.args (laws_eqView_ac h_r13) (ALe.ag rfl (LLe.c (LLe.cons (LLe.im (RLe.eq (fr_row Cond_c_z _))) (LLe.c (LLe.c (LLe.c (LLe.cons (LLe.im (RLe.eq (fr_row Int_c_z _))) (LLe.c (LLe.c (LLe.c (LLe.cons (LLe.im (RLe.eq (fr_row Row_o_z _))) (LLe.cons (LLe.im (RLe.eq (fr_row Kid_c_z _))) LLe.nil))))))))))) (ALe.ag rfl (LLe.c (LLe.cons (LLe.im (RLe.eq (fr_row Cond_c_z _))) (LLe.c (LLe.c (LLe.c (LLe.cons (LLe.im (RLe.eq (fr_row Int_c_z _))) (LLe.c (LLe.c (LLe.c (LLe.cons (LLe.im (RLe.eq (fr_row Row_o_z _))) (LLe.cons (LLe.im (RLe.eq (fr_row Kid_c_z _))) LLe.nil))))))))))) ALe.nil)))) hq0))))
        refine Run.cond (by cbv) (hq0) (fun c14 => ?_) (fun c14 => ?_)
        · have h := if_t c14 h
          refine Run.seq ?_
          refine Run.region hL hT [] (by cbv) ?_ ?_
          · exact hq0
          refine Run.ret ?_
          cases h
          refine ⟨_, _, by cbv, ?_, ?_⟩
          · exact LLe.r
          · exact (ALe.v LLe.r ALe.nil)
        · have h := if_f c14 h
          refine Run.skip ?_
          refine Run.seq ?_
          refine Run.seq ?_
          obtain ⟨⟨⟨r15v_Qv_Table, r15v_Qv_Where, r15v_Qv_Order, r15v_Qv_Down, r15v_Qv_First, r15v_Qv_Show, r15v_Qv_Kids, r15v_Qv_KidTable, r15v_Qv_KidCol⟩, r15v_Rows, r15v_Kids⟩, h_r15, h⟩ := bnd h
          obtain ⟨r16, h_r16, h⟩ := bnd h
          refine Run.draw hL hT hM [(2, .call [false] [.ag [.jk, .jk, .jk, .jk, .jk, .jk, .jk, .jk, .jk, .jk, .jk]] [.ag [.s (.int .i64 r15v_Qv_Table), .ow 76 (eCond_c r15v_Qv_Where), .s (.int .i64 r15v_Qv_Order), .s (.bool r15v_Qv_Down), .s (.int .i64 r15v_Qv_First), .ow 3 (eInt_c r15v_Qv_Show), .s (.bool r15v_Qv_Kids), .s (.int .i64 r15v_Qv_KidTable), .s (.int .i64 r15v_Qv_KidCol), .ow 37 (eRow_o r15v_Rows), .ow 63 (eKid_c r15v_Kids)]]), (3, .call [false, false] [.ag [.jk, .jk, .jk, .jk, .jk, .jk, .jk, .jk, .jk, .jk, .jk], .ag [.jk, .jk, .jk, .jk, .jk, .jk, .jk, .jk, .jk, .jk, .jk]] [.v (.s (.bool r16))])] (by cbv) (by cbv) (by cbv) (by cbv) (by cbv) ?_ ?_
          · exact (hq trivial (hq trivial (hq (hC (laws_toView_ac h_r15)) (hq (hC (AC.args (laws_eqView_ac h_r16) (ALe.ag rfl (LLe.c (LLe.cons (LLe.im (RLe.eq (fr_row Cond_c_z _))) (LLe.c (LLe.c (LLe.c (LLe.cons (LLe.im (RLe.eq (fr_row Int_c_z _))) (LLe.c (LLe.c (LLe.c (LLe.cons (LLe.im (RLe.eq (fr_row Row_o_z _))) (LLe.cons (LLe.im (RLe.eq (fr_row Kid_c_z _))) LLe.nil))))))))))) (ALe.ag rfl (LLe.c (LLe.cons (LLe.im (RLe.eq (fr_row Cond_c_z _))) (LLe.c (LLe.c (LLe.c (LLe.cons (LLe.im (RLe.eq (fr_row Int_c_z _))) (LLe.c (LLe.c (LLe.c (LLe.cons (LLe.im (RLe.eq (fr_row Row_o_z _))) (LLe.cons (LLe.im (RLe.eq (fr_row Kid_c_z _))) LLe.nil))))))))))) ALe.nil)))) hq0))))
          refine Run.cond (by cbv) (hq0) (fun c17 => ?_) (fun c17 => ?_)
          · have h := if_t c17 h
            refine Run.seq ?_
            refine Run.region hL hT [] (by cbv) ?_ ?_
            · exact hq0
            refine Run.ret ?_
            cases h
            refine ⟨_, _, by cbv, ?_, ?_⟩
            · exact LLe.r
            · exact (ALe.v LLe.r ALe.nil)
          · have h := if_f c17 h
            refine Run.skip ?_
            refine Run.seq ?_
            refine Run.region hL hT [] (by cbv) ?_ ?_
            · exact hq0
            refine Run.ret ?_
            cases h
            refine ⟨_, _, by cbv, ?_, ?_⟩
            · exact LLe.r
            · exact (ALe.v LLe.r ALe.nil)


end Go.Proofs.Ytplgbjbpimbcbaa.L
