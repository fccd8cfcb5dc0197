/- The contracts of the program's functions. -/
import Derived.Test.YtjnahdkalbolkaaDoorProg
import Derived.Test.YtjnahdkalbolkaaDoorFxQueryTextU
import Derived.KernelRfl
namespace Go.Proofs.YtjnahdkalbolkaaDoor.L
open Go Go.Proofs
set_option linter.unusedVariables false
set_option linter.unusedSimpArgs false
set_option maxRecDepth 8000
def Int_c (x : Int) : List T := [.s (.int .i64 x)]
theorem Int_c_n : ∀ x, (Int_c x).length = 1 := fun _ => rfl
theorem Int_c_f : ∀ x, (Int_c x).length = 1 ∧ ∀ c ∈ Int_c x, ∃ v, c = T.s v := fun x => ⟨rfl, by simp [Int_c]⟩
theorem Int_c_z : ∀ x, fzL (Int_c x) = Int_c x := fun _ => rfl
def Cond_c (x : Cond) : List T := [.s (.int .i64 x.Col), .s (.int .i64 x.Op), .s (.int .i64 x.V)]
theorem Cond_c_n : ∀ x, (Cond_c x).length = 3 := fun _ => rfl
theorem Cond_c_f : ∀ x, (Cond_c x).length = 3 ∧ ∀ c ∈ Cond_c x, ∃ v, c = T.s v := fun x => ⟨rfl, by simp [Cond_c]⟩
theorem Cond_c_z : ∀ x, fzL (Cond_c x) = Cond_c x := fun _ => rfl
def Str_c (x : ByteArray) : List T := [.s (.string x)]
theorem Str_c_n : ∀ x, (Str_c x).length = 1 := fun _ => rfl
theorem Str_c_f : ∀ x, (Str_c x).length = 1 ∧ ∀ c ∈ Str_c x, ∃ v, c = T.s v := fun x => ⟨rfl, by simp [Str_c]⟩
theorem Str_c_z : ∀ x, fzL (Str_c x) = Str_c x := fun _ => rfl
def u8_c (x : Int) : List T := [.s (.int .u8 x)]
theorem u8_c_n : ∀ x, (u8_c x).length = 1 := fun _ => rfl
theorem u8_c_f : ∀ x, (u8_c x).length = 1 ∧ ∀ c ∈ u8_c x, ∃ v, c = T.s v := fun x => ⟨rfl, by simp [u8_c]⟩
theorem u8_c_z : ∀ x, fzL (u8_c x) = u8_c x := fun _ => rfl
def tab : List (Nat × Ty) := [(3, Ty.mk false 1 8 0 [] [.int .i64 0] (some .i64) false false false false none),
  (4, Ty.mk false 1 1 0 [] [.bool false] (none) true false false false none),
  (5, Ty.mk false 1 1 0 [] [.int .u8 0] (some .u8) false false false false none),
  (9, Ty.mk false 1 16 0 [] [.string ByteArray.empty] (none) false false false true none),
  (22, Ty.mk false 1 24 3 [] [.slice none 0 0] (none) false false true false none),
  (24, Ty.mk true 1 24 0 [(0, 1)] [.slice none 0 0] (none) false false false false none),
  (25, Ty.mk false 1 24 57 [] [.slice none 0 0] (none) false false true false none),
  (27, Ty.mk true 9 104 0 [(0, 1), (1, 1), (2, 1), (3, 1), (4, 1), (5, 1), (6, 1), (7, 1), (8, 1)] [.int .i64 0, .slice none 0 0, .int .i64 0, .bool false, .int .i64 0, .slice none 0 0, .bool false, .int .i64 0, .int .i64 0] (none) false false false false none),
  (31, Ty.mk true 1 24 0 [(0, 1)] [.slice none 0 0] (none) false false false false none),
  (33, Ty.mk false 1 24 45 [] [.slice none 0 0] (none) false false true false none),
  (35, Ty.mk true 9 104 0 [(0, 1), (1, 1), (2, 1), (3, 1), (4, 1), (5, 1), (6, 1), (7, 1), (8, 1)] [.int .i64 0, .slice none 0 0, .int .i64 0, .bool false, .int .i64 0, .slice none 0 0, .bool false, .int .i64 0, .int .i64 0] (none) false false false false none),
  (45, Ty.mk true 3 24 0 [(0, 1), (1, 1), (2, 1)] [.int .i64 0, .int .i64 0, .int .i64 0] (none) false false false false none),
  (46, Ty.mk false 1 24 9 [] [.slice none 0 0] (none) false false true false none),
  (55, Ty.mk false 1 24 5 [] [.slice none 0 0] (none) false false true false none),
  (57, Ty.mk true 3 24 0 [(0, 1), (1, 1), (2, 1)] [.int .i64 0, .int .i64 0, .int .i64 0] (none) false false false false none)]
theorem tab_ok : TabOk Tryd.prog tab := TabOk.of (l := [(3, false), (4, false), (5, false), (9, false), (22, false), (24, false), (25, false), (27, false), (31, false), (33, false), (35, false), (45, false), (46, false), (55, false), (57, false)]) (by kernel_rfl)
theorem mixed : Tryd.prog.follows .mixedOrders = true := by rfl
theorem run3 {f : FuncId} {fn : Func} {c : Code} {args outs res : List A} {σ : St} {ds : List (Option Nat)} (hf : Tryd.prog.funcs[f]? = some fn) (hnm : (fn.name == "runtime.NumGoroutine") = false) (hb : fn.body = some c) (he : entry tab fn.ntmps args = some (σ, ds)) (hds : (idsOf ds).Nodup ∧ ds.length = (acells args).length)
    (h : let ar := Ls.ar; let cm := Ls.cm; let bo := Ls.bo; let sc := Ls.sc; let sa := Ls.sa; let sx := Ls.sx; let ss := Ls.ss; let sl := Ls.sl; let bs := Ls.bs; let sb := Ls.sb; let ln := Ls.ln; let sr := Ls.sr; let ap := Ls.ap; let up := Ls.up; let rp := Ls.rp; let fr := Ls.fr; let ge := Ls.ge; let le := Ls.le; let lt := Ls.lt; let nz := Ls.nz; let mm := Ls.mm; let ma := Ls.ma; let sm := Ls.sm; let fl := Ls.fl; let al := Ls.al; let ci := Ls.ci; (⟨ar, cm, bo, sc, sa, sx, ss, sl, bs, sb, ln, sr, ap, up, rp, fr, ge, le, lt, nz, mm, ma, sm, fl, al, ci⟩ : Lf) = Ls → ∀ F : Fr, F.P = Tryd.prog → (∀ i v, F.anc i = some v → i ∈ idsOf ds) → TabOk F.P tab → F.P.follows .mixedOrders = true → (∀ {f a o r}, AC Tryd.prog f a o r → AC F.P f a o r) → Run F σ c (endQ (EndL Tryd.prog tab fn.results.toList ds outs res))) : AC Tryd.prog f args outs res :=
  AC.of_run2 tab_ok hf hnm hb he hds fun F hP hA => h rfl F hP hA (hP ▸ tab_ok) (hP ▸ mixed) fun h => hP ▸ h

theorem laws_eqIntS_ac {a0 : List Int} {a1 : List Int} {r : Bool} (h : laws_eqIntS.f a0 a1 = some r) : AC Tryd.prog 22 [.v (.im false (rowsOf Int_c a0)), .v (.im false (rowsOf Int_c a1))] [.v (.jk), .v (.jk)] [.v (.s (.bool r))] := by
  unfold laws_eqIntS.f at h
  let eInt_c := rowsOf Int_c
  let lenI_Int := @lenI Int
  show AC Tryd.prog 22 [.v (.im false (eInt_c a0)), .v (.im false (eInt_c a1))] _ _
  refine run3 Tryd.func22 (by rfl) (by rfl) (by cbv) ⟨by decide, rfl⟩ ?_
  intro ar cm bo sc sa sx ss sl bs sb ln sr ap up rp fr ge le lt nz mm ma sm fl al ci hL F hP hA hT hM hC
  refine Run.seq ?_
  refine Run.region hL hT [] (by cbv) ?_ ?_
  · exact hq0
  refine Run.seq ?_
  refine Run.seq ?_
  refine Run.region hL hT [] (by cbv) ?_ ?_
  · exact (hq trivial hq0)
  rw [show ln (eInt_c a0) = lenI_Int a0 from ln_eq Int_c _]
  rw [show ln (eInt_c a1) = lenI_Int a1 from ln_eq Int_c _]
  refine Run.cond (by cbv) (hq0) (fun c1 => ?_) (fun c1 => ?_)
  · have h := if_t c1 h
    refine Run.seq ?_
    refine Run.region hL hT [] (by cbv) ?_ ?_
    · exact hq0
    refine Run.ret ?_
    cases h
    refine ⟨_, _, by cbv, ?_, ?_⟩
    · exact LLe.r
    · exact (ALe.v LLe.r ALe.nil)
  · have h := if_f c1 h
    refine Run.skip ?_
    refine Run.seq ?_
    refine Run.seq ?_
    refine Run.region hL hT [] (by cbv) ?_ ?_
    · exact hq0
    refine Run.block ?_
    refine Run.loop1 (fun (z5 : Int) => ⟨26, 100000, [(0, .t (.im false (eInt_c a0))), (1, .t (.im false (eInt_c a1))), (5, .t (.s (.int .i64 z5)))], []⟩) (x0 := 0) h (Weak.of _ [] hA (by cbv) ?_) (fun _ => rfl) ?_
    · repeat (first | exact hq0 | refine hq (by first | exact True.intro | rfl) ?_)
    · intro k z5 h
      rw [laws_eqIntS.l0] at h
      refine Run.seq ?_
      refine Run.seq ?_
      refine Run.region hL hT [] (by cbv) ?_ ?_
      · exact (hq trivial hq0)
      rw [show ln (eInt_c a0) = lenI_Int a0 from ln_eq Int_c _]
      refine Run.cond (by cbv) (hq0) (fun c6 => ?_) (fun c6 => ?_)
      · have h := if_t c6 h
        refine Run.skip ?_
        refine Run.seq ?_
        refine Run.block ?_
        refine Run.seq ?_
        obtain ⟨x7, h_x7, h⟩ := bnd h
        obtain ⟨x8, h_x8, h⟩ := bnd h
        refine Run.draw hL hT hM [(2, .el [.s (.int .i64 x7)]), (6, .el [.s (.int .i64 x8)])] (by cbv) (collect_cons (by cbv) (by cbv) (collect_cons (by cbv) (by cbv) (collect_cons (by cbv) (by cbv) (collect_cons (by cbv) (by cbv) (collect_cons (by cbv) (by cbv) (collect_cons (by cbv) (by cbv) (collect_cons (by cbv) (by cbv) (collect_cons (by cbv) (by cbv) (collect_cons (by cbv) (by cbv) collect_nil))))))))) (by cbv) (by cbv) (by cbv) ?_ ?_
        · exact (hq (get_le h_x7) (hq (get_lt (f := Int_c) h_x7) (hq (get_ge (f := Int_c) h_x7) (hq (get_le h_x8) (hq (get_lt (f := Int_c) h_x8) (hq (get_ge (f := Int_c) h_x8) (hq trivial hq0)))))))
        refine Run.cond (by cbv) (hq0) (fun c9 => ?_) (fun c9 => ?_)
        · have h := if_t c9 h
          refine Run.seq ?_
          refine Run.region hL hT [] (by cbv) ?_ ?_
          · exact hq0
          refine Run.ret ?_
          cases h
          refine ⟨_, _, by cbv, ?_, ?_⟩
          · exact LLe.r
          · exact (ALe.v LLe.r ALe.nil)
        · have h := if_f c9 h
          refine Run.skip ?_
          refine Run.region hL hT [] (by cbv) ?_ ?_
          · exact (hq trivial hq0)
          refine ⟨(ar .add .i64 z5 1), h, Weak.of _ [] hA (by cbv) ?_⟩
          repeat (first | exact hq0 | refine hq (by first | exact True.intro | rfl) ?_)
      · have h := if_f c6 h
        refine Run.exit ?_
        refine Run.seq ?_
        refine Run.region hL hT [] (by cbv) ?_ ?_
        · exact hq0
        refine Run.ret ?_
        cases h
        refine ⟨_, _, by cbv, ?_, ?_⟩
        · exact LLe.r
        · exact (ALe.v LLe.r ALe.nil)

theorem laws_eqSchema_ac {a0v_Cols : List Int} {a1v_Cols : List Int} {r : Bool} (h : laws_eqSchema.f (Schema.mk a0v_Cols) (Schema.mk a1v_Cols) = some r) : AC Tryd.prog 10 [.ag [.im false (rowsOf Int_c a0v_Cols)], .ag [.im false (rowsOf Int_c a1v_Cols)]] [.ag [.jk], .ag [.jk]] [.v (.s (.bool r))] := by
  unfold laws_eqSchema.f at h
  let eInt_c := rowsOf Int_c
  show AC Tryd.prog 10 [.ag [.im false (eInt_c a0v_Cols)], .ag [.im false (eInt_c a1v_Cols)]] _ _
  refine run3 Tryd.func10 (by rfl) (by rfl) (by cbv) ⟨by decide, rfl⟩ ?_
  intro ar cm bo sc sa sx ss sl bs sb ln sr ap up rp fr ge le lt nz mm ma sm fl al ci hL F hP hA hT hM hC
  refine Run.seq ?_
  refine Run.region hL hT [] (by cbv) ?_ ?_
  · exact hq0
  refine Run.seq ?_
  refine Run.seq ?_
  obtain ⟨r1, h_r1, h⟩ := bnd h
  refine Run.region hL hT [(4, .call [false, false] [.v (.jk), .v (.jk)] [.v (.s (.bool r1))])] (by cbv) ?_ ?_
  · exact (hq trivial (hq trivial (hq (hC (laws_eqIntS_ac h_r1)) hq0)))
  refine Run.cond (by cbv) (hq0) (fun c2 => ?_) (fun c2 => ?_)
  · have h := if_t c2 h
    refine Run.seq ?_
    refine Run.region hL hT [] (by cbv) ?_ ?_
    · exact hq0
    refine Run.ret ?_
    cases h
    refine ⟨_, _, by cbv, ?_, ?_⟩
    · exact LLe.r
    · exact (ALe.v LLe.r ALe.nil)
  · have h := if_f c2 h
    refine Run.skip ?_
    refine Run.seq ?_
    refine Run.region hL hT [] (by cbv) ?_ ?_
    · exact hq0
    refine Run.ret ?_
    cases h
    refine ⟨_, _, by cbv, ?_, ?_⟩
    · exact LLe.r
    · exact (ALe.v LLe.r ALe.nil)

theorem laws_eqCond_ac {a0v_Col : Int} {a0v_Op : Int} {a0v_V : Int} {a1v_Col : Int} {a1v_Op : Int} {a1v_V : Int} {r : Bool} (h : laws_eqCond.f (Cond.mk a0v_Col a0v_Op a0v_V) (Cond.mk a1v_Col a1v_Op a1v_V) = some r) : AC Tryd.prog 36 [.ag [.s (.int .i64 a0v_Col), .s (.int .i64 a0v_Op), .s (.int .i64 a0v_V)], .ag [.s (.int .i64 a1v_Col), .s (.int .i64 a1v_Op), .s (.int .i64 a1v_V)]] [.ag [.jk, .jk, .jk], .ag [.jk, .jk, .jk]] [.v (.s (.bool r))] := by
  unfold laws_eqCond.f at h
  show AC Tryd.prog 36 [.ag [.s (.int .i64 a0v_Col), .s (.int .i64 a0v_Op), .s (.int .i64 a0v_V)], .ag [.s (.int .i64 a1v_Col), .s (.int .i64 a1v_Op), .s (.int .i64 a1v_V)]] _ _
  refine run3 Tryd.func36 (by rfl) (by rfl) (by cbv) ⟨by decide, rfl⟩ ?_
  intro ar cm bo sc sa sx ss sl bs sb ln sr ap up rp fr ge le lt nz mm ma sm fl al ci hL F hP hA hT hM hC
  refine Run.seq ?_
  refine Run.region hL hT [] (by cbv) ?_ ?_
  · exact hq0
  refine Run.seq ?_
  refine Run.seq ?_
  refine Run.region hL hT [] (by cbv) ?_ ?_
  · exact (hq trivial (hq trivial (hq trivial hq0)))
  refine Run.cond (by cbv) (hq0) (fun c1 => ?_) (fun c1 => ?_)
  · have h := if_t c1 h
    refine Run.seq ?_
    refine Run.region hL hT [] (by cbv) ?_ ?_
    · exact hq0
    refine Run.ret ?_
    cases h
    refine ⟨_, _, by cbv, ?_, ?_⟩
    · exact LLe.r
    · exact (ALe.v LLe.r ALe.nil)
  · have h := if_f c1 h
    refine Run.skip ?_
    refine Run.seq ?_
    refine Run.seq ?_
    refine Run.region hL hT [] (by cbv) ?_ ?_
    · exact (hq trivial (hq trivial (hq trivial hq0)))
    refine Run.cond (by cbv) (hq0) (fun c2 => ?_) (fun c2 => ?_)
    · have h := if_t c2 h
      refine Run.seq ?_
      refine Run.region hL hT [] (by cbv) ?_ ?_
      · exact hq0
      refine Run.ret ?_
      cases h
      refine ⟨_, _, by cbv, ?_, ?_⟩
      · exact LLe.r
      · exact (ALe.v LLe.r ALe.nil)
    · have h := if_f c2 h
      refine Run.skip ?_
      refine Run.seq ?_
      refine Run.seq ?_
      refine Run.region hL hT [] (by cbv) ?_ ?_
      · exact (hq trivial (hq trivial (hq trivial hq0)))
      refine Run.cond (by cbv) (hq0) (fun c3 => ?_) (fun c3 => ?_)
      · have h := if_t c3 h
        refine Run.seq ?_
        refine Run.region hL hT [] (by cbv) ?_ ?_
        · exact hq0
        refine Run.ret ?_
        cases h
        refine ⟨_, _, by cbv, ?_, ?_⟩
        · exact LLe.r
        · exact (ALe.v LLe.r ALe.nil)
      · have h := if_f c3 h
        refine Run.skip ?_
        refine Run.seq ?_
        refine Run.region hL hT [] (by cbv) ?_ ?_
        · exact hq0
        refine Run.ret ?_
        cases h
        refine ⟨_, _, by cbv, ?_, ?_⟩
        · exact LLe.r
        · exact (ALe.v LLe.r ALe.nil)

theorem laws_eqCondS_ac {a0 : List Cond} {a1 : List Cond} {r : Bool} (h : laws_eqCondS.f a0 a1 = some r) : AC Tryd.prog 23 [.v (.im false (rowsOf Cond_c a0)), .v (.im false (rowsOf Cond_c a1))] [.v (.jk), .v (.jk)] [.v (.s (.bool r))] := by
  unfold laws_eqCondS.f at h
  let eCond_c := rowsOf Cond_c
  let lenI_Cond := @lenI Cond
  show AC Tryd.prog 23 [.v (.im false (eCond_c a0)), .v (.im false (eCond_c a1))] _ _
  refine run3 Tryd.func23 (by rfl) (by rfl) (by cbv) ⟨by decide, rfl⟩ ?_
  intro ar cm bo sc sa sx ss sl bs sb ln sr ap up rp fr ge le lt nz mm ma sm fl al ci hL F hP hA hT hM hC
  refine Run.seq ?_
  refine Run.region hL hT [] (by cbv) ?_ ?_
  · exact hq0
  refine Run.seq ?_
  refine Run.seq ?_
  refine Run.region hL hT [] (by cbv) ?_ ?_
  · exact (hq trivial hq0)
  rw [show ln (eCond_c a0) = lenI_Cond a0 from ln_eq Cond_c _]
  rw [show ln (eCond_c a1) = lenI_Cond a1 from ln_eq Cond_c _]
  refine Run.cond (by cbv) (hq0) (fun c1 => ?_) (fun c1 => ?_)
  · have h := if_t c1 h
    refine Run.seq ?_
    refine Run.region hL hT [] (by cbv) ?_ ?_
    · exact hq0
    refine Run.ret ?_
    cases h
    refine ⟨_, _, by cbv, ?_, ?_⟩
    · exact LLe.r
    · exact (ALe.v LLe.r ALe.nil)
  · have h := if_f c1 h
    refine Run.skip ?_
    refine Run.seq ?_
    refine Run.seq ?_
    refine Run.region hL hT [] (by cbv) ?_ ?_
    · exact hq0
    refine Run.block ?_
    refine Run.loop1 (fun (z5 : Int) => ⟨27, 100000, [(0, .t (.im false (eCond_c a0))), (1, .t (.im false (eCond_c a1))), (5, .t (.s (.int .i64 z5)))], []⟩) (x0 := 0) h (Weak.of _ [] hA (by cbv) ?_) (fun _ => rfl) ?_
    · repeat (first | exact hq0 | refine hq (by first | exact True.intro | rfl) ?_)
    · intro k z5 h
      rw [laws_eqCondS.l0] at h
      refine Run.seq ?_
      refine Run.seq ?_
      refine Run.region hL hT [] (by cbv) ?_ ?_
      · exact (hq trivial hq0)
      rw [show ln (eCond_c a0) = lenI_Cond a0 from ln_eq Cond_c _]
      refine Run.cond (by cbv) (hq0) (fun c6 => ?_) (fun c6 => ?_)
      · have h := if_t c6 h
        refine Run.skip ?_
        refine Run.seq ?_
        refine Run.block ?_
        refine Run.seq ?_
        obtain ⟨⟨x7v_Col, x7v_Op, x7v_V⟩, h_x7, h⟩ := bnd h
        obtain ⟨⟨x8v_Col, x8v_Op, x8v_V⟩, h_x8, h⟩ := bnd h
        obtain ⟨r9, h_r9, h⟩ := bnd h
        refine Run.draw hL hT hM [(2, .el [.s (.int .i64 x7v_Col), .s (.int .i64 x7v_Op), .s (.int .i64 x7v_V)]), (6, .el [.s (.int .i64 x8v_Col), .s (.int .i64 x8v_Op), .s (.int .i64 x8v_V)]), (8, .call [false, false] [.ag [.jk, .jk, .jk], .ag [.jk, .jk, .jk]] [.v (.s (.bool r9))])] (by cbv) (collect_cons (by cbv) (by cbv) (collect_cons (by cbv) (by cbv) (collect_cons (by cbv) (by cbv) (collect_cons (by cbv) (by cbv) (collect_cons (by cbv) (by cbv) (collect_cons (by cbv) (by cbv) (collect_cons (by cbv) (by cbv) (collect_cons (by cbv) (by cbv) (collect_cons (by cbv) (by cbv) (collect_cons (by cbv) (by cbv) collect_nil)))))))))) (by cbv) (by cbv) (by cbv) ?_ ?_
        · exact (hq (get_le h_x7) (hq (get_lt (f := Cond_c) h_x7) (hq (get_ge (f := Cond_c) h_x7) (hq (get_le h_x8) (hq (get_lt (f := Cond_c) h_x8) (hq (get_ge (f := Cond_c) h_x8) (hq (hC (laws_eqCond_ac h_r9)) hq0)))))))
        refine Run.cond (by cbv) (hq0) (fun c10 => ?_) (fun c10 => ?_)
        · have h := if_t c10 h
          refine Run.seq ?_
          refine Run.region hL hT [] (by cbv) ?_ ?_
          · exact hq0
          refine Run.ret ?_
          cases h
          refine ⟨_, _, by cbv, ?_, ?_⟩
          · exact LLe.r
          · exact (ALe.v LLe.r ALe.nil)
        · have h := if_f c10 h
          refine Run.skip ?_
          refine Run.region hL hT [] (by cbv) ?_ ?_
          · exact (hq trivial hq0)
          refine ⟨(ar .add .i64 z5 1), h, Weak.of _ [] hA (by cbv) ?_⟩
          repeat (first | exact hq0 | refine hq (by first | exact True.intro | rfl) ?_)
      · have h := if_f c6 h
        refine Run.exit ?_
        refine Run.seq ?_
        refine Run.region hL hT [] (by cbv) ?_ ?_
        · exact hq0
        refine Run.ret ?_
        cases h
        refine ⟨_, _, by cbv, ?_, ?_⟩
        · exact LLe.r
        · exact (ALe.v LLe.r ALe.nil)

theorem laws_eqQuery_ac {a0v_Table : Int} {a0v_Where : List Cond} {a0v_Order : Int} {a0v_Down : Bool} {a0v_First : Int} {a0v_Show : List Int} {a0v_Kids : Bool} {a0v_KidTable : Int} {a0v_KidCol : Int} {a1v_Table : Int} {a1v_Where : List Cond} {a1v_Order : Int} {a1v_Down : Bool} {a1v_First : Int} {a1v_Show : List Int} {a1v_Kids : Bool} {a1v_KidTable : Int} {a1v_KidCol : Int} {r : Bool} (h : laws_eqQuery.f (Query.mk a0v_Table a0v_Where a0v_Order a0v_Down a0v_First a0v_Show a0v_Kids a0v_KidTable a0v_KidCol) (Query.mk a1v_Table a1v_Where a1v_Order a1v_Down a1v_First a1v_Show a1v_Kids a1v_KidTable a1v_KidCol) = some r) : AC Tryd.prog 11 [.ag [.s (.int .i64 a0v_Table), .im false (rowsOf Cond_c a0v_Where), .s (.int .i64 a0v_Order), .s (.bool a0v_Down), .s (.int .i64 a0v_First), .im false (rowsOf Int_c a0v_Show), .s (.bool a0v_Kids), .s (.int .i64 a0v_KidTable), .s (.int .i64 a0v_KidCol)], .ag [.s (.int .i64 a1v_Table), .im false (rowsOf Cond_c a1v_Where), .s (.int .i64 a1v_Order), .s (.bool a1v_Down), .s (.int .i64 a1v_First), .im false (rowsOf Int_c a1v_Show), .s (.bool a1v_Kids), .s (.int .i64 a1v_KidTable), .s (.int .i64 a1v_KidCol)]] [.ag [.jk, .jk, .jk, .jk, .jk, .jk, .jk, .jk, .jk], .ag [.jk, .jk, .jk, .jk, .jk, .jk, .jk, .jk, .jk]] [.v (.s (.bool r))] := by
  unfold laws_eqQuery.f at h
  let eCond_c := rowsOf Cond_c
  let eInt_c := rowsOf Int_c
  show AC Tryd.prog 11 [.ag [.s (.int .i64 a0v_Table), .im false (eCond_c a0v_Where), .s (.int .i64 a0v_Order), .s (.bool a0v_Down), .s (.int .i64 a0v_First), .im false (eInt_c a0v_Show), .s (.bool a0v_Kids), .s (.int .i64 a0v_KidTable), .s (.int .i64 a0v_KidCol)], .ag [.s (.int .i64 a1v_Table), .im false (eCond_c a1v_Where), .s (.int .i64 a1v_Order), .s (.bool a1v_Down), .s (.int .i64 a1v_First), .im false (eInt_c a1v_Show), .s (.bool a1v_Kids), .s (.int .i64 a1v_KidTable), .s (.int .i64 a1v_KidCol)]] _ _
  refine run3 Tryd.func11 (by rfl) (by rfl) (by cbv) ⟨by decide, rfl⟩ ?_
  intro ar cm bo sc sa sx ss sl bs sb ln sr ap up rp fr ge le lt nz mm ma sm fl al ci hL F hP hA hT hM hC
  refine Run.seq ?_
  refine Run.region hL hT [] (by cbv) ?_ ?_
  · exact hq0
  refine Run.seq ?_
  refine Run.seq ?_
  refine Run.region hL hT [] (by cbv) ?_ ?_
  · exact (hq trivial (hq trivial (hq trivial hq0)))
  refine Run.cond (by cbv) (hq0) (fun c1 => ?_) (fun c1 => ?_)
  · have h := if_t c1 h
    refine Run.seq ?_
    refine Run.region hL hT [] (by cbv) ?_ ?_
    · exact hq0
    refine Run.ret ?_
    cases h
    refine ⟨_, _, by cbv, ?_, ?_⟩
    · exact LLe.r
    · exact (ALe.v LLe.r ALe.nil)
  · have h := if_f c1 h
    refine Run.skip ?_
    refine Run.seq ?_
    refine Run.seq ?_
    obtain ⟨r2, h_r2, h⟩ := bnd h
    refine Run.region hL hT [(4, .call [false, false] [.v (.jk), .v (.jk)] [.v (.s (.bool r2))])] (by cbv) ?_ ?_
    · exact (hq trivial (hq trivial (hq (hC (laws_eqCondS_ac h_r2)) hq0)))
    refine Run.cond (by cbv) (hq0) (fun c3 => ?_) (fun c3 => ?_)
    · have h := if_t c3 h
      refine Run.seq ?_
      refine Run.region hL hT [] (by cbv) ?_ ?_
      · exact hq0
      refine Run.ret ?_
      cases h
      refine ⟨_, _, by cbv, ?_, ?_⟩
      · exact LLe.r
      · exact (ALe.v LLe.r ALe.nil)
    · have h := if_f c3 h
      refine Run.skip ?_
      refine Run.seq ?_
      refine Run.seq ?_
      refine Run.region hL hT [] (by cbv) ?_ ?_
      · exact (hq trivial (hq trivial (hq trivial hq0)))
      refine Run.cond (by cbv) (hq0) (fun c4 => ?_) (fun c4 => ?_)
      · have h := if_t c4 h
        refine Run.seq ?_
        refine Run.region hL hT [] (by cbv) ?_ ?_
        · exact hq0
        refine Run.ret ?_
        cases h
        refine ⟨_, _, by cbv, ?_, ?_⟩
        · exact LLe.r
        · exact (ALe.v LLe.r ALe.nil)
      · have h := if_f c4 h
        refine Run.skip ?_
        refine Run.seq ?_
        refine Run.seq ?_
        refine Run.region hL hT [] (by cbv) ?_ ?_
        · exact (hq trivial (hq trivial hq0))
        refine Run.cond (by cbv) (hq0) (fun c5 => ?_) (fun c5 => ?_)
        · have h := if_t c5 h
          refine Run.seq ?_
          refine Run.region hL hT [] (by cbv) ?_ ?_
          · exact hq0
          refine Run.ret ?_
          cases h
          refine ⟨_, _, by cbv, ?_, ?_⟩
          · exact LLe.r
          · exact (ALe.v LLe.r ALe.nil)
        · have h := if_f c5 h
          refine Run.skip ?_
          refine Run.seq ?_
          refine Run.seq ?_
          refine Run.region hL hT [] (by cbv) ?_ ?_
          · exact (hq trivial (hq trivial (hq trivial hq0)))
          refine Run.cond (by cbv) (hq0) (fun c6 => ?_) (fun c6 => ?_)
          · have h := if_t c6 h
            refine Run.seq ?_
            refine Run.region hL hT [] (by cbv) ?_ ?_
            · exact hq0
            refine Run.ret ?_
            cases h
            refine ⟨_, _, by cbv, ?_, ?_⟩
            · exact LLe.r
            · exact (ALe.v LLe.r ALe.nil)
          · have h := if_f c6 h
            refine Run.skip ?_
            refine Run.seq ?_
            refine Run.seq ?_
            obtain ⟨r7, h_r7, h⟩ := bnd h
            refine Run.region hL hT [(4, .call [false, false] [.v (.jk), .v (.jk)] [.v (.s (.bool r7))])] (by cbv) ?_ ?_
            · exact (hq trivial (hq trivial (hq (hC (laws_eqIntS_ac h_r7)) hq0)))
            refine Run.cond (by cbv) (hq0) (fun c8 => ?_) (fun c8 => ?_)
            · have h := if_t c8 h
              refine Run.seq ?_
              refine Run.region hL hT [] (by cbv) ?_ ?_
              · exact hq0
              refine Run.ret ?_
              cases h
              refine ⟨_, _, by cbv, ?_, ?_⟩
              · exact LLe.r
              · exact (ALe.v LLe.r ALe.nil)
            · have h := if_f c8 h
              refine Run.skip ?_
              refine Run.seq ?_
              refine Run.seq ?_
              refine Run.region hL hT [] (by cbv) ?_ ?_
              · exact (hq trivial (hq trivial hq0))
              refine Run.cond (by cbv) (hq0) (fun c9 => ?_) (fun c9 => ?_)
              · have h := if_t c9 h
                refine Run.seq ?_
                refine Run.region hL hT [] (by cbv) ?_ ?_
                · exact hq0
                refine Run.ret ?_
                cases h
                refine ⟨_, _, by cbv, ?_, ?_⟩
                · exact LLe.r
                · exact (ALe.v LLe.r ALe.nil)
              · have h := if_f c9 h
                refine Run.skip ?_
                refine Run.seq ?_
                refine Run.seq ?_
                refine Run.region hL hT [] (by cbv) ?_ ?_
                · exact (hq trivial (hq trivial (hq trivial hq0)))
                refine Run.cond (by cbv) (hq0) (fun c10 => ?_) (fun c10 => ?_)
                · have h := if_t c10 h
                  refine Run.seq ?_
                  refine Run.region hL hT [] (by cbv) ?_ ?_
                  · exact hq0
                  refine Run.ret ?_
                  cases h
                  refine ⟨_, _, by cbv, ?_, ?_⟩
                  · exact LLe.r
                  · exact (ALe.v LLe.r ALe.nil)
                · have h := if_f c10 h
                  refine Run.skip ?_
                  refine Run.seq ?_
                  refine Run.seq ?_
                  refine Run.region hL hT [] (by cbv) ?_ ?_
                  · exact (hq trivial (hq trivial (hq trivial hq0)))
                  refine Run.cond (by cbv) (hq0) (fun c11 => ?_) (fun c11 => ?_)
                  · have h := if_t c11 h
                    refine Run.seq ?_
                    refine Run.region hL hT [] (by cbv) ?_ ?_
                    · exact hq0
                    refine Run.ret ?_
                    cases h
                    refine ⟨_, _, by cbv, ?_, ?_⟩
                    · exact LLe.r
                    · exact (ALe.v LLe.r ALe.nil)
                  · have h := if_f c11 h
                    refine Run.skip ?_
                    refine Run.seq ?_
                    refine Run.region hL hT [] (by cbv) ?_ ?_
                    · exact hq0
                    refine Run.ret ?_
                    cases h
                    refine ⟨_, _, by cbv, ?_, ?_⟩
                    · exact LLe.r
                    · exact (ALe.v LLe.r ALe.nil)

theorem laws_szIntS_ac {a0 : List Int} {a1 : Int} {r : Int} (h : laws_szIntS.f a0 a1 = some r) : AC Tryd.prog 12 [.v (.im false (rowsOf Int_c a0)), .v (.s (.int .i64 a1))] [.v (.jk), .v (.jk)] [.v (.s (.int .i64 r))] := by
  unfold laws_szIntS.f at h
  let eInt_c := rowsOf Int_c
  let lenI_Int := @lenI Int
  show AC Tryd.prog 12 [.v (.im false (eInt_c a0)), .v (.s (.int .i64 a1))] _ _
  refine run3 Tryd.func12 (by rfl) (by rfl) (by cbv) ⟨by decide, rfl⟩ ?_
  intro ar cm bo sc sa sx ss sl bs sb ln sr ap up rp fr ge le lt nz mm ma sm fl al ci hL F hP hA hT hM hC
  refine Run.seq ?_
  refine Run.region hL hT [] (by cbv) ?_ ?_
  · exact hq0
  refine Run.seq ?_
  refine Run.region hL hT [] (by cbv) ?_ ?_
  · exact (hq trivial hq0)
  rw [show ln (eInt_c a0) = lenI_Int a0 from ln_eq Int_c _]
  refine Run.seq ?_
  refine Run.seq ?_
  refine Run.region hL hT [] (by cbv) ?_ ?_
  · exact (hq trivial hq0)
  refine Run.cond (by cbv) (hq0) (fun c1 => ?_) (fun c1 => ?_)
  · have h := if_t c1 h
    refine Run.seq ?_
    refine Run.region hL hT [] (by cbv) ?_ ?_
    · exact hq0
    refine Run.ret ?_
    cases h
    refine ⟨_, _, by cbv, ?_, ?_⟩
    · exact LLe.r
    · exact (ALe.v LLe.r ALe.nil)
  · have h := if_f c1 h
    refine Run.skip ?_
    refine Run.seq ?_
    refine Run.region hL hT [] (by cbv) ?_ ?_
    · exact hq0
    refine Run.ret ?_
    cases h
    refine ⟨_, _, by cbv, ?_, ?_⟩
    · exact LLe.r
    · exact (ALe.v LLe.r ALe.nil)

theorem laws_szSchema_ac {a0v_Cols : List Int} {a1 : Int} {r : Int} (h : laws_szSchema.f (Schema.mk a0v_Cols) a1 = some r) : AC Tryd.prog 4 [.ag [.im false (rowsOf Int_c a0v_Cols)], .v (.s (.int .i64 a1))] [.ag [.jk], .v (.jk)] [.v (.s (.int .i64 r))] := by
  unfold laws_szSchema.f at h
  let eInt_c := rowsOf Int_c
  show AC Tryd.prog 4 [.ag [.im false (eInt_c a0v_Cols)], .v (.s (.int .i64 a1))] _ _
  refine run3 Tryd.func4 (by rfl) (by rfl) (by cbv) ⟨by decide, rfl⟩ ?_
  intro ar cm bo sc sa sx ss sl bs sb ln sr ap up rp fr ge le lt nz mm ma sm fl al ci hL F hP hA hT hM hC
  refine Run.seq ?_
  refine Run.region hL hT [] (by cbv) ?_ ?_
  · exact hq0
  refine Run.seq ?_
  obtain ⟨r1, h_r1, h⟩ := bnd h
  refine Run.region hL hT [(3, .call [false, false] [.v (.jk), .v (.jk)] [.v (.s (.int .i64 r1))])] (by cbv) ?_ ?_
  · exact (hq trivial (hq (hC (laws_szIntS_ac h_r1)) hq0))
  refine Run.seq ?_
  refine Run.seq ?_
  refine Run.region hL hT [] (by cbv) ?_ ?_
  · exact (hq trivial hq0)
  refine Run.cond (by cbv) (hq0) (fun c2 => ?_) (fun c2 => ?_)
  · have h := if_t c2 h
    refine Run.seq ?_
    refine Run.region hL hT [] (by cbv) ?_ ?_
    · exact hq0
    refine Run.ret ?_
    cases h
    refine ⟨_, _, by cbv, ?_, ?_⟩
    · exact LLe.r
    · exact (ALe.v LLe.r ALe.nil)
  · have h := if_f c2 h
    refine Run.skip ?_
    refine Run.seq ?_
    refine Run.region hL hT [] (by cbv) ?_ ?_
    · exact hq0
    refine Run.ret ?_
    cases h
    refine ⟨_, _, by cbv, ?_, ?_⟩
    · exact LLe.r
    · exact (ALe.v LLe.r ALe.nil)

theorem laws_szCondS_ac {a0 : List Cond} {a1 : Int} {r : Int} (h : laws_szCondS.f a0 a1 = some r) : AC Tryd.prog 13 [.v (.im false (rowsOf Cond_c a0)), .v (.s (.int .i64 a1))] [.v (.jk), .v (.jk)] [.v (.s (.int .i64 r))] := by
  unfold laws_szCondS.f at h
  let eCond_c := rowsOf Cond_c
  let lenI_Cond := @lenI Cond
  show AC Tryd.prog 13 [.v (.im false (eCond_c a0)), .v (.s (.int .i64 a1))] _ _
  refine run3 Tryd.func13 (by rfl) (by rfl) (by cbv) ⟨by decide, rfl⟩ ?_
  intro ar cm bo sc sa sx ss sl bs sb ln sr ap up rp fr ge le lt nz mm ma sm fl al ci hL F hP hA hT hM hC
  refine Run.seq ?_
  refine Run.region hL hT [] (by cbv) ?_ ?_
  · exact hq0
  refine Run.seq ?_
  refine Run.region hL hT [] (by cbv) ?_ ?_
  · exact (hq trivial hq0)
  rw [show ln (eCond_c a0) = lenI_Cond a0 from ln_eq Cond_c _]
  refine Run.seq ?_
  refine Run.seq ?_
  refine Run.region hL hT [] (by cbv) ?_ ?_
  · exact (hq trivial hq0)
  refine Run.cond (by cbv) (hq0) (fun c1 => ?_) (fun c1 => ?_)
  · have h := if_t c1 h
    refine Run.seq ?_
    refine Run.region hL hT [] (by cbv) ?_ ?_
    · exact hq0
    refine Run.ret ?_
    cases h
    refine ⟨_, _, by cbv, ?_, ?_⟩
    · exact LLe.r
    · exact (ALe.v LLe.r ALe.nil)
  · have h := if_f c1 h
    refine Run.skip ?_
    refine Run.seq ?_
    refine Run.region hL hT [] (by cbv) ?_ ?_
    · exact hq0
    refine Run.ret ?_
    cases h
    refine ⟨_, _, by cbv, ?_, ?_⟩
    · exact LLe.r
    · exact (ALe.v LLe.r ALe.nil)

theorem laws_szQuery_ac {a0v_Table : Int} {a0v_Where : List Cond} {a0v_Order : Int} {a0v_Down : Bool} {a0v_First : Int} {a0v_Show : List Int} {a0v_Kids : Bool} {a0v_KidTable : Int} {a0v_KidCol : Int} {a1 : Int} {r : Int} (h : laws_szQuery.f (Query.mk a0v_Table a0v_Where a0v_Order a0v_Down a0v_First a0v_Show a0v_Kids a0v_KidTable a0v_KidCol) a1 = some r) : AC Tryd.prog 5 [.ag [.s (.int .i64 a0v_Table), .im false (rowsOf Cond_c a0v_Where), .s (.int .i64 a0v_Order), .s (.bool a0v_Down), .s (.int .i64 a0v_First), .im false (rowsOf Int_c a0v_Show), .s (.bool a0v_Kids), .s (.int .i64 a0v_KidTable), .s (.int .i64 a0v_KidCol)], .v (.s (.int .i64 a1))] [.ag [.jk, .jk, .jk, .jk, .jk, .jk, .jk, .jk, .jk], .v (.jk)] [.v (.s (.int .i64 r))] := by
  unfold laws_szQuery.f at h
  let eCond_c := rowsOf Cond_c
  let eInt_c := rowsOf Int_c
  show AC Tryd.prog 5 [.ag [.s (.int .i64 a0v_Table), .im false (eCond_c a0v_Where), .s (.int .i64 a0v_Order), .s (.bool a0v_Down), .s (.int .i64 a0v_First), .im false (eInt_c a0v_Show), .s (.bool a0v_Kids), .s (.int .i64 a0v_KidTable), .s (.int .i64 a0v_KidCol)], .v (.s (.int .i64 a1))] _ _
  refine run3 Tryd.func5 (by rfl) (by rfl) (by cbv) ⟨by decide, rfl⟩ ?_
  intro ar cm bo sc sa sx ss sl bs sb ln sr ap up rp fr ge le lt nz mm ma sm fl al ci hL F hP hA hT hM hC
  refine Run.seq ?_
  refine Run.region hL hT [] (by cbv) ?_ ?_
  · exact hq0
  refine Run.seq ?_
  obtain ⟨r1, h_r1, h⟩ := bnd h
  refine Run.region hL hT [(3, .call [false, false] [.v (.jk), .v (.jk)] [.v (.s (.int .i64 r1))])] (by cbv) ?_ ?_
  · exact (hq trivial (hq (hC (laws_szCondS_ac h_r1)) hq0))
  refine Run.seq ?_
  refine Run.seq ?_
  refine Run.region hL hT [] (by cbv) ?_ ?_
  · exact (hq trivial hq0)
  refine Run.cond (by cbv) (hq0) (fun c2 => ?_) (fun c2 => ?_)
  · have h := if_t c2 h
    refine Run.seq ?_
    refine Run.region hL hT [] (by cbv) ?_ ?_
    · exact hq0
    refine Run.ret ?_
    cases h
    refine ⟨_, _, by cbv, ?_, ?_⟩
    · exact LLe.r
    · exact (ALe.v LLe.r ALe.nil)
  · have h := if_f c2 h
    refine Run.skip ?_
    refine Run.seq ?_
    obtain ⟨r3, h_r3, h⟩ := bnd h
    refine Run.region hL hT [(3, .call [false, false] [.v (.jk), .v (.jk)] [.v (.s (.int .i64 r3))])] (by cbv) ?_ ?_
    · exact (hq trivial (hq (hC (laws_szIntS_ac h_r3)) hq0))
    refine Run.seq ?_
    refine Run.seq ?_
    refine Run.region hL hT [] (by cbv) ?_ ?_
    · exact (hq trivial hq0)
    refine Run.cond (by cbv) (hq0) (fun c4 => ?_) (fun c4 => ?_)
    · have h := if_t c4 h
      refine Run.seq ?_
      refine Run.region hL hT [] (by cbv) ?_ ?_
      · exact hq0
      refine Run.ret ?_
      cases h
      refine ⟨_, _, by cbv, ?_, ?_⟩
      · exact LLe.r
      · exact (ALe.v LLe.r ALe.nil)
    · have h := if_f c4 h
      refine Run.skip ?_
      refine Run.seq ?_
      refine Run.region hL hT [] (by cbv) ?_ ?_
      · exact hq0
      refine Run.ret ?_
      cases h
      refine ⟨_, _, by cbv, ?_, ?_⟩
      · exact LLe.r
      · exact (ALe.v LLe.r ALe.nil)

theorem spec_l1In_ac {a0 : Int} {a1 : Int} {a2 : Int} {r : Bool} (h : spec_l1In.f a0 a1 a2 = some r) : AC Tryd.prog 25 [.v (.s (.int .i64 a0)), .v (.s (.int .i64 a1)), .v (.s (.int .i64 a2))] [.v (.jk), .v (.jk), .v (.jk)] [.v (.s (.bool r))] := by
  unfold spec_l1In.f at h
  show AC Tryd.prog 25 [.v (.s (.int .i64 a0)), .v (.s (.int .i64 a1)), .v (.s (.int .i64 a2))] _ _
  refine run3 Tryd.func25 (by rfl) (by rfl) (by cbv) ⟨by decide, rfl⟩ ?_
  intro ar cm bo sc sa sx ss sl bs sb ln sr ap up rp fr ge le lt nz mm ma sm fl al ci hL F hP hA hT hM hC
  refine Run.seq ?_
  refine Run.region hL hT [] (by cbv) ?_ ?_
  · exact hq0
  refine Run.seq ?_
  refine Run.region hL hT [] (by cbv) ?_ ?_
  · exact (hq trivial (hq (fun _ => hq0) (hq (fun _ => hq0) (hq (fun g3 => (hq g3 (hq g3 (hq trivial hq0)))) (hq (fun q4 => (hq q4 hq0)) (hq (fun _ => hq0) hq0))))))
  refine Run.ret ?_
  cases h
  refine ⟨_, _, by cbv, ?_, ?_⟩
  · exact LLe.r
  · exact (ALe.v LLe.r ALe.nil)

theorem spec_SchemaOk_ac {a0v_Cols : List Int} {r : Bool} (h : spec_SchemaOk.f (Schema.mk a0v_Cols) = some r) : AC Tryd.prog 24 [.ag [.im false (rowsOf Int_c a0v_Cols)]] [.ag [.jk]] [.v (.s (.bool r))] := by
  unfold spec_SchemaOk.f at h
  let eInt_c := rowsOf Int_c
  let lenI_Int := @lenI Int
  show AC Tryd.prog 24 [.ag [.im false (eInt_c a0v_Cols)]] _ _
  refine run3 Tryd.func24 (by rfl) (by rfl) (by cbv) ⟨by decide, rfl⟩ ?_
  intro ar cm bo sc sa sx ss sl bs sb ln sr ap up rp fr ge le lt nz mm ma sm fl al ci hL F hP hA hT hM hC
  refine Run.seq ?_
  refine Run.region hL hT [] (by cbv) ?_ ?_
  · exact hq0
  obtain ⟨K2, h_K2, h⟩ := joinE h
  refine Run.join1 K2 (r := r) (fun (y1 : Unit) => ⟨22, 100000, [(1, .pt 1 0 0)], [(1, .box 31 [.t (.im false (eInt_c a0v_Cols))])]⟩) ?_ ?_
  · skip
    refine Run.seq ?_
    refine Run.region hL hT [] (by cbv) ?_ ?_
    · exact hq0
    refine Run.block ?_
    refine Run.loop1 (fun (z5 : Int) => ⟨22, 100000, [(1, .pt 1 0 0), (3, .t (.s (.int .i64 z5)))], [(1, .box 31 [.t (.im false (eInt_c a0v_Cols))])]⟩) (x0 := 0) h (Weak.of _ [(1, 0)] hA (by cbv) ?_) (fun _ => rfl) ?_
    · repeat (first | exact hq0 | refine hq (by first | exact True.intro | rfl) ?_)
    · intro k z5 h
      rw [spec_SchemaOk.l0] at h
      refine Run.seq ?_
      refine Run.seq ?_
      refine Run.region hL hT [] (by cbv) ?_ ?_
      · exact (hq trivial (hq trivial hq0))
      rw [show ln (eInt_c a0v_Cols) = lenI_Int a0v_Cols from ln_eq Int_c _]
      refine Run.cond (by cbv) (hq0) (fun c6 => ?_) (fun c6 => ?_)
      · have h := if_t c6 h
        refine Run.skip ?_
        refine Run.seq ?_
        refine Run.block ?_
        refine Run.seq ?_
        obtain ⟨x7, h_x7, h⟩ := bnd h
        obtain ⟨r8, h_r8, h⟩ := bnd h
        refine Run.region hL hT [(3, .el [.s (.int .i64 x7)]), (5, .call [false, false, false] [.v (.jk), .v (.jk), .v (.jk)] [.v (.s (.bool r8))])] (by cbv) ?_ ?_
        · exact (hq trivial (hq (get_le h_x7) (hq (get_lt (f := Int_c) h_x7) (hq (get_ge (f := Int_c) h_x7) (hq (hC (spec_l1In_ac h_r8)) hq0)))))
        refine Run.cond (by cbv) (hq0) (fun c9 => ?_) (fun c9 => ?_)
        · have h := if_t c9 h
          refine Run.seq ?_
          refine Run.region hL hT [] (by cbv) ?_ ?_
          · exact hq0
          refine Run.ret ?_
          cases h
          refine ⟨_, _, by cbv, ?_, ?_⟩
          · exact LLe.r
          · exact (ALe.v LLe.r ALe.nil)
        · have h := if_f c9 h
          refine Run.skip ?_
          refine Run.region hL hT [] (by cbv) ?_ ?_
          · exact (hq trivial hq0)
          refine ⟨(ar .add .i64 z5 1), h, Weak.of _ [(1, 1)] hA (by cbv) ?_⟩
          repeat (first | exact hq0 | refine hq (by first | exact True.intro | rfl) ?_)
      · have h := if_f c6 h
        refine Run.exit ?_
        refine ⟨(), h, Weak.of _ [(1, 1)] hA (by cbv) ?_⟩
        repeat (first | exact hq0 | refine hq (by first | exact True.intro | rfl) ?_)
  · intro y1 h
    rw [h_K2] at h
    refine Run.seq ?_
    obtain ⟨r10, h_r10, h⟩ := bnd h
    refine Run.region hL hT [(3, .call [false, false, false] [.v (.jk), .v (.jk), .v (.jk)] [.v (.s (.bool r10))])] (by cbv) ?_ ?_
    · exact (hq trivial (hq (by rw [show ln (eInt_c a0v_Cols) = lenI_Int a0v_Cols from ln_eq Int_c _]; exact (hC (spec_l1In_ac h_r10))) hq0))
    rw [show ln (eInt_c a0v_Cols) = lenI_Int a0v_Cols from ln_eq Int_c _]
    refine Run.ret ?_
    cases h
    refine ⟨_, _, by cbv, ?_, ?_⟩
    · exact LLe.r
    · exact (ALe.v LLe.r ALe.nil)

theorem spec_QueryOk_ac {a0v_Cols : List Int} {a1v_Table : Int} {a1v_Where : List Cond} {a1v_Order : Int} {a1v_Down : Bool} {a1v_First : Int} {a1v_Show : List Int} {a1v_Kids : Bool} {a1v_KidTable : Int} {a1v_KidCol : Int} {r : Bool} (h : spec_QueryOk.f (Schema.mk a0v_Cols) (Query.mk a1v_Table a1v_Where a1v_Order a1v_Down a1v_First a1v_Show a1v_Kids a1v_KidTable a1v_KidCol) = some r) : AC Tryd.prog 14 [.ag [.im false (rowsOf Int_c a0v_Cols)], .ag [.s (.int .i64 a1v_Table), .im false (rowsOf Cond_c a1v_Where), .s (.int .i64 a1v_Order), .s (.bool a1v_Down), .s (.int .i64 a1v_First), .im false (rowsOf Int_c a1v_Show), .s (.bool a1v_Kids), .s (.int .i64 a1v_KidTable), .s (.int .i64 a1v_KidCol)]] [.ag [.jk], .ag [.jk, .jk, .jk, .jk, .jk, .jk, .jk, .jk, .jk]] [.v (.s (.bool r))] := by
  unfold spec_QueryOk.f at h
  let eCond_c := rowsOf Cond_c
  let eInt_c := rowsOf Int_c
  let lenI_Cond := @lenI Cond
  let lenI_Int := @lenI Int
  show AC Tryd.prog 14 [.ag [.im false (eInt_c a0v_Cols)], .ag [.s (.int .i64 a1v_Table), .im false (eCond_c a1v_Where), .s (.int .i64 a1v_Order), .s (.bool a1v_Down), .s (.int .i64 a1v_First), .im false (eInt_c a1v_Show), .s (.bool a1v_Kids), .s (.int .i64 a1v_KidTable), .s (.int .i64 a1v_KidCol)]] _ _
  refine run3 Tryd.func14 (by rfl) (by rfl) (by cbv) ⟨by decide, rfl⟩ ?_
  intro ar cm bo sc sa sx ss sl bs sb ln sr ap up rp fr ge le lt nz mm ma sm fl al ci hL F hP hA hT hM hC
  refine Run.seq ?_
  refine Run.region hL hT [] (by cbv) ?_ ?_
  · exact hq0
  refine Run.seq ?_
  refine Run.seq ?_
  obtain ⟨r1, h_r1, h⟩ := bnd h
  obtain ⟨r2, h_r2, h⟩ := bnd h
  refine Run.region hL hT [(1, .call [false] [.ag [.jk]] [.v (.s (.bool r1))]), (10, .call [false, false, false] [.v (.jk), .v (.jk), .v (.jk)] [.v (.s (.bool r2))])] (by cbv) ?_ ?_
  · exact (hq trivial (hq (hC (spec_SchemaOk_ac h_r1)) (hq (fun _ => hq0) (hq (fun g4 => (hq g4 (hq trivial hq0))) (hq (fun _ => hq0) (hq (fun g6 => (hq g6 (hq trivial hq0))) (hq (fun g7 => (hq g7 hq0)) (hq (fun g8 => (hq g8 (hq trivial hq0))) (hq (fun g9 => (hq g9 (hq g9 (hq (by rw [show ln (eInt_c a0v_Cols) = lenI_Int a0v_Cols from ln_eq Int_c _]; exact (hC (spec_l1In_ac (gd_t h_r2 g9)))) hq0)))) (hq (fun g10 => (hq g10 hq0)) (hq (fun _ => hq0) (hq (fun q12 => (hq (bo_m q12) hq0)) (hq (fun _ => hq0) (hq (fun g14 => (hq g14 (hq trivial hq0))) (hq (fun g15 => (hq g15 hq0)) (hq (fun g16 => (hq g16 (hq trivial hq0))) (hq (fun _ => hq0) (hq (fun q18 => (hq (bo_m q18) hq0)) hq0))))))))))))))))))
  rw [show ln (eCond_c a1v_Where) = lenI_Cond a1v_Where from ln_eq Cond_c _]
  rw [show ln (eInt_c a0v_Cols) = lenI_Int a0v_Cols from ln_eq Int_c _]
  refine Run.cond (by cbv) (hq0) (fun c19 => ?_) (fun c19 => ?_)
  · have h := if_t c19 h
    refine Run.seq ?_
    refine Run.region hL hT [] (by cbv) ?_ ?_
    · exact hq0
    refine Run.ret ?_
    cases h
    refine ⟨_, _, by cbv, ?_, ?_⟩
    · exact LLe.r
    · exact (ALe.v LLe.r ALe.nil)
  · have h := if_f c19 h
    refine Run.skip ?_
    refine Run.seq ?_
    obtain ⟨x20, h_x20, h⟩ := bnd h
    refine Run.region hL hT [(4, .el [.s (.int .i64 x20)])] (by cbv) ?_ ?_
    · exact (hq trivial (hq trivial (hq (get_le h_x20) (hq (get_lt (f := Int_c) h_x20) (hq (get_ge (f := Int_c) h_x20) hq0)))))
    obtain ⟨K22, h_K22, h⟩ := joinE h
    refine Run.join1 K22 (r := r) (fun (y21 : Unit) => ⟨148, 100000, [(2, .pt 1 0 0), (3, .pt 2 0 0), (5, .t (.s (.int .i64 x20)))], [(1, .box 31 [.t (.im false (eInt_c a0v_Cols))]), (2, .box 35 [.t (.s (.int .i64 a1v_Table)), .t (.im false (eCond_c a1v_Where)), .t (.s (.int .i64 a1v_Order)), .t (.s (.bool a1v_Down)), .t (.s (.int .i64 a1v_First)), .t (.im false (eInt_c a1v_Show)), .t (.s (.bool a1v_Kids)), .t (.s (.int .i64 a1v_KidTable)), .t (.s (.int .i64 a1v_KidCol))])]⟩) ?_ ?_
    · skip
      refine Run.seq ?_
      refine Run.region hL hT [] (by cbv) ?_ ?_
      · exact hq0
      refine Run.block ?_
      refine Run.loop1 (fun (z35 : Int) => ⟨148, 100000, [(2, .pt 1 0 0), (3, .pt 2 0 0), (5, .t (.s (.int .i64 x20))), (6, .t (.s (.int .i64 z35)))], [(1, .box 31 [.t (.im false (eInt_c a0v_Cols))]), (2, .box 35 [.t (.s (.int .i64 a1v_Table)), .t (.im false (eCond_c a1v_Where)), .t (.s (.int .i64 a1v_Order)), .t (.s (.bool a1v_Down)), .t (.s (.int .i64 a1v_First)), .t (.im false (eInt_c a1v_Show)), .t (.s (.bool a1v_Kids)), .t (.s (.int .i64 a1v_KidTable)), .t (.s (.int .i64 a1v_KidCol))])]⟩) (x0 := 0) h (Weak.of _ [(1, 0), (2, 1)] hA (by cbv) ?_) (fun _ => rfl) ?_
      · repeat (first | exact hq0 | refine hq (by first | exact True.intro | rfl) ?_)
      · intro k z35 h
        rw [spec_QueryOk.l0] at h
        refine Run.seq ?_
        refine Run.seq ?_
        refine Run.region hL hT [] (by cbv) ?_ ?_
        · exact (hq trivial (hq trivial hq0))
        rw [show ln (eCond_c a1v_Where) = lenI_Cond a1v_Where from ln_eq Cond_c _]
        refine Run.cond (by cbv) (hq0) (fun c36 => ?_) (fun c36 => ?_)
        · have h := if_t c36 h
          refine Run.skip ?_
          refine Run.seq ?_
          refine Run.block ?_
          refine Run.seq ?_
          obtain ⟨⟨x37v_Col, x37v_Op, x37v_V⟩, h_x37, h⟩ := bnd h
          refine Run.region hL hT [(3, .el [.s (.int .i64 x37v_Col), .s (.int .i64 x37v_Op), .s (.int .i64 x37v_V)])] (by cbv) ?_ ?_
          · exact (hq trivial (hq (get_le h_x37) (hq (get_lt (f := Cond_c) h_x37) (hq (get_ge (f := Cond_c) h_x37) (hq trivial hq0)))))
          refine Run.seq ?_
          obtain ⟨r38, h_r38, h⟩ := bnd h
          obtain ⟨r39, h_r39, h⟩ := bnd h
          obtain ⟨r40, h_r40, h⟩ := bnd h
          refine Run.region hL hT [(4, .call [false, false, false] [.v (.jk), .v (.jk), .v (.jk)] [.v (.s (.bool r38))]), (9, .call [false, false, false] [.v (.jk), .v (.jk), .v (.jk)] [.v (.s (.bool r39))]), (15, .call [false, false, false] [.v (.jk), .v (.jk), .v (.jk)] [.v (.s (.bool r40))])] (by cbv) ?_ ?_
          · exact (hq trivial (hq trivial (hq (hC (spec_l1In_ac h_r38)) (hq (fun _ => hq0) (hq (fun g42 => (hq g42 (hq trivial hq0))) (hq (fun g43 => (hq g43 (hq (hC (spec_l1In_ac (gd_t h_r39 g43))) hq0))) (hq (fun g44 => (hq g44 hq0)) (hq (fun _ => hq0) (hq (fun q46 => (hq (bo_m q46) hq0)) (hq (fun _ => hq0) (hq (fun g48 => (hq g48 (hq trivial hq0))) (hq (fun g49 => (hq g49 (hq (hC (spec_l1In_ac (gd_t h_r40 g49))) hq0))) (hq (fun g50 => (hq g50 hq0)) (hq (fun _ => hq0) (hq (fun q52 => (hq (bo_m q52) hq0)) hq0)))))))))))))))
          refine Run.cond (by cbv) (hq0) (fun c53 => ?_) (fun c53 => ?_)
          · have h := if_t c53 h
            refine Run.seq ?_
            refine Run.region hL hT [] (by cbv) ?_ ?_
            · exact hq0
            refine Run.ret ?_
            cases h
            refine ⟨_, _, by cbv, ?_, ?_⟩
            · exact LLe.r
            · exact (ALe.v LLe.r ALe.nil)
          · have h := if_f c53 h
            refine Run.skip ?_
            refine Run.region hL hT [] (by cbv) ?_ ?_
            · exact (hq trivial hq0)
            refine ⟨(ar .add .i64 z35 1), h, Weak.of _ [(1, 1), (2, 2)] hA (by cbv) ?_⟩
            repeat (first | exact hq0 | refine hq (by first | exact True.intro | rfl) ?_)
        · have h := if_f c36 h
          refine Run.exit ?_
          refine ⟨(), h, Weak.of _ [(1, 1), (2, 2)] hA (by cbv) ?_⟩
          repeat (first | exact hq0 | refine hq (by first | exact True.intro | rfl) ?_)
    · intro y21 h
      rw [h_K22] at h
      obtain ⟨K55, h_K55, h⟩ := joinE h
      refine Run.join1 K55 (r := r) (fun (y54 : Unit) => ⟨148, 100000, [(2, .pt 1 0 0), (3, .pt 2 0 0), (5, .t (.s (.int .i64 x20)))], [(1, .box 31 [.t (.im false (eInt_c a0v_Cols))]), (2, .box 35 [.t (.s (.int .i64 a1v_Table)), .t (.im false (eCond_c a1v_Where)), .t (.s (.int .i64 a1v_Order)), .t (.s (.bool a1v_Down)), .t (.s (.int .i64 a1v_First)), .t (.im false (eInt_c a1v_Show)), .t (.s (.bool a1v_Kids)), .t (.s (.int .i64 a1v_KidTable)), .t (.s (.int .i64 a1v_KidCol))])]⟩) ?_ ?_
      · skip
        refine Run.seq ?_
        refine Run.region hL hT [] (by cbv) ?_ ?_
        · exact hq0
        refine Run.block ?_
        refine Run.loop1 (fun (z68 : Int) => ⟨148, 100000, [(2, .pt 1 0 0), (3, .pt 2 0 0), (5, .t (.s (.int .i64 x20))), (8, .t (.s (.int .i64 z68)))], [(1, .box 31 [.t (.im false (eInt_c a0v_Cols))]), (2, .box 35 [.t (.s (.int .i64 a1v_Table)), .t (.im false (eCond_c a1v_Where)), .t (.s (.int .i64 a1v_Order)), .t (.s (.bool a1v_Down)), .t (.s (.int .i64 a1v_First)), .t (.im false (eInt_c a1v_Show)), .t (.s (.bool a1v_Kids)), .t (.s (.int .i64 a1v_KidTable)), .t (.s (.int .i64 a1v_KidCol))])]⟩) (x0 := 0) h (Weak.of _ [(1, 1), (2, 2)] hA (by cbv) ?_) (fun _ => rfl) ?_
        · repeat (first | exact hq0 | refine hq (by first | exact True.intro | rfl) ?_)
        · intro k z68 h
          rw [spec_QueryOk.l1] at h
          refine Run.seq ?_
          refine Run.seq ?_
          refine Run.region hL hT [] (by cbv) ?_ ?_
          · exact (hq trivial (hq trivial hq0))
          rw [show ln (eInt_c a1v_Show) = lenI_Int a1v_Show from ln_eq Int_c _]
          refine Run.cond (by cbv) (hq0) (fun c69 => ?_) (fun c69 => ?_)
          · have h := if_t c69 h
            refine Run.skip ?_
            refine Run.seq ?_
            refine Run.block ?_
            refine Run.seq ?_
            obtain ⟨x70, h_x70, h⟩ := bnd h
            obtain ⟨r71, h_r71, h⟩ := bnd h
            obtain ⟨x72, h_x72, h⟩ := bnd h
            refine Run.draw hL hT hM [(3, .el [.s (.int .i64 x70)]), (7, .call [false, false, false] [.v (.jk), .v (.jk), .v (.jk)] [.v (.s (.bool r71))]), (17, .el [.s (.int .i64 x72)]), (22, .el [.s (.int .i64 x70)])] (by cbv) (collect_cons (by cbv) (by cbv) (collect_cons (by cbv) (by cbv) (collect_cons (by cbv) (by cbv) (collect_cons (by cbv) (by cbv) (collect_cons (by cbv) (by cbv) (collect_cons (by cbv) (by cbv) (collect_cons (by cbv) (by cbv) (collect_cons (by cbv) (by cbv) (collect_cons (by cbv) (by cbv) (collect_cons (by cbv) (by cbv) (collect_cons (by cbv) (by cbv) (collect_cons (by cbv) (by cbv) (collect_cons (by cbv) (by cbv) (collect_cons (by cbv) (by cbv) (collect_cons (by cbv) (by cbv) (collect_cons (by cbv) (by cbv) (collect_cons (by cbv) (by cbv) (collect_cons (by cbv) (by cbv) (collect_cons (by cbv) (by cbv) (collect_cons (by cbv) (by cbv) (collect_cons (by cbv) (by cbv) (collect_cons (by cbv) (by cbv) (collect_cons (by cbv) (by cbv) (collect_cons (by cbv) (by cbv) (collect_cons (by cbv) (by cbv) (collect_cons (by cbv) (by cbv) (collect_cons (by cbv) (by cbv) collect_nil))))))))))))))))))))))))))) (by cbv) (by cbv) (by cbv) ?_ ?_
            · exact (hq trivial (hq (get_le h_x70) (hq (get_lt (f := Int_c) h_x70) (hq (get_ge (f := Int_c) h_x70) (hq trivial (hq (hC (spec_l1In_ac h_r71)) (hq (fun _ => hq0) (hq (fun g74 => (hq g74 (hq trivial hq0))) (hq (fun g75 => (hq g75 hq0)) (hq (fun _ => hq0) (hq (fun g77 => (hq g77 (hq trivial hq0))) (hq (fun _ => hq0) (hq (fun g79 => (hq g79 (hq trivial hq0))) (hq (fun g80 => (hq g80 (hq g80 (hq (get_le (gd_t h_x72 g80)) (hq (get_lt (f := Int_c) (gd_t h_x72 g80)) (hq (get_ge (f := Int_c) (gd_t h_x72 g80)) hq0)))))) (hq (fun g81 => (hq g81 hq0)) (hq (fun _ => hq0) (hq (fun g83 => (hq g83 (hq trivial hq0))) (hq (fun _ => hq0) (hq (fun g85 => (hq g85 (hq g85 (hq (get_le h_x70) (hq (get_lt (f := Int_c) h_x70) (hq (get_ge (f := Int_c) h_x70) hq0)))))) (hq (fun g86 => (hq g86 hq0)) (hq (fun g87 => (hq g87 (hq g87 (hq trivial hq0)))) (hq (fun g88 => (hq g88 (hq (fun q89 => (hq (bo_a g88 q89) hq0)) (hq (fun _ => hq0) hq0)))) (hq (fun _ => hq0) (hq (fun q92 => (hq (bo_m q92) hq0)) hq0))))))))))))))))))))))))
            refine Run.cond (by cbv) (hq0) (fun c93 => ?_) (fun c93 => ?_)
            · have h := if_t c93 h
              refine Run.seq ?_
              refine Run.region hL hT [] (by cbv) ?_ ?_
              · exact hq0
              refine Run.ret ?_
              cases h
              refine ⟨_, _, by cbv, ?_, ?_⟩
              · exact LLe.r
              · exact (ALe.v LLe.r ALe.nil)
            · have h := if_f c93 h
              refine Run.skip ?_
              refine Run.region hL hT [] (by cbv) ?_ ?_
              · exact (hq trivial hq0)
              refine ⟨(ar .add .i64 z68 1), h, Weak.of _ [(1, 1), (2, 2)] hA (by cbv) ?_⟩
              repeat (first | exact hq0 | refine hq (by first | exact True.intro | rfl) ?_)
          · have h := if_f c69 h
            refine Run.exit ?_
            refine ⟨(), h, Weak.of _ [(1, 1), (2, 2)] hA (by cbv) ?_⟩
            repeat (first | exact hq0 | refine hq (by first | exact True.intro | rfl) ?_)
      · intro y54 h
        rw [h_K55] at h
        refine Run.seq ?_
        refine Run.seq ?_
        obtain ⟨r94, h_r94, h⟩ := bnd h
        obtain ⟨r95, h_r95, h⟩ := bnd h
        refine Run.region hL hT [(3, .call [false, false, false] [.v (.jk), .v (.jk), .v (.jk)] [.v (.s (.bool r94))]), (8, .call [false, false, false] [.v (.jk), .v (.jk), .v (.jk)] [.v (.s (.bool r95))])] (by cbv) ?_ ?_
        · exact (hq trivial (hq (hC (spec_l1In_ac h_r94)) (hq (fun _ => hq0) (hq (fun g97 => (hq g97 (hq trivial hq0))) (hq (fun g98 => (hq g98 (hq (hC (spec_l1In_ac (gd_t h_r95 g98))) hq0))) (hq (fun g99 => (hq g99 hq0)) (hq (fun _ => hq0) (hq (fun q101 => (hq (bo_m q101) hq0)) (hq (fun _ => hq0) (hq (fun g103 => (hq g103 (hq trivial hq0))) (hq (fun g104 => (hq g104 (hq trivial hq0))) (hq (fun g105 => (hq g105 hq0)) (hq (fun _ => hq0) (hq (fun g107 => (hq g107 (hq trivial hq0))) (hq (fun g108 => (hq g108 (hq (fun q109 => (hq (bo_a g108 q109) hq0)) (hq (fun _ => hq0) hq0)))) (hq (fun _ => hq0) (hq (fun q112 => (hq (bo_m q112) hq0)) hq0)))))))))))))))))
        refine Run.cond (by cbv) (hq0) (fun c113 => ?_) (fun c113 => ?_)
        · have h := if_t c113 h
          refine Run.seq ?_
          refine Run.region hL hT [] (by cbv) ?_ ?_
          · exact hq0
          refine Run.ret ?_
          cases h
          refine ⟨_, _, by cbv, ?_, ?_⟩
          · exact LLe.r
          · exact (ALe.v LLe.r ALe.nil)
        · have h := if_f c113 h
          refine Run.skip ?_
          refine Run.seq ?_
          refine Run.seq ?_
          refine Run.region hL hT [] (by cbv) ?_ ?_
          · exact (hq trivial hq0)
          refine Run.cond (by cbv) (hq0) (fun c114 => ?_) (fun c114 => ?_)
          · have h := if_t c114 h
            refine Run.seq ?_
            refine Run.region hL hT [] (by cbv) ?_ ?_
            · exact (hq trivial (hq trivial (hq (fun _ => hq0) (hq (fun g116 => (hq g116 (hq trivial hq0))) (hq (fun g117 => (hq g117 (hq trivial hq0))) (hq (fun q118 => (hq q118 hq0)) (hq (fun _ => hq0) hq0)))))))
            refine Run.ret ?_
            cases h
            refine ⟨_, _, by cbv, ?_, ?_⟩
            · exact LLe.r
            · exact (ALe.v LLe.r ALe.nil)
          · have h := if_f c114 h
            refine Run.skip ?_
            refine Run.seq ?_
            obtain ⟨r120, h_r120, h⟩ := bnd h
            obtain ⟨x121, h_x121, h⟩ := bnd h
            obtain ⟨r122, h_r122, h⟩ := bnd h
            refine Run.draw hL hT hM [(6, .call [false, false, false] [.v (.jk), .v (.jk), .v (.jk)] [.v (.s (.bool r120))]), (14, .el [.s (.int .i64 x121)]), (17, .call [false, false, false] [.v (.jk), .v (.jk), .v (.jk)] [.v (.s (.bool r122))])] (by cbv) (collect_cons (by cbv) (by cbv) (collect_cons (by cbv) (by cbv) (collect_cons (by cbv) (by cbv) (collect_cons (by cbv) (by cbv) (collect_cons (by cbv) (by cbv) (collect_cons (by cbv) (by cbv) (collect_cons (by cbv) (by cbv) (collect_cons (by cbv) (by cbv) (collect_cons (by cbv) (by cbv) (collect_cons (by cbv) (by cbv) (collect_cons (by cbv) (by cbv) (collect_cons (by cbv) (by cbv) (collect_cons (by cbv) (by cbv) (collect_cons (by cbv) (by cbv) (collect_cons (by cbv) (by cbv) (collect_cons (by cbv) (by cbv) (collect_cons (by cbv) (by cbv) (collect_cons (by cbv) (by cbv) (collect_cons (by cbv) (by cbv) (collect_cons (by cbv) (by cbv) collect_nil)))))))))))))))))))) (by cbv) (by cbv) (by cbv) ?_ ?_
            · exact (hq trivial (hq trivial (hq trivial (hq (by rw [show ln (eInt_c a0v_Cols) = lenI_Int a0v_Cols from ln_eq Int_c _]; exact (hC (spec_l1In_ac h_r120))) (hq (fun _ => hq0) (hq (fun g124 => (hq g124 (hq trivial hq0))) (hq (fun _ => hq0) (hq (fun g126 => (hq g126 (hq trivial hq0))) (hq (fun _ => hq0) (hq (fun g128 => (hq g128 (hq trivial hq0))) (hq (fun g129 => (hq g129 (hq g129 (hq (get_le (gd_t h_x121 g129)) (hq (get_lt (f := Int_c) (gd_t h_x121 g129)) (hq (get_ge (f := Int_c) (gd_t h_x121 g129)) hq0)))))) (hq (fun g130 => (hq g130 hq0)) (hq (fun g131 => (hq g131 (hq trivial hq0))) (hq (fun g132 => (hq g132 (hq g132 (hq (hC (spec_l1In_ac (gd_t h_r122 g132))) hq0)))) (hq (fun q133 => (hq q133 hq0)) (hq (fun _ => hq0) hq0))))))))))))))))
            rw [show ln (eInt_c a0v_Cols) = lenI_Int a0v_Cols from ln_eq Int_c _]
            refine Run.ret ?_
            cases h
            refine ⟨_, _, by cbv, ?_, ?_⟩
            · exact LLe.r
            · exact (ALe.v LLe.r ALe.nil)

theorem spec_l2Digits_ac {a0 : Int} {r : ByteArray} (h : spec_l2Digits.f a0 = some r) : AC Tryd.prog 15 [.v (.s (.int .i64 a0))] [.v (.jk)] [.v (.s (.string r))] := by
  unfold spec_l2Digits.f at h
  let eu8_c := rowsOf u8_c
  show AC Tryd.prog 15 [.v (.s (.int .i64 a0))] _ _
  refine run3 Tryd.func15 (by rfl) (by rfl) (by cbv) ⟨by decide, rfl⟩ ?_
  intro ar cm bo sc sa sx ss sl bs sb ln sr ap up rp fr ge le lt nz mm ma sm fl al ci hL F hP hA hT hM hC
  refine Run.seq ?_
  refine Run.region hL hT [] (by cbv) ?_ ?_
  · exact hq0
  refine Run.seq ?_
  refine Run.seq ?_
  refine Run.region hL hT [] (by cbv) ?_ ?_
  · exact (hq trivial hq0)
  refine Run.cond (by cbv) (hq0) (fun c1 => ?_) (fun c1 => ?_)
  · have h := if_t c1 h
    refine Run.seq ?_
    refine Run.region hL hT [] (by cbv) ?_ ?_
    · exact hq0
    refine Run.ret ?_
    cases h
    refine ⟨_, _, by cbv, ?_, ?_⟩
    · exact LLe.r
    · exact (ALe.v LLe.r ALe.nil)
  · have h := if_f c1 h
    refine Run.skip ?_
    refine Run.seq ?_
    refine Run.region hL hT [] (by cbv) ?_ ?_
    · exact (hq trivial hq0)
    refine Run.seq ?_
    refine Run.region hL hT [] (by cbv) ?_ ?_
    · exact hq0
    obtain ⟨K4, h_K4, h⟩ := joinE h
    refine Run.join2 K4 (r := r) (fun (y2 : Bool) (y3 : ByteArray) => ⟨31, 100000, [(3, .t (.s (.bool y2))), (4, .t (.s (.string y3)))], []⟩) ?_ ?_
    · skip
      refine Run.block ?_
      refine Run.loop3 (fun (z8 : Int) (z9 : Bool) (z10 : ByteArray) => ⟨31, 100000, [(0, .t (.s (.int .i64 z8))), (3, .t (.s (.bool z9))), (4, .t (.s (.string z10)))], []⟩) (x0 := a0) (x1 := (cm .lss a0 0)) (x2 := (ByteArray.mk #[])) h (Weak.of _ [] hA (by cbv) ?_) (fun _ _ _ => rfl) ?_
      · repeat (first | exact hq0 | refine hq (by first | exact True.intro | rfl) ?_)
      · intro k z8 z9 z10 h
        rw [spec_l2Digits.l0] at h
        refine Run.seq ?_
        refine Run.seq ?_
        refine Run.region hL hT [] (by cbv) ?_ ?_
        · exact (hq trivial hq0)
        refine Run.cond (by cbv) (hq0) (fun c11 => ?_) (fun c11 => ?_)
        · have h := if_t c11 h
          refine Run.skip ?_
          refine Run.block ?_
          refine Run.seq ?_
          refine Run.region hL hT [] (by cbv) ?_ ?_
          · exact (hq trivial (hq (show Ls.nz 10 from (by decide : (10 : Int) ≠ 0)) hq0))
          refine Run.seq ?_
          refine Run.seq ?_
          refine Run.region hL hT [] (by cbv) ?_ ?_
          · exact (hq trivial hq0)
          refine Run.cond (by cbv) (hq0) (fun c12 => ?_) (fun c12 => ?_)
          · have h := if_t c12 h
            refine Run.region hL hT [] (by cbv) ?_ ?_
            · exact (hq trivial hq0)
            refine Run.seq ?_
            obtain ⟨l13, h_l13, h⟩ := bnd h
            obtain ⟨s14, h_s14, h⟩ := bnd h
            obtain ⟨u15, h_u15, h⟩ := bnd h
            refine Run.region hL hT [(4, .hd [116387] (.t (.s (.string s14))) [])] (by cbv) ?_ ?_
            · exact (hq trivial (hq (hand_conv (ns := [(IntKind.wrap .u8 (w64 (48 + (w64 (0 - (Int.tmod z8 10))))))]) hT (by rfl) (by rfl) (by rfl) (by rfl) (by rfl) (by rfl) (by rfl) (conv_lit h_l13 h_s14)) (hq (sm_t h_u15) hq0)))
            refine Run.row (rows := [[.s (.int .u8 (ar .or .u8 (ar .add .i64 48 (ar .sub .i64 0 (ar .rem .i64 z8 10))) 0))]]) 116387 (eu8_c l13) (by cbv) (some_le (f := u8_c) h_l13 (RLe.cons rfl LLe.r RLe.nil)) ?_
            refine Run.region hL hT [] (by cbv) ?_ ?_
            · exact (hq trivial (hq (show Ls.nz 10 from (by decide : (10 : Int) ≠ 0)) hq0))
            refine ⟨(ar .quo .i64 z8 10), z9, (sa s14 z10), h, Weak.of _ [] hA (by cbv) ?_⟩
            repeat (first | exact hq0 | refine hq (by first | exact True.intro | rfl) ?_)
          · have h := if_f c12 h
            refine Run.skip ?_
            refine Run.seq ?_
            obtain ⟨l16, h_l16, h⟩ := bnd h
            obtain ⟨s17, h_s17, h⟩ := bnd h
            obtain ⟨u18, h_u18, h⟩ := bnd h
            refine Run.region hL hT [(4, .hd [112291] (.t (.s (.string s17))) [])] (by cbv) ?_ ?_
            · exact (hq trivial (hq (hand_conv (ns := [(IntKind.wrap .u8 (w64 (48 + (Int.tmod z8 10))))]) hT (by rfl) (by rfl) (by rfl) (by rfl) (by rfl) (by rfl) (by rfl) (conv_lit h_l16 h_s17)) (hq (sm_t h_u18) hq0)))
            refine Run.row (rows := [[.s (.int .u8 (ar .or .u8 (ar .add .i64 48 (ar .rem .i64 z8 10)) 0))]]) 112291 (eu8_c l16) (by cbv) (some_le (f := u8_c) h_l16 (RLe.cons rfl LLe.r RLe.nil)) ?_
            refine Run.region hL hT [] (by cbv) ?_ ?_
            · exact (hq trivial (hq (show Ls.nz 10 from (by decide : (10 : Int) ≠ 0)) hq0))
            refine ⟨(ar .quo .i64 z8 10), z9, (sa s17 z10), h, Weak.of _ [] hA (by cbv) ?_⟩
            repeat (first | exact hq0 | refine hq (by first | exact True.intro | rfl) ?_)
        · have h := if_f c11 h
          refine Run.exit ?_
          refine ⟨z9, z10, h, Weak.of _ [] hA (by cbv) ?_⟩
          repeat (first | exact hq0 | refine hq (by first | exact True.intro | rfl) ?_)
    · intro y2 y3 h
      rw [h_K4] at h
      refine Run.seq ?_
      refine Run.seq ?_
      refine Run.region hL hT [] (by cbv) ?_ ?_
      · exact hq0
      refine Run.cond (by cbv) (hq0) (fun c19 => ?_) (fun c19 => ?_)
      · have h := if_t c19 h
        refine Run.seq ?_
        obtain ⟨u20, h_u20, h⟩ := bnd h
        refine Run.region hL hT [] (by cbv) ?_ ?_
        · exact (hq (sm_t h_u20) hq0)
        refine Run.ret ?_
        cases h
        refine ⟨_, _, by cbv, ?_, ?_⟩
        · exact LLe.r
        · exact (ALe.v LLe.r ALe.nil)
      · have h := if_f c19 h
        refine Run.skip ?_
        refine Run.seq ?_
        refine Run.region hL hT [] (by cbv) ?_ ?_
        · exact hq0
        refine Run.ret ?_
        cases h
        refine ⟨_, _, by cbv, ?_, ?_⟩
        · exact LLe.r
        · exact (ALe.v LLe.r ALe.nil)

theorem spec_l10Signs_ac {r : (List ByteArray)} (h : spec_l10Signs.f = some r) : AC Tryd.prog 16 [] [] [.v (.ow 9 (rowsOf Str_c r))] := by
  unfold spec_l10Signs.f at h
  let eStr_c := rowsOf Str_c
  show AC Tryd.prog 16 [] _ _
  refine run3 Tryd.func16 (by rfl) (by rfl) (by cbv) ⟨by decide, rfl⟩ ?_
  intro ar cm bo sc sa sx ss sl bs sb ln sr ap up rp fr ge le lt nz mm ma sm fl al ci hL F hP hA hT hM hC
  refine Run.seq ?_
  refine Run.region hL hT [] (by cbv) ?_ ?_
  · exact hq0
  refine Run.seq ?_
  obtain ⟨l1, h_l1, h⟩ := bnd h
  refine Run.region hL hT [] (by cbv) ?_ ?_
  · exact hq0
  refine Run.row (rows := [[.s (.string (ByteArray.mk #[]))], [.s (.string (ByteArray.mk #[61]))], [.s (.string (ByteArray.mk #[60]))], [.s (.string (ByteArray.mk #[62]))], [.s (.string (ByteArray.mk #[33]))]]) 4096 (eStr_c l1) (by cbv) (some_le (f := Str_c) h_l1 (RLe.cons rfl LLe.r (RLe.cons rfl LLe.r (RLe.cons rfl LLe.r (RLe.cons rfl LLe.r (RLe.cons rfl LLe.r RLe.nil)))))) ?_
  refine Run.ret ?_
  cases h
  refine ⟨_, _, by cbv, ?_, ?_⟩
  · exact LLe.r
  · exact (ALe.v LLe.r ALe.nil)

theorem spec_QueryText_ac {a0v_Cols : List Int} {a1v_Table : Int} {a1v_Where : List Cond} {a1v_Order : Int} {a1v_Down : Bool} {a1v_First : Int} {a1v_Show : List Int} {a1v_Kids : Bool} {a1v_KidTable : Int} {a1v_KidCol : Int} {r : ByteArray} (h : spec_QueryText.f (Schema.mk a0v_Cols) (Query.mk a1v_Table a1v_Where a1v_Order a1v_Down a1v_First a1v_Show a1v_Kids a1v_KidTable a1v_KidCol) = some r) : AC Tryd.prog 6 [.ag [.im false (rowsOf Int_c a0v_Cols)], .ag [.s (.int .i64 a1v_Table), .im false (rowsOf Cond_c a1v_Where), .s (.int .i64 a1v_Order), .s (.bool a1v_Down), .s (.int .i64 a1v_First), .im false (rowsOf Int_c a1v_Show), .s (.bool a1v_Kids), .s (.int .i64 a1v_KidTable), .s (.int .i64 a1v_KidCol)]] [.ag [.jk], .ag [.jk, .jk, .jk, .jk, .jk, .jk, .jk, .jk, .jk]] [.v (.s (.string r))] := by
  unfold spec_QueryText.f at h
  let eCond_c := rowsOf Cond_c
  let eInt_c := rowsOf Int_c
  let eStr_c := rowsOf Str_c
  let lenI_Cond := @lenI Cond
  let lenI_Int := @lenI Int
  show AC Tryd.prog 6 [.ag [.im false (eInt_c a0v_Cols)], .ag [.s (.int .i64 a1v_Table), .im false (eCond_c a1v_Where), .s (.int .i64 a1v_Order), .s (.bool a1v_Down), .s (.int .i64 a1v_First), .im false (eInt_c a1v_Show), .s (.bool a1v_Kids), .s (.int .i64 a1v_KidTable), .s (.int .i64 a1v_KidCol)]] _ _
  refine run3 Tryd.func6 (by rfl) (by rfl) (by cbv) ⟨by decide, rfl⟩ ?_
  intro ar cm bo sc sa sx ss sl bs sb ln sr ap up rp fr ge le lt nz mm ma sm fl al ci hL F hP hA hT hM hC
  refine Run.seq ?_
  refine Run.region hL hT [] (by cbv) ?_ ?_
  · exact hq0
  refine Run.seq ?_
  refine Run.seq ?_
  obtain ⟨r1, h_r1, h⟩ := bnd h
  refine Run.region hL hT [(2, .call [false, false] [.ag [.jk], .ag [.jk, .jk, .jk, .jk, .jk, .jk, .jk, .jk, .jk]] [.v (.s (.bool r1))])] (by cbv) ?_ ?_
  · exact (hq trivial (hq trivial (hq (hC (spec_QueryOk_ac h_r1)) hq0)))
  refine Run.cond (by cbv) (hq0) (fun c2 => ?_) (fun c2 => ?_)
  · have h := if_t c2 h
    refine Run.seq ?_
    refine Run.region hL hT [] (by cbv) ?_ ?_
    · exact hq0
    refine Run.ret ?_
    cases h
    refine ⟨_, _, by cbv, ?_, ?_⟩
    · exact LLe.r
    · exact (ALe.v LLe.r ALe.nil)
  · have h := if_f c2 h
    refine Run.skip ?_
    refine Run.seq ?_
    obtain ⟨r3, h_r3, h⟩ := bnd h
    obtain ⟨s4, h_s4, h⟩ := bnd h
    refine Run.region hL hT [(2, .call [false] [.v (.jk)] [.v (.s (.string r3))]), (3, .hd [] (.t (.s (.string s4))) [])] (by cbv) ?_ ?_
    · exact (hq trivial (hq (hC (spec_l2Digits_ac h_r3)) (hq (hand_add h_s4) hq0)))
    obtain ⟨K6, h_K6, h⟩ := joinE h
    refine Run.join1 K6 (r := r) (fun (y5 : ByteArray) => ⟨104, 100000, [(3, .pt 1 0 0), (5, .t (.s (.string y5)))], [(1, .box 35 [.t (.s (.int .i64 a1v_Table)), .t (.im false (eCond_c a1v_Where)), .t (.s (.int .i64 a1v_Order)), .t (.s (.bool a1v_Down)), .t (.s (.int .i64 a1v_First)), .t (.im false (eInt_c a1v_Show)), .t (.s (.bool a1v_Kids)), .t (.s (.int .i64 a1v_KidTable)), .t (.s (.int .i64 a1v_KidCol))])]⟩) ?_ ?_
    · skip
      refine Run.seq ?_
      refine Run.region hL hT [] (by cbv) ?_ ?_
      · exact hq0
      refine Run.block ?_
      refine Run.loop2 (fun (z18 : ByteArray) (z19 : Int) => ⟨104, 100000, [(3, .pt 1 0 0), (5, .t (.s (.string z18))), (6, .t (.s (.int .i64 z19)))], [(1, .box 35 [.t (.s (.int .i64 a1v_Table)), .t (.im false (eCond_c a1v_Where)), .t (.s (.int .i64 a1v_Order)), .t (.s (.bool a1v_Down)), .t (.s (.int .i64 a1v_First)), .t (.im false (eInt_c a1v_Show)), .t (.s (.bool a1v_Kids)), .t (.s (.int .i64 a1v_KidTable)), .t (.s (.int .i64 a1v_KidCol))])]⟩) (x0 := s4) (x1 := 0) h (Weak.of _ [(1, 1)] hA (by cbv) ?_) (fun _ _ => rfl) ?_
      · repeat (first | exact hq0 | refine hq (by first | exact True.intro | rfl) ?_)
      · intro k z18 z19 h
        rw [spec_QueryText.l0] at h
        refine Run.seq ?_
        refine Run.seq ?_
        refine Run.region hL hT [] (by cbv) ?_ ?_
        · exact (hq trivial (hq trivial hq0))
        rw [show ln (eCond_c a1v_Where) = lenI_Cond a1v_Where from ln_eq Cond_c _]
        refine Run.cond (by cbv) (hq0) (fun c20 => ?_) (fun c20 => ?_)
        · have h := if_t c20 h
          refine Run.skip ?_
          refine Run.seq ?_
          refine Run.block ?_
          refine Run.seq ?_
          obtain ⟨⟨x21v_Col, x21v_Op, x21v_V⟩, h_x21, h⟩ := bnd h
          refine Run.region hL hT [(3, .el [.s (.int .i64 x21v_Col), .s (.int .i64 x21v_Op), .s (.int .i64 x21v_V)])] (by cbv) ?_ ?_
          · exact (hq trivial (hq (get_le h_x21) (hq (get_lt (f := Cond_c) h_x21) (hq (get_ge (f := Cond_c) h_x21) (hq trivial hq0)))))
          obtain ⟨s22, h_s22, h⟩ := bnd h
          obtain ⟨r23, h_r23, h⟩ := bnd h
          obtain ⟨s24, h_s24, h⟩ := bnd h
          obtain ⟨s25, h_s25, h⟩ := bnd h
          obtain ⟨r26, h_r26, h⟩ := bnd h
          obtain ⟨x27, h_x27, h⟩ := bnd h
          obtain ⟨s28, h_s28, h⟩ := bnd h
          obtain ⟨s29, h_s29, h⟩ := bnd h
          obtain ⟨r30, h_r30, h⟩ := bnd h
          obtain ⟨s31, h_s31, h⟩ := bnd h
          refine Run.draw hL hT hM [(1, .hd [] (.t (.s (.string s22))) []), (4, .call [false] [.v (.jk)] [.v (.s (.string r23))]), (5, .hd [] (.t (.s (.string s24))) []), (6, .hd [] (.t (.s (.string s25))) []), (7, .call [] [] [.v (.ow 9 (eStr_c r26))]), (11, .el [.s (.string x27)]), (12, .hd [] (.t (.s (.string s28))) []), (13, .hd [] (.t (.s (.string s29))) []), (16, .call [false] [.v (.jk)] [.v (.s (.string r30))]), (17, .hd [] (.t (.s (.string s31))) [])] (by cbv) (collect_cons (by cbv) (by cbv) (collect_cons (by cbv) (by cbv) (collect_cons (by cbv) (by cbv) (collect_cons (by cbv) (by cbv) (collect_cons (by cbv) (by cbv) (collect_cons (by cbv) (by cbv) (collect_cons (by cbv) (by cbv) (collect_cons (by cbv) (by cbv) (collect_cons (by cbv) (by cbv) (collect_cons (by cbv) (by cbv) (collect_cons (by cbv) (by cbv) (collect_cons (by cbv) (by cbv) (collect_cons (by cbv) (by cbv) (collect_cons (by cbv) (by cbv) (collect_cons (by cbv) (by cbv) (collect_cons (by cbv) (by cbv) (collect_cons (by cbv) (by cbv) (collect_cons (by cbv) (by cbv) (collect_cons (by cbv) (by cbv) collect_nil))))))))))))))))))) (by cbv) (by cbv) (by cbv) ?_ ?_
          · exact (hq (hand_add h_s22) (hq trivial (hq (hC (spec_l2Digits_ac h_r23)) (hq (hand_add h_s24) (hq (hand_add h_s25) (hq (hC (spec_l10Signs_ac h_r26)) (hq trivial (hq (get_le h_x27) (hq (get_lt (f := Str_c) h_x27) (hq (get_le h_x27) (hq (get_lt (f := Str_c) h_x27) (hq (get_ge (f := Str_c) h_x27) (hq (hand_add h_s28) (hq (hand_add h_s29) (hq trivial (hq (hC (spec_l2Digits_ac h_r30)) (hq (hand_add h_s31) hq0)))))))))))))))))
          refine Run.region hL hT [] (by cbv) ?_ ?_
          · exact (hq trivial hq0)
          refine ⟨s31, (ar .add .i64 z19 1), h, Weak.of _ [(1, 1)] hA (by cbv) ?_⟩
          repeat (first | exact hq0 | refine hq (by first | exact True.intro | rfl) ?_)
        · have h := if_f c20 h
          refine Run.exit ?_
          refine ⟨z18, h, Weak.of _ [(1, 1)] hA (by cbv) ?_⟩
          repeat (first | exact hq0 | refine hq (by first | exact True.intro | rfl) ?_)
    · intro y5 h
      rw [h_K6] at h
      obtain ⟨K33, h_K33, h⟩ := joinE h
      refine Run.join1 K33 (r := r) (fun (y32 : ByteArray) => ⟨104, 100000, [(3, .pt 1 0 0), (5, .t (.s (.string y32)))], [(1, .box 35 [.t (.s (.int .i64 a1v_Table)), .t (.im false (eCond_c a1v_Where)), .t (.s (.int .i64 a1v_Order)), .t (.s (.bool a1v_Down)), .t (.s (.int .i64 a1v_First)), .t (.im false (eInt_c a1v_Show)), .t (.s (.bool a1v_Kids)), .t (.s (.int .i64 a1v_KidTable)), .t (.s (.int .i64 a1v_KidCol))])]⟩) ?_ ?_
      · skip
        refine Run.seq ?_
        refine Run.region hL hT [] (by cbv) ?_ ?_
        · exact (hq trivial (hq trivial hq0))
        refine Run.cond (by cbv) (hq0) (fun c34 => ?_) (fun c34 => ?_)
        · have h := if_t c34 h
          refine Run.seq ?_
          obtain ⟨s35, h_s35, h⟩ := bnd h
          obtain ⟨r36, h_r36, h⟩ := bnd h
          obtain ⟨s37, h_s37, h⟩ := bnd h
          refine Run.region hL hT [(1, .hd [] (.t (.s (.string s35))) []), (5, .call [false] [.v (.jk)] [.v (.s (.string r36))]), (6, .hd [] (.t (.s (.string s37))) [])] (by cbv) ?_ ?_
          · exact (hq (hand_add h_s35) (hq trivial (hq trivial (hq (hC (spec_l2Digits_ac h_r36)) (hq (hand_add h_s37) hq0)))))
          refine Run.seq ?_
          refine Run.region hL hT [] (by cbv) ?_ ?_
          · exact (hq trivial hq0)
          refine Run.cond (by cbv) (hq0) (fun c38 => ?_) (fun c38 => ?_)
          · have h := if_t c38 h
            obtain ⟨s39, h_s39, h⟩ := bnd h
            refine Run.region hL hT [(1, .hd [] (.t (.s (.string s39))) [])] (by cbv) ?_ ?_
            · exact (hq (hand_add h_s39) hq0)
            refine ⟨s39, h, Weak.of _ [(1, 1)] hA (by cbv) ?_⟩
            repeat (first | exact hq0 | refine hq (by first | exact True.intro | rfl) ?_)
          · have h := if_f c38 h
            refine Run.skip ?_
            refine ⟨s37, h, Weak.of _ [(1, 1)] hA (by cbv) ?_⟩
            repeat (first | exact hq0 | refine hq (by first | exact True.intro | rfl) ?_)
        · have h := if_f c34 h
          refine Run.skip ?_
          refine ⟨y5, h, Weak.of _ [(1, 1)] hA (by cbv) ?_⟩
          repeat (first | exact hq0 | refine hq (by first | exact True.intro | rfl) ?_)
      · intro y32 h
        rw [h_K33] at h
        obtain ⟨K41, h_K41, h⟩ := joinE h
        refine Run.join1 K41 (r := r) (fun (y40 : ByteArray) => ⟨104, 100000, [(3, .pt 1 0 0), (5, .t (.s (.string y40)))], [(1, .box 35 [.t (.s (.int .i64 a1v_Table)), .t (.im false (eCond_c a1v_Where)), .t (.s (.int .i64 a1v_Order)), .t (.s (.bool a1v_Down)), .t (.s (.int .i64 a1v_First)), .t (.im false (eInt_c a1v_Show)), .t (.s (.bool a1v_Kids)), .t (.s (.int .i64 a1v_KidTable)), .t (.s (.int .i64 a1v_KidCol))])]⟩) ?_ ?_
        · skip
          refine Run.seq ?_
          refine Run.region hL hT [] (by cbv) ?_ ?_
          · exact (hq trivial (hq trivial hq0))
          refine Run.cond (by cbv) (hq0) (fun c42 => ?_) (fun c42 => ?_)
          · have h := if_t c42 h
            obtain ⟨s43, h_s43, h⟩ := bnd h
            obtain ⟨r44, h_r44, h⟩ := bnd h
            obtain ⟨s45, h_s45, h⟩ := bnd h
            refine Run.region hL hT [(1, .hd [] (.t (.s (.string s43))) []), (4, .call [false] [.v (.jk)] [.v (.s (.string r44))]), (5, .hd [] (.t (.s (.string s45))) [])] (by cbv) ?_ ?_
            · exact (hq (hand_add h_s43) (hq trivial (hq (hC (spec_l2Digits_ac h_r44)) (hq (hand_add h_s45) hq0))))
            refine ⟨s45, h, Weak.of _ [(1, 1)] hA (by cbv) ?_⟩
            repeat (first | exact hq0 | refine hq (by first | exact True.intro | rfl) ?_)
          · have h := if_f c42 h
            refine Run.skip ?_
            refine ⟨y32, h, Weak.of _ [(1, 1)] hA (by cbv) ?_⟩
            repeat (first | exact hq0 | refine hq (by first | exact True.intro | rfl) ?_)
        · intro y40 h
          rw [h_K41] at h
          obtain ⟨K47, h_K47, h⟩ := joinE h
          refine Run.join1 K47 (r := r) (fun (y46 : ByteArray) => ⟨104, 100000, [(3, .pt 1 0 0), (5, .t (.s (.string y46)))], [(1, .box 35 [.t (.s (.int .i64 a1v_Table)), .t (.im false (eCond_c a1v_Where)), .t (.s (.int .i64 a1v_Order)), .t (.s (.bool a1v_Down)), .t (.s (.int .i64 a1v_First)), .t (.im false (eInt_c a1v_Show)), .t (.s (.bool a1v_Kids)), .t (.s (.int .i64 a1v_KidTable)), .t (.s (.int .i64 a1v_KidCol))])]⟩) ?_ ?_
          · skip
            refine Run.seq ?_
            refine Run.region hL hT [] (by cbv) ?_ ?_
            · exact hq0
            refine Run.block ?_
            refine Run.loop2 (fun (z59 : ByteArray) (z60 : Int) => ⟨104, 100000, [(3, .pt 1 0 0), (5, .t (.s (.string z59))), (8, .t (.s (.int .i64 z60)))], [(1, .box 35 [.t (.s (.int .i64 a1v_Table)), .t (.im false (eCond_c a1v_Where)), .t (.s (.int .i64 a1v_Order)), .t (.s (.bool a1v_Down)), .t (.s (.int .i64 a1v_First)), .t (.im false (eInt_c a1v_Show)), .t (.s (.bool a1v_Kids)), .t (.s (.int .i64 a1v_KidTable)), .t (.s (.int .i64 a1v_KidCol))])]⟩) (x0 := y40) (x1 := 0) h (Weak.of _ [(1, 1)] hA (by cbv) ?_) (fun _ _ => rfl) ?_
            · repeat (first | exact hq0 | refine hq (by first | exact True.intro | rfl) ?_)
            · intro k z59 z60 h
              rw [spec_QueryText.l1] at h
              refine Run.seq ?_
              refine Run.seq ?_
              refine Run.region hL hT [] (by cbv) ?_ ?_
              · exact (hq trivial (hq trivial hq0))
              rw [show ln (eInt_c a1v_Show) = lenI_Int a1v_Show from ln_eq Int_c _]
              refine Run.cond (by cbv) (hq0) (fun c61 => ?_) (fun c61 => ?_)
              · have h := if_t c61 h
                refine Run.skip ?_
                refine Run.seq ?_
                refine Run.block ?_
                obtain ⟨K63, h_K63, h⟩ := joinE h
                refine Run.join1 K63 (r := r) (fun (y62 : ByteArray) => ⟨104, 100000, [(3, .pt 1 0 0), (5, .t (.s (.string y62))), (8, .t (.s (.int .i64 z60)))], [(1, .box 35 [.t (.s (.int .i64 a1v_Table)), .t (.im false (eCond_c a1v_Where)), .t (.s (.int .i64 a1v_Order)), .t (.s (.bool a1v_Down)), .t (.s (.int .i64 a1v_First)), .t (.im false (eInt_c a1v_Show)), .t (.s (.bool a1v_Kids)), .t (.s (.int .i64 a1v_KidTable)), .t (.s (.int .i64 a1v_KidCol))])]⟩) ?_ ?_
                · skip
                  refine Run.seq ?_
                  refine Run.region hL hT [] (by cbv) ?_ ?_
                  · exact (hq trivial hq0)
                  refine Run.cond (by cbv) (hq0) (fun c64 => ?_) (fun c64 => ?_)
                  · have h := if_t c64 h
                    obtain ⟨s65, h_s65, h⟩ := bnd h
                    refine Run.region hL hT [(1, .hd [] (.t (.s (.string s65))) [])] (by cbv) ?_ ?_
                    · exact (hq (hand_add h_s65) hq0)
                    refine ⟨s65, h, Weak.of _ [(1, 1)] hA (by cbv) ?_⟩
                    repeat (first | exact hq0 | refine hq (by first | exact True.intro | rfl) ?_)
                  · have h := if_f c64 h
                    refine Run.skip ?_
                    refine ⟨z59, h, Weak.of _ [(1, 1)] hA (by cbv) ?_⟩
                    repeat (first | exact hq0 | refine hq (by first | exact True.intro | rfl) ?_)
                · intro y62 h
                  rw [h_K63] at h
                  obtain ⟨s66, h_s66, h⟩ := bnd h
                  obtain ⟨x67, h_x67, h⟩ := bnd h
                  obtain ⟨r68, h_r68, h⟩ := bnd h
                  obtain ⟨s69, h_s69, h⟩ := bnd h
                  refine Run.region hL hT [(1, .hd [] (.t (.s (.string s66))) []), (5, .el [.s (.int .i64 x67)]), (7, .call [false] [.v (.jk)] [.v (.s (.string r68))]), (8, .hd [] (.t (.s (.string s69))) [])] (by cbv) ?_ ?_
                  · exact (hq (hand_add h_s66) (hq trivial (hq (get_le h_x67) (hq (get_lt (f := Int_c) h_x67) (hq (get_ge (f := Int_c) h_x67) (hq (hC (spec_l2Digits_ac h_r68)) (hq (hand_add h_s69) hq0)))))))
                  refine Run.region hL hT [] (by cbv) ?_ ?_
                  · exact (hq trivial hq0)
                  refine ⟨s69, (ar .add .i64 z60 1), h, Weak.of _ [(1, 1)] hA (by cbv) ?_⟩
                  repeat (first | exact hq0 | refine hq (by first | exact True.intro | rfl) ?_)
              · have h := if_f c61 h
                refine Run.exit ?_
                refine ⟨z59, h, Weak.of _ [(1, 1)] hA (by cbv) ?_⟩
                repeat (first | exact hq0 | refine hq (by first | exact True.intro | rfl) ?_)
          · intro y46 h
            rw [h_K47] at h
            refine Run.seq ?_
            refine Run.seq ?_
            refine Run.region hL hT [] (by cbv) ?_ ?_
            · exact (hq trivial hq0)
            refine Run.cond (by cbv) (hq0) (fun c70 => ?_) (fun c70 => ?_)
            · have h := if_t c70 h
              obtain ⟨s71, h_s71, h⟩ := bnd h
              obtain ⟨r72, h_r72, h⟩ := bnd h
              obtain ⟨s73, h_s73, h⟩ := bnd h
              obtain ⟨s74, h_s74, h⟩ := bnd h
              obtain ⟨r75, h_r75, h⟩ := bnd h
              obtain ⟨s76, h_s76, h⟩ := bnd h
              refine Run.draw hL hT hM [(1, .hd [] (.t (.s (.string s71))) []), (4, .call [false] [.v (.jk)] [.v (.s (.string r72))]), (5, .hd [] (.t (.s (.string s73))) []), (6, .hd [] (.t (.s (.string s74))) []), (9, .call [false] [.v (.jk)] [.v (.s (.string r75))]), (10, .hd [] (.t (.s (.string s76))) [])] (by cbv) (collect_cons (by cbv) (by cbv) (collect_cons (by cbv) (by cbv) (collect_cons (by cbv) (by cbv) (collect_cons (by cbv) (by cbv) (collect_cons (by cbv) (by cbv) (collect_cons (by cbv) (by cbv) (collect_cons (by cbv) (by cbv) (collect_cons (by cbv) (by cbv) (collect_cons (by cbv) (by cbv) (collect_cons (by cbv) (by cbv) (collect_cons (by cbv) (by cbv) (collect_cons (by cbv) (by cbv) collect_nil)))))))))))) (by cbv) (by cbv) (by cbv) ?_ ?_
              · exact (hq (hand_add h_s71) (hq trivial (hq (hC (spec_l2Digits_ac h_r72)) (hq (hand_add h_s73) (hq (hand_add h_s74) (hq trivial (hq (hC (spec_l2Digits_ac h_r75)) (hq (hand_add h_s76) hq0))))))))
              refine Run.seq ?_
              refine Run.region hL hT [] (by cbv) ?_ ?_
              · exact hq0
              refine Run.ret ?_
              cases h
              refine ⟨_, _, by cbv, ?_, ?_⟩
              · exact LLe.r
              · exact (ALe.v LLe.r ALe.nil)
            · have h := if_f c70 h
              refine Run.skip ?_
              refine Run.seq ?_
              refine Run.region hL hT [] (by cbv) ?_ ?_
              · exact hq0
              refine Run.ret ?_
              cases h
              refine ⟨_, _, by cbv, ?_, ?_⟩
              · exact LLe.r
              · exact (ALe.v LLe.r ALe.nil)

theorem laws_toIntS_ac {a0 : List Int} {r : (List Int)} (h : laws_toIntS.f a0 = some r) : AC Tryd.prog 17 [.v (.im false (rowsOf Int_c a0))] [.v (.jk)] [.v (.ow 3 (rowsOf Int_c r))] := by
  unfold laws_toIntS.f at h
  let eInt_c := rowsOf Int_c
  let lenI_Int := @lenI Int
  show AC Tryd.prog 17 [.v (.im false (eInt_c a0))] _ _
  refine run3 Tryd.func17 (by rfl) (by rfl) (by cbv) ⟨by decide, rfl⟩ ?_
  intro ar cm bo sc sa sx ss sl bs sb ln sr ap up rp fr ge le lt nz mm ma sm fl al ci hL F hP hA hT hM hC
  refine Run.seq ?_
  refine Run.region hL hT [] (by cbv) ?_ ?_
  · exact hq0
  refine Run.seq ?_
  obtain ⟨l1, h_l1, h⟩ := bnd h
  refine Run.region hL hT [] (by cbv) ?_ ?_
  · exact (hq trivial (hq (by rw [show ln (eInt_c a0) = lenI_Int a0 from ln_eq Int_c _]; exact (mk_0 h_l1)) (hq (by rw [show ln (eInt_c a0) = lenI_Int a0 from ln_eq Int_c _]; exact (mk_mm h_l1)) hq0)))
  rw [show ln (eInt_c a0) = lenI_Int a0 from ln_eq Int_c _]
  refine Run.row (rows := (rp (lenI_Int a0) [.s (.int .i64 0)])) 4098 (eInt_c l1) (by cbv) (mk_le (f := Int_c) rfl LLe.r h_l1) ?_
  refine Run.seq ?_
  refine Run.seq ?_
  refine Run.region hL hT [] (by cbv) ?_ ?_
  · exact hq0
  refine Run.block ?_
  refine Run.loop2 (fun (z5 : List Int) (z6 : Int) => ⟨22, 100000, [(0, .t (.im false (eInt_c a0))), (3, .rf 1), (4, .t (.s (.int .i64 z6)))], [(1, .row 0 3 1 (eInt_c z5))]⟩) (x0 := l1) (x1 := 0) h (Weak.of _ [(1, 4098)] hA (by cbv) ?_) (fun _ _ => rfl) ?_
  · repeat (first | exact hq0 | refine hq (by first | exact True.intro | rfl) ?_)
  · intro k z5 z6 h
    rw [laws_toIntS.l0] at h
    refine Run.seq ?_
    refine Run.seq ?_
    refine Run.region hL hT [] (by cbv) ?_ ?_
    · exact (hq trivial hq0)
    rw [show ln (eInt_c a0) = lenI_Int a0 from ln_eq Int_c _]
    refine Run.cond (by cbv) (hq0) (fun c7 => ?_) (fun c7 => ?_)
    · have h := if_t c7 h
      refine Run.skip ?_
      refine Run.seq ?_
      refine Run.block ?_
      obtain ⟨x8, h_x8, h⟩ := bnd h
      obtain ⟨x9, h_x9, h⟩ := bnd h
      obtain ⟨l10, h_l10, h⟩ := bnd h
      refine Run.region hL hT [(4, .el [.s (.int .i64 x8)])] (by cbv) ?_ ?_
      · exact (hq (get_le h_x8) (hq (get_lt (f := Int_c) h_x8) (hq (get_ge (f := Int_c) h_x8) (hq (get_le h_x9) (hq (get_lt (f := Int_c) h_x9) (hq (get_le h_x9) (hq (get_lt (f := Int_c) h_x9) hq0)))))))
      refine Run.row (rows := (up (eInt_c z5) z6 0 [.s (.int .i64 x8)])) 1 (eInt_c l10) (by cbv) (sto_le (f := Int_c) h_x9 h_l10 rfl LLe.r) ?_
      refine Run.region hL hT [] (by cbv) ?_ ?_
      · exact (hq trivial hq0)
      refine ⟨l10, (ar .add .i64 z6 1), h, Weak.of _ [(1, 1)] hA (by cbv) ?_⟩
      repeat (first | exact hq0 | refine hq (by first | exact True.intro | rfl) ?_)
    · have h := if_f c7 h
      refine Run.exit ?_
      refine Run.seq ?_
      refine Run.region hL hT [] (by cbv) ?_ ?_
      · exact hq0
      refine Run.ret ?_
      cases h
      refine ⟨_, _, by cbv, ?_, ?_⟩
      · exact LLe.r
      · exact (ALe.v LLe.r ALe.nil)

theorem laws_toSchema_ac {a0v_Cols : List Int} {r : Schema} (h : laws_toSchema.f (Schema.mk a0v_Cols) = some r) : AC Tryd.prog 7 [.ag [.im false (rowsOf Int_c a0v_Cols)]] [.ag [.jk]] [.ag [.ow 3 (rowsOf Int_c r.Cols)]] := by
  unfold laws_toSchema.f at h
  let eInt_c := rowsOf Int_c
  show AC Tryd.prog 7 [.ag [.im false (eInt_c a0v_Cols)]] _ _
  refine run3 Tryd.func7 (by rfl) (by rfl) (by cbv) ⟨by decide, rfl⟩ ?_
  intro ar cm bo sc sa sx ss sl bs sb ln sr ap up rp fr ge le lt nz mm ma sm fl al ci hL F hP hA hT hM hC
  refine Run.seq ?_
  refine Run.region hL hT [] (by cbv) ?_ ?_
  · exact hq0
  refine Run.seq ?_
  refine Run.region hL hT [] (by cbv) ?_ ?_
  · exact hq0
  refine Run.seq ?_
  obtain ⟨r1, h_r1, h⟩ := bnd h
  refine Run.region hL hT [(2, .call [false] [.v (.jk)] [.v (.ow 3 (eInt_c r1))])] (by cbv) ?_ ?_
  · exact (hq trivial (hq (hC (laws_toIntS_ac h_r1)) (hq trivial hq0)))
  refine Run.seq ?_
  refine Run.region hL hT [] (by cbv) ?_ ?_
  · exact (hq trivial (hq trivial hq0))
  refine Run.ret ?_
  cases h
  refine ⟨_, _, by cbv, ?_, ?_⟩
  · exact LLe.r
  · exact (ALe.ag rfl LLe.r ALe.nil)

theorem laws_toCond_ac {a0v_Col : Int} {a0v_Op : Int} {a0v_V : Int} {r : Cond} (h : laws_toCond.f (Cond.mk a0v_Col a0v_Op a0v_V) = some r) : AC Tryd.prog 26 [.ag [.s (.int .i64 a0v_Col), .s (.int .i64 a0v_Op), .s (.int .i64 a0v_V)]] [.ag [.jk, .jk, .jk]] [.ag [.s (.int .i64 r.Col), .s (.int .i64 r.Op), .s (.int .i64 r.V)]] := by
  unfold laws_toCond.f at h
  show AC Tryd.prog 26 [.ag [.s (.int .i64 a0v_Col), .s (.int .i64 a0v_Op), .s (.int .i64 a0v_V)]] _ _
  refine run3 Tryd.func26 (by rfl) (by rfl) (by cbv) ⟨by decide, rfl⟩ ?_
  intro ar cm bo sc sa sx ss sl bs sb ln sr ap up rp fr ge le lt nz mm ma sm fl al ci hL F hP hA hT hM hC
  refine Run.seq ?_
  refine Run.region hL hT [] (by cbv) ?_ ?_
  · exact hq0
  refine Run.seq ?_
  refine Run.region hL hT [] (by cbv) ?_ ?_
  · exact hq0
  refine Run.seq ?_
  refine Run.region hL hT [] (by cbv) ?_ ?_
  · exact (hq trivial (hq trivial hq0))
  refine Run.seq ?_
  refine Run.region hL hT [] (by cbv) ?_ ?_
  · exact (hq trivial (hq trivial hq0))
  refine Run.seq ?_
  refine Run.region hL hT [] (by cbv) ?_ ?_
  · exact (hq trivial (hq trivial hq0))
  refine Run.seq ?_
  refine Run.region hL hT [] (by cbv) ?_ ?_
  · exact (hq trivial (hq trivial hq0))
  refine Run.ret ?_
  cases h
  refine ⟨_, _, by cbv, ?_, ?_⟩
  · exact LLe.r
  · exact (ALe.ag rfl LLe.r ALe.nil)

theorem laws_toCondS_ac {a0 : List Cond} {r : (List Cond)} (h : laws_toCondS.f a0 = some r) : AC Tryd.prog 18 [.v (.im false (rowsOf Cond_c a0))] [.v (.jk)] [.v (.ow 45 (rowsOf Cond_c r))] := by
  unfold laws_toCondS.f at h
  let eCond_c := rowsOf Cond_c
  let lenI_Cond := @lenI Cond
  show AC Tryd.prog 18 [.v (.im false (eCond_c a0))] _ _
  refine run3 Tryd.func18 (by rfl) (by rfl) (by cbv) ⟨by decide, rfl⟩ ?_
  intro ar cm bo sc sa sx ss sl bs sb ln sr ap up rp fr ge le lt nz mm ma sm fl al ci hL F hP hA hT hM hC
  refine Run.seq ?_
  refine Run.region hL hT [] (by cbv) ?_ ?_
  · exact hq0
  refine Run.seq ?_
  obtain ⟨l1, h_l1, h⟩ := bnd h
  refine Run.region hL hT [] (by cbv) ?_ ?_
  · exact (hq trivial (hq (by rw [show ln (eCond_c a0) = lenI_Cond a0 from ln_eq Cond_c _]; exact (mk_0 h_l1)) (hq (by rw [show ln (eCond_c a0) = lenI_Cond a0 from ln_eq Cond_c _]; exact (mk_mm h_l1)) hq0)))
  rw [show ln (eCond_c a0) = lenI_Cond a0 from ln_eq Cond_c _]
  refine Run.row (rows := (rp (lenI_Cond a0) [.s (.int .i64 0), .s (.int .i64 0), .s (.int .i64 0)])) 4098 (eCond_c l1) (by cbv) (mk_le (f := Cond_c) rfl LLe.r h_l1) ?_
  refine Run.seq ?_
  refine Run.seq ?_
  refine Run.region hL hT [] (by cbv) ?_ ?_
  · exact hq0
  refine Run.block ?_
  refine Run.loop2 (fun (z5 : List Cond) (z6 : Int) => ⟨23, 100000, [(0, .t (.im false (eCond_c a0))), (3, .rf 1), (4, .t (.s (.int .i64 z6)))], [(1, .row 0 45 3 (eCond_c z5))]⟩) (x0 := l1) (x1 := 0) h (Weak.of _ [(1, 4098)] hA (by cbv) ?_) (fun _ _ => rfl) ?_
  · repeat (first | exact hq0 | refine hq (by first | exact True.intro | rfl) ?_)
  · intro k z5 z6 h
    rw [laws_toCondS.l0] at h
    refine Run.seq ?_
    refine Run.seq ?_
    refine Run.region hL hT [] (by cbv) ?_ ?_
    · exact (hq trivial hq0)
    rw [show ln (eCond_c a0) = lenI_Cond a0 from ln_eq Cond_c _]
    refine Run.cond (by cbv) (hq0) (fun c7 => ?_) (fun c7 => ?_)
    · have h := if_t c7 h
      refine Run.skip ?_
      refine Run.seq ?_
      refine Run.block ?_
      obtain ⟨⟨x8v_Col, x8v_Op, x8v_V⟩, h_x8, h⟩ := bnd h
      obtain ⟨⟨r9v_Col, r9v_Op, r9v_V⟩, h_r9, h⟩ := bnd h
      obtain ⟨⟨x10v_Col, x10v_Op, x10v_V⟩, h_x10, h⟩ := bnd h
      obtain ⟨l11, h_l11, h⟩ := bnd h
      refine Run.region hL hT [(4, .el [.s (.int .i64 x8v_Col), .s (.int .i64 x8v_Op), .s (.int .i64 x8v_V)]), (6, .call [false] [.ag [.jk, .jk, .jk]] [.ag [.s (.int .i64 r9v_Col), .s (.int .i64 r9v_Op), .s (.int .i64 r9v_V)]])] (by cbv) ?_ ?_
      · exact (hq (get_le h_x8) (hq (get_lt (f := Cond_c) h_x8) (hq (get_ge (f := Cond_c) h_x8) (hq (hC (laws_toCond_ac h_r9)) (hq (get_le h_x10) (hq (get_lt (f := Cond_c) h_x10) (hq (get_le h_x10) (hq (get_lt (f := Cond_c) h_x10) hq0))))))))
      refine Run.row (rows := (up (eCond_c z5) z6 0 [.s (.int .i64 r9v_Col), .s (.int .i64 r9v_Op), .s (.int .i64 r9v_V)])) 1 (eCond_c l11) (by cbv) (sto_le (f := Cond_c) h_x10 h_l11 rfl LLe.r) ?_
      refine Run.region hL hT [] (by cbv) ?_ ?_
      · exact (hq trivial hq0)
      refine ⟨l11, (ar .add .i64 z6 1), h, Weak.of _ [(1, 1)] hA (by cbv) ?_⟩
      repeat (first | exact hq0 | refine hq (by first | exact True.intro | rfl) ?_)
    · have h := if_f c7 h
      refine Run.exit ?_
      refine Run.seq ?_
      refine Run.region hL hT [] (by cbv) ?_ ?_
      · exact hq0
      refine Run.ret ?_
      cases h
      refine ⟨_, _, by cbv, ?_, ?_⟩
      · exact LLe.r
      · exact (ALe.v LLe.r ALe.nil)

theorem laws_toQuery_ac {a0v_Table : Int} {a0v_Where : List Cond} {a0v_Order : Int} {a0v_Down : Bool} {a0v_First : Int} {a0v_Show : List Int} {a0v_Kids : Bool} {a0v_KidTable : Int} {a0v_KidCol : Int} {r : Query} (h : laws_toQuery.f (Query.mk a0v_Table a0v_Where a0v_Order a0v_Down a0v_First a0v_Show a0v_Kids a0v_KidTable a0v_KidCol) = some r) : AC Tryd.prog 8 [.ag [.s (.int .i64 a0v_Table), .im false (rowsOf Cond_c a0v_Where), .s (.int .i64 a0v_Order), .s (.bool a0v_Down), .s (.int .i64 a0v_First), .im false (rowsOf Int_c a0v_Show), .s (.bool a0v_Kids), .s (.int .i64 a0v_KidTable), .s (.int .i64 a0v_KidCol)]] [.ag [.jk, .jk, .jk, .jk, .jk, .jk, .jk, .jk, .jk]] [.ag [.s (.int .i64 r.Table), .ow 45 (rowsOf Cond_c r.Where), .s (.int .i64 r.Order), .s (.bool r.Down), .s (.int .i64 r.First), .ow 3 (rowsOf Int_c r.Show), .s (.bool r.Kids), .s (.int .i64 r.KidTable), .s (.int .i64 r.KidCol)]] := by
  unfold laws_toQuery.f at h
  let eCond_c := rowsOf Cond_c
  let eInt_c := rowsOf Int_c
  show AC Tryd.prog 8 [.ag [.s (.int .i64 a0v_Table), .im false (eCond_c a0v_Where), .s (.int .i64 a0v_Order), .s (.bool a0v_Down), .s (.int .i64 a0v_First), .im false (eInt_c a0v_Show), .s (.bool a0v_Kids), .s (.int .i64 a0v_KidTable), .s (.int .i64 a0v_KidCol)]] _ _
  refine run3 Tryd.func8 (by rfl) (by rfl) (by cbv) ⟨by decide, rfl⟩ ?_
  intro ar cm bo sc sa sx ss sl bs sb ln sr ap up rp fr ge le lt nz mm ma sm fl al ci hL F hP hA hT hM hC
  refine Run.seq ?_
  refine Run.region hL hT [] (by cbv) ?_ ?_
  · exact hq0
  refine Run.seq ?_
  refine Run.region hL hT [] (by cbv) ?_ ?_
  · exact hq0
  refine Run.seq ?_
  refine Run.region hL hT [] (by cbv) ?_ ?_
  · exact (hq trivial (hq trivial hq0))
  refine Run.seq ?_
  obtain ⟨r1, h_r1, h⟩ := bnd h
  refine Run.region hL hT [(2, .call [false] [.v (.jk)] [.v (.ow 45 (eCond_c r1))])] (by cbv) ?_ ?_
  · exact (hq trivial (hq (hC (laws_toCondS_ac h_r1)) (hq trivial hq0)))
  refine Run.seq ?_
  refine Run.region hL hT [] (by cbv) ?_ ?_
  · exact (hq trivial (hq trivial hq0))
  refine Run.seq ?_
  refine Run.region hL hT [] (by cbv) ?_ ?_
  · exact (hq trivial (hq trivial hq0))
  refine Run.seq ?_
  refine Run.region hL hT [] (by cbv) ?_ ?_
  · exact (hq trivial (hq trivial hq0))
  refine Run.seq ?_
  obtain ⟨r2, h_r2, h⟩ := bnd h
  refine Run.region hL hT [(2, .call [false] [.v (.jk)] [.v (.ow 3 (eInt_c r2))])] (by cbv) ?_ ?_
  · exact (hq trivial (hq (hC (laws_toIntS_ac h_r2)) (hq trivial hq0)))
  refine Run.seq ?_
  refine Run.region hL hT [] (by cbv) ?_ ?_
  · exact (hq trivial (hq trivial hq0))
  refine Run.seq ?_
  refine Run.region hL hT [] (by cbv) ?_ ?_
  · exact (hq trivial (hq trivial hq0))
  refine Run.seq ?_
  refine Run.region hL hT [] (by cbv) ?_ ?_
  · exact (hq trivial (hq trivial hq0))
  refine Run.seq ?_
  refine Run.region hL hT [] (by cbv) ?_ ?_
  · exact (hq trivial (hq trivial hq0))
  refine Run.ret ?_
  cases h
  refine ⟨_, _, by cbv, ?_, ?_⟩
  · exact LLe.r
  · exact (ALe.ag rfl LLe.r ALe.nil)

theorem impl_within_ac {a0 : Int} {a1 : Int} {a2 : Int} {r : Bool} (h : impl_within.f a0 a1 a2 = some r) : AC Tryd.prog 29 [.v (.s (.int .i64 a0)), .v (.s (.int .i64 a1)), .v (.s (.int .i64 a2))] [.v (.jk), .v (.jk), .v (.jk)] [.v (.s (.bool r))] := by
  unfold impl_within.f at h
  show AC Tryd.prog 29 [.v (.s (.int .i64 a0)), .v (.s (.int .i64 a1)), .v (.s (.int .i64 a2))] _ _
  refine run3 Tryd.func29 (by rfl) (by rfl) (by cbv) ⟨by decide, rfl⟩ ?_
  intro ar cm bo sc sa sx ss sl bs sb ln sr ap up rp fr ge le lt nz mm ma sm fl al ci hL F hP hA hT hM hC
  refine Run.seq ?_
  refine Run.region hL hT [] (by cbv) ?_ ?_
  · exact hq0
  refine Run.seq ?_
  refine Run.region hL hT [] (by cbv) ?_ ?_
  · exact (hq trivial (hq (fun _ => hq0) (hq (fun _ => hq0) (hq (fun g3 => (hq g3 (hq g3 (hq trivial hq0)))) (hq (fun q4 => (hq q4 hq0)) (hq (fun _ => hq0) hq0))))))
  refine Run.ret ?_
  cases h
  refine ⟨_, _, by cbv, ?_, ?_⟩
  · exact LLe.r
  · exact (ALe.v LLe.r ALe.nil)

theorem impl_SchemaOk_ac {a0v_Cols : List Int} {r : Bool} (h : impl_SchemaOk.f (Schema.mk a0v_Cols) = some r) : AC Tryd.prog 27 [.ag [.im false (rowsOf Int_c a0v_Cols)]] [.ag [.jk]] [.v (.s (.bool r))] := by
  unfold impl_SchemaOk.f at h
  let eInt_c := rowsOf Int_c
  let lenI_Int := @lenI Int
  show AC Tryd.prog 27 [.ag [.im false (eInt_c a0v_Cols)]] _ _
  refine run3 Tryd.func27 (by rfl) (by rfl) (by cbv) ⟨by decide, rfl⟩ ?_
  intro ar cm bo sc sa sx ss sl bs sb ln sr ap up rp fr ge le lt nz mm ma sm fl al ci hL F hP hA hT hM hC
  refine Run.seq ?_
  refine Run.region hL hT [] (by cbv) ?_ ?_
  · exact hq0
  obtain ⟨K2, h_K2, h⟩ := joinE h
  refine Run.join1 K2 (r := r) (fun (y1 : Unit) => ⟨20, 100000, [(1, .pt 1 0 0)], [(1, .box 31 [.t (.im false (eInt_c a0v_Cols))])]⟩) ?_ ?_
  · skip
    refine Run.seq ?_
    refine Run.region hL hT [] (by cbv) ?_ ?_
    · exact (hq trivial hq0)
    rw [show ln (eInt_c a0v_Cols) = lenI_Int a0v_Cols from ln_eq Int_c _]
    refine Run.block ?_
    refine Run.loop1 (fun (z7 : Int) => ⟨20, 100000, [(1, .pt 1 0 0), (6, .t (.im false (eInt_c a0v_Cols))), (7, .t (.s (.int .i64 (lenI_Int a0v_Cols)))), (8, .t (.s (.int .i64 z7)))], [(1, .box 31 [.t (.im false (eInt_c a0v_Cols))])]⟩) (x0 := 0) h (Weak.of _ [(1, 0)] hA (by cbv) ?_) (fun _ => rfl) ?_
    · repeat (first | exact hq0 | refine hq (by first | exact True.intro | rfl) ?_)
    · intro k z7 h
      rw [impl_SchemaOk.l0] at h
      refine Run.seq ?_
      refine Run.region hL hT [] (by cbv) ?_ ?_
      · exact (hq trivial hq0)
      refine Run.seq ?_
      refine Run.cond (by cbv) (hq0) (fun c8 => ?_) (fun c8 => ?_)
      · have h := if_t c8 h
        refine Run.skip ?_
        refine Run.seq ?_
        refine Run.block ?_
        refine Run.seq ?_
        obtain ⟨x9, h_x9, h⟩ := bnd h
        refine Run.region hL hT [(0, .el [.s (.int .i64 x9)])] (by cbv) ?_ ?_
        · exact (hq (get_le h_x9) (hq (get_lt (f := Int_c) h_x9) (hq (get_ge (f := Int_c) h_x9) hq0)))
        refine Run.seq ?_
        obtain ⟨r10, h_r10, h⟩ := bnd h
        refine Run.region hL hT [(1, .call [false, false, false] [.v (.jk), .v (.jk), .v (.jk)] [.v (.s (.bool r10))])] (by cbv) ?_ ?_
        · exact (hq (hC (impl_within_ac h_r10)) hq0)
        refine Run.cond (by cbv) (hq0) (fun c11 => ?_) (fun c11 => ?_)
        · have h := if_t c11 h
          refine Run.seq ?_
          refine Run.region hL hT [] (by cbv) ?_ ?_
          · exact hq0
          refine Run.ret ?_
          cases h
          refine ⟨_, _, by cbv, ?_, ?_⟩
          · exact LLe.r
          · exact (ALe.v LLe.r ALe.nil)
        · have h := if_f c11 h
          refine Run.skip ?_
          refine Run.region hL hT [] (by cbv) ?_ ?_
          · exact (hq trivial hq0)
          refine ⟨(ar .add .i64 z7 1), h, Weak.of _ [(1, 1)] hA (by cbv) ?_⟩
          repeat (first | exact hq0 | refine hq (by first | exact True.intro | rfl) ?_)
      · have h := if_f c8 h
        refine Run.exit ?_
        refine ⟨(), h, Weak.of _ [(1, 1)] hA (by cbv) ?_⟩
        repeat (first | exact hq0 | refine hq (by first | exact True.intro | rfl) ?_)
  · intro y1 h
    rw [h_K2] at h
    refine Run.seq ?_
    obtain ⟨r12, h_r12, h⟩ := bnd h
    refine Run.region hL hT [(3, .call [false, false, false] [.v (.jk), .v (.jk), .v (.jk)] [.v (.s (.bool r12))])] (by cbv) ?_ ?_
    · exact (hq trivial (hq (by rw [show ln (eInt_c a0v_Cols) = lenI_Int a0v_Cols from ln_eq Int_c _]; exact (hC (impl_within_ac h_r12))) hq0))
    rw [show ln (eInt_c a0v_Cols) = lenI_Int a0v_Cols from ln_eq Int_c _]
    refine Run.ret ?_
    cases h
    refine ⟨_, _, by cbv, ?_, ?_⟩
    · exact LLe.r
    · exact (ALe.v LLe.r ALe.nil)

theorem impl_hasTable_ac {a0v_Cols : List Int} {a1 : Int} {r : Bool} (h : impl_hasTable.f (Schema.mk a0v_Cols) a1 = some r) : AC Tryd.prog 28 [.ag [.im false (rowsOf Int_c a0v_Cols)], .v (.s (.int .i64 a1))] [.ag [.jk], .v (.jk)] [.v (.s (.bool r))] := by
  unfold impl_hasTable.f at h
  let eInt_c := rowsOf Int_c
  let lenI_Int := @lenI Int
  show AC Tryd.prog 28 [.ag [.im false (eInt_c a0v_Cols)], .v (.s (.int .i64 a1))] _ _
  refine run3 Tryd.func28 (by rfl) (by rfl) (by cbv) ⟨by decide, rfl⟩ ?_
  intro ar cm bo sc sa sx ss sl bs sb ln sr ap up rp fr ge le lt nz mm ma sm fl al ci hL F hP hA hT hM hC
  refine Run.seq ?_
  refine Run.region hL hT [] (by cbv) ?_ ?_
  · exact hq0
  refine Run.seq ?_
  obtain ⟨r1, h_r1, h⟩ := bnd h
  refine Run.region hL hT [(5, .call [false, false, false] [.v (.jk), .v (.jk), .v (.jk)] [.v (.s (.bool r1))])] (by cbv) ?_ ?_
  · exact (hq trivial (hq trivial (hq (by rw [show ln (eInt_c a0v_Cols) = lenI_Int a0v_Cols from ln_eq Int_c _]; exact (hC (impl_within_ac h_r1))) hq0)))
  rw [show ln (eInt_c a0v_Cols) = lenI_Int a0v_Cols from ln_eq Int_c _]
  refine Run.ret ?_
  cases h
  refine ⟨_, _, by cbv, ?_, ?_⟩
  · exact LLe.r
  · exact (ALe.v LLe.r ALe.nil)

theorem impl_isNum_ac {a0 : Int} {r : Bool} (h : impl_isNum.f a0 = some r) : AC Tryd.prog 30 [.v (.s (.int .i64 a0))] [.v (.jk)] [.v (.s (.bool r))] := by
  unfold impl_isNum.f at h
  show AC Tryd.prog 30 [.v (.s (.int .i64 a0))] _ _
  refine run3 Tryd.func30 (by rfl) (by rfl) (by cbv) ⟨by decide, rfl⟩ ?_
  intro ar cm bo sc sa sx ss sl bs sb ln sr ap up rp fr ge le lt nz mm ma sm fl al ci hL F hP hA hT hM hC
  refine Run.seq ?_
  refine Run.region hL hT [] (by cbv) ?_ ?_
  · exact hq0
  refine Run.seq ?_
  obtain ⟨r1, h_r1, h⟩ := bnd h
  refine Run.region hL hT [(1, .call [false, false, false] [.v (.jk), .v (.jk), .v (.jk)] [.v (.s (.bool r1))])] (by cbv) ?_ ?_
  · exact (hq (hC (impl_within_ac h_r1)) hq0)
  refine Run.ret ?_
  cases h
  refine ⟨_, _, by cbv, ?_, ?_⟩
  · exact LLe.r
  · exact (ALe.v LLe.r ALe.nil)

theorem impl_kidsFit_ac {a0v_Cols : List Int} {a1v_Table : Int} {a1v_Where : List Cond} {a1v_Order : Int} {a1v_Down : Bool} {a1v_First : Int} {a1v_Show : List Int} {a1v_Kids : Bool} {a1v_KidTable : Int} {a1v_KidCol : Int} {r : Bool} (h : impl_kidsFit.f (Schema.mk a0v_Cols) (Query.mk a1v_Table a1v_Where a1v_Order a1v_Down a1v_First a1v_Show a1v_Kids a1v_KidTable a1v_KidCol) = some r) : AC Tryd.prog 31 [.ag [.im false (rowsOf Int_c a0v_Cols)], .ag [.s (.int .i64 a1v_Table), .im false (rowsOf Cond_c a1v_Where), .s (.int .i64 a1v_Order), .s (.bool a1v_Down), .s (.int .i64 a1v_First), .im false (rowsOf Int_c a1v_Show), .s (.bool a1v_Kids), .s (.int .i64 a1v_KidTable), .s (.int .i64 a1v_KidCol)]] [.ag [.jk], .ag [.jk, .jk, .jk, .jk, .jk, .jk, .jk, .jk, .jk]] [.v (.s (.bool r))] := by
  unfold impl_kidsFit.f at h
  let eCond_c := rowsOf Cond_c
  let eInt_c := rowsOf Int_c
  show AC Tryd.prog 31 [.ag [.im false (eInt_c a0v_Cols)], .ag [.s (.int .i64 a1v_Table), .im false (eCond_c a1v_Where), .s (.int .i64 a1v_Order), .s (.bool a1v_Down), .s (.int .i64 a1v_First), .im false (eInt_c a1v_Show), .s (.bool a1v_Kids), .s (.int .i64 a1v_KidTable), .s (.int .i64 a1v_KidCol)]] _ _
  refine run3 Tryd.func31 (by rfl) (by rfl) (by cbv) ⟨by decide, rfl⟩ ?_
  intro ar cm bo sc sa sx ss sl bs sb ln sr ap up rp fr ge le lt nz mm ma sm fl al ci hL F hP hA hT hM hC
  refine Run.seq ?_
  refine Run.region hL hT [] (by cbv) ?_ ?_
  · exact hq0
  refine Run.seq ?_
  refine Run.seq ?_
  refine Run.region hL hT [] (by cbv) ?_ ?_
  · exact (hq trivial hq0)
  refine Run.cond (by cbv) (hq0) (fun c1 => ?_) (fun c1 => ?_)
  · have h := if_t c1 h
    refine Run.seq ?_
    refine Run.region hL hT [] (by cbv) ?_ ?_
    · exact (hq trivial (hq trivial (hq (fun _ => hq0) (hq (fun g3 => (hq g3 (hq trivial hq0))) (hq (fun g4 => (hq g4 (hq trivial hq0))) (hq (fun q5 => (hq q5 hq0)) (hq (fun _ => hq0) hq0)))))))
    refine Run.ret ?_
    cases h
    refine ⟨_, _, by cbv, ?_, ?_⟩
    · exact LLe.r
    · exact (ALe.v LLe.r ALe.nil)
  · have h := if_f c1 h
    refine Run.skip ?_
    refine Run.seq ?_
    obtain ⟨r7, h_r7, h⟩ := bnd h
    obtain ⟨x8, h_x8, h⟩ := bnd h
    obtain ⟨r9, h_r9, h⟩ := bnd h
    refine Run.draw hL hT hM [(3, .call [false, false] [.ag [.jk], .v (.jk)] [.v (.s (.bool r7))]), (11, .el [.s (.int .i64 x8)]), (14, .call [false, false, false] [.v (.jk), .v (.jk), .v (.jk)] [.v (.s (.bool r9))])] (by cbv) (collect_cons (by cbv) (by cbv) (collect_cons (by cbv) (by cbv) (collect_cons (by cbv) (by cbv) (collect_cons (by cbv) (by cbv) (collect_cons (by cbv) (by cbv) (collect_cons (by cbv) (by cbv) (collect_cons (by cbv) (by cbv) (collect_cons (by cbv) (by cbv) (collect_cons (by cbv) (by cbv) (collect_cons (by cbv) (by cbv) (collect_cons (by cbv) (by cbv) (collect_cons (by cbv) (by cbv) (collect_cons (by cbv) (by cbv) (collect_cons (by cbv) (by cbv) (collect_cons (by cbv) (by cbv) (collect_cons (by cbv) (by cbv) (collect_cons (by cbv) (by cbv) collect_nil))))))))))))))))) (by cbv) (by cbv) (by cbv) ?_ ?_
    · exact (hq trivial (hq trivial (hq (hC (impl_hasTable_ac h_r7)) (hq (fun _ => hq0) (hq (fun g11 => (hq g11 (hq trivial hq0))) (hq (fun _ => hq0) (hq (fun g13 => (hq g13 (hq trivial hq0))) (hq (fun _ => hq0) (hq (fun g15 => (hq g15 (hq trivial hq0))) (hq (fun g16 => (hq g16 (hq g16 (hq (get_le (gd_t h_x8 g16)) (hq (get_lt (f := Int_c) (gd_t h_x8 g16)) (hq (get_ge (f := Int_c) (gd_t h_x8 g16)) hq0)))))) (hq (fun g17 => (hq g17 hq0)) (hq (fun g18 => (hq g18 (hq trivial hq0))) (hq (fun g19 => (hq g19 (hq g19 (hq (hC (impl_within_ac (gd_t h_r9 g19))) hq0)))) (hq (fun q20 => (hq q20 hq0)) (hq (fun _ => hq0) hq0)))))))))))))))
    refine Run.ret ?_
    cases h
    refine ⟨_, _, by cbv, ?_, ?_⟩
    · exact LLe.r
    · exact (ALe.v LLe.r ALe.nil)

theorem impl_QueryOk_ac {a0v_Cols : List Int} {a1v_Table : Int} {a1v_Where : List Cond} {a1v_Order : Int} {a1v_Down : Bool} {a1v_First : Int} {a1v_Show : List Int} {a1v_Kids : Bool} {a1v_KidTable : Int} {a1v_KidCol : Int} {r : Bool} (h : impl_QueryOk.f (Schema.mk a0v_Cols) (Query.mk a1v_Table a1v_Where a1v_Order a1v_Down a1v_First a1v_Show a1v_Kids a1v_KidTable a1v_KidCol) = some r) : AC Tryd.prog 19 [.ag [.im false (rowsOf Int_c a0v_Cols)], .ag [.s (.int .i64 a1v_Table), .im false (rowsOf Cond_c a1v_Where), .s (.int .i64 a1v_Order), .s (.bool a1v_Down), .s (.int .i64 a1v_First), .im false (rowsOf Int_c a1v_Show), .s (.bool a1v_Kids), .s (.int .i64 a1v_KidTable), .s (.int .i64 a1v_KidCol)]] [.ag [.jk], .ag [.jk, .jk, .jk, .jk, .jk, .jk, .jk, .jk, .jk]] [.v (.s (.bool r))] := by
  unfold impl_QueryOk.f at h
  let eCond_c := rowsOf Cond_c
  let eInt_c := rowsOf Int_c
  let lenI_Cond := @lenI Cond
  let lenI_Int := @lenI Int
  show AC Tryd.prog 19 [.ag [.im false (eInt_c a0v_Cols)], .ag [.s (.int .i64 a1v_Table), .im false (eCond_c a1v_Where), .s (.int .i64 a1v_Order), .s (.bool a1v_Down), .s (.int .i64 a1v_First), .im false (eInt_c a1v_Show), .s (.bool a1v_Kids), .s (.int .i64 a1v_KidTable), .s (.int .i64 a1v_KidCol)]] _ _
  refine run3 Tryd.func19 (by rfl) (by rfl) (by cbv) ⟨by decide, rfl⟩ ?_
  intro ar cm bo sc sa sx ss sl bs sb ln sr ap up rp fr ge le lt nz mm ma sm fl al ci hL F hP hA hT hM hC
  refine Run.seq ?_
  refine Run.region hL hT [] (by cbv) ?_ ?_
  · exact hq0
  refine Run.seq ?_
  refine Run.seq ?_
  obtain ⟨r1, h_r1, h⟩ := bnd h
  obtain ⟨r2, h_r2, h⟩ := bnd h
  refine Run.region hL hT [(1, .call [false] [.ag [.jk]] [.v (.s (.bool r1))]), (7, .call [false, false] [.ag [.jk], .v (.jk)] [.v (.s (.bool r2))])] (by cbv) ?_ ?_
  · exact (hq trivial (hq (hC (impl_SchemaOk_ac h_r1)) (hq (fun g3 => (hq trivial hq0)) (hq (fun _ => hq0) (hq (fun g5 => (hq g5 (hq trivial hq0))) (hq (fun g6 => (hq g6 (hq g6 (hq (hC (impl_hasTable_ac (gd_t h_r2 g6))) hq0)))) (hq (fun g7 => (hq g7 hq0)) (hq (fun _ => hq0) (hq (fun q9 => (hq (bo_m q9) hq0)) hq0)))))))))
  refine Run.cond (by cbv) (hq0) (fun c10 => ?_) (fun c10 => ?_)
  · have h := if_t c10 h
    refine Run.seq ?_
    refine Run.region hL hT [] (by cbv) ?_ ?_
    · exact hq0
    refine Run.ret ?_
    cases h
    refine ⟨_, _, by cbv, ?_, ?_⟩
    · exact LLe.r
    · exact (ALe.v LLe.r ALe.nil)
  · have h := if_f c10 h
    refine Run.skip ?_
    refine Run.seq ?_
    obtain ⟨x11, h_x11, h⟩ := bnd h
    refine Run.region hL hT [(4, .el [.s (.int .i64 x11)])] (by cbv) ?_ ?_
    · exact (hq trivial (hq trivial (hq (get_le h_x11) (hq (get_lt (f := Int_c) h_x11) (hq (get_ge (f := Int_c) h_x11) hq0)))))
    obtain ⟨K13, h_K13, h⟩ := joinE h
    refine Run.join1 K13 (r := r) (fun (y12 : Unit) => ⟨112, 100000, [(2, .pt 1 0 0), (3, .pt 2 0 0), (5, .t (.s (.int .i64 x11)))], [(1, .box 31 [.t (.im false (eInt_c a0v_Cols))]), (2, .box 35 [.t (.s (.int .i64 a1v_Table)), .t (.im false (eCond_c a1v_Where)), .t (.s (.int .i64 a1v_Order)), .t (.s (.bool a1v_Down)), .t (.s (.int .i64 a1v_First)), .t (.im false (eInt_c a1v_Show)), .t (.s (.bool a1v_Kids)), .t (.s (.int .i64 a1v_KidTable)), .t (.s (.int .i64 a1v_KidCol))])]⟩) ?_ ?_
    · skip
      refine Run.seq ?_
      refine Run.region hL hT [] (by cbv) ?_ ?_
      · exact (hq trivial hq0)
      rw [show ln (eCond_c a1v_Where) = lenI_Cond a1v_Where from ln_eq Cond_c _]
      refine Run.block ?_
      refine Run.loop1 (fun (z28 : Int) => ⟨112, 100000, [(2, .pt 1 0 0), (3, .pt 2 0 0), (5, .t (.s (.int .i64 x11))), (28, .t (.im false (eCond_c a1v_Where))), (29, .t (.s (.int .i64 (lenI_Cond a1v_Where)))), (30, .t (.s (.int .i64 z28)))], [(1, .box 31 [.t (.im false (eInt_c a0v_Cols))]), (2, .box 35 [.t (.s (.int .i64 a1v_Table)), .t (.im false (eCond_c a1v_Where)), .t (.s (.int .i64 a1v_Order)), .t (.s (.bool a1v_Down)), .t (.s (.int .i64 a1v_First)), .t (.im false (eInt_c a1v_Show)), .t (.s (.bool a1v_Kids)), .t (.s (.int .i64 a1v_KidTable)), .t (.s (.int .i64 a1v_KidCol))])]⟩) (x0 := 0) h (Weak.of _ [(1, 0), (2, 1)] hA (by cbv) ?_) (fun _ => rfl) ?_
      · repeat (first | exact hq0 | refine hq (by first | exact True.intro | rfl) ?_)
      · intro k z28 h
        rw [impl_QueryOk.l0] at h
        refine Run.seq ?_
        refine Run.region hL hT [] (by cbv) ?_ ?_
        · exact (hq trivial hq0)
        refine Run.seq ?_
        refine Run.cond (by cbv) (hq0) (fun c29 => ?_) (fun c29 => ?_)
        · have h := if_t c29 h
          refine Run.skip ?_
          refine Run.seq ?_
          refine Run.block ?_
          refine Run.seq ?_
          obtain ⟨⟨x30v_Col, x30v_Op, x30v_V⟩, h_x30, h⟩ := bnd h
          refine Run.region hL hT [(0, .el [.s (.int .i64 x30v_Col), .s (.int .i64 x30v_Op), .s (.int .i64 x30v_V)])] (by cbv) ?_ ?_
          · exact (hq (get_le h_x30) (hq (get_lt (f := Cond_c) h_x30) (hq (get_ge (f := Cond_c) h_x30) (hq trivial hq0))))
          refine Run.seq ?_
          obtain ⟨r31, h_r31, h⟩ := bnd h
          obtain ⟨r32, h_r32, h⟩ := bnd h
          obtain ⟨r33, h_r33, h⟩ := bnd h
          refine Run.region hL hT [(4, .call [false, false, false] [.v (.jk), .v (.jk), .v (.jk)] [.v (.s (.bool r31))]), (9, .call [false, false, false] [.v (.jk), .v (.jk), .v (.jk)] [.v (.s (.bool r32))]), (15, .call [false] [.v (.jk)] [.v (.s (.bool r33))])] (by cbv) ?_ ?_
          · exact (hq trivial (hq trivial (hq (hC (impl_within_ac h_r31)) (hq (fun _ => hq0) (hq (fun g35 => (hq g35 (hq trivial hq0))) (hq (fun g36 => (hq g36 (hq (hC (impl_within_ac (gd_t h_r32 g36))) hq0))) (hq (fun g37 => (hq g37 hq0)) (hq (fun _ => hq0) (hq (fun q39 => (hq (bo_m q39) hq0)) (hq (fun _ => hq0) (hq (fun g41 => (hq g41 (hq trivial hq0))) (hq (fun g42 => (hq g42 (hq (hC (impl_isNum_ac (gd_t h_r33 g42))) hq0))) (hq (fun g43 => (hq g43 hq0)) (hq (fun _ => hq0) (hq (fun q45 => (hq (bo_m q45) hq0)) hq0)))))))))))))))
          refine Run.cond (by cbv) (hq0) (fun c46 => ?_) (fun c46 => ?_)
          · have h := if_t c46 h
            refine Run.seq ?_
            refine Run.region hL hT [] (by cbv) ?_ ?_
            · exact hq0
            refine Run.ret ?_
            cases h
            refine ⟨_, _, by cbv, ?_, ?_⟩
            · exact LLe.r
            · exact (ALe.v LLe.r ALe.nil)
          · have h := if_f c46 h
            refine Run.skip ?_
            refine Run.region hL hT [] (by cbv) ?_ ?_
            · exact (hq trivial hq0)
            refine ⟨(ar .add .i64 z28 1), h, Weak.of _ [(1, 1), (2, 2)] hA (by cbv) ?_⟩
            repeat (first | exact hq0 | refine hq (by first | exact True.intro | rfl) ?_)
        · have h := if_f c29 h
          refine Run.exit ?_
          refine ⟨(), h, Weak.of _ [(1, 1), (2, 2)] hA (by cbv) ?_⟩
          repeat (first | exact hq0 | refine hq (by first | exact True.intro | rfl) ?_)
    · intro y12 h
      rw [h_K13] at h
      obtain ⟨K48, h_K48, h⟩ := joinE h
      refine Run.join1 K48 (r := r) (fun (y47 : Unit) => ⟨112, 100000, [(2, .pt 1 0 0), (3, .pt 2 0 0), (5, .t (.s (.int .i64 x11)))], [(1, .box 31 [.t (.im false (eInt_c a0v_Cols))]), (2, .box 35 [.t (.s (.int .i64 a1v_Table)), .t (.im false (eCond_c a1v_Where)), .t (.s (.int .i64 a1v_Order)), .t (.s (.bool a1v_Down)), .t (.s (.int .i64 a1v_First)), .t (.im false (eInt_c a1v_Show)), .t (.s (.bool a1v_Kids)), .t (.s (.int .i64 a1v_KidTable)), .t (.s (.int .i64 a1v_KidCol))])]⟩) ?_ ?_
      · skip
        refine Run.seq ?_
        refine Run.region hL hT [] (by cbv) ?_ ?_
        · exact (hq trivial hq0)
        rw [show ln (eInt_c a1v_Show) = lenI_Int a1v_Show from ln_eq Int_c _]
        refine Run.block ?_
        refine Run.loop1 (fun (z63 : Int) => ⟨112, 100000, [(2, .pt 1 0 0), (3, .pt 2 0 0), (5, .t (.s (.int .i64 x11))), (54, .t (.im false (eInt_c a1v_Show))), (55, .t (.s (.int .i64 (lenI_Int a1v_Show)))), (56, .t (.s (.int .i64 z63)))], [(1, .box 31 [.t (.im false (eInt_c a0v_Cols))]), (2, .box 35 [.t (.s (.int .i64 a1v_Table)), .t (.im false (eCond_c a1v_Where)), .t (.s (.int .i64 a1v_Order)), .t (.s (.bool a1v_Down)), .t (.s (.int .i64 a1v_First)), .t (.im false (eInt_c a1v_Show)), .t (.s (.bool a1v_Kids)), .t (.s (.int .i64 a1v_KidTable)), .t (.s (.int .i64 a1v_KidCol))])]⟩) (x0 := 0) h (Weak.of _ [(1, 1), (2, 2)] hA (by cbv) ?_) (fun _ => rfl) ?_
        · repeat (first | exact hq0 | refine hq (by first | exact True.intro | rfl) ?_)
        · intro k z63 h
          rw [impl_QueryOk.l1] at h
          refine Run.seq ?_
          refine Run.region hL hT [] (by cbv) ?_ ?_
          · exact (hq trivial hq0)
          refine Run.seq ?_
          refine Run.cond (by cbv) (hq0) (fun c64 => ?_) (fun c64 => ?_)
          · have h := if_t c64 h
            refine Run.skip ?_
            refine Run.seq ?_
            refine Run.block ?_
            refine Run.seq ?_
            obtain ⟨x65, h_x65, h⟩ := bnd h
            refine Run.region hL hT [(1, .el [.s (.int .i64 x65)])] (by cbv) ?_ ?_
            · exact (hq (get_le h_x65) (hq (get_lt (f := Int_c) h_x65) (hq (get_ge (f := Int_c) h_x65) hq0)))
            refine Run.seq ?_
            obtain ⟨r66, h_r66, h⟩ := bnd h
            obtain ⟨x67, h_x67, h⟩ := bnd h
            refine Run.region hL hT [(3, .call [false, false, false] [.v (.jk), .v (.jk), .v (.jk)] [.v (.s (.bool r66))]), (13, .el [.s (.int .i64 x67)])] (by cbv) ?_ ?_
            · exact (hq trivial (hq (hC (impl_within_ac h_r66)) (hq (fun _ => hq0) (hq (fun g69 => (hq g69 (hq trivial hq0))) (hq (fun g70 => (hq g70 hq0)) (hq (fun _ => hq0) (hq (fun g72 => (hq g72 (hq trivial hq0))) (hq (fun _ => hq0) (hq (fun g74 => (hq g74 (hq trivial hq0))) (hq (fun g75 => (hq g75 (hq g75 (hq (get_le (gd_t h_x67 g75)) (hq (get_lt (f := Int_c) (gd_t h_x67 g75)) (hq (get_ge (f := Int_c) (gd_t h_x67 g75)) hq0)))))) (hq (fun g76 => (hq g76 hq0)) (hq (fun _ => hq0) (hq (fun g78 => (hq g78 (hq g78 (hq trivial hq0)))) (hq (fun g79 => (hq g79 (hq (fun q80 => (hq (bo_a g79 q80) hq0)) (hq (fun _ => hq0) hq0)))) (hq (fun _ => hq0) (hq (fun q83 => (hq (bo_m q83) hq0)) hq0))))))))))))))))
            refine Run.cond (by cbv) (hq0) (fun c84 => ?_) (fun c84 => ?_)
            · have h := if_t c84 h
              refine Run.seq ?_
              refine Run.region hL hT [] (by cbv) ?_ ?_
              · exact hq0
              refine Run.ret ?_
              cases h
              refine ⟨_, _, by cbv, ?_, ?_⟩
              · exact LLe.r
              · exact (ALe.v LLe.r ALe.nil)
            · have h := if_f c84 h
              refine Run.skip ?_
              refine Run.region hL hT [] (by cbv) ?_ ?_
              · exact (hq trivial hq0)
              refine ⟨(ar .add .i64 z63 1), h, Weak.of _ [(1, 1), (2, 2)] hA (by cbv) ?_⟩
              repeat (first | exact hq0 | refine hq (by first | exact True.intro | rfl) ?_)
          · have h := if_f c64 h
            refine Run.exit ?_
            refine ⟨(), h, Weak.of _ [(1, 1), (2, 2)] hA (by cbv) ?_⟩
            repeat (first | exact hq0 | refine hq (by first | exact True.intro | rfl) ?_)
      · intro y47 h
        rw [h_K48] at h
        refine Run.seq ?_
        obtain ⟨r85, h_r85, h⟩ := bnd h
        refine Run.region hL hT [(3, .call [false, false, false] [.v (.jk), .v (.jk), .v (.jk)] [.v (.s (.bool r85))])] (by cbv) ?_ ?_
        · exact (hq trivial (hq (hC (impl_within_ac h_r85)) (hq (fun _ => hq0) (hq (fun g87 => (hq g87 (hq trivial hq0))) (hq (fun g88 => (hq g88 hq0)) (hq (fun g89 => (hq g89 hq0)) (hq (fun _ => hq0) (hq (fun g91 => (hq g91 (hq trivial hq0))) (hq (fun g92 => (hq g92 (hq trivial hq0))) (hq (fun g93 => (hq g93 (hq (fun _ => hq0) (hq (fun q95 => (hq (bo_a g93 (bo_m q95)) hq0)) hq0)))) (hq (fun q96 => (hq q96 hq0)) (hq (fun _ => hq0) hq0))))))))))))
        refine Run.seq ?_
        obtain ⟨r98, h_r98, h⟩ := bnd h
        obtain ⟨r99, h_r99, h⟩ := bnd h
        refine Run.region hL hT [(10, .call [false, false, false] [.v (.jk), .v (.jk), .v (.jk)] [.v (.s (.bool r98))]), (15, .call [false, false] [.ag [.jk], .ag [.jk, .jk, .jk, .jk, .jk, .jk, .jk, .jk, .jk]] [.v (.s (.bool r99))])] (by cbv) ?_ ?_
        · exact (hq trivial (hq trivial (hq (fun _ => hq0) (hq (fun q101 => (by have q101C := q101; rw [show ln (eCond_c a1v_Where) = lenI_Cond a1v_Where from ln_eq Cond_c _] at q101C; exact (hq q101 hq0))) (hq (fun _ => hq0) (hq (fun _ => hq0) (hq (fun g104 => (by have g104C := g104; rw [show ln (eCond_c a1v_Where) = lenI_Cond a1v_Where from ln_eq Cond_c _] at g104C; exact (hq g104 (hq trivial hq0)))) (hq (fun g105 => (by have g105C := g105; rw [show ln (eCond_c a1v_Where) = lenI_Cond a1v_Where from ln_eq Cond_c _] at g105C; exact (hq g105 (hq (hC (impl_within_ac (gd_t h_r98 g105C))) hq0)))) (hq (fun q106 => (by have q106C := q106; rw [show ln (eCond_c a1v_Where) = lenI_Cond a1v_Where from ln_eq Cond_c _] at q106C; exact (hq q106 hq0))) (hq (fun _ => hq0) (hq (fun g108 => (by have g108C := g108; rw [show ln (eCond_c a1v_Where) = lenI_Cond a1v_Where from ln_eq Cond_c _] at g108C; exact (hq trivial hq0))) (hq (fun g109 => (by have g109C := g109; rw [show ln (eCond_c a1v_Where) = lenI_Cond a1v_Where from ln_eq Cond_c _] at g109C; exact (hq trivial hq0))) (hq (fun g110 => (by have g110C := g110; rw [show ln (eCond_c a1v_Where) = lenI_Cond a1v_Where from ln_eq Cond_c _] at g110C; exact (hq g110 (hq g110 (hq (hC (impl_kidsFit_ac (gd_t h_r99 g110C))) hq0))))) (hq (fun q111 => (by have q111C := q111; rw [show ln (eCond_c a1v_Where) = lenI_Cond a1v_Where from ln_eq Cond_c _] at q111C; exact (hq q111 hq0))) (hq (fun _ => hq0) hq0)))))))))))))))
        rw [show ln (eCond_c a1v_Where) = lenI_Cond a1v_Where from ln_eq Cond_c _]
        refine Run.ret ?_
        cases h
        refine ⟨_, _, by cbv, ?_, ?_⟩
        · exact LLe.r
        · exact (ALe.v LLe.r ALe.nil)

def laysItoa_ren : Go.Shelf.Ren := ⟨fun | 171 => 32 | 243 => 37 | 246 => 40 | 283 => 43 | 284 => 44 | 285 => 45 | 286 => 46 | 129 => 48 | 317 => 47 | 318 => 49 | 319 => 50 | 320 => 51 | 337 => 52 | 338 => 53 | n => n, fun | 3 => 3 | 9 => 9 | 2 => 2 | 4 => 4 | 171 => 75 | 0 => 0 | 53 => 76 | 37 => 55 | 5 => 5 | 173 => 79 | 212 => 83 | 51 => 84 | 20 => 20 | 213 => 85 | 46 => 86 | 232 => 89 | 233 => 90 | n => n, fun | 17 => 1 | 18 => 2 | 19 => 3 | n => n⟩
theorem laysItoa : Go.Proofs.LaysM.n171 Tryd.prog laysItoa_ren := {
  mixed := by kernel_rfl
  f129 := Tryd.func48.trans (congrArg some (by kernel_rfl))
  f171 := Tryd.func32.trans (congrArg some (by kernel_rfl))
  f243 := Tryd.func37.trans (congrArg some (by kernel_rfl))
  f246 := Tryd.func40.trans (congrArg some (by kernel_rfl))
  f283 := Tryd.func43.trans (congrArg some (by kernel_rfl))
  f284 := Tryd.func44.trans (congrArg some (by kernel_rfl))
  f285 := Tryd.func45.trans (congrArg some (by kernel_rfl))
  f286 := Tryd.func46.trans (congrArg some (by kernel_rfl))
  f317 := Tryd.func47.trans (congrArg some (by kernel_rfl))
  f318 := Tryd.func49.trans (congrArg some (by kernel_rfl))
  f319 := Tryd.func50.trans (congrArg some (by kernel_rfl))
  f320 := Tryd.func51.trans (congrArg some (by kernel_rfl))
  f337 := Tryd.func52.trans (congrArg some (by kernel_rfl))
  f338 := Tryd.func53.trans (congrArg some (by kernel_rfl))
  t0 := Tryd.underlying0
  a0 := Tryd.isAgg0
  z0 := Tryd.sizeOf0
  v0 := Tryd.zeroValue0
  t2 := Tryd.underlying2
  a2 := Tryd.isAgg2
  z2 := Tryd.sizeOf2
  v2 := Tryd.zeroValue2
  t3 := Tryd.underlying3
  a3 := Tryd.isAgg3
  z3 := Tryd.sizeOf3
  v3 := Tryd.zeroValue3
  t4 := Tryd.underlying4
  a4 := Tryd.isAgg4
  z4 := Tryd.sizeOf4
  v4 := Tryd.zeroValue4
  t5 := Tryd.underlying5
  a5 := Tryd.isAgg5
  z5 := Tryd.sizeOf5
  v5 := Tryd.zeroValue5
  t9 := Tryd.underlying9
  a9 := Tryd.isAgg9
  z9 := Tryd.sizeOf9
  v9 := Tryd.zeroValue9
  t20 := Tryd.underlying20
  a20 := Tryd.isAgg20
  z20 := Tryd.sizeOf20
  v20 := Tryd.zeroValue20
  t37 := Tryd.underlying55
  a37 := Tryd.isAgg55
  z37 := Tryd.sizeOf55
  v37 := Tryd.zeroValue55
  t46 := Tryd.underlying86
  a46 := Tryd.isAgg86
  z46 := Tryd.sizeOf86
  v46 := Tryd.zeroValue86
  t51 := Tryd.underlying84
  a51 := Tryd.isAgg84
  z51 := Tryd.sizeOf84
  v51 := Tryd.zeroValue84
  t53 := Tryd.underlying76
  a53 := Tryd.isAgg76
  z53 := Tryd.sizeOf76
  v53 := Tryd.zeroValue76
  t171 := Tryd.underlying75
  a171 := Tryd.isAgg75
  z171 := Tryd.sizeOf75
  v171 := Tryd.zeroValue75
  t173 := Tryd.underlying79
  a173 := Tryd.isAgg79
  z173 := Tryd.sizeOf79
  v173 := Tryd.zeroValue79
  t212 := Tryd.underlying83
  a212 := Tryd.isAgg83
  z212 := Tryd.sizeOf83
  v212 := Tryd.zeroValue83
  t213 := Tryd.underlying85
  a213 := Tryd.isAgg85
  z213 := Tryd.sizeOf85
  t232 := Tryd.underlying89
  a232 := Tryd.isAgg89
  z232 := Tryd.sizeOf89
  v232 := Tryd.zeroValue89
  t233 := Tryd.underlying90
  a233 := Tryd.isAgg90
  z233 := Tryd.sizeOf90
  v233 := Tryd.zeroValue90
  g17 := by kernel_rfl
  g18 := by kernel_rfl
  g19 := by kernel_rfl
  i0 := by kernel_rfl
  i2 := by kernel_rfl
  i3 := by kernel_rfl
  i4 := by kernel_rfl
  i5 := by kernel_rfl
  i9 := by kernel_rfl
  i20 := by kernel_rfl
  i37 := by kernel_rfl
  i46 := by kernel_rfl
  i51 := by kernel_rfl
  i53 := by kernel_rfl
  i171 := by kernel_rfl
  i173 := by kernel_rfl
  i212 := by kernel_rfl
  i232 := by kernel_rfl
  i233 := by kernel_rfl
  m17 := by kernel_rfl
  m18 := by kernel_rfl
  m19 := by kernel_rfl }
theorem strconv_Itoa_ac {a0 : Int} {r : ByteArray} (h : strconv_Itoa.f a0 = some r) : AC Tryd.prog 32 [.v (.s (.int .i64 a0))] [.v .jk] [.v (.s (.string r))] := AC.of_itoa ⟨_, Tryd.func32, by rfl, by rfl⟩ (g := 1) (by kernel_rfl) (fun n h0 h1 w htab => Go.Proofs.Any.strconv_Itoa laysItoa n h0 h1 w htab) h

theorem impl_digits_ac {a0 : Int} {r : ByteArray} (h : impl_digits.f a0 = some r) : AC Tryd.prog 20 [.v (.s (.int .i64 a0))] [.v (.jk)] [.v (.s (.string r))] := by
  unfold impl_digits.f at h
  show AC Tryd.prog 20 [.v (.s (.int .i64 a0))] _ _
  refine run3 Tryd.func20 (by rfl) (by rfl) (by cbv) ⟨by decide, rfl⟩ ?_
  intro ar cm bo sc sa sx ss sl bs sb ln sr ap up rp fr ge le lt nz mm ma sm fl al ci hL F hP hA hT hM hC
  refine Run.seq ?_
  refine Run.region hL hT [] (by cbv) ?_ ?_
  · exact hq0
  refine Run.seq ?_
  obtain ⟨r1, h_r1, h⟩ := bnd h
  refine Run.region hL hT [(1, .call [false] [.v (.jk)] [.v (.s (.string r1))])] (by cbv) ?_ ?_
  · exact (hq (hC (strconv_Itoa_ac h_r1)) hq0)
  refine Run.ret ?_
  cases h
  refine ⟨_, _, by cbv, ?_, ?_⟩
  · exact LLe.r
  · exact (ALe.v LLe.r ALe.nil)

def laysJoin_ren : Go.Shelf.Ren := ⟨fun | 156 => 21 | 165 => 33 | 166 => 34 | 169 => 35 | 240 => 38 | 241 => 39 | 276 => 41 | 277 => 42 | n => n, fun | 31 => 46 | 9 => 9 | 3 => 3 | 4 => 4 | 0 => 0 | 20 => 20 | 72 => 62 | 76 => 66 | 70 => 60 | 37 => 55 | 75 => 65 | 127 => 70 | 164 => 72 | 5 => 5 | 80 => 68 | n => n, fun | n => n⟩
theorem laysJoin : Go.Proofs.Lays.n156 Tryd.prog laysJoin_ren := {
  mixed := by kernel_rfl
  f156 := Tryd.func21.trans (congrArg some (by kernel_rfl))
  f165 := Tryd.func33.trans (congrArg some (by kernel_rfl))
  f166 := Tryd.func34.trans (congrArg some (by kernel_rfl))
  f169 := Tryd.func35.trans (congrArg some (by kernel_rfl))
  f240 := Tryd.func38.trans (congrArg some (by kernel_rfl))
  f241 := Tryd.func39.trans (congrArg some (by kernel_rfl))
  f276 := Tryd.func41.trans (congrArg some (by kernel_rfl))
  f277 := Tryd.func42.trans (congrArg some (by kernel_rfl))
  t0 := Tryd.underlying0
  a0 := Tryd.isAgg0
  z0 := Tryd.sizeOf0
  v0 := Tryd.zeroValue0
  t3 := Tryd.underlying3
  a3 := Tryd.isAgg3
  z3 := Tryd.sizeOf3
  v3 := Tryd.zeroValue3
  t4 := Tryd.underlying4
  a4 := Tryd.isAgg4
  z4 := Tryd.sizeOf4
  v4 := Tryd.zeroValue4
  t9 := Tryd.underlying9
  a9 := Tryd.isAgg9
  z9 := Tryd.sizeOf9
  v9 := Tryd.zeroValue9
  t20 := Tryd.underlying20
  a20 := Tryd.isAgg20
  z20 := Tryd.sizeOf20
  v20 := Tryd.zeroValue20
  t31 := Tryd.underlying46
  a31 := Tryd.isAgg46
  z31 := Tryd.sizeOf46
  v31 := Tryd.zeroValue46
  t37 := Tryd.underlying55
  a37 := Tryd.isAgg55
  z37 := Tryd.sizeOf55
  v37 := Tryd.zeroValue55
  t70 := Tryd.underlying60
  a70 := Tryd.isAgg60
  z70 := Tryd.sizeOf60
  v70 := Tryd.zeroValue60
  t72 := Tryd.underlying62
  a72 := Tryd.isAgg62
  z72 := Tryd.sizeOf62
  v72 := Tryd.zeroValue62
  t75 := Tryd.underlying65
  a75 := Tryd.isAgg65
  z75 := Tryd.sizeOf65
  v75 := Tryd.zeroValue65
  t76 := Tryd.underlying66
  a76 := Tryd.isAgg66
  z76 := Tryd.sizeOf66
  v76 := Tryd.zeroValue66
  t127 := Tryd.underlying70
  a127 := Tryd.isAgg70
  z127 := Tryd.sizeOf70
  v127 := Tryd.zeroValue70
  t164 := Tryd.underlying72
  a164 := Tryd.isAgg72
  z164 := Tryd.sizeOf72
  v164 := Tryd.zeroValue72 }
theorem joinExtra : Builder.Extra Tryd.prog laysJoin_ren := { sizeBuilder := by kernel_rfl, liesBuilder := by kernel_rfl, t5 := Tryd.underlying5, a5 := Tryd.isAgg5, z5 := Tryd.sizeOf5, v5 := Tryd.zeroValue5, infoByte := by kernel_rfl, cellsByte := by kernel_rfl, sizeByte := by kernel_rfl, neB5 := by decide }
theorem strings_Join_ac {a0 : List ByteArray} {a1 r : ByteArray} (h : strings_Join.f a0 a1 = some r) : AC Tryd.prog 21 [.v (.im false (rowsOf Str_c a0)), .v (.s (.string a1))] [.v .jk, .v .jk] [.v (.s (.string r))] := AC.of_join (fun _ => rfl) ⟨_, Tryd.func21, by rfl, by rfl⟩ (fun a c sep w => Go.Proofs.Any.strings_Join_none laysJoin joinExtra a c sep w) (fun bk o c xs sep w h1 h2 h3 h4 h5 => Go.Proofs.Any.strings_Join laysJoin joinExtra bk o c xs sep w h1 h2 h3 h4 h5) h

theorem impl_QueryText_ac {a0v_Cols : List Int} {a1v_Table : Int} {a1v_Where : List Cond} {a1v_Order : Int} {a1v_Down : Bool} {a1v_First : Int} {a1v_Show : List Int} {a1v_Kids : Bool} {a1v_KidTable : Int} {a1v_KidCol : Int} {r : ByteArray} (h : impl_QueryText.f (Schema.mk a0v_Cols) (Query.mk a1v_Table a1v_Where a1v_Order a1v_Down a1v_First a1v_Show a1v_Kids a1v_KidTable a1v_KidCol) = some r) : AC Tryd.prog 9 [.ag [.im false (rowsOf Int_c a0v_Cols)], .ag [.s (.int .i64 a1v_Table), .im false (rowsOf Cond_c a1v_Where), .s (.int .i64 a1v_Order), .s (.bool a1v_Down), .s (.int .i64 a1v_First), .im false (rowsOf Int_c a1v_Show), .s (.bool a1v_Kids), .s (.int .i64 a1v_KidTable), .s (.int .i64 a1v_KidCol)]] [.ag [.jk], .ag [.jk, .jk, .jk, .jk, .jk, .jk, .jk, .jk, .jk]] [.v (.s (.string r))] := by
  unfold impl_QueryText.f at h
  let eCond_c := rowsOf Cond_c
  let eInt_c := rowsOf Int_c
  let eStr_c := rowsOf Str_c
  let lenI_Cond := @lenI Cond
  let lenI_Int := @lenI Int
  show AC Tryd.prog 9 [.ag [.im false (eInt_c a0v_Cols)], .ag [.s (.int .i64 a1v_Table), .im false (eCond_c a1v_Where), .s (.int .i64 a1v_Order), .s (.bool a1v_Down), .s (.int .i64 a1v_First), .im false (eInt_c a1v_Show), .s (.bool a1v_Kids), .s (.int .i64 a1v_KidTable), .s (.int .i64 a1v_KidCol)]] _ _
  refine run3 Tryd.func9 (by rfl) (by rfl) (by cbv) ⟨by decide, rfl⟩ ?_
  intro ar cm bo sc sa sx ss sl bs sb ln sr ap up rp fr ge le lt nz mm ma sm fl al ci hL F hP hA hT hM hC
  refine Run.seq ?_
  refine Run.region hL hT [] (by cbv) ?_ ?_
  · exact hq0
  refine Run.seq ?_
  refine Run.seq ?_
  obtain ⟨r1, h_r1, h⟩ := bnd h
  refine Run.region hL hT [(2, .call [false, false] [.ag [.jk], .ag [.jk, .jk, .jk, .jk, .jk, .jk, .jk, .jk, .jk]] [.v (.s (.bool r1))])] (by cbv) ?_ ?_
  · exact (hq trivial (hq trivial (hq (hC (impl_QueryOk_ac h_r1)) hq0)))
  refine Run.cond (by cbv) (hq0) (fun c2 => ?_) (fun c2 => ?_)
  · have h := if_t c2 h
    refine Run.seq ?_
    refine Run.region hL hT [] (by cbv) ?_ ?_
    · exact hq0
    refine Run.ret ?_
    cases h
    refine ⟨_, _, by cbv, ?_, ?_⟩
    · exact LLe.r
    · exact (ALe.v LLe.r ALe.nil)
  · have h := if_f c2 h
    refine Run.skip ?_
    refine Run.seq ?_
    obtain ⟨r3, h_r3, h⟩ := bnd h
    obtain ⟨l4, h_l4, h⟩ := bnd h
    refine Run.region hL hT [(2, .call [false] [.v (.jk)] [.v (.s (.string r3))])] (by cbv) ?_ ?_
    · exact (hq trivial (hq (hC (impl_digits_ac h_r3)) hq0))
    refine Run.row (rows := [[.s (.string (ByteArray.mk #[102, 114, 111, 109]))], [.s (.string r3)]]) 8195 (eStr_c l4) (by cbv) (some_le (f := Str_c) h_l4 (RLe.cons rfl LLe.r (RLe.cons rfl LLe.r RLe.nil))) ?_
    obtain ⟨K6, h_K6, h⟩ := joinE h
    refine Run.join1 K6 (r := r) (fun (y5 : List ByteArray) => ⟨98, 100000, [(3, .pt 1 0 0), (5, .rf 2)], [(1, .box 35 [.t (.s (.int .i64 a1v_Table)), .t (.im false (eCond_c a1v_Where)), .t (.s (.int .i64 a1v_Order)), .t (.s (.bool a1v_Down)), .t (.s (.int .i64 a1v_First)), .t (.im false (eInt_c a1v_Show)), .t (.s (.bool a1v_Kids)), .t (.s (.int .i64 a1v_KidTable)), .t (.s (.int .i64 a1v_KidCol))]), (2, .row 0 9 1 (eStr_c y5))]⟩) ?_ ?_
    · skip
      refine Run.seq ?_
      refine Run.region hL hT [] (by cbv) ?_ ?_
      · exact (hq trivial hq0)
      rw [show ln (eCond_c a1v_Where) = lenI_Cond a1v_Where from ln_eq Cond_c _]
      refine Run.block ?_
      refine Run.loop2 (fun (z20 : List ByteArray) (z21 : Int) => ⟨98, 100000, [(3, .pt 1 0 0), (5, .rf 2), (19, .t (.im false (eCond_c a1v_Where))), (20, .t (.s (.int .i64 (lenI_Cond a1v_Where)))), (21, .t (.s (.int .i64 z21)))], [(1, .box 35 [.t (.s (.int .i64 a1v_Table)), .t (.im false (eCond_c a1v_Where)), .t (.s (.int .i64 a1v_Order)), .t (.s (.bool a1v_Down)), .t (.s (.int .i64 a1v_First)), .t (.im false (eInt_c a1v_Show)), .t (.s (.bool a1v_Kids)), .t (.s (.int .i64 a1v_KidTable)), .t (.s (.int .i64 a1v_KidCol))]), (2, .row 0 9 1 (eStr_c z20))]⟩) (x0 := l4) (x1 := 0) h (Weak.of _ [(1, 1), (2, 8195)] hA (by cbv) ?_) (fun _ _ => rfl) ?_
      · repeat (first | exact hq0 | refine hq (by first | exact True.intro | rfl) ?_)
      · intro k z20 z21 h
        rw [impl_QueryText.l0] at h
        refine Run.seq ?_
        refine Run.region hL hT [] (by cbv) ?_ ?_
        · exact (hq trivial hq0)
        refine Run.seq ?_
        refine Run.cond (by cbv) (hq0) (fun c22 => ?_) (fun c22 => ?_)
        · have h := if_t c22 h
          refine Run.skip ?_
          refine Run.seq ?_
          refine Run.block ?_
          refine Run.seq ?_
          obtain ⟨⟨x23v_Col, x23v_Op, x23v_V⟩, h_x23, h⟩ := bnd h
          refine Run.region hL hT [(0, .el [.s (.int .i64 x23v_Col), .s (.int .i64 x23v_Op), .s (.int .i64 x23v_V)])] (by cbv) ?_ ?_
          · exact (hq (get_le h_x23) (hq (get_lt (f := Cond_c) h_x23) (hq (get_ge (f := Cond_c) h_x23) (hq trivial hq0))))
          obtain ⟨r24, h_r24, h⟩ := bnd h
          obtain ⟨u25, h_u25, h⟩ := bnd h
          obtain ⟨r26, h_r26, h⟩ := bnd h
          obtain ⟨l27, h_l27, h⟩ := bnd h
          obtain ⟨l28, h_l28, h⟩ := bnd h
          refine Run.draw hL hT hM [(3, .call [false] [.v (.jk)] [.v (.s (.string r24))]), (12, .call [false] [.v (.jk)] [.v (.s (.string r26))])] (by cbv) (collect_cons (by cbv) (by cbv) (collect_cons (by cbv) (by cbv) (collect_cons (by cbv) (by cbv) (collect_cons (by cbv) (by cbv) (collect_cons (by cbv) (by cbv) (collect_cons (by cbv) (by cbv) (collect_cons (by cbv) (by cbv) (collect_cons (by cbv) (by cbv) (collect_cons (by cbv) (by cbv) (collect_cons (by cbv) (by cbv) (collect_cons (by cbv) (by cbv) (collect_cons (by cbv) (by cbv) (collect_cons (by cbv) (by cbv) (collect_cons (by cbv) (by cbv) (collect_cons (by cbv) (by cbv) (collect_cons (by cbv) (by cbv) collect_nil)))))))))))))))) (by cbv) (by cbv) (by cbv) ?_ ?_
          · exact (hq trivial (hq (hC (impl_digits_ac h_r24)) (hq trivial (hq trivial (hq trivial (hq (cutS_0 h_u25) (hq (cutS_1 h_u25) (hq (cutS_2 h_u25) (hq trivial (hq (hC (impl_digits_ac h_r26)) (hq (app_mb (P := Tryd.prog) (f := Str_c) RLe.r (some_le (f := Str_c) h_l27 (RLe.cons rfl LLe.r (RLe.cons rfl LLe.r (RLe.cons rfl LLe.r (RLe.cons rfl LLe.r RLe.nil))))) h_l28) hq0)))))))))))
          refine Run.row (rows := (ap (eStr_c z20) ([[.s (.string (ByteArray.mk #[119, 104, 101, 114, 101]))], [.s (.string r24)], [.s (.string (ss (ByteArray.mk #[61, 60, 62, 33]) (ar .sub .i64 x23v_Op 1) x23v_Op))], [.s (.string r26)]]))) 108206 (eStr_c l28) (by cbv) (app_le (f := Str_c) RLe.r (some_le (f := Str_c) h_l27 (RLe.cons rfl LLe.r (RLe.cons rfl LLe.r (RLe.cons rfl LLe.r (RLe.cons rfl LLe.r RLe.nil))))) h_l28) ?_
          refine Run.region hL hT [] (by cbv) ?_ ?_
          · exact (hq trivial hq0)
          refine ⟨l28, (ar .add .i64 z21 1), h, Weak.of _ [(1, 1), (2, 108206)] hA (by cbv) ?_⟩
          repeat (first | exact hq0 | refine hq (by first | exact True.intro | rfl) ?_)
        · have h := if_f c22 h
          refine Run.exit ?_
          refine ⟨z20, h, Weak.of _ [(1, 1), (2, 2)] hA (by cbv) ?_⟩
          repeat (first | exact hq0 | refine hq (by first | exact True.intro | rfl) ?_)
    · intro y5 h
      rw [h_K6] at h
      obtain ⟨K30, h_K30, h⟩ := joinE h
      refine Run.join1 K30 (r := r) (fun (y29 : List ByteArray) => ⟨98, 100000, [(3, .pt 1 0 0), (5, .rf 2)], [(1, .box 35 [.t (.s (.int .i64 a1v_Table)), .t (.im false (eCond_c a1v_Where)), .t (.s (.int .i64 a1v_Order)), .t (.s (.bool a1v_Down)), .t (.s (.int .i64 a1v_First)), .t (.im false (eInt_c a1v_Show)), .t (.s (.bool a1v_Kids)), .t (.s (.int .i64 a1v_KidTable)), .t (.s (.int .i64 a1v_KidCol))]), (2, .row 0 9 1 (eStr_c y29))]⟩) ?_ ?_
      · skip
        refine Run.seq ?_
        refine Run.region hL hT [] (by cbv) ?_ ?_
        · exact (hq trivial (hq trivial hq0))
        refine Run.cond (by cbv) (hq0) (fun c31 => ?_) (fun c31 => ?_)
        · have h := if_t c31 h
          refine Run.seq ?_
          obtain ⟨r32, h_r32, h⟩ := bnd h
          obtain ⟨l33, h_l33, h⟩ := bnd h
          obtain ⟨l34, h_l34, h⟩ := bnd h
          refine Run.region hL hT [(4, .call [false] [.v (.jk)] [.v (.s (.string r32))])] (by cbv) ?_ ?_
          · exact (hq trivial (hq trivial (hq (hC (impl_digits_ac h_r32)) (hq (app_mb (P := Tryd.prog) (f := Str_c) RLe.r (some_le (f := Str_c) h_l33 (RLe.cons rfl LLe.r (RLe.cons rfl LLe.r RLe.nil))) h_l34) hq0))))
          refine Run.row (rows := (ap (eStr_c y5) ([[.s (.string (ByteArray.mk #[111, 114, 100, 101, 114]))], [.s (.string r32)]]))) 104102 (eStr_c l34) (by cbv) (app_le (f := Str_c) RLe.r (some_le (f := Str_c) h_l33 (RLe.cons rfl LLe.r (RLe.cons rfl LLe.r RLe.nil))) h_l34) ?_
          refine Run.seq ?_
          refine Run.region hL hT [] (by cbv) ?_ ?_
          · exact (hq trivial hq0)
          refine Run.cond (by cbv) (hq0) (fun c35 => ?_) (fun c35 => ?_)
          · have h := if_t c35 h
            obtain ⟨l36, h_l36, h⟩ := bnd h
            obtain ⟨l37, h_l37, h⟩ := bnd h
            refine Run.region hL hT [] (by cbv) ?_ ?_
            · exact (hq (app_mb (P := Tryd.prog) (f := Str_c) RLe.r (some_le (f := Str_c) h_l36 (RLe.cons rfl LLe.r RLe.nil)) h_l37) hq0)
            refine ⟨l37, h, (Weak.row (rows := (ap (eStr_c l34) ([[.s (.string (ByteArray.mk #[100, 111, 119, 110]))]]))) 112290 (eStr_c l37) (by cbv) (app_le (f := Str_c) RLe.r (some_le (f := Str_c) h_l36 (RLe.cons rfl LLe.r RLe.nil)) h_l37)).trans (Weak.of _ [(1, 1), (2, 112290)] hA (by cbv) ?_)⟩
            repeat (first | exact hq0 | refine hq (by first | exact True.intro | rfl) ?_)
          · have h := if_f c35 h
            refine Run.skip ?_
            refine ⟨l34, h, Weak.of _ [(1, 1), (2, 104102)] hA (by cbv) ?_⟩
            repeat (first | exact hq0 | refine hq (by first | exact True.intro | rfl) ?_)
        · have h := if_f c31 h
          refine Run.skip ?_
          refine ⟨y5, h, Weak.of _ [(1, 1), (2, 2)] hA (by cbv) ?_⟩
          repeat (first | exact hq0 | refine hq (by first | exact True.intro | rfl) ?_)
      · intro y29 h
        rw [h_K30] at h
        obtain ⟨K39, h_K39, h⟩ := joinE h
        refine Run.join1 K39 (r := r) (fun (y38 : List ByteArray) => ⟨98, 100000, [(3, .pt 1 0 0), (5, .rf 2)], [(1, .box 35 [.t (.s (.int .i64 a1v_Table)), .t (.im false (eCond_c a1v_Where)), .t (.s (.int .i64 a1v_Order)), .t (.s (.bool a1v_Down)), .t (.s (.int .i64 a1v_First)), .t (.im false (eInt_c a1v_Show)), .t (.s (.bool a1v_Kids)), .t (.s (.int .i64 a1v_KidTable)), .t (.s (.int .i64 a1v_KidCol))]), (2, .row 0 9 1 (eStr_c y38))]⟩) ?_ ?_
        · skip
          refine Run.seq ?_
          refine Run.region hL hT [] (by cbv) ?_ ?_
          · exact (hq trivial (hq trivial hq0))
          refine Run.cond (by cbv) (hq0) (fun c40 => ?_) (fun c40 => ?_)
          · have h := if_t c40 h
            obtain ⟨r41, h_r41, h⟩ := bnd h
            obtain ⟨l42, h_l42, h⟩ := bnd h
            obtain ⟨l43, h_l43, h⟩ := bnd h
            refine Run.region hL hT [(3, .call [false] [.v (.jk)] [.v (.s (.string r41))])] (by cbv) ?_ ?_
            · exact (hq trivial (hq (hC (impl_digits_ac h_r41)) (hq (app_mb (P := Tryd.prog) (f := Str_c) RLe.r (some_le (f := Str_c) h_l42 (RLe.cons rfl LLe.r (RLe.cons rfl LLe.r RLe.nil))) h_l43) hq0)))
            refine ⟨l43, h, (Weak.row (rows := (ap (eStr_c y29) ([[.s (.string (ByteArray.mk #[102, 105, 114, 115, 116]))], [.s (.string r41)]]))) 104101 (eStr_c l43) (by cbv) (app_le (f := Str_c) RLe.r (some_le (f := Str_c) h_l42 (RLe.cons rfl LLe.r (RLe.cons rfl LLe.r RLe.nil))) h_l43)).trans (Weak.of _ [(1, 1), (2, 104101)] hA (by cbv) ?_)⟩
            repeat (first | exact hq0 | refine hq (by first | exact True.intro | rfl) ?_)
          · have h := if_f c40 h
            refine Run.skip ?_
            refine ⟨y29, h, Weak.of _ [(1, 1), (2, 2)] hA (by cbv) ?_⟩
            repeat (first | exact hq0 | refine hq (by first | exact True.intro | rfl) ?_)
        · intro y38 h
          rw [h_K39] at h
          obtain ⟨K45, h_K45, h⟩ := joinE h
          refine Run.join1 K45 (r := r) (fun (y44 : List ByteArray) => ⟨98, 100000, [(3, .pt 1 0 0), (5, .rf 2)], [(1, .box 35 [.t (.s (.int .i64 a1v_Table)), .t (.im false (eCond_c a1v_Where)), .t (.s (.int .i64 a1v_Order)), .t (.s (.bool a1v_Down)), .t (.s (.int .i64 a1v_First)), .t (.im false (eInt_c a1v_Show)), .t (.s (.bool a1v_Kids)), .t (.s (.int .i64 a1v_KidTable)), .t (.s (.int .i64 a1v_KidCol))]), (2, .row 0 9 1 (eStr_c y44))]⟩) ?_ ?_
          · skip
            refine Run.seq ?_
            refine Run.region hL hT [] (by cbv) ?_ ?_
            · exact (hq trivial (hq trivial hq0))
            rw [show ln (eInt_c a1v_Show) = lenI_Int a1v_Show from ln_eq Int_c _]
            refine Run.cond (by cbv) (hq0) (fun c46 => ?_) (fun c46 => ?_)
            · have h := if_t c46 h
              refine Run.seq ?_
              obtain ⟨l47, h_l47, h⟩ := bnd h
              obtain ⟨l48, h_l48, h⟩ := bnd h
              refine Run.region hL hT [] (by cbv) ?_ ?_
              · exact (hq (app_mb (P := Tryd.prog) (f := Str_c) RLe.r (some_le (f := Str_c) h_l47 (RLe.cons rfl LLe.r RLe.nil)) h_l48) hq0)
              refine Run.row (rows := (ap (eStr_c y38) ([[.s (.string (ByteArray.mk #[115, 104, 111, 119]))]]))) 104098 (eStr_c l48) (by cbv) (app_le (f := Str_c) RLe.r (some_le (f := Str_c) h_l47 (RLe.cons rfl LLe.r RLe.nil)) h_l48) ?_
              refine Run.seq ?_
              refine Run.region hL hT [] (by cbv) ?_ ?_
              · exact (hq trivial hq0)
              rw [show ln (eInt_c a1v_Show) = lenI_Int a1v_Show from ln_eq Int_c _]
              refine Run.block ?_
              refine Run.loop2 (fun (z62 : List ByteArray) (z63 : Int) => ⟨98, 100000, [(3, .pt 1 0 0), (5, .rf 2), (73, .t (.im false (eInt_c a1v_Show))), (74, .t (.s (.int .i64 (lenI_Int a1v_Show)))), (75, .t (.s (.int .i64 z63)))], [(1, .box 35 [.t (.s (.int .i64 a1v_Table)), .t (.im false (eCond_c a1v_Where)), .t (.s (.int .i64 a1v_Order)), .t (.s (.bool a1v_Down)), .t (.s (.int .i64 a1v_First)), .t (.im false (eInt_c a1v_Show)), .t (.s (.bool a1v_Kids)), .t (.s (.int .i64 a1v_KidTable)), .t (.s (.int .i64 a1v_KidCol))]), (2, .row 0 9 1 (eStr_c z62))]⟩) (x0 := l48) (x1 := 0) h (Weak.of _ [(1, 1), (2, 104098)] hA (by cbv) ?_) (fun _ _ => rfl) ?_
              · repeat (first | exact hq0 | refine hq (by first | exact True.intro | rfl) ?_)
              · intro k z62 z63 h
                rw [impl_QueryText.l1] at h
                refine Run.seq ?_
                refine Run.region hL hT [] (by cbv) ?_ ?_
                · exact (hq trivial hq0)
                refine Run.seq ?_
                refine Run.cond (by cbv) (hq0) (fun c64 => ?_) (fun c64 => ?_)
                · have h := if_t c64 h
                  refine Run.skip ?_
                  refine Run.seq ?_
                  refine Run.block ?_
                  refine Run.seq ?_
                  obtain ⟨x65, h_x65, h⟩ := bnd h
                  refine Run.region hL hT [(0, .el [.s (.int .i64 x65)])] (by cbv) ?_ ?_
                  · exact (hq (get_le h_x65) (hq (get_lt (f := Int_c) h_x65) (hq (get_ge (f := Int_c) h_x65) hq0)))
                  obtain ⟨r66, h_r66, h⟩ := bnd h
                  obtain ⟨l67, h_l67, h⟩ := bnd h
                  obtain ⟨l68, h_l68, h⟩ := bnd h
                  refine Run.region hL hT [(2, .call [false] [.v (.jk)] [.v (.s (.string r66))])] (by cbv) ?_ ?_
                  · exact (hq (hC (impl_digits_ac h_r66)) (hq (app_mb (P := Tryd.prog) (f := Str_c) RLe.r (some_le (f := Str_c) h_l67 (RLe.cons rfl LLe.r RLe.nil)) h_l68) hq0))
                  refine Run.row (rows := (ap (eStr_c z62) ([[.s (.string r66)]]))) 108196 (eStr_c l68) (by cbv) (app_le (f := Str_c) RLe.r (some_le (f := Str_c) h_l67 (RLe.cons rfl LLe.r RLe.nil)) h_l68) ?_
                  refine Run.region hL hT [] (by cbv) ?_ ?_
                  · exact (hq trivial hq0)
                  refine ⟨l68, (ar .add .i64 z63 1), h, Weak.of _ [(1, 1), (2, 108196)] hA (by cbv) ?_⟩
                  repeat (first | exact hq0 | refine hq (by first | exact True.intro | rfl) ?_)
                · have h := if_f c64 h
                  refine Run.exit ?_
                  refine ⟨z62, h, Weak.of _ [(1, 1), (2, 2)] hA (by cbv) ?_⟩
                  repeat (first | exact hq0 | refine hq (by first | exact True.intro | rfl) ?_)
            · have h := if_f c46 h
              refine Run.skip ?_
              refine ⟨y38, h, Weak.of _ [(1, 1), (2, 2)] hA (by cbv) ?_⟩
              repeat (first | exact hq0 | refine hq (by first | exact True.intro | rfl) ?_)
          · intro y44 h
            rw [h_K45] at h
            obtain ⟨K70, h_K70, h⟩ := joinE h
            refine Run.join1 K70 (r := r) (fun (y69 : List ByteArray) => ⟨98, 100000, [(5, .rf 1)], [(1, .row 0 9 1 (eStr_c y69))]⟩) ?_ ?_
            · skip
              refine Run.seq ?_
              refine Run.region hL hT [] (by cbv) ?_ ?_
              · exact (hq trivial hq0)
              refine Run.cond (by cbv) (hq0) (fun c71 => ?_) (fun c71 => ?_)
              · have h := if_t c71 h
                obtain ⟨r72, h_r72, h⟩ := bnd h
                obtain ⟨r73, h_r73, h⟩ := bnd h
                obtain ⟨l74, h_l74, h⟩ := bnd h
                obtain ⟨l75, h_l75, h⟩ := bnd h
                refine Run.draw hL hT hM [(3, .call [false] [.v (.jk)] [.v (.s (.string r72))]), (6, .call [false] [.v (.jk)] [.v (.s (.string r73))])] (by cbv) (collect_cons (by cbv) (by cbv) (collect_cons (by cbv) (by cbv) (collect_cons (by cbv) (by cbv) (collect_cons (by cbv) (by cbv) (collect_cons (by cbv) (by cbv) (collect_cons (by cbv) (by cbv) (collect_cons (by cbv) (by cbv) (collect_cons (by cbv) (by cbv) (collect_cons (by cbv) (by cbv) (collect_cons (by cbv) (by cbv) collect_nil)))))))))) (by cbv) (by cbv) (by cbv) ?_ ?_
                · exact (hq trivial (hq (hC (impl_digits_ac h_r72)) (hq trivial (hq (hC (impl_digits_ac h_r73)) (hq (app_mb (P := Tryd.prog) (f := Str_c) RLe.r (some_le (f := Str_c) h_l74 (RLe.cons rfl LLe.r (RLe.cons rfl LLe.r (RLe.cons rfl LLe.r RLe.nil)))) h_l75) hq0)))))
                refine ⟨l75, h, (Weak.row (rows := (ap (eStr_c y44) ([[.s (.string (ByteArray.mk #[107, 105, 100, 115]))], [.s (.string r72)], [.s (.string r73)]]))) 104104 (eStr_c l75) (by cbv) (app_le (f := Str_c) RLe.r (some_le (f := Str_c) h_l74 (RLe.cons rfl LLe.r (RLe.cons rfl LLe.r (RLe.cons rfl LLe.r RLe.nil)))) h_l75)).trans (Weak.of _ [(1, 104104)] hA (by cbv) ?_)⟩
                repeat (first | exact hq0 | refine hq (by first | exact True.intro | rfl) ?_)
              · have h := if_f c71 h
                refine Run.skip ?_
                refine ⟨y44, h, Weak.of _ [(1, 2)] hA (by cbv) ?_⟩
                repeat (first | exact hq0 | refine hq (by first | exact True.intro | rfl) ?_)
            · intro y69 h
              rw [h_K70] at h
              refine Run.seq ?_
              obtain ⟨r76, h_r76, h⟩ := bnd h
              refine Run.region hL hT [(1, .call [false, false] [.v (.jk), .v (.jk)] [.v (.s (.string r76))])] (by cbv) ?_ ?_
              · exact (hq (hC (AC.args (strings_Join_ac h_r76) (ALe.v (LLe.im (RLe.eq (fr_row Str_c_z _))) (ALe.v LLe.r ALe.nil)))) hq0)
              refine Run.ret ?_
              cases h
              refine ⟨_, _, by cbv, ?_, ?_⟩
              · exact LLe.r
              · exact (ALe.v LLe.r ALe.nil)

theorem laws_FnExactQueryText_ac {a0v_Cols : List Int} {a1v_Table : Int} {a1v_Where : List Cond} {a1v_Order : Int} {a1v_Down : Bool} {a1v_First : Int} {a1v_Show : List Int} {a1v_Kids : Bool} {a1v_KidTable : Int} {a1v_KidCol : Int} {r : Bool} (h : laws_FnExactQueryText.f (Schema.mk a0v_Cols) (Query.mk a1v_Table a1v_Where a1v_Order a1v_Down a1v_First a1v_Show a1v_Kids a1v_KidTable a1v_KidCol) = some r) : AC Tryd.prog 3 [.ag [.im false (rowsOf Int_c a0v_Cols)], .ag [.s (.int .i64 a1v_Table), .im false (rowsOf Cond_c a1v_Where), .s (.int .i64 a1v_Order), .s (.bool a1v_Down), .s (.int .i64 a1v_First), .im false (rowsOf Int_c a1v_Show), .s (.bool a1v_Kids), .s (.int .i64 a1v_KidTable), .s (.int .i64 a1v_KidCol)]] [.ag [.jk], .ag [.jk, .jk, .jk, .jk, .jk, .jk, .jk, .jk, .jk]] [.v (.s (.bool r))] := by
  unfold laws_FnExactQueryText.f at h
  let eCond_c := rowsOf Cond_c
  let eInt_c := rowsOf Int_c
  show AC Tryd.prog 3 [.ag [.im false (eInt_c a0v_Cols)], .ag [.s (.int .i64 a1v_Table), .im false (eCond_c a1v_Where), .s (.int .i64 a1v_Order), .s (.bool a1v_Down), .s (.int .i64 a1v_First), .im false (eInt_c a1v_Show), .s (.bool a1v_Kids), .s (.int .i64 a1v_KidTable), .s (.int .i64 a1v_KidCol)]] _ _
  refine run3 Tryd.func3 (by rfl) (by rfl) (by cbv) ⟨by decide, rfl⟩ ?_
  intro ar cm bo sc sa sx ss sl bs sb ln sr ap up rp fr ge le lt nz mm ma sm fl al ci hL F hP hA hT hM hC
  refine Run.seq ?_
  refine Run.region hL hT [] (by cbv) ?_ ?_
  · exact hq0
  refine Run.seq ?_
  refine Run.region hL hT [] (by cbv) ?_ ?_
  · exact hq0
  refine Run.seq ?_
  obtain ⟨r1, h_r1, h⟩ := bnd h
  refine Run.region hL hT [(2, .call [false, false] [.ag [.jk], .v (.jk)] [.v (.s (.int .i64 r1))])] (by cbv) ?_ ?_
  · exact (hq trivial (hq (hC (laws_szSchema_ac h_r1)) hq0))
  refine Run.seq ?_
  refine Run.seq ?_
  refine Run.region hL hT [] (by cbv) ?_ ?_
  · exact (hq trivial hq0)
  refine Run.cond (by cbv) (hq0) (fun c2 => ?_) (fun c2 => ?_)
  · have h := if_t c2 h
    refine Run.seq ?_
    refine Run.region hL hT [] (by cbv) ?_ ?_
    · exact hq0
    refine Run.ret ?_
    cases h
    refine ⟨_, _, by cbv, ?_, ?_⟩
    · exact LLe.r
    · exact (ALe.v LLe.r ALe.nil)
  · have h := if_f c2 h
    refine Run.skip ?_
    refine Run.seq ?_
    obtain ⟨r3, h_r3, h⟩ := bnd h
    refine Run.region hL hT [(2, .call [false, false] [.ag [.jk, .jk, .jk, .jk, .jk, .jk, .jk, .jk, .jk], .v (.jk)] [.v (.s (.int .i64 r3))])] (by cbv) ?_ ?_
    · exact (hq trivial (hq (hC (laws_szQuery_ac h_r3)) hq0))
    refine Run.seq ?_
    refine Run.seq ?_
    refine Run.region hL hT [] (by cbv) ?_ ?_
    · exact (hq trivial hq0)
    refine Run.cond (by cbv) (hq0) (fun c4 => ?_) (fun c4 => ?_)
    · have h := if_t c4 h
      refine Run.seq ?_
      refine Run.region hL hT [] (by cbv) ?_ ?_
      · exact hq0
      refine Run.ret ?_
      cases h
      refine ⟨_, _, by cbv, ?_, ?_⟩
      · exact LLe.r
      · exact (ALe.v LLe.r ALe.nil)
    · have h := if_f c4 h
      refine Run.skip ?_
      refine Run.seq ?_
      obtain ⟨⟨r5v_Cols⟩, h_r5, h⟩ := bnd h
      obtain ⟨⟨r6v_Table, r6v_Where, r6v_Order, r6v_Down, r6v_First, r6v_Show, r6v_Kids, r6v_KidTable, r6v_KidCol⟩, h_r6, h⟩ := bnd h
      obtain ⟨r7, h_r7, h⟩ := bnd h
      refine Run.draw hL hT hM [(1, .call [false] [.ag [.jk]] [.ag [.ow 3 (eInt_c r5v_Cols)]]), (3, .call [false] [.ag [.jk, .jk, .jk, .jk, .jk, .jk, .jk, .jk, .jk]] [.ag [.s (.int .i64 r6v_Table), .ow 45 (eCond_c r6v_Where), .s (.int .i64 r6v_Order), .s (.bool r6v_Down), .s (.int .i64 r6v_First), .ow 3 (eInt_c r6v_Show), .s (.bool r6v_Kids), .s (.int .i64 r6v_KidTable), .s (.int .i64 r6v_KidCol)]]), (4, .call [false, false] [.ag [.jk], .ag [.jk, .jk, .jk, .jk, .jk, .jk, .jk, .jk, .jk]] [.v (.s (.string r7))])] (by cbv) (collect_cons (by cbv) (by cbv) (collect_cons (by cbv) (by cbv) (collect_cons (by cbv) (by cbv) (collect_cons (by cbv) (by cbv) (collect_cons (by cbv) (by cbv) (collect_cons (by cbv) (by cbv) collect_nil)))))) (by cbv) (by cbv) (by cbv) ?_ ?_
      · exact (hq trivial (hq (hC (laws_toSchema_ac h_r5)) (hq trivial (hq (hC (laws_toQuery_ac h_r6)) (hq (hC (AC.args (spec_QueryText_ac h_r7) (ALe.ag rfl (LLe.cons (LLe.im (RLe.eq (fr_row Int_c_z _))) LLe.nil) (ALe.ag rfl (LLe.c (LLe.cons (LLe.im (RLe.eq (fr_row Cond_c_z _))) (LLe.c (LLe.c (LLe.c (LLe.cons (LLe.im (RLe.eq (fr_row Int_c_z _))) (LLe.c (LLe.c (LLe.c LLe.nil))))))))) ALe.nil)))) hq0)))))
      refine Run.seq ?_
      obtain ⟨⟨r8v_Cols⟩, h_r8, h⟩ := bnd h
      refine Run.region hL hT [(1, .call [false] [.ag [.jk]] [.ag [.ow 3 (eInt_c r8v_Cols)]])] (by cbv) ?_ ?_
      · exact (hq trivial (hq (hC (laws_toSchema_ac h_r8)) (hq trivial hq0)))
      refine Run.seq ?_
      obtain ⟨⟨r9v_Table, r9v_Where, r9v_Order, r9v_Down, r9v_First, r9v_Show, r9v_Kids, r9v_KidTable, r9v_KidCol⟩, h_r9, h⟩ := bnd h
      refine Run.region hL hT [(1, .call [false] [.ag [.jk, .jk, .jk, .jk, .jk, .jk, .jk, .jk, .jk]] [.ag [.s (.int .i64 r9v_Table), .ow 45 (eCond_c r9v_Where), .s (.int .i64 r9v_Order), .s (.bool r9v_Down), .s (.int .i64 r9v_First), .ow 3 (eInt_c r9v_Show), .s (.bool r9v_Kids), .s (.int .i64 r9v_KidTable), .s (.int .i64 r9v_KidCol)]])] (by cbv) ?_ ?_
      · exact (hq trivial (hq (hC (laws_toQuery_ac h_r9)) (hq trivial hq0)))
      refine Run.seq ?_
      obtain ⟨r10, h_r10, h⟩ := bnd h
      refine Run.region hL hT [(2, .call [false, false] [.ag [.jk], .ag [.jk, .jk, .jk, .jk, .jk, .jk, .jk, .jk, .jk]] [.v (.s (.string r10))])] (by cbv) ?_ ?_
      · exact (hq trivial (hq trivial (hq (hC (AC.args (impl_QueryText_ac h_r10) (ALe.ag rfl (LLe.cons (LLe.im (RLe.eq (fr_row Int_c_z _))) LLe.nil) (ALe.ag rfl (LLe.c (LLe.cons (LLe.im (RLe.eq (fr_row Cond_c_z _))) (LLe.c (LLe.c (LLe.c (LLe.cons (LLe.im (RLe.eq (fr_row Int_c_z _))) (LLe.c (LLe.c (LLe.c LLe.nil))))))))) ALe.nil)))) hq0)))
      refine Run.seq ?_
      refine Run.seq ?_
      refine Run.region hL hT [] (by cbv) ?_ ?_
      · exact hq0
      refine Run.cond (by cbv) (hq0) (fun c11 => ?_) (fun c11 => ?_)
      · have h := if_t c11 h
        refine Run.seq ?_
        refine Run.region hL hT [] (by cbv) ?_ ?_
        · exact hq0
        refine Run.ret ?_
        cases h
        refine ⟨_, _, by cbv, ?_, ?_⟩
        · exact LLe.r
        · exact (ALe.v LLe.r ALe.nil)
      · have h := if_f c11 h
        refine Run.skip ?_
        refine Run.seq ?_
        refine Run.seq ?_
        obtain ⟨⟨r12v_Cols⟩, h_r12, h⟩ := bnd h
        obtain ⟨r13, h_r13, h⟩ := bnd h
        refine Run.draw hL hT hM [(2, .call [false] [.ag [.jk]] [.ag [.ow 3 (eInt_c r12v_Cols)]]), (3, .call [false, false] [.ag [.jk], .ag [.jk]] [.v (.s (.bool r13))])] (by cbv) (by cbv) (by cbv) (by cbv) (by cbv) ?_ ?_
        · exact (hq trivial (hq trivial (hq (hC (laws_toSchema_ac h_r12)) (hq (hC (AC.args (laws_eqSchema_ac h_r13) (ALe.ag rfl (LLe.cons (LLe.im (RLe.eq (fr_row Int_c_z _))) LLe.nil) (ALe.ag rfl (LLe.cons (LLe.im (RLe.eq (fr_row Int_c_z _))) LLe.nil) ALe.nil)))) hq0))))
        refine Run.cond (by cbv) (hq0) (fun c14 => ?_) (fun c14 => ?_)
        · have h := if_t c14 h
          refine Run.seq ?_
          refine Run.region hL hT [] (by cbv) ?_ ?_
          · exact hq0
          refine Run.ret ?_
          cases h
          refine ⟨_, _, by cbv, ?_, ?_⟩
          · exact LLe.r
          · exact (ALe.v LLe.r ALe.nil)
        · have h := if_f c14 h
          refine Run.skip ?_
          refine Run.seq ?_
          refine Run.seq ?_
          obtain ⟨⟨r15v_Table, r15v_Where, r15v_Order, r15v_Down, r15v_First, r15v_Show, r15v_Kids, r15v_KidTable, r15v_KidCol⟩, h_r15, h⟩ := bnd h
          obtain ⟨r16, h_r16, h⟩ := bnd h
          refine Run.draw hL hT hM [(2, .call [false] [.ag [.jk, .jk, .jk, .jk, .jk, .jk, .jk, .jk, .jk]] [.ag [.s (.int .i64 r15v_Table), .ow 45 (eCond_c r15v_Where), .s (.int .i64 r15v_Order), .s (.bool r15v_Down), .s (.int .i64 r15v_First), .ow 3 (eInt_c r15v_Show), .s (.bool r15v_Kids), .s (.int .i64 r15v_KidTable), .s (.int .i64 r15v_KidCol)]]), (3, .call [false, false] [.ag [.jk, .jk, .jk, .jk, .jk, .jk, .jk, .jk, .jk], .ag [.jk, .jk, .jk, .jk, .jk, .jk, .jk, .jk, .jk]] [.v (.s (.bool r16))])] (by cbv) (by cbv) (by cbv) (by cbv) (by cbv) ?_ ?_
          · exact (hq trivial (hq trivial (hq (hC (laws_toQuery_ac h_r15)) (hq (hC (AC.args (laws_eqQuery_ac h_r16) (ALe.ag rfl (LLe.c (LLe.cons (LLe.im (RLe.eq (fr_row Cond_c_z _))) (LLe.c (LLe.c (LLe.c (LLe.cons (LLe.im (RLe.eq (fr_row Int_c_z _))) (LLe.c (LLe.c (LLe.c LLe.nil))))))))) (ALe.ag rfl (LLe.c (LLe.cons (LLe.im (RLe.eq (fr_row Cond_c_z _))) (LLe.c (LLe.c (LLe.c (LLe.cons (LLe.im (RLe.eq (fr_row Int_c_z _))) (LLe.c (LLe.c (LLe.c LLe.nil))))))))) ALe.nil)))) hq0))))
          refine Run.cond (by cbv) (hq0) (fun c17 => ?_) (fun c17 => ?_)
          · have h := if_t c17 h
            refine Run.seq ?_
            refine Run.region hL hT [] (by cbv) ?_ ?_
            · exact hq0
            refine Run.ret ?_
            cases h
            refine ⟨_, _, by cbv, ?_, ?_⟩
            · exact LLe.r
            · exact (ALe.v LLe.r ALe.nil)
          · have h := if_f c17 h
            refine Run.skip ?_
            refine Run.seq ?_
            refine Run.region hL hT [] (by cbv) ?_ ?_
            · exact hq0
            refine Run.ret ?_
            cases h
            refine ⟨_, _, by cbv, ?_, ?_⟩
            · exact LLe.r
            · exact (ALe.v LLe.r ALe.nil)


end Go.Proofs.YtjnahdkalbolkaaDoor.L
