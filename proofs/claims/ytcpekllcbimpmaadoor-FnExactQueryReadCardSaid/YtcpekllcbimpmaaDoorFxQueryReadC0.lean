/- The contracts of the program's functions. -/
import Derived.Test.YtcpekllcbimpmaaDoorProg
import Derived.Test.YtcpekllcbimpmaaDoorFxQueryReadU
import Derived.KernelRfl
namespace Go.Proofs.YtcpekllcbimpmaaDoor.L
open Go Go.Proofs
set_option linter.unusedVariables false
set_option linter.unusedSimpArgs false
set_option maxRecDepth 8000
def Int_c (x : Int) : List T := [.s (.int .i64 x)]
theorem Int_c_n : ∀ x, (Int_c x).length = 1 := fun _ => rfl
theorem Int_c_f : ∀ x, (Int_c x).length = 1 ∧ ∀ c ∈ Int_c x, ∃ v, c = T.s v := fun x => ⟨rfl, by simp [Int_c]⟩
theorem Int_c_z : ∀ x, fzL (Int_c x) = Int_c x := fun _ => rfl
def Cond_c (x : Cond) : List T := [.s (.int .i64 x.Col), .s (.int .i64 x.Op), .s (.int .i64 x.V)]
theorem Cond_c_n : ∀ x, (Cond_c x).length = 3 := fun _ => rfl
theorem Cond_c_f : ∀ x, (Cond_c x).length = 3 ∧ ∀ c ∈ Cond_c x, ∃ v, c = T.s v := fun x => ⟨rfl, by simp [Cond_c]⟩
theorem Cond_c_z : ∀ x, fzL (Cond_c x) = Cond_c x := fun _ => rfl
def Str_c (x : ByteArray) : List T := [.s (.string x)]
theorem Str_c_n : ∀ x, (Str_c x).length = 1 := fun _ => rfl
theorem Str_c_f : ∀ x, (Str_c x).length = 1 ∧ ∀ c ∈ Str_c x, ∃ v, c = T.s v := fun x => ⟨rfl, by simp [Str_c]⟩
theorem Str_c_z : ∀ x, fzL (Str_c x) = Str_c x := fun _ => rfl
def u8_c (x : Int) : List T := [.s (.int .u8 x)]
theorem u8_c_n : ∀ x, (u8_c x).length = 1 := fun _ => rfl
theorem u8_c_f : ∀ x, (u8_c x).length = 1 ∧ ∀ c ∈ u8_c x, ∃ v, c = T.s v := fun x => ⟨rfl, by simp [u8_c]⟩
theorem u8_c_z : ∀ x, fzL (u8_c x) = u8_c x := fun _ => rfl
def tab : List (Nat × Ty) := [(3, Ty.mk false 1 8 0 [] [.int .i64 0] (some .i64) false false false false none),
  (4, Ty.mk false 1 1 0 [] [.bool false] (none) true false false false none),
  (5, Ty.mk false 1 1 0 [] [.int .u8 0] (some .u8) false false false false none),
  (9, Ty.mk false 1 16 0 [] [.string ByteArray.empty] (none) false false false true none),
  (22, Ty.mk false 1 24 3 [] [.slice none 0 0] (none) false false true false none),
  (24, Ty.mk true 1 24 0 [(0, 1)] [.slice none 0 0] (none) false false false false none),
  (31, Ty.mk true 1 24 0 [(0, 1)] [.slice none 0 0] (none) false false false false none),
  (33, Ty.mk false 1 24 65 [] [.slice none 0 0] (none) false false true false none),
  (35, Ty.mk true 9 104 0 [(0, 1), (1, 1), (2, 1), (3, 1), (4, 1), (5, 1), (6, 1), (7, 1), (8, 1)] [.int .i64 0, .slice none 0 0, .int .i64 0, .bool false, .int .i64 0, .slice none 0 0, .bool false, .int .i64 0, .int .i64 0] (none) false false false false none),
  (46, Ty.mk false 1 24 9 [] [.slice none 0 0] (none) false false true false none),
  (54, Ty.mk false 1 24 5 [] [.slice none 0 0] (none) false false true false none),
  (65, Ty.mk true 3 24 0 [(0, 1), (1, 1), (2, 1)] [.int .i64 0, .int .i64 0, .int .i64 0] (none) false false false false none),
  (76, Ty.mk false 1 8 0 [] [.pointer none] (none) false false false false none),
  (79, Ty.mk true 2 32 0 [(0, 1), (1, 1)] [.slice none 0 0, .bool false] (none) false false false false none),
  (82, Ty.mk false 1 8 0 [] [.pointer none] (none) false false false false none),
  (84, Ty.mk true 4 40 0 [(0, 1), (1, 1), (2, 1), (3, 1)] [.string ByteArray.empty, .int .i64 0, .bool false, .int .i64 0] (none) false false false false none),
  (111, Ty.mk false 1 16 0 [] [.nilIface] (none) false true false false none)]
theorem tab_ok : TabOk Tryd.prog tab := TabOk.of (l := [(3, false), (4, false), (5, false), (9, false), (22, false), (24, false), (31, false), (33, false), (35, false), (46, false), (54, false), (65, false), (76, false), (79, false), (82, false), (84, false), (111, false)]) (by kernel_rfl)
theorem mixed : Tryd.prog.follows .mixedOrders = true := by rfl
theorem run3 {f : FuncId} {fn : Func} {c : Code} {args outs res : List A} {σ : St} {ds : List (Option Nat)} (hf : Tryd.prog.funcs[f]? = some fn) (hnm : (fn.name == "runtime.NumGoroutine") = false) (hb : fn.body = some c) (he : entry tab fn.ntmps args = some (σ, ds)) (hds : (idsOf ds).Nodup ∧ ds.length = (acells args).length)
    (h : let ar := Ls.ar; let cm := Ls.cm; let bo := Ls.bo; let sc := Ls.sc; let sa := Ls.sa; let sx := Ls.sx; let ss := Ls.ss; let sl := Ls.sl; let bs := Ls.bs; let sb := Ls.sb; let ln := Ls.ln; let sr := Ls.sr; let ap := Ls.ap; let up := Ls.up; let rp := Ls.rp; let fr := Ls.fr; let ge := Ls.ge; let le := Ls.le; let lt := Ls.lt; let nz := Ls.nz; let mm := Ls.mm; let ma := Ls.ma; let sm := Ls.sm; let fl := Ls.fl; let al := Ls.al; let ci := Ls.ci; (⟨ar, cm, bo, sc, sa, sx, ss, sl, bs, sb, ln, sr, ap, up, rp, fr, ge, le, lt, nz, mm, ma, sm, fl, al, ci⟩ : Lf) = Ls → ∀ F : Fr, F.P = Tryd.prog → (∀ i v, F.anc i = some v → i ∈ idsOf ds) → TabOk F.P tab → F.P.follows .mixedOrders = true → (∀ {f a o r}, AC Tryd.prog f a o r → AC F.P f a o r) → Run F σ c (endQ (EndL Tryd.prog tab fn.results.toList ds outs res))) : AC Tryd.prog f args outs res :=
  AC.of_run2 tab_ok hf hnm hb he hds fun F hP hA => h rfl F hP hA (hP ▸ tab_ok) (hP ▸ mixed) fun h => hP ▸ h

theorem laws_toIntS_ac {a0 : List Int} {r : (List Int)} (h : laws_toIntS.f a0 = some r) : AC Tryd.prog 35 [.v (.im false (rowsOf Int_c a0))] [.v (.jk)] [.v (.ow 3 (rowsOf Int_c r))] := by
  unfold laws_toIntS.f at h
  let eInt_c := rowsOf Int_c
  let lenI_Int := @lenI Int
  show AC Tryd.prog 35 [.v (.im false (eInt_c a0))] _ _
  refine run3 Tryd.func35 (by rfl) (by rfl) (by cbv) ⟨by decide, rfl⟩ ?_
  intro ar cm bo sc sa sx ss sl bs sb ln sr ap up rp fr ge le lt nz mm ma sm fl al ci hL F hP hA hT hM hC
  refine Run.seq ?_
  refine Run.region hL hT [] (by cbv) ?_ ?_
  · exact hq0
  refine Run.seq ?_
  obtain ⟨l1, h_l1, h⟩ := bnd h
  refine Run.region hL hT [] (by cbv) ?_ ?_
  · exact (hq trivial (hq (by rw [show ln (eInt_c a0) = lenI_Int a0 from ln_eq Int_c _]; exact (mk_0 h_l1)) (hq (by rw [show ln (eInt_c a0) = lenI_Int a0 from ln_eq Int_c _]; exact (mk_mm h_l1)) hq0)))
  rw [show ln (eInt_c a0) = lenI_Int a0 from ln_eq Int_c _]
  refine Run.row (rows := (rp (lenI_Int a0) [.s (.int .i64 0)])) 4098 (eInt_c l1) (by cbv) (mk_le (f := Int_c) rfl LLe.r h_l1) ?_
  refine Run.seq ?_
  refine Run.seq ?_
  refine Run.region hL hT [] (by cbv) ?_ ?_
  · exact hq0
  refine Run.block ?_
  refine Run.loop2 (fun (z5 : List Int) (z6 : Int) => ⟨22, 100000, [(0, .t (.im false (eInt_c a0))), (3, .rf 1), (4, .t (.s (.int .i64 z6)))], [(1, .row 0 3 1 (eInt_c z5))]⟩) (x0 := l1) (x1 := 0) h (Weak.of _ [(1, 4098)] hA (by cbv) ?_) (fun _ _ => rfl) ?_
  · repeat (first | exact hq0 | refine hq (by first | exact True.intro | rfl) ?_)
  · intro k z5 z6 h
    rw [laws_toIntS.l0] at h
    refine Run.seq ?_
    refine Run.seq ?_
    refine Run.region hL hT [] (by cbv) ?_ ?_
    · exact (hq trivial hq0)
    rw [show ln (eInt_c a0) = lenI_Int a0 from ln_eq Int_c _]
    refine Run.cond (by cbv) (hq0) (fun c7 => ?_) (fun c7 => ?_)
    · have h := if_t c7 h
      refine Run.skip ?_
      refine Run.seq ?_
      refine Run.block ?_
      obtain ⟨x8, h_x8, h⟩ := bnd h
      obtain ⟨x9, h_x9, h⟩ := bnd h
      obtain ⟨l10, h_l10, h⟩ := bnd h
      refine Run.region hL hT [(4, .el [.s (.int .i64 x8)])] (by cbv) ?_ ?_
      · exact (hq (get_le h_x8) (hq (get_lt (f := Int_c) h_x8) (hq (get_ge (f := Int_c) h_x8) (hq (get_le h_x9) (hq (get_lt (f := Int_c) h_x9) (hq (get_le h_x9) (hq (get_lt (f := Int_c) h_x9) hq0)))))))
      refine Run.row (rows := (up (eInt_c z5) z6 0 [.s (.int .i64 x8)])) 1 (eInt_c l10) (by cbv) (sto_le (f := Int_c) h_x9 h_l10 rfl LLe.r) ?_
      refine Run.region hL hT [] (by cbv) ?_ ?_
      · exact (hq trivial hq0)
      refine ⟨l10, (ar .add .i64 z6 1), h, Weak.of _ [(1, 1)] hA (by cbv) ?_⟩
      repeat (first | exact hq0 | refine hq (by first | exact True.intro | rfl) ?_)
    · have h := if_f c7 h
      refine Run.exit ?_
      refine Run.seq ?_
      refine Run.region hL hT [] (by cbv) ?_ ?_
      · exact hq0
      refine Run.ret ?_
      cases h
      refine ⟨_, _, by cbv, ?_, ?_⟩
      · exact LLe.r
      · exact (ALe.v LLe.r ALe.nil)

theorem laws_toSchema_ac {a0v_Cols : List Int} {r : Schema} (h : laws_toSchema.f (Schema.mk a0v_Cols) = some r) : AC Tryd.prog 10 [.ag [.im false (rowsOf Int_c a0v_Cols)]] [.ag [.jk]] [.ag [.ow 3 (rowsOf Int_c r.Cols)]] := by
  unfold laws_toSchema.f at h
  let eInt_c := rowsOf Int_c
  show AC Tryd.prog 10 [.ag [.im false (eInt_c a0v_Cols)]] _ _
  refine run3 Tryd.func10 (by rfl) (by rfl) (by cbv) ⟨by decide, rfl⟩ ?_
  intro ar cm bo sc sa sx ss sl bs sb ln sr ap up rp fr ge le lt nz mm ma sm fl al ci hL F hP hA hT hM hC
  refine Run.seq ?_
  refine Run.region hL hT [] (by cbv) ?_ ?_
  · exact hq0
  refine Run.seq ?_
  refine Run.region hL hT [] (by cbv) ?_ ?_
  · exact hq0
  refine Run.seq ?_
  obtain ⟨r1, h_r1, h⟩ := bnd h
  refine Run.region hL hT [(2, .call [false] [.v (.jk)] [.v (.ow 3 (eInt_c r1))])] (by cbv) ?_ ?_
  · exact (hq trivial (hq (hC (laws_toIntS_ac h_r1)) (hq trivial hq0)))
  refine Run.seq ?_
  refine Run.region hL hT [] (by cbv) ?_ ?_
  · exact (hq trivial (hq trivial hq0))
  refine Run.ret ?_
  cases h
  refine ⟨_, _, by cbv, ?_, ?_⟩
  · exact LLe.r
  · exact (ALe.ag rfl LLe.r ALe.nil)

theorem laws_eqIntS_ac {a0 : List Int} {a1 : List Int} {r : Bool} (h : laws_eqIntS.f a0 a1 = some r) : AC Tryd.prog 39 [.v (.im false (rowsOf Int_c a0)), .v (.im false (rowsOf Int_c a1))] [.v (.jk), .v (.jk)] [.v (.s (.bool r))] := by
  unfold laws_eqIntS.f at h
  let eInt_c := rowsOf Int_c
  let lenI_Int := @lenI Int
  show AC Tryd.prog 39 [.v (.im false (eInt_c a0)), .v (.im false (eInt_c a1))] _ _
  refine run3 Tryd.func39 (by rfl) (by rfl) (by cbv) ⟨by decide, rfl⟩ ?_
  intro ar cm bo sc sa sx ss sl bs sb ln sr ap up rp fr ge le lt nz mm ma sm fl al ci hL F hP hA hT hM hC
  refine Run.seq ?_
  refine Run.region hL hT [] (by cbv) ?_ ?_
  · exact hq0
  refine Run.seq ?_
  refine Run.seq ?_
  refine Run.region hL hT [] (by cbv) ?_ ?_
  · exact (hq trivial hq0)
  rw [show ln (eInt_c a0) = lenI_Int a0 from ln_eq Int_c _]
  rw [show ln (eInt_c a1) = lenI_Int a1 from ln_eq Int_c _]
  refine Run.cond (by cbv) (hq0) (fun c1 => ?_) (fun c1 => ?_)
  · have h := if_t c1 h
    refine Run.seq ?_
    refine Run.region hL hT [] (by cbv) ?_ ?_
    · exact hq0
    refine Run.ret ?_
    cases h
    refine ⟨_, _, by cbv, ?_, ?_⟩
    · exact LLe.r
    · exact (ALe.v LLe.r ALe.nil)
  · have h := if_f c1 h
    refine Run.skip ?_
    refine Run.seq ?_
    refine Run.seq ?_
    refine Run.region hL hT [] (by cbv) ?_ ?_
    · exact hq0
    refine Run.block ?_
    refine Run.loop1 (fun (z5 : Int) => ⟨26, 100000, [(0, .t (.im false (eInt_c a0))), (1, .t (.im false (eInt_c a1))), (5, .t (.s (.int .i64 z5)))], []⟩) (x0 := 0) h (Weak.of _ [] hA (by cbv) ?_) (fun _ => rfl) ?_
    · repeat (first | exact hq0 | refine hq (by first | exact True.intro | rfl) ?_)
    · intro k z5 h
      rw [laws_eqIntS.l0] at h
      refine Run.seq ?_
      refine Run.seq ?_
      refine Run.region hL hT [] (by cbv) ?_ ?_
      · exact (hq trivial hq0)
      rw [show ln (eInt_c a0) = lenI_Int a0 from ln_eq Int_c _]
      refine Run.cond (by cbv) (hq0) (fun c6 => ?_) (fun c6 => ?_)
      · have h := if_t c6 h
        refine Run.skip ?_
        refine Run.seq ?_
        refine Run.block ?_
        refine Run.seq ?_
        obtain ⟨x7, h_x7, h⟩ := bnd h
        obtain ⟨x8, h_x8, h⟩ := bnd h
        refine Run.draw hL hT hM [(2, .el [.s (.int .i64 x7)]), (6, .el [.s (.int .i64 x8)])] (by cbv) (collect_cons (by cbv) (by cbv) (collect_cons (by cbv) (by cbv) (collect_cons (by cbv) (by cbv) (collect_cons (by cbv) (by cbv) (collect_cons (by cbv) (by cbv) (collect_cons (by cbv) (by cbv) (collect_cons (by cbv) (by cbv) (collect_cons (by cbv) (by cbv) (collect_cons (by cbv) (by cbv) collect_nil))))))))) (by cbv) (by cbv) (by cbv) ?_ ?_
        · exact (hq (get_le h_x7) (hq (get_lt (f := Int_c) h_x7) (hq (get_ge (f := Int_c) h_x7) (hq (get_le h_x8) (hq (get_lt (f := Int_c) h_x8) (hq (get_ge (f := Int_c) h_x8) (hq trivial hq0)))))))
        refine Run.cond (by cbv) (hq0) (fun c9 => ?_) (fun c9 => ?_)
        · have h := if_t c9 h
          refine Run.seq ?_
          refine Run.region hL hT [] (by cbv) ?_ ?_
          · exact hq0
          refine Run.ret ?_
          cases h
          refine ⟨_, _, by cbv, ?_, ?_⟩
          · exact LLe.r
          · exact (ALe.v LLe.r ALe.nil)
        · have h := if_f c9 h
          refine Run.skip ?_
          refine Run.region hL hT [] (by cbv) ?_ ?_
          · exact (hq trivial hq0)
          refine ⟨(ar .add .i64 z5 1), h, Weak.of _ [] hA (by cbv) ?_⟩
          repeat (first | exact hq0 | refine hq (by first | exact True.intro | rfl) ?_)
      · have h := if_f c6 h
        refine Run.exit ?_
        refine Run.seq ?_
        refine Run.region hL hT [] (by cbv) ?_ ?_
        · exact hq0
        refine Run.ret ?_
        cases h
        refine ⟨_, _, by cbv, ?_, ?_⟩
        · exact LLe.r
        · exact (ALe.v LLe.r ALe.nil)

theorem laws_eqSchema_ac {a0v_Cols : List Int} {a1v_Cols : List Int} {r : Bool} (h : laws_eqSchema.f (Schema.mk a0v_Cols) (Schema.mk a1v_Cols) = some r) : AC Tryd.prog 13 [.ag [.im false (rowsOf Int_c a0v_Cols)], .ag [.im false (rowsOf Int_c a1v_Cols)]] [.ag [.jk], .ag [.jk]] [.v (.s (.bool r))] := by
  unfold laws_eqSchema.f at h
  let eInt_c := rowsOf Int_c
  show AC Tryd.prog 13 [.ag [.im false (eInt_c a0v_Cols)], .ag [.im false (eInt_c a1v_Cols)]] _ _
  refine run3 Tryd.func13 (by rfl) (by rfl) (by cbv) ⟨by decide, rfl⟩ ?_
  intro ar cm bo sc sa sx ss sl bs sb ln sr ap up rp fr ge le lt nz mm ma sm fl al ci hL F hP hA hT hM hC
  refine Run.seq ?_
  refine Run.region hL hT [] (by cbv) ?_ ?_
  · exact hq0
  refine Run.seq ?_
  refine Run.seq ?_
  obtain ⟨r1, h_r1, h⟩ := bnd h
  refine Run.region hL hT [(4, .call [false, false] [.v (.jk), .v (.jk)] [.v (.s (.bool r1))])] (by cbv) ?_ ?_
  · exact (hq trivial (hq trivial (hq (hC (laws_eqIntS_ac h_r1)) hq0)))
  refine Run.cond (by cbv) (hq0) (fun c2 => ?_) (fun c2 => ?_)
  · have h := if_t c2 h
    refine Run.seq ?_
    refine Run.region hL hT [] (by cbv) ?_ ?_
    · exact hq0
    refine Run.ret ?_
    cases h
    refine ⟨_, _, by cbv, ?_, ?_⟩
    · exact LLe.r
    · exact (ALe.v LLe.r ALe.nil)
  · have h := if_f c2 h
    refine Run.skip ?_
    refine Run.seq ?_
    refine Run.region hL hT [] (by cbv) ?_ ?_
    · exact hq0
    refine Run.ret ?_
    cases h
    refine ⟨_, _, by cbv, ?_, ?_⟩
    · exact LLe.r
    · exact (ALe.v LLe.r ALe.nil)

theorem laws_eqCond_ac {a0v_Col : Int} {a0v_Op : Int} {a0v_V : Int} {a1v_Col : Int} {a1v_Op : Int} {a1v_V : Int} {r : Bool} (h : laws_eqCond.f (Cond.mk a0v_Col a0v_Op a0v_V) (Cond.mk a1v_Col a1v_Op a1v_V) = some r) : AC Tryd.prog 80 [.ag [.s (.int .i64 a0v_Col), .s (.int .i64 a0v_Op), .s (.int .i64 a0v_V)], .ag [.s (.int .i64 a1v_Col), .s (.int .i64 a1v_Op), .s (.int .i64 a1v_V)]] [.ag [.jk, .jk, .jk], .ag [.jk, .jk, .jk]] [.v (.s (.bool r))] := by
  unfold laws_eqCond.f at h
  show AC Tryd.prog 80 [.ag [.s (.int .i64 a0v_Col), .s (.int .i64 a0v_Op), .s (.int .i64 a0v_V)], .ag [.s (.int .i64 a1v_Col), .s (.int .i64 a1v_Op), .s (.int .i64 a1v_V)]] _ _
  refine run3 Tryd.func80 (by rfl) (by rfl) (by cbv) ⟨by decide, rfl⟩ ?_
  intro ar cm bo sc sa sx ss sl bs sb ln sr ap up rp fr ge le lt nz mm ma sm fl al ci hL F hP hA hT hM hC
  refine Run.seq ?_
  refine Run.region hL hT [] (by cbv) ?_ ?_
  · exact hq0
  refine Run.seq ?_
  refine Run.seq ?_
  refine Run.region hL hT [] (by cbv) ?_ ?_
  · exact (hq trivial (hq trivial (hq trivial hq0)))
  refine Run.cond (by cbv) (hq0) (fun c1 => ?_) (fun c1 => ?_)
  · have h := if_t c1 h
    refine Run.seq ?_
    refine Run.region hL hT [] (by cbv) ?_ ?_
    · exact hq0
    refine Run.ret ?_
    cases h
    refine ⟨_, _, by cbv, ?_, ?_⟩
    · exact LLe.r
    · exact (ALe.v LLe.r ALe.nil)
  · have h := if_f c1 h
    refine Run.skip ?_
    refine Run.seq ?_
    refine Run.seq ?_
    refine Run.region hL hT [] (by cbv) ?_ ?_
    · exact (hq trivial (hq trivial (hq trivial hq0)))
    refine Run.cond (by cbv) (hq0) (fun c2 => ?_) (fun c2 => ?_)
    · have h := if_t c2 h
      refine Run.seq ?_
      refine Run.region hL hT [] (by cbv) ?_ ?_
      · exact hq0
      refine Run.ret ?_
      cases h
      refine ⟨_, _, by cbv, ?_, ?_⟩
      · exact LLe.r
      · exact (ALe.v LLe.r ALe.nil)
    · have h := if_f c2 h
      refine Run.skip ?_
      refine Run.seq ?_
      refine Run.seq ?_
      refine Run.region hL hT [] (by cbv) ?_ ?_
      · exact (hq trivial (hq trivial (hq trivial hq0)))
      refine Run.cond (by cbv) (hq0) (fun c3 => ?_) (fun c3 => ?_)
      · have h := if_t c3 h
        refine Run.seq ?_
        refine Run.region hL hT [] (by cbv) ?_ ?_
        · exact hq0
        refine Run.ret ?_
        cases h
        refine ⟨_, _, by cbv, ?_, ?_⟩
        · exact LLe.r
        · exact (ALe.v LLe.r ALe.nil)
      · have h := if_f c3 h
        refine Run.skip ?_
        refine Run.seq ?_
        refine Run.region hL hT [] (by cbv) ?_ ?_
        · exact hq0
        refine Run.ret ?_
        cases h
        refine ⟨_, _, by cbv, ?_, ?_⟩
        · exact LLe.r
        · exact (ALe.v LLe.r ALe.nil)

theorem laws_eqCondS_ac {a0 : List Cond} {a1 : List Cond} {r : Bool} (h : laws_eqCondS.f a0 a1 = some r) : AC Tryd.prog 40 [.v (.im false (rowsOf Cond_c a0)), .v (.im false (rowsOf Cond_c a1))] [.v (.jk), .v (.jk)] [.v (.s (.bool r))] := by
  unfold laws_eqCondS.f at h
  let eCond_c := rowsOf Cond_c
  let lenI_Cond := @lenI Cond
  show AC Tryd.prog 40 [.v (.im false (eCond_c a0)), .v (.im false (eCond_c a1))] _ _
  refine run3 Tryd.func40 (by rfl) (by rfl) (by cbv) ⟨by decide, rfl⟩ ?_
  intro ar cm bo sc sa sx ss sl bs sb ln sr ap up rp fr ge le lt nz mm ma sm fl al ci hL F hP hA hT hM hC
  refine Run.seq ?_
  refine Run.region hL hT [] (by cbv) ?_ ?_
  · exact hq0
  refine Run.seq ?_
  refine Run.seq ?_
  refine Run.region hL hT [] (by cbv) ?_ ?_
  · exact (hq trivial hq0)
  rw [show ln (eCond_c a0) = lenI_Cond a0 from ln_eq Cond_c _]
  rw [show ln (eCond_c a1) = lenI_Cond a1 from ln_eq Cond_c _]
  refine Run.cond (by cbv) (hq0) (fun c1 => ?_) (fun c1 => ?_)
  · have h := if_t c1 h
    refine Run.seq ?_
    refine Run.region hL hT [] (by cbv) ?_ ?_
    · exact hq0
    refine Run.ret ?_
    cases h
    refine ⟨_, _, by cbv, ?_, ?_⟩
    · exact LLe.r
    · exact (ALe.v LLe.r ALe.nil)
  · have h := if_f c1 h
    refine Run.skip ?_
    refine Run.seq ?_
    refine Run.seq ?_
    refine Run.region hL hT [] (by cbv) ?_ ?_
    · exact hq0
    refine Run.block ?_
    refine Run.loop1 (fun (z5 : Int) => ⟨27, 100000, [(0, .t (.im false (eCond_c a0))), (1, .t (.im false (eCond_c a1))), (5, .t (.s (.int .i64 z5)))], []⟩) (x0 := 0) h (Weak.of _ [] hA (by cbv) ?_) (fun _ => rfl) ?_
    · repeat (first | exact hq0 | refine hq (by first | exact True.intro | rfl) ?_)
    · intro k z5 h
      rw [laws_eqCondS.l0] at h
      refine Run.seq ?_
      refine Run.seq ?_
      refine Run.region hL hT [] (by cbv) ?_ ?_
      · exact (hq trivial hq0)
      rw [show ln (eCond_c a0) = lenI_Cond a0 from ln_eq Cond_c _]
      refine Run.cond (by cbv) (hq0) (fun c6 => ?_) (fun c6 => ?_)
      · have h := if_t c6 h
        refine Run.skip ?_
        refine Run.seq ?_
        refine Run.block ?_
        refine Run.seq ?_
        obtain ⟨⟨x7v_Col, x7v_Op, x7v_V⟩, h_x7, h⟩ := bnd h
        obtain ⟨⟨x8v_Col, x8v_Op, x8v_V⟩, h_x8, h⟩ := bnd h
        obtain ⟨r9, h_r9, h⟩ := bnd h
        refine Run.draw hL hT hM [(2, .el [.s (.int .i64 x7v_Col), .s (.int .i64 x7v_Op), .s (.int .i64 x7v_V)]), (6, .el [.s (.int .i64 x8v_Col), .s (.int .i64 x8v_Op), .s (.int .i64 x8v_V)]), (8, .call [false, false] [.ag [.jk, .jk, .jk], .ag [.jk, .jk, .jk]] [.v (.s (.bool r9))])] (by cbv) (collect_cons (by cbv) (by cbv) (collect_cons (by cbv) (by cbv) (collect_cons (by cbv) (by cbv) (collect_cons (by cbv) (by cbv) (collect_cons (by cbv) (by cbv) (collect_cons (by cbv) (by cbv) (collect_cons (by cbv) (by cbv) (collect_cons (by cbv) (by cbv) (collect_cons (by cbv) (by cbv) (collect_cons (by cbv) (by cbv) collect_nil)))))))))) (by cbv) (by cbv) (by cbv) ?_ ?_
        · exact (hq (get_le h_x7) (hq (get_lt (f := Cond_c) h_x7) (hq (get_ge (f := Cond_c) h_x7) (hq (get_le h_x8) (hq (get_lt (f := Cond_c) h_x8) (hq (get_ge (f := Cond_c) h_x8) (hq (hC (laws_eqCond_ac h_r9)) hq0)))))))
        refine Run.cond (by cbv) (hq0) (fun c10 => ?_) (fun c10 => ?_)
        · have h := if_t c10 h
          refine Run.seq ?_
          refine Run.region hL hT [] (by cbv) ?_ ?_
          · exact hq0
          refine Run.ret ?_
          cases h
          refine ⟨_, _, by cbv, ?_, ?_⟩
          · exact LLe.r
          · exact (ALe.v LLe.r ALe.nil)
        · have h := if_f c10 h
          refine Run.skip ?_
          refine Run.region hL hT [] (by cbv) ?_ ?_
          · exact (hq trivial hq0)
          refine ⟨(ar .add .i64 z5 1), h, Weak.of _ [] hA (by cbv) ?_⟩
          repeat (first | exact hq0 | refine hq (by first | exact True.intro | rfl) ?_)
      · have h := if_f c6 h
        refine Run.exit ?_
        refine Run.seq ?_
        refine Run.region hL hT [] (by cbv) ?_ ?_
        · exact hq0
        refine Run.ret ?_
        cases h
        refine ⟨_, _, by cbv, ?_, ?_⟩
        · exact LLe.r
        · exact (ALe.v LLe.r ALe.nil)

theorem laws_eqQuery_ac {a0v_Table : Int} {a0v_Where : List Cond} {a0v_Order : Int} {a0v_Down : Bool} {a0v_First : Int} {a0v_Show : List Int} {a0v_Kids : Bool} {a0v_KidTable : Int} {a0v_KidCol : Int} {a1v_Table : Int} {a1v_Where : List Cond} {a1v_Order : Int} {a1v_Down : Bool} {a1v_First : Int} {a1v_Show : List Int} {a1v_Kids : Bool} {a1v_KidTable : Int} {a1v_KidCol : Int} {r : Bool} (h : laws_eqQuery.f (Query.mk a0v_Table a0v_Where a0v_Order a0v_Down a0v_First a0v_Show a0v_Kids a0v_KidTable a0v_KidCol) (Query.mk a1v_Table a1v_Where a1v_Order a1v_Down a1v_First a1v_Show a1v_Kids a1v_KidTable a1v_KidCol) = some r) : AC Tryd.prog 14 [.ag [.s (.int .i64 a0v_Table), .im false (rowsOf Cond_c a0v_Where), .s (.int .i64 a0v_Order), .s (.bool a0v_Down), .s (.int .i64 a0v_First), .im false (rowsOf Int_c a0v_Show), .s (.bool a0v_Kids), .s (.int .i64 a0v_KidTable), .s (.int .i64 a0v_KidCol)], .ag [.s (.int .i64 a1v_Table), .im false (rowsOf Cond_c a1v_Where), .s (.int .i64 a1v_Order), .s (.bool a1v_Down), .s (.int .i64 a1v_First), .im false (rowsOf Int_c a1v_Show), .s (.bool a1v_Kids), .s (.int .i64 a1v_KidTable), .s (.int .i64 a1v_KidCol)]] [.ag [.jk, .jk, .jk, .jk, .jk, .jk, .jk, .jk, .jk], .ag [.jk, .jk, .jk, .jk, .jk, .jk, .jk, .jk, .jk]] [.v (.s (.bool r))] := by
  unfold laws_eqQuery.f at h
  let eCond_c := rowsOf Cond_c
  let eInt_c := rowsOf Int_c
  show AC Tryd.prog 14 [.ag [.s (.int .i64 a0v_Table), .im false (eCond_c a0v_Where), .s (.int .i64 a0v_Order), .s (.bool a0v_Down), .s (.int .i64 a0v_First), .im false (eInt_c a0v_Show), .s (.bool a0v_Kids), .s (.int .i64 a0v_KidTable), .s (.int .i64 a0v_KidCol)], .ag [.s (.int .i64 a1v_Table), .im false (eCond_c a1v_Where), .s (.int .i64 a1v_Order), .s (.bool a1v_Down), .s (.int .i64 a1v_First), .im false (eInt_c a1v_Show), .s (.bool a1v_Kids), .s (.int .i64 a1v_KidTable), .s (.int .i64 a1v_KidCol)]] _ _
  refine run3 Tryd.func14 (by rfl) (by rfl) (by cbv) ⟨by decide, rfl⟩ ?_
  intro ar cm bo sc sa sx ss sl bs sb ln sr ap up rp fr ge le lt nz mm ma sm fl al ci hL F hP hA hT hM hC
  refine Run.seq ?_
  refine Run.region hL hT [] (by cbv) ?_ ?_
  · exact hq0
  refine Run.seq ?_
  refine Run.seq ?_
  refine Run.region hL hT [] (by cbv) ?_ ?_
  · exact (hq trivial (hq trivial (hq trivial hq0)))
  refine Run.cond (by cbv) (hq0) (fun c1 => ?_) (fun c1 => ?_)
  · have h := if_t c1 h
    refine Run.seq ?_
    refine Run.region hL hT [] (by cbv) ?_ ?_
    · exact hq0
    refine Run.ret ?_
    cases h
    refine ⟨_, _, by cbv, ?_, ?_⟩
    · exact LLe.r
    · exact (ALe.v LLe.r ALe.nil)
  · have h := if_f c1 h
    refine Run.skip ?_
    refine Run.seq ?_
    refine Run.seq ?_
    obtain ⟨r2, h_r2, h⟩ := bnd h
    refine Run.region hL hT [(4, .call [false, false] [.v (.jk), .v (.jk)] [.v (.s (.bool r2))])] (by cbv) ?_ ?_
    · exact (hq trivial (hq trivial (hq (hC (laws_eqCondS_ac h_r2)) hq0)))
    refine Run.cond (by cbv) (hq0) (fun c3 => ?_) (fun c3 => ?_)
    · have h := if_t c3 h
      refine Run.seq ?_
      refine Run.region hL hT [] (by cbv) ?_ ?_
      · exact hq0
      refine Run.ret ?_
      cases h
      refine ⟨_, _, by cbv, ?_, ?_⟩
      · exact LLe.r
      · exact (ALe.v LLe.r ALe.nil)
    · have h := if_f c3 h
      refine Run.skip ?_
      refine Run.seq ?_
      refine Run.seq ?_
      refine Run.region hL hT [] (by cbv) ?_ ?_
      · exact (hq trivial (hq trivial (hq trivial hq0)))
      refine Run.cond (by cbv) (hq0) (fun c4 => ?_) (fun c4 => ?_)
      · have h := if_t c4 h
        refine Run.seq ?_
        refine Run.region hL hT [] (by cbv) ?_ ?_
        · exact hq0
        refine Run.ret ?_
        cases h
        refine ⟨_, _, by cbv, ?_, ?_⟩
        · exact LLe.r
        · exact (ALe.v LLe.r ALe.nil)
      · have h := if_f c4 h
        refine Run.skip ?_
        refine Run.seq ?_
        refine Run.seq ?_
        refine Run.region hL hT [] (by cbv) ?_ ?_
        · exact (hq trivial (hq trivial hq0))
        refine Run.cond (by cbv) (hq0) (fun c5 => ?_) (fun c5 => ?_)
        · have h := if_t c5 h
          refine Run.seq ?_
          refine Run.region hL hT [] (by cbv) ?_ ?_
          · exact hq0
          refine Run.ret ?_
          cases h
          refine ⟨_, _, by cbv, ?_, ?_⟩
          · exact LLe.r
          · exact (ALe.v LLe.r ALe.nil)
        · have h := if_f c5 h
          refine Run.skip ?_
          refine Run.seq ?_
          refine Run.seq ?_
          refine Run.region hL hT [] (by cbv) ?_ ?_
          · exact (hq trivial (hq trivial (hq trivial hq0)))
          refine Run.cond (by cbv) (hq0) (fun c6 => ?_) (fun c6 => ?_)
          · have h := if_t c6 h
            refine Run.seq ?_
            refine Run.region hL hT [] (by cbv) ?_ ?_
            · exact hq0
            refine Run.ret ?_
            cases h
            refine ⟨_, _, by cbv, ?_, ?_⟩
            · exact LLe.r
            · exact (ALe.v LLe.r ALe.nil)
          · have h := if_f c6 h
            refine Run.skip ?_
            refine Run.seq ?_
            refine Run.seq ?_
            obtain ⟨r7, h_r7, h⟩ := bnd h
            refine Run.region hL hT [(4, .call [false, false] [.v (.jk), .v (.jk)] [.v (.s (.bool r7))])] (by cbv) ?_ ?_
            · exact (hq trivial (hq trivial (hq (hC (laws_eqIntS_ac h_r7)) hq0)))
            refine Run.cond (by cbv) (hq0) (fun c8 => ?_) (fun c8 => ?_)
            · have h := if_t c8 h
              refine Run.seq ?_
              refine Run.region hL hT [] (by cbv) ?_ ?_
              · exact hq0
              refine Run.ret ?_
              cases h
              refine ⟨_, _, by cbv, ?_, ?_⟩
              · exact LLe.r
              · exact (ALe.v LLe.r ALe.nil)
            · have h := if_f c8 h
              refine Run.skip ?_
              refine Run.seq ?_
              refine Run.seq ?_
              refine Run.region hL hT [] (by cbv) ?_ ?_
              · exact (hq trivial (hq trivial hq0))
              refine Run.cond (by cbv) (hq0) (fun c9 => ?_) (fun c9 => ?_)
              · have h := if_t c9 h
                refine Run.seq ?_
                refine Run.region hL hT [] (by cbv) ?_ ?_
                · exact hq0
                refine Run.ret ?_
                cases h
                refine ⟨_, _, by cbv, ?_, ?_⟩
                · exact LLe.r
                · exact (ALe.v LLe.r ALe.nil)
              · have h := if_f c9 h
                refine Run.skip ?_
                refine Run.seq ?_
                refine Run.seq ?_
                refine Run.region hL hT [] (by cbv) ?_ ?_
                · exact (hq trivial (hq trivial (hq trivial hq0)))
                refine Run.cond (by cbv) (hq0) (fun c10 => ?_) (fun c10 => ?_)
                · have h := if_t c10 h
                  refine Run.seq ?_
                  refine Run.region hL hT [] (by cbv) ?_ ?_
                  · exact hq0
                  refine Run.ret ?_
                  cases h
                  refine ⟨_, _, by cbv, ?_, ?_⟩
                  · exact LLe.r
                  · exact (ALe.v LLe.r ALe.nil)
                · have h := if_f c10 h
                  refine Run.skip ?_
                  refine Run.seq ?_
                  refine Run.seq ?_
                  refine Run.region hL hT [] (by cbv) ?_ ?_
                  · exact (hq trivial (hq trivial (hq trivial hq0)))
                  refine Run.cond (by cbv) (hq0) (fun c11 => ?_) (fun c11 => ?_)
                  · have h := if_t c11 h
                    refine Run.seq ?_
                    refine Run.region hL hT [] (by cbv) ?_ ?_
                    · exact hq0
                    refine Run.ret ?_
                    cases h
                    refine ⟨_, _, by cbv, ?_, ?_⟩
                    · exact LLe.r
                    · exact (ALe.v LLe.r ALe.nil)
                  · have h := if_f c11 h
                    refine Run.skip ?_
                    refine Run.seq ?_
                    refine Run.region hL hT [] (by cbv) ?_ ?_
                    · exact hq0
                    refine Run.ret ?_
                    cases h
                    refine ⟨_, _, by cbv, ?_, ?_⟩
                    · exact LLe.r
                    · exact (ALe.v LLe.r ALe.nil)

theorem spec_l10Signs_ac {r : (List ByteArray)} (h : spec_l10Signs.f = some r) : AC Tryd.prog 34 [] [] [.v (.ow 9 (rowsOf Str_c r))] := by
  unfold spec_l10Signs.f at h
  let eStr_c := rowsOf Str_c
  show AC Tryd.prog 34 [] _ _
  refine run3 Tryd.func34 (by rfl) (by rfl) (by cbv) ⟨by decide, rfl⟩ ?_
  intro ar cm bo sc sa sx ss sl bs sb ln sr ap up rp fr ge le lt nz mm ma sm fl al ci hL F hP hA hT hM hC
  refine Run.seq ?_
  refine Run.region hL hT [] (by cbv) ?_ ?_
  · exact hq0
  refine Run.seq ?_
  obtain ⟨l1, h_l1, h⟩ := bnd h
  refine Run.region hL hT [] (by cbv) ?_ ?_
  · exact hq0
  refine Run.row (rows := [[.s (.string (ByteArray.mk #[]))], [.s (.string (ByteArray.mk #[61]))], [.s (.string (ByteArray.mk #[60]))], [.s (.string (ByteArray.mk #[62]))], [.s (.string (ByteArray.mk #[33]))]]) 4096 (eStr_c l1) (by cbv) (some_le (f := Str_c) h_l1 (RLe.cons rfl LLe.r (RLe.cons rfl LLe.r (RLe.cons rfl LLe.r (RLe.cons rfl LLe.r (RLe.cons rfl LLe.r RLe.nil)))))) ?_
  refine Run.ret ?_
  cases h
  refine ⟨_, _, by cbv, ?_, ?_⟩
  · exact LLe.r
  · exact (ALe.v LLe.r ALe.nil)

theorem spec_l10Words_ac {a0 : ByteArray} {r : (List ByteArray)} (h : spec_l10Words.f a0 = some r) : AC Tryd.prog 41 [.v (.s (.string a0))] [.v (.jk)] [.v (.ow 9 (rowsOf Str_c r))] := by
  unfold spec_l10Words.f at h
  let eStr_c := rowsOf Str_c
  show AC Tryd.prog 41 [.v (.s (.string a0))] _ _
  refine run3 Tryd.func41 (by rfl) (by rfl) (by cbv) ⟨by decide, rfl⟩ ?_
  intro ar cm bo sc sa sx ss sl bs sb ln sr ap up rp fr ge le lt nz mm ma sm fl al ci hL F hP hA hT hM hC
  refine Run.seq ?_
  refine Run.region hL hT [] (by cbv) ?_ ?_
  · exact hq0
  refine Run.seq ?_
  refine Run.region hL hT [] (by cbv) ?_ ?_
  · exact hq0
  refine Run.seq ?_
  refine Run.region hL hT [] (by cbv) ?_ ?_
  · exact hq0
  refine Run.seq ?_
  refine Run.seq ?_
  refine Run.region hL hT [] (by cbv) ?_ ?_
  · exact hq0
  refine Run.block ?_
  refine Run.loop3 (fun (z5 : List ByteArray) (z6 : Int) (z7 : Int) => ⟨33, 100000, [(0, .t (.s (.string a0))), (3, .rf 1), (4, .t (.s (.int .i64 z6))), (5, .t (.s (.int .i64 z7)))], [(1, .row 0 9 1 (eStr_c z5))]⟩) (x0 := []) (x1 := 0) (x2 := 0) h (Weak.of _ [(1, 4096)] hA (by cbv) ?_) (fun _ _ _ => rfl) ?_
  · repeat (first | exact hq0 | refine hq (by first | exact True.intro | rfl) ?_)
  · intro k z5 z6 z7 h
    rw [spec_l10Words.l0] at h
    refine Run.seq ?_
    refine Run.seq ?_
    refine Run.region hL hT [] (by cbv) ?_ ?_
    · exact (hq trivial hq0)
    refine Run.cond (by cbv) (hq0) (fun c8 => ?_) (fun c8 => ?_)
    · have h := if_t c8 h
      refine Run.skip ?_
      refine Run.seq ?_
      refine Run.block ?_
      refine Run.seq ?_
      obtain ⟨u9, h_u9, h⟩ := bnd h
      refine Run.region hL hT [] (by cbv) ?_ ?_
      · exact (hq trivial (hq (fun _ => hq0) (hq (fun _ => hq0) (hq (fun g12 => (hq g12 (hq g12 (hq (inS_0 (gd_t h_u9 g12)) (hq (inS_1 (gd_t h_u9 g12)) hq0))))) (hq (fun g13 => (hq g13 (hq trivial hq0))) (hq (fun _ => hq0) (hq (fun q15 => (hq (bo_m q15) hq0)) hq0)))))))
      refine Run.cond (by cbv) (hq0) (fun c16 => ?_) (fun c16 => ?_)
      · have h := if_t c16 h
        refine Run.seq ?_
        obtain ⟨u17, h_u17, h⟩ := bnd h
        obtain ⟨l18, h_l18, h⟩ := bnd h
        obtain ⟨l19, h_l19, h⟩ := bnd h
        refine Run.region hL hT [] (by cbv) ?_ ?_
        · exact (hq (cutS_0 h_u17) (hq (cutS_1 h_u17) (hq (cutS_2 h_u17) (hq (app_mb (P := Tryd.prog) (f := Str_c) RLe.r (some_le (f := Str_c) h_l18 (RLe.cons rfl LLe.r RLe.nil)) h_l19) hq0))))
        refine Run.row (rows := (ap (eStr_c z5) ([[.s (.string (ss a0 z6 z7))]]))) 108198 (eStr_c l19) (by cbv) (app_le (f := Str_c) RLe.r (some_le (f := Str_c) h_l18 (RLe.cons rfl LLe.r RLe.nil)) h_l19) ?_
        refine Run.region hL hT [] (by cbv) ?_ ?_
        · exact (hq trivial hq0)
        refine Run.region hL hT [] (by cbv) ?_ ?_
        · exact (hq trivial hq0)
        refine ⟨l19, (ar .add .i64 z7 1), (ar .add .i64 z7 1), h, Weak.of _ [(1, 108198)] hA (by cbv) ?_⟩
        repeat (first | exact hq0 | refine hq (by first | exact True.intro | rfl) ?_)
      · have h := if_f c16 h
        refine Run.skip ?_
        refine Run.region hL hT [] (by cbv) ?_ ?_
        · exact (hq trivial hq0)
        refine ⟨z5, z6, (ar .add .i64 z7 1), h, Weak.of _ [(1, 1)] hA (by cbv) ?_⟩
        repeat (first | exact hq0 | refine hq (by first | exact True.intro | rfl) ?_)
    · have h := if_f c8 h
      refine Run.exit ?_
      refine Run.seq ?_
      refine Run.region hL hT [] (by cbv) ?_ ?_
      · exact hq0
      refine Run.ret ?_
      cases h
      refine ⟨_, _, by cbv, ?_, ?_⟩
      · exact LLe.r
      · exact (ALe.v LLe.r ALe.nil)

theorem spec_l2Digits_ac {a0 : Int} {r : ByteArray} (h : spec_l2Digits.f a0 = some r) : AC Tryd.prog 33 [.v (.s (.int .i64 a0))] [.v (.jk)] [.v (.s (.string r))] := by
  unfold spec_l2Digits.f at h
  let eu8_c := rowsOf u8_c
  show AC Tryd.prog 33 [.v (.s (.int .i64 a0))] _ _
  refine run3 Tryd.func33 (by rfl) (by rfl) (by cbv) ⟨by decide, rfl⟩ ?_
  intro ar cm bo sc sa sx ss sl bs sb ln sr ap up rp fr ge le lt nz mm ma sm fl al ci hL F hP hA hT hM hC
  refine Run.seq ?_
  refine Run.region hL hT [] (by cbv) ?_ ?_
  · exact hq0
  refine Run.seq ?_
  refine Run.seq ?_
  refine Run.region hL hT [] (by cbv) ?_ ?_
  · exact (hq trivial hq0)
  refine Run.cond (by cbv) (hq0) (fun c1 => ?_) (fun c1 => ?_)
  · have h := if_t c1 h
    refine Run.seq ?_
    refine Run.region hL hT [] (by cbv) ?_ ?_
    · exact hq0
    refine Run.ret ?_
    cases h
    refine ⟨_, _, by cbv, ?_, ?_⟩
    · exact LLe.r
    · exact (ALe.v LLe.r ALe.nil)
  · have h := if_f c1 h
    refine Run.skip ?_
    refine Run.seq ?_
    refine Run.region hL hT [] (by cbv) ?_ ?_
    · exact (hq trivial hq0)
    refine Run.seq ?_
    refine Run.region hL hT [] (by cbv) ?_ ?_
    · exact hq0
    obtain ⟨K4, h_K4, h⟩ := joinE h
    refine Run.join2 K4 (r := r) (fun (y2 : Bool) (y3 : ByteArray) => ⟨31, 100000, [(3, .t (.s (.bool y2))), (4, .t (.s (.string y3)))], []⟩) ?_ ?_
    · skip
      refine Run.block ?_
      refine Run.loop3 (fun (z8 : Int) (z9 : Bool) (z10 : ByteArray) => ⟨31, 100000, [(0, .t (.s (.int .i64 z8))), (3, .t (.s (.bool z9))), (4, .t (.s (.string z10)))], []⟩) (x0 := a0) (x1 := (cm .lss a0 0)) (x2 := (ByteArray.mk #[])) h (Weak.of _ [] hA (by cbv) ?_) (fun _ _ _ => rfl) ?_
      · repeat (first | exact hq0 | refine hq (by first | exact True.intro | rfl) ?_)
      · intro k z8 z9 z10 h
        rw [spec_l2Digits.l0] at h
        refine Run.seq ?_
        refine Run.seq ?_
        refine Run.region hL hT [] (by cbv) ?_ ?_
        · exact (hq trivial hq0)
        refine Run.cond (by cbv) (hq0) (fun c11 => ?_) (fun c11 => ?_)
        · have h := if_t c11 h
          refine Run.skip ?_
          refine Run.block ?_
          refine Run.seq ?_
          refine Run.region hL hT [] (by cbv) ?_ ?_
          · exact (hq trivial (hq (show Ls.nz 10 from (by decide : (10 : Int) ≠ 0)) hq0))
          refine Run.seq ?_
          refine Run.seq ?_
          refine Run.region hL hT [] (by cbv) ?_ ?_
          · exact (hq trivial hq0)
          refine Run.cond (by cbv) (hq0) (fun c12 => ?_) (fun c12 => ?_)
          · have h := if_t c12 h
            refine Run.region hL hT [] (by cbv) ?_ ?_
            · exact (hq trivial hq0)
            refine Run.seq ?_
            obtain ⟨l13, h_l13, h⟩ := bnd h
            obtain ⟨s14, h_s14, h⟩ := bnd h
            obtain ⟨u15, h_u15, h⟩ := bnd h
            refine Run.region hL hT [(4, .hd [116387] (.t (.s (.string s14))) [])] (by cbv) ?_ ?_
            · exact (hq trivial (hq (hand_conv (ns := [(IntKind.wrap .u8 (w64 (48 + (w64 (0 - (Int.tmod z8 10))))))]) hT (by rfl) (by rfl) (by rfl) (by rfl) (by rfl) (by rfl) (by rfl) (conv_lit h_l13 h_s14)) (hq (sm_t h_u15) hq0)))
            refine Run.row (rows := [[.s (.int .u8 (ar .or .u8 (ar .add .i64 48 (ar .sub .i64 0 (ar .rem .i64 z8 10))) 0))]]) 116387 (eu8_c l13) (by cbv) (some_le (f := u8_c) h_l13 (RLe.cons rfl LLe.r RLe.nil)) ?_
            refine Run.region hL hT [] (by cbv) ?_ ?_
            · exact (hq trivial (hq (show Ls.nz 10 from (by decide : (10 : Int) ≠ 0)) hq0))
            refine ⟨(ar .quo .i64 z8 10), z9, (sa s14 z10), h, Weak.of _ [] hA (by cbv) ?_⟩
            repeat (first | exact hq0 | refine hq (by first | exact True.intro | rfl) ?_)
          · have h := if_f c12 h
            refine Run.skip ?_
            refine Run.seq ?_
            obtain ⟨l16, h_l16, h⟩ := bnd h
            obtain ⟨s17, h_s17, h⟩ := bnd h
            obtain ⟨u18, h_u18, h⟩ := bnd h
            refine Run.region hL hT [(4, .hd [112291] (.t (.s (.string s17))) [])] (by cbv) ?_ ?_
            · exact (hq trivial (hq (hand_conv (ns := [(IntKind.wrap .u8 (w64 (48 + (Int.tmod z8 10))))]) hT (by rfl) (by rfl) (by rfl) (by rfl) (by rfl) (by rfl) (by rfl) (conv_lit h_l16 h_s17)) (hq (sm_t h_u18) hq0)))
            refine Run.row (rows := [[.s (.int .u8 (ar .or .u8 (ar .add .i64 48 (ar .rem .i64 z8 10)) 0))]]) 112291 (eu8_c l16) (by cbv) (some_le (f := u8_c) h_l16 (RLe.cons rfl LLe.r RLe.nil)) ?_
            refine Run.region hL hT [] (by cbv) ?_ ?_
            · exact (hq trivial (hq (show Ls.nz 10 from (by decide : (10 : Int) ≠ 0)) hq0))
            refine ⟨(ar .quo .i64 z8 10), z9, (sa s17 z10), h, Weak.of _ [] hA (by cbv) ?_⟩
            repeat (first | exact hq0 | refine hq (by first | exact True.intro | rfl) ?_)
        · have h := if_f c11 h
          refine Run.exit ?_
          refine ⟨z9, z10, h, Weak.of _ [] hA (by cbv) ?_⟩
          repeat (first | exact hq0 | refine hq (by first | exact True.intro | rfl) ?_)
    · intro y2 y3 h
      rw [h_K4] at h
      refine Run.seq ?_
      refine Run.seq ?_
      refine Run.region hL hT [] (by cbv) ?_ ?_
      · exact hq0
      refine Run.cond (by cbv) (hq0) (fun c19 => ?_) (fun c19 => ?_)
      · have h := if_t c19 h
        refine Run.seq ?_
        obtain ⟨u20, h_u20, h⟩ := bnd h
        refine Run.region hL hT [] (by cbv) ?_ ?_
        · exact (hq (sm_t h_u20) hq0)
        refine Run.ret ?_
        cases h
        refine ⟨_, _, by cbv, ?_, ?_⟩
        · exact LLe.r
        · exact (ALe.v LLe.r ALe.nil)
      · have h := if_f c19 h
        refine Run.skip ?_
        refine Run.seq ?_
        refine Run.region hL hT [] (by cbv) ?_ ?_
        · exact hq0
        refine Run.ret ?_
        cases h
        refine ⟨_, _, by cbv, ?_, ?_⟩
        · exact LLe.r
        · exact (ALe.v LLe.r ALe.nil)

theorem spec_l2Peek_ac {a0v_s : ByteArray} {a0v_at_ : Int} {a0v_ok : Bool} {a0v_left : Int} {r : Int} (h : spec_l2Peek.f (l2Cur.mk a0v_s a0v_at_ a0v_ok a0v_left) = some r) : AC Tryd.prog 87 [.v (.ip [.s (.string a0v_s), .s (.int .i64 a0v_at_), .s (.bool a0v_ok), .s (.int .i64 a0v_left)])] [.v (.jk)] [.v (.s (.int .u8 r))] := by
  unfold spec_l2Peek.f at h
  show AC Tryd.prog 87 [.v (.ip [.s (.string a0v_s), .s (.int .i64 a0v_at_), .s (.bool a0v_ok), .s (.int .i64 a0v_left)])] _ _
  refine run3 Tryd.func87 (by rfl) (by rfl) (by cbv) ⟨by decide, rfl⟩ ?_
  intro ar cm bo sc sa sx ss sl bs sb ln sr ap up rp fr ge le lt nz mm ma sm fl al ci hL F hP hA hT hM hC
  refine Run.seq ?_
  refine Run.region hL hT [] (by cbv) ?_ ?_
  · exact hq0
  refine Run.seq ?_
  refine Run.seq ?_
  refine Run.draw hL hT hM [] (by cbv) (collect_cons (by cbv) (by cbv) (collect_cons (by cbv) (by cbv) (collect_cons (by cbv) (by cbv) (collect_cons (by cbv) (by cbv) (collect_cons (by cbv) (by cbv) (collect_cons (by cbv) (by cbv) (collect_cons (by cbv) (by cbv) (collect_cons (by cbv) (by cbv) (collect_cons (by cbv) (by cbv) (collect_cons (by cbv) (by cbv) collect_nil)))))))))) (by cbv) (by cbv) (by cbv) ?_ ?_
  · exact (hq trivial hq0)
  refine Run.cond (by cbv) (hq0) (fun c1 => ?_) (fun c1 => ?_)
  · have h := if_t c1 h
    refine Run.seq ?_
    refine Run.region hL hT [] (by cbv) ?_ ?_
    · exact hq0
    refine Run.ret ?_
    cases h
    refine ⟨_, _, by cbv, ?_, ?_⟩
    · exact LLe.r
    · exact (ALe.v LLe.r ALe.nil)
  · have h := if_f c1 h
    refine Run.skip ?_
    refine Run.seq ?_
    obtain ⟨u2, h_u2, h⟩ := bnd h
    refine Run.draw hL hT hM [] (by cbv) (collect_cons (by cbv) (by cbv) (collect_cons (by cbv) (by cbv) (collect_cons (by cbv) (by cbv) (collect_cons (by cbv) (by cbv) (collect_cons (by cbv) (by cbv) (collect_cons (by cbv) (by cbv) (collect_cons (by cbv) (by cbv) (collect_cons (by cbv) (by cbv) (collect_cons (by cbv) (by cbv) (collect_cons (by cbv) (by cbv) collect_nil)))))))))) (by cbv) (by cbv) (by cbv) ?_ ?_
    · exact (hq (inS_0 h_u2) (hq (inS_1 h_u2) hq0))
    refine Run.ret ?_
    cases h
    refine ⟨_, _, by cbv, ?_, ?_⟩
    · exact LLe.r
    · exact (ALe.v LLe.r ALe.nil)

theorem spec_l2Number_ac {a0v_s : ByteArray} {a0v_at_ : Int} {a0v_ok : Bool} {a0v_left : Int} {r : l2Cur × Int} (h : spec_l2Number.f (l2Cur.mk a0v_s a0v_at_ a0v_ok a0v_left) = some r) : AC Tryd.prog 81 [.v (.bx 84 [.s (.string a0v_s), .s (.int .i64 a0v_at_), .s (.bool a0v_ok), .s (.int .i64 a0v_left)])] [.v (.bx 84 [.s (.string r.1.s), .s (.int .i64 r.1.at_), .s (.bool r.1.ok), .s (.int .i64 r.1.left)])] [.v (.s (.int .i64 r.2))] := by
  unfold spec_l2Number.f at h
  show AC Tryd.prog 81 [.v (.bx 84 [.s (.string a0v_s), .s (.int .i64 a0v_at_), .s (.bool a0v_ok), .s (.int .i64 a0v_left)])] _ _
  refine run3 Tryd.func81 (by rfl) (by rfl) (by cbv) ⟨by decide, rfl⟩ ?_
  intro ar cm bo sc sa sx ss sl bs sb ln sr ap up rp fr ge le lt nz mm ma sm fl al ci hL F hP hA hT hM hC
  refine Run.seq ?_
  refine Run.region hL hT [] (by cbv) ?_ ?_
  · exact hq0
  refine Run.seq ?_
  obtain ⟨r1, h_r1, h⟩ := bnd h
  refine Run.region hL hT [(1, .call [false] [.v (.jk)] [.v (.s (.int .u8 r1))])] (by cbv) ?_ ?_
  · exact (hq (hC (spec_l2Peek_ac h_r1)) (hq trivial hq0))
  obtain ⟨K4, h_K4, h⟩ := joinE h
  refine Run.join2 K4 (r := r) (fun (y2 : Int) (y3 : Bool) => ⟨65, 100000, [(0, .pt 0 0 0), (3, .t (.s (.bool y3)))], [(0, .box 84 [.t (.s (.string a0v_s)), .t (.s (.int .i64 y2)), .t (.s (.bool a0v_ok)), .t (.s (.int .i64 a0v_left))])]⟩) ?_ ?_
  · skip
    refine Run.seq ?_
    refine Run.region hL hT [] (by cbv) ?_ ?_
    · exact hq0
    refine Run.cond (by cbv) (hq0) (fun c5 => ?_) (fun c5 => ?_)
    · have h := if_t c5 h
      refine Run.region hL hT [] (by cbv) ?_ ?_
      · exact (hq trivial (hq trivial (hq trivial hq0)))
      refine ⟨(ar .add .i64 a0v_at_ 1), (cm .eql r1 45), h, Weak.of _ [(0, 0)] hA (by cbv) ?_⟩
      repeat (first | exact hq0 | refine hq (by first | exact True.intro | rfl) ?_)
    · have h := if_f c5 h
      refine Run.skip ?_
      refine ⟨a0v_at_, (cm .eql r1 45), h, Weak.of _ [(0, 0)] hA (by cbv) ?_⟩
      repeat (first | exact hq0 | refine hq (by first | exact True.intro | rfl) ?_)
  · intro y2 y3 h
    rw [h_K4] at h
    refine Run.seq ?_
    refine Run.region hL hT [] (by cbv) ?_ ?_
    · exact (hq trivial hq0)
    refine Run.seq ?_
    refine Run.region hL hT [] (by cbv) ?_ ?_
    · exact hq0
    obtain ⟨K8, h_K8, h⟩ := joinE h
    refine Run.join2 K8 (r := r) (fun (y6 : Int) (y7 : Int) => ⟨65, 100000, [(0, .pt 0 0 0), (3, .t (.s (.bool y3))), (4, .t (.s (.int .i64 y2))), (5, .t (.s (.int .i64 y7)))], [(0, .box 84 [.t (.s (.string a0v_s)), .t (.s (.int .i64 y6)), .t (.s (.bool a0v_ok)), .t (.s (.int .i64 a0v_left))])]⟩) ?_ ?_
    · skip
      refine Run.block ?_
      refine Run.loop2 (fun (z16 : Int) (z17 : Int) => ⟨65, 100000, [(0, .pt 0 0 0), (3, .t (.s (.bool y3))), (4, .t (.s (.int .i64 y2))), (5, .t (.s (.int .i64 z17)))], [(0, .box 84 [.t (.s (.string a0v_s)), .t (.s (.int .i64 z16)), .t (.s (.bool a0v_ok)), .t (.s (.int .i64 a0v_left))])]⟩) (x0 := y2) (x1 := 0) h (Weak.of _ [(0, 0)] hA (by cbv) ?_) (fun _ _ => rfl) ?_
      · repeat (first | exact hq0 | refine hq (by first | exact True.intro | rfl) ?_)
      · intro k z16 z17 h
        rw [spec_l2Number.l0] at h
        refine Run.seq ?_
        refine Run.seq ?_
        obtain ⟨r18, h_r18, h⟩ := bnd h
        obtain ⟨r19, h_r19, h⟩ := bnd h
        refine Run.region hL hT [(1, .call [false] [.v (.jk)] [.v (.s (.int .u8 r18))]), (5, .call [false] [.v (.jk)] [.v (.s (.int .u8 r19))])] (by cbv) ?_ ?_
        · exact (hq (hC (spec_l2Peek_ac h_r18)) (hq trivial (hq (fun _ => hq0) (hq (fun g21 => (hq g21 (hq (hC (spec_l2Peek_ac (gd_t h_r19 g21))) hq0))) (hq (fun g22 => (hq g22 (hq trivial hq0))) (hq (fun q23 => (hq q23 hq0)) (hq (fun _ => hq0) (hq (fun _ => hq0) (hq (fun g26 => (hq g26 hq0)) (hq (fun g27 => (hq g27 hq0)) (hq (fun g28 => (hq g28 (hq trivial hq0))) (hq (fun _ => hq0) (hq (fun g30 => (hq g30 (hq g30 (hq trivial hq0)))) (hq (fun g31 => (hq g31 (hq trivial hq0))) (hq (fun q32 => (hq q32 hq0)) (hq (fun _ => hq0) hq0))))))))))))))))
        refine Run.cond (by cbv) (hq0) (fun c34 => ?_) (fun c34 => ?_)
        · have h := if_t c34 h
          refine Run.skip ?_
          refine Run.block ?_
          refine Run.seq ?_
          obtain ⟨r35, h_r35, h⟩ := bnd h
          refine Run.region hL hT [(3, .call [false] [.v (.jk)] [.v (.s (.int .u8 r35))])] (by cbv) ?_ ?_
          · exact (hq trivial (hq (hC (spec_l2Peek_ac h_r35)) (hq trivial (hq trivial hq0))))
          refine Run.region hL hT [] (by cbv) ?_ ?_
          · exact (hq trivial (hq trivial (hq trivial hq0)))
          refine ⟨(ar .add .i64 z16 1), (ar .sub .i64 (ar .add .i64 (ar .mul .i64 10 z17) (ar .or .i64 r35 0)) 48), h, Weak.of _ [(0, 0)] hA (by cbv) ?_⟩
          repeat (first | exact hq0 | refine hq (by first | exact True.intro | rfl) ?_)
        · have h := if_f c34 h
          refine Run.exit ?_
          refine ⟨z16, z17, h, Weak.of _ [(0, 0)] hA (by cbv) ?_⟩
          repeat (first | exact hq0 | refine hq (by first | exact True.intro | rfl) ?_)
    · intro y6 y7 h
      rw [h_K8] at h
      obtain ⟨K37, h_K37, h⟩ := joinE h
      refine Run.join1 K37 (r := r) (fun (y36 : Bool) => ⟨65, 100000, [(3, .t (.s (.bool y3))), (5, .t (.s (.int .i64 y7)))], [(0, .box 84 [.t (.s (.string a0v_s)), .t (.s (.int .i64 y6)), .t (.s (.bool y36)), .t (.s (.int .i64 a0v_left))])]⟩) ?_ ?_
      · skip
        refine Run.seq ?_
        refine Run.region hL hT [] (by cbv) ?_ ?_
        · exact (hq trivial (hq trivial hq0))
        refine Run.cond (by cbv) (hq0) (fun c38 => ?_) (fun c38 => ?_)
        · have h := if_t c38 h
          refine Run.region hL hT [] (by cbv) ?_ ?_
          · exact (hq trivial hq0)
          refine ⟨false, h, Weak.of _ [(0, 0)] hA (by cbv) ?_⟩
          repeat (first | exact hq0 | refine hq (by first | exact True.intro | rfl) ?_)
        · have h := if_f c38 h
          refine Run.skip ?_
          refine ⟨a0v_ok, h, Weak.of _ [(0, 0)] hA (by cbv) ?_⟩
          repeat (first | exact hq0 | refine hq (by first | exact True.intro | rfl) ?_)
      · intro y36 h
        rw [h_K37] at h
        refine Run.seq ?_
        refine Run.seq ?_
        refine Run.region hL hT [] (by cbv) ?_ ?_
        · exact hq0
        refine Run.cond (by cbv) (hq0) (fun c39 => ?_) (fun c39 => ?_)
        · have h := if_t c39 h
          refine Run.seq ?_
          refine Run.region hL hT [] (by cbv) ?_ ?_
          · exact (hq trivial hq0)
          refine Run.ret ?_
          cases h
          refine ⟨_, _, by cbv, ?_, ?_⟩
          · exact LLe.r
          · exact (ALe.v LLe.r ALe.nil)
        · have h := if_f c39 h
          refine Run.skip ?_
          refine Run.seq ?_
          refine Run.region hL hT [] (by cbv) ?_ ?_
          · exact hq0
          refine Run.ret ?_
          cases h
          refine ⟨_, _, by cbv, ?_, ?_⟩
          · exact LLe.r
          · exact (ALe.v LLe.r ALe.nil)

theorem spec_l10Num_ac {a0 : ByteArray} {r : Int × Bool} (h : spec_l10Num.f a0 = some r) : AC Tryd.prog 43 [.v (.s (.string a0))] [.v (.jk)] [.v (.s (.int .i64 r.1)), .v (.s (.bool r.2))] := by
  unfold spec_l10Num.f at h
  show AC Tryd.prog 43 [.v (.s (.string a0))] _ _
  refine run3 Tryd.func43 (by rfl) (by rfl) (by cbv) ⟨by decide, rfl⟩ ?_
  intro ar cm bo sc sa sx ss sl bs sb ln sr ap up rp fr ge le lt nz mm ma sm fl al ci hL F hP hA hT hM hC
  refine Run.seq ?_
  refine Run.region hL hT [] (by cbv) ?_ ?_
  · exact hq0
  refine Run.seq ?_
  refine Run.region hL hT [] (by cbv) ?_ ?_
  · exact hq0
  refine Run.seq ?_
  obtain ⟨⟨⟨r1v_1v_s, r1v_1v_at_, r1v_1v_ok, r1v_1v_left⟩, r1v_2⟩, h_r1, h⟩ := bnd h
  refine Run.region hL hT [(1, .call [true] [.v (.bx 84 [.s (.string r1v_1v_s), .s (.int .i64 r1v_1v_at_), .s (.bool r1v_1v_ok), .s (.int .i64 r1v_1v_left)])] [.v (.s (.int .i64 r1v_2))])] (by cbv) ?_ ?_
  · exact (hq (hC (spec_l2Number_ac h_r1)) hq0)
  refine Run.seq ?_
  obtain ⟨r2, h_r2, h⟩ := bnd h
  refine Run.region hL hT [(7, .call [false] [.v (.jk)] [.v (.s (.string r2))])] (by cbv) ?_ ?_
  · exact (hq trivial (hq (fun _ => hq0) (hq (fun g4 => (hq g4 (hq (hC (spec_l2Digits_ac (gd_t h_r2 g4))) hq0))) (hq (fun _ => hq0) (hq (fun g6 => (hq g6 (hq g6 hq0))) (hq (fun q7 => (hq q7 hq0)) (hq (fun _ => hq0) hq0)))))))
  refine Run.ret ?_
  cases h
  refine ⟨_, _, by cbv, ?_, ?_⟩
  · exact LLe.r
  · exact (ALe.v LLe.r (ALe.v LLe.r ALe.nil))

theorem spec_l10Arg_ac {a0 : List ByteArray} {a1 : Int} {r : Int} (h : spec_l10Arg.f a0 a1 = some r) : AC Tryd.prog 42 [.v (.im false (rowsOf Str_c a0)), .v (.s (.int .i64 a1))] [.v (.jk), .v (.jk)] [.v (.s (.int .i64 r))] := by
  unfold spec_l10Arg.f at h
  let eStr_c := rowsOf Str_c
  let lenI_Str := @lenI ByteArray
  show AC Tryd.prog 42 [.v (.im false (eStr_c a0)), .v (.s (.int .i64 a1))] _ _
  refine run3 Tryd.func42 (by rfl) (by rfl) (by cbv) ⟨by decide, rfl⟩ ?_
  intro ar cm bo sc sa sx ss sl bs sb ln sr ap up rp fr ge le lt nz mm ma sm fl al ci hL F hP hA hT hM hC
  refine Run.seq ?_
  refine Run.region hL hT [] (by cbv) ?_ ?_
  · exact hq0
  refine Run.seq ?_
  refine Run.seq ?_
  refine Run.region hL hT [] (by cbv) ?_ ?_
  · exact (hq trivial hq0)
  rw [show ln (eStr_c a0) = lenI_Str a0 from ln_eq Str_c _]
  refine Run.cond (by cbv) (hq0) (fun c1 => ?_) (fun c1 => ?_)
  · have h := if_t c1 h
    refine Run.seq ?_
    refine Run.region hL hT [] (by cbv) ?_ ?_
    · exact hq0
    refine Run.ret ?_
    cases h
    refine ⟨_, _, by cbv, ?_, ?_⟩
    · exact LLe.r
    · exact (ALe.v LLe.r ALe.nil)
  · have h := if_f c1 h
    refine Run.skip ?_
    refine Run.seq ?_
    obtain ⟨x2, h_x2, h⟩ := bnd h
    obtain ⟨⟨r3v_1, r3v_2⟩, h_r3, h⟩ := bnd h
    refine Run.region hL hT [(2, .el [.s (.string x2)]), (4, .call [false] [.v (.jk)] [.v (.s (.int .i64 r3v_1)), .v (.s (.bool r3v_2))])] (by cbv) ?_ ?_
    · exact (hq (get_le h_x2) (hq (get_lt (f := Str_c) h_x2) (hq (get_ge (f := Str_c) h_x2) (hq (hC (spec_l10Num_ac h_r3)) hq0))))
    refine Run.seq ?_
    refine Run.region hL hT [] (by cbv) ?_ ?_
    · exact hq0
    refine Run.ret ?_
    cases h
    refine ⟨_, _, by cbv, ?_, ?_⟩
    · exact LLe.r
    · exact (ALe.v LLe.r ALe.nil)

theorem spec_l1In_ac {a0 : Int} {a1 : Int} {a2 : Int} {r : Bool} (h : spec_l1In.f a0 a1 a2 = some r) : AC Tryd.prog 74 [.v (.s (.int .i64 a0)), .v (.s (.int .i64 a1)), .v (.s (.int .i64 a2))] [.v (.jk), .v (.jk), .v (.jk)] [.v (.s (.bool r))] := by
  unfold spec_l1In.f at h
  show AC Tryd.prog 74 [.v (.s (.int .i64 a0)), .v (.s (.int .i64 a1)), .v (.s (.int .i64 a2))] _ _
  refine run3 Tryd.func74 (by rfl) (by rfl) (by cbv) ⟨by decide, rfl⟩ ?_
  intro ar cm bo sc sa sx ss sl bs sb ln sr ap up rp fr ge le lt nz mm ma sm fl al ci hL F hP hA hT hM hC
  refine Run.seq ?_
  refine Run.region hL hT [] (by cbv) ?_ ?_
  · exact hq0
  refine Run.seq ?_
  refine Run.region hL hT [] (by cbv) ?_ ?_
  · exact (hq trivial (hq (fun _ => hq0) (hq (fun _ => hq0) (hq (fun g3 => (hq g3 (hq g3 (hq trivial hq0)))) (hq (fun q4 => (hq q4 hq0)) (hq (fun _ => hq0) hq0))))))
  refine Run.ret ?_
  cases h
  refine ⟨_, _, by cbv, ?_, ?_⟩
  · exact LLe.r
  · exact (ALe.v LLe.r ALe.nil)

theorem spec_SchemaOk_ac {a0v_Cols : List Int} {r : Bool} (h : spec_SchemaOk.f (Schema.mk a0v_Cols) = some r) : AC Tryd.prog 73 [.ag [.im false (rowsOf Int_c a0v_Cols)]] [.ag [.jk]] [.v (.s (.bool r))] := by
  unfold spec_SchemaOk.f at h
  let eInt_c := rowsOf Int_c
  let lenI_Int := @lenI Int
  show AC Tryd.prog 73 [.ag [.im false (eInt_c a0v_Cols)]] _ _
  refine run3 Tryd.func73 (by rfl) (by rfl) (by cbv) ⟨by decide, rfl⟩ ?_
  intro ar cm bo sc sa sx ss sl bs sb ln sr ap up rp fr ge le lt nz mm ma sm fl al ci hL F hP hA hT hM hC
  refine Run.seq ?_
  refine Run.region hL hT [] (by cbv) ?_ ?_
  · exact hq0
  obtain ⟨K2, h_K2, h⟩ := joinE h
  refine Run.join1 K2 (r := r) (fun (y1 : Unit) => ⟨22, 100000, [(1, .pt 1 0 0)], [(1, .box 31 [.t (.im false (eInt_c a0v_Cols))])]⟩) ?_ ?_
  · skip
    refine Run.seq ?_
    refine Run.region hL hT [] (by cbv) ?_ ?_
    · exact hq0
    refine Run.block ?_
    refine Run.loop1 (fun (z5 : Int) => ⟨22, 100000, [(1, .pt 1 0 0), (3, .t (.s (.int .i64 z5)))], [(1, .box 31 [.t (.im false (eInt_c a0v_Cols))])]⟩) (x0 := 0) h (Weak.of _ [(1, 0)] hA (by cbv) ?_) (fun _ => rfl) ?_
    · repeat (first | exact hq0 | refine hq (by first | exact True.intro | rfl) ?_)
    · intro k z5 h
      rw [spec_SchemaOk.l0] at h
      refine Run.seq ?_
      refine Run.seq ?_
      refine Run.region hL hT [] (by cbv) ?_ ?_
      · exact (hq trivial (hq trivial hq0))
      rw [show ln (eInt_c a0v_Cols) = lenI_Int a0v_Cols from ln_eq Int_c _]
      refine Run.cond (by cbv) (hq0) (fun c6 => ?_) (fun c6 => ?_)
      · have h := if_t c6 h
        refine Run.skip ?_
        refine Run.seq ?_
        refine Run.block ?_
        refine Run.seq ?_
        obtain ⟨x7, h_x7, h⟩ := bnd h
        obtain ⟨r8, h_r8, h⟩ := bnd h
        refine Run.region hL hT [(3, .el [.s (.int .i64 x7)]), (5, .call [false, false, false] [.v (.jk), .v (.jk), .v (.jk)] [.v (.s (.bool r8))])] (by cbv) ?_ ?_
        · exact (hq trivial (hq (get_le h_x7) (hq (get_lt (f := Int_c) h_x7) (hq (get_ge (f := Int_c) h_x7) (hq (hC (spec_l1In_ac h_r8)) hq0)))))
        refine Run.cond (by cbv) (hq0) (fun c9 => ?_) (fun c9 => ?_)
        · have h := if_t c9 h
          refine Run.seq ?_
          refine Run.region hL hT [] (by cbv) ?_ ?_
          · exact hq0
          refine Run.ret ?_
          cases h
          refine ⟨_, _, by cbv, ?_, ?_⟩
          · exact LLe.r
          · exact (ALe.v LLe.r ALe.nil)
        · have h := if_f c9 h
          refine Run.skip ?_
          refine Run.region hL hT [] (by cbv) ?_ ?_
          · exact (hq trivial hq0)
          refine ⟨(ar .add .i64 z5 1), h, Weak.of _ [(1, 1)] hA (by cbv) ?_⟩
          repeat (first | exact hq0 | refine hq (by first | exact True.intro | rfl) ?_)
      · have h := if_f c6 h
        refine Run.exit ?_
        refine ⟨(), h, Weak.of _ [(1, 1)] hA (by cbv) ?_⟩
        repeat (first | exact hq0 | refine hq (by first | exact True.intro | rfl) ?_)
  · intro y1 h
    rw [h_K2] at h
    refine Run.seq ?_
    obtain ⟨r10, h_r10, h⟩ := bnd h
    refine Run.region hL hT [(3, .call [false, false, false] [.v (.jk), .v (.jk), .v (.jk)] [.v (.s (.bool r10))])] (by cbv) ?_ ?_
    · exact (hq trivial (hq (by rw [show ln (eInt_c a0v_Cols) = lenI_Int a0v_Cols from ln_eq Int_c _]; exact (hC (spec_l1In_ac h_r10))) hq0))
    rw [show ln (eInt_c a0v_Cols) = lenI_Int a0v_Cols from ln_eq Int_c _]
    refine Run.ret ?_
    cases h
    refine ⟨_, _, by cbv, ?_, ?_⟩
    · exact LLe.r
    · exact (ALe.v LLe.r ALe.nil)

theorem spec_QueryOk_ac {a0v_Cols : List Int} {a1v_Table : Int} {a1v_Where : List Cond} {a1v_Order : Int} {a1v_Down : Bool} {a1v_First : Int} {a1v_Show : List Int} {a1v_Kids : Bool} {a1v_KidTable : Int} {a1v_KidCol : Int} {r : Bool} (h : spec_QueryOk.f (Schema.mk a0v_Cols) (Query.mk a1v_Table a1v_Where a1v_Order a1v_Down a1v_First a1v_Show a1v_Kids a1v_KidTable a1v_KidCol) = some r) : AC Tryd.prog 32 [.ag [.im false (rowsOf Int_c a0v_Cols)], .ag [.s (.int .i64 a1v_Table), .im false (rowsOf Cond_c a1v_Where), .s (.int .i64 a1v_Order), .s (.bool a1v_Down), .s (.int .i64 a1v_First), .im false (rowsOf Int_c a1v_Show), .s (.bool a1v_Kids), .s (.int .i64 a1v_KidTable), .s (.int .i64 a1v_KidCol)]] [.ag [.jk], .ag [.jk, .jk, .jk, .jk, .jk, .jk, .jk, .jk, .jk]] [.v (.s (.bool r))] := by
  unfold spec_QueryOk.f at h
  let eCond_c := rowsOf Cond_c
  let eInt_c := rowsOf Int_c
  let lenI_Cond := @lenI Cond
  let lenI_Int := @lenI Int
  show AC Tryd.prog 32 [.ag [.im false (eInt_c a0v_Cols)], .ag [.s (.int .i64 a1v_Table), .im false (eCond_c a1v_Where), .s (.int .i64 a1v_Order), .s (.bool a1v_Down), .s (.int .i64 a1v_First), .im false (eInt_c a1v_Show), .s (.bool a1v_Kids), .s (.int .i64 a1v_KidTable), .s (.int .i64 a1v_KidCol)]] _ _
  refine run3 Tryd.func32 (by rfl) (by rfl) (by cbv) ⟨by decide, rfl⟩ ?_
  intro ar cm bo sc sa sx ss sl bs sb ln sr ap up rp fr ge le lt nz mm ma sm fl al ci hL F hP hA hT hM hC
  refine Run.seq ?_
  refine Run.region hL hT [] (by cbv) ?_ ?_
  · exact hq0
  refine Run.seq ?_
  refine Run.seq ?_
  obtain ⟨r1, h_r1, h⟩ := bnd h
  obtain ⟨r2, h_r2, h⟩ := bnd h
  refine Run.region hL hT [(1, .call [false] [.ag [.jk]] [.v (.s (.bool r1))]), (10, .call [false, false, false] [.v (.jk), .v (.jk), .v (.jk)] [.v (.s (.bool r2))])] (by cbv) ?_ ?_
  · exact (hq trivial (hq (hC (spec_SchemaOk_ac h_r1)) (hq (fun _ => hq0) (hq (fun g4 => (hq g4 (hq trivial hq0))) (hq (fun _ => hq0) (hq (fun g6 => (hq g6 (hq trivial hq0))) (hq (fun g7 => (hq g7 hq0)) (hq (fun g8 => (hq g8 (hq trivial hq0))) (hq (fun g9 => (hq g9 (hq g9 (hq (by rw [show ln (eInt_c a0v_Cols) = lenI_Int a0v_Cols from ln_eq Int_c _]; exact (hC (spec_l1In_ac (gd_t h_r2 g9)))) hq0)))) (hq (fun g10 => (hq g10 hq0)) (hq (fun _ => hq0) (hq (fun q12 => (hq (bo_m q12) hq0)) (hq (fun _ => hq0) (hq (fun g14 => (hq g14 (hq trivial hq0))) (hq (fun g15 => (hq g15 hq0)) (hq (fun g16 => (hq g16 (hq trivial hq0))) (hq (fun _ => hq0) (hq (fun q18 => (hq (bo_m q18) hq0)) hq0))))))))))))))))))
  rw [show ln (eCond_c a1v_Where) = lenI_Cond a1v_Where from ln_eq Cond_c _]
  rw [show ln (eInt_c a0v_Cols) = lenI_Int a0v_Cols from ln_eq Int_c _]
  refine Run.cond (by cbv) (hq0) (fun c19 => ?_) (fun c19 => ?_)
  · have h := if_t c19 h
    refine Run.seq ?_
    refine Run.region hL hT [] (by cbv) ?_ ?_
    · exact hq0
    refine Run.ret ?_
    cases h
    refine ⟨_, _, by cbv, ?_, ?_⟩
    · exact LLe.r
    · exact (ALe.v LLe.r ALe.nil)
  · have h := if_f c19 h
    refine Run.skip ?_
    refine Run.seq ?_
    obtain ⟨x20, h_x20, h⟩ := bnd h
    refine Run.region hL hT [(4, .el [.s (.int .i64 x20)])] (by cbv) ?_ ?_
    · exact (hq trivial (hq trivial (hq (get_le h_x20) (hq (get_lt (f := Int_c) h_x20) (hq (get_ge (f := Int_c) h_x20) hq0)))))
    obtain ⟨K22, h_K22, h⟩ := joinE h
    refine Run.join1 K22 (r := r) (fun (y21 : Unit) => ⟨148, 100000, [(2, .pt 1 0 0), (3, .pt 2 0 0), (5, .t (.s (.int .i64 x20)))], [(1, .box 31 [.t (.im false (eInt_c a0v_Cols))]), (2, .box 35 [.t (.s (.int .i64 a1v_Table)), .t (.im false (eCond_c a1v_Where)), .t (.s (.int .i64 a1v_Order)), .t (.s (.bool a1v_Down)), .t (.s (.int .i64 a1v_First)), .t (.im false (eInt_c a1v_Show)), .t (.s (.bool a1v_Kids)), .t (.s (.int .i64 a1v_KidTable)), .t (.s (.int .i64 a1v_KidCol))])]⟩) ?_ ?_
    · skip
      refine Run.seq ?_
      refine Run.region hL hT [] (by cbv) ?_ ?_
      · exact hq0
      refine Run.block ?_
      refine Run.loop1 (fun (z35 : Int) => ⟨148, 100000, [(2, .pt 1 0 0), (3, .pt 2 0 0), (5, .t (.s (.int .i64 x20))), (6, .t (.s (.int .i64 z35)))], [(1, .box 31 [.t (.im false (eInt_c a0v_Cols))]), (2, .box 35 [.t (.s (.int .i64 a1v_Table)), .t (.im false (eCond_c a1v_Where)), .t (.s (.int .i64 a1v_Order)), .t (.s (.bool a1v_Down)), .t (.s (.int .i64 a1v_First)), .t (.im false (eInt_c a1v_Show)), .t (.s (.bool a1v_Kids)), .t (.s (.int .i64 a1v_KidTable)), .t (.s (.int .i64 a1v_KidCol))])]⟩) (x0 := 0) h (Weak.of _ [(1, 0), (2, 1)] hA (by cbv) ?_) (fun _ => rfl) ?_
      · repeat (first | exact hq0 | refine hq (by first | exact True.intro | rfl) ?_)
      · intro k z35 h
        rw [spec_QueryOk.l0] at h
        refine Run.seq ?_
        refine Run.seq ?_
        refine Run.region hL hT [] (by cbv) ?_ ?_
        · exact (hq trivial (hq trivial hq0))
        rw [show ln (eCond_c a1v_Where) = lenI_Cond a1v_Where from ln_eq Cond_c _]
        refine Run.cond (by cbv) (hq0) (fun c36 => ?_) (fun c36 => ?_)
        · have h := if_t c36 h
          refine Run.skip ?_
          refine Run.seq ?_
          refine Run.block ?_
          refine Run.seq ?_
          obtain ⟨⟨x37v_Col, x37v_Op, x37v_V⟩, h_x37, h⟩ := bnd h
          refine Run.region hL hT [(3, .el [.s (.int .i64 x37v_Col), .s (.int .i64 x37v_Op), .s (.int .i64 x37v_V)])] (by cbv) ?_ ?_
          · exact (hq trivial (hq (get_le h_x37) (hq (get_lt (f := Cond_c) h_x37) (hq (get_ge (f := Cond_c) h_x37) (hq trivial hq0)))))
          refine Run.seq ?_
          obtain ⟨r38, h_r38, h⟩ := bnd h
          obtain ⟨r39, h_r39, h⟩ := bnd h
          obtain ⟨r40, h_r40, h⟩ := bnd h
          refine Run.region hL hT [(4, .call [false, false, false] [.v (.jk), .v (.jk), .v (.jk)] [.v (.s (.bool r38))]), (9, .call [false, false, false] [.v (.jk), .v (.jk), .v (.jk)] [.v (.s (.bool r39))]), (15, .call [false, false, false] [.v (.jk), .v (.jk), .v (.jk)] [.v (.s (.bool r40))])] (by cbv) ?_ ?_
          · exact (hq trivial (hq trivial (hq (hC (spec_l1In_ac h_r38)) (hq (fun _ => hq0) (hq (fun g42 => (hq g42 (hq trivial hq0))) (hq (fun g43 => (hq g43 (hq (hC (spec_l1In_ac (gd_t h_r39 g43))) hq0))) (hq (fun g44 => (hq g44 hq0)) (hq (fun _ => hq0) (hq (fun q46 => (hq (bo_m q46) hq0)) (hq (fun _ => hq0) (hq (fun g48 => (hq g48 (hq trivial hq0))) (hq (fun g49 => (hq g49 (hq (hC (spec_l1In_ac (gd_t h_r40 g49))) hq0))) (hq (fun g50 => (hq g50 hq0)) (hq (fun _ => hq0) (hq (fun q52 => (hq (bo_m q52) hq0)) hq0)))))))))))))))
          refine Run.cond (by cbv) (hq0) (fun c53 => ?_) (fun c53 => ?_)
          · have h := if_t c53 h
            refine Run.seq ?_
            refine Run.region hL hT [] (by cbv) ?_ ?_
            · exact hq0
            refine Run.ret ?_
            cases h
            refine ⟨_, _, by cbv, ?_, ?_⟩
            · exact LLe.r
            · exact (ALe.v LLe.r ALe.nil)
          · have h := if_f c53 h
            refine Run.skip ?_
            refine Run.region hL hT [] (by cbv) ?_ ?_
            · exact (hq trivial hq0)
            refine ⟨(ar .add .i64 z35 1), h, Weak.of _ [(1, 1), (2, 2)] hA (by cbv) ?_⟩
            repeat (first | exact hq0 | refine hq (by first | exact True.intro | rfl) ?_)
        · have h := if_f c36 h
          refine Run.exit ?_
          refine ⟨(), h, Weak.of _ [(1, 1), (2, 2)] hA (by cbv) ?_⟩
          repeat (first | exact hq0 | refine hq (by first | exact True.intro | rfl) ?_)
    · intro y21 h
      rw [h_K22] at h
      obtain ⟨K55, h_K55, h⟩ := joinE h
      refine Run.join1 K55 (r := r) (fun (y54 : Unit) => ⟨148, 100000, [(2, .pt 1 0 0), (3, .pt 2 0 0), (5, .t (.s (.int .i64 x20)))], [(1, .box 31 [.t (.im false (eInt_c a0v_Cols))]), (2, .box 35 [.t (.s (.int .i64 a1v_Table)), .t (.im false (eCond_c a1v_Where)), .t (.s (.int .i64 a1v_Order)), .t (.s (.bool a1v_Down)), .t (.s (.int .i64 a1v_First)), .t (.im false (eInt_c a1v_Show)), .t (.s (.bool a1v_Kids)), .t (.s (.int .i64 a1v_KidTable)), .t (.s (.int .i64 a1v_KidCol))])]⟩) ?_ ?_
      · skip
        refine Run.seq ?_
        refine Run.region hL hT [] (by cbv) ?_ ?_
        · exact hq0
        refine Run.block ?_
        refine Run.loop1 (fun (z68 : Int) => ⟨148, 100000, [(2, .pt 1 0 0), (3, .pt 2 0 0), (5, .t (.s (.int .i64 x20))), (8, .t (.s (.int .i64 z68)))], [(1, .box 31 [.t (.im false (eInt_c a0v_Cols))]), (2, .box 35 [.t (.s (.int .i64 a1v_Table)), .t (.im false (eCond_c a1v_Where)), .t (.s (.int .i64 a1v_Order)), .t (.s (.bool a1v_Down)), .t (.s (.int .i64 a1v_First)), .t (.im false (eInt_c a1v_Show)), .t (.s (.bool a1v_Kids)), .t (.s (.int .i64 a1v_KidTable)), .t (.s (.int .i64 a1v_KidCol))])]⟩) (x0 := 0) h (Weak.of _ [(1, 1), (2, 2)] hA (by cbv) ?_) (fun _ => rfl) ?_
        · repeat (first | exact hq0 | refine hq (by first | exact True.intro | rfl) ?_)
        · intro k z68 h
          rw [spec_QueryOk.l1] at h
          refine Run.seq ?_
          refine Run.seq ?_
          refine Run.region hL hT [] (by cbv) ?_ ?_
          · exact (hq trivial (hq trivial hq0))
          rw [show ln (eInt_c a1v_Show) = lenI_Int a1v_Show from ln_eq Int_c _]
          refine Run.cond (by cbv) (hq0) (fun c69 => ?_) (fun c69 => ?_)
          · have h := if_t c69 h
            refine Run.skip ?_
            refine Run.seq ?_
            refine Run.block ?_
            refine Run.seq ?_
            obtain ⟨x70, h_x70, h⟩ := bnd h
            obtain ⟨r71, h_r71, h⟩ := bnd h
            obtain ⟨x72, h_x72, h⟩ := bnd h
            refine Run.draw hL hT hM [(3, .el [.s (.int .i64 x70)]), (7, .call [false, false, false] [.v (.jk), .v (.jk), .v (.jk)] [.v (.s (.bool r71))]), (17, .el [.s (.int .i64 x72)]), (22, .el [.s (.int .i64 x70)])] (by cbv) (collect_cons (by cbv) (by cbv) (collect_cons (by cbv) (by cbv) (collect_cons (by cbv) (by cbv) (collect_cons (by cbv) (by cbv) (collect_cons (by cbv) (by cbv) (collect_cons (by cbv) (by cbv) (collect_cons (by cbv) (by cbv) (collect_cons (by cbv) (by cbv) (collect_cons (by cbv) (by cbv) (collect_cons (by cbv) (by cbv) (collect_cons (by cbv) (by cbv) (collect_cons (by cbv) (by cbv) (collect_cons (by cbv) (by cbv) (collect_cons (by cbv) (by cbv) (collect_cons (by cbv) (by cbv) (collect_cons (by cbv) (by cbv) (collect_cons (by cbv) (by cbv) (collect_cons (by cbv) (by cbv) (collect_cons (by cbv) (by cbv) (collect_cons (by cbv) (by cbv) (collect_cons (by cbv) (by cbv) (collect_cons (by cbv) (by cbv) (collect_cons (by cbv) (by cbv) (collect_cons (by cbv) (by cbv) (collect_cons (by cbv) (by cbv) (collect_cons (by cbv) (by cbv) (collect_cons (by cbv) (by cbv) collect_nil))))))))))))))))))))))))))) (by cbv) (by cbv) (by cbv) ?_ ?_
            · exact (hq trivial (hq (get_le h_x70) (hq (get_lt (f := Int_c) h_x70) (hq (get_ge (f := Int_c) h_x70) (hq trivial (hq (hC (spec_l1In_ac h_r71)) (hq (fun _ => hq0) (hq (fun g74 => (hq g74 (hq trivial hq0))) (hq (fun g75 => (hq g75 hq0)) (hq (fun _ => hq0) (hq (fun g77 => (hq g77 (hq trivial hq0))) (hq (fun _ => hq0) (hq (fun g79 => (hq g79 (hq trivial hq0))) (hq (fun g80 => (hq g80 (hq g80 (hq (get_le (gd_t h_x72 g80)) (hq (get_lt (f := Int_c) (gd_t h_x72 g80)) (hq (get_ge (f := Int_c) (gd_t h_x72 g80)) hq0)))))) (hq (fun g81 => (hq g81 hq0)) (hq (fun _ => hq0) (hq (fun g83 => (hq g83 (hq trivial hq0))) (hq (fun _ => hq0) (hq (fun g85 => (hq g85 (hq g85 (hq (get_le h_x70) (hq (get_lt (f := Int_c) h_x70) (hq (get_ge (f := Int_c) h_x70) hq0)))))) (hq (fun g86 => (hq g86 hq0)) (hq (fun g87 => (hq g87 (hq g87 (hq trivial hq0)))) (hq (fun g88 => (hq g88 (hq (fun q89 => (hq (bo_a g88 q89) hq0)) (hq (fun _ => hq0) hq0)))) (hq (fun _ => hq0) (hq (fun q92 => (hq (bo_m q92) hq0)) hq0))))))))))))))))))))))))
            refine Run.cond (by cbv) (hq0) (fun c93 => ?_) (fun c93 => ?_)
            · have h := if_t c93 h
              refine Run.seq ?_
              refine Run.region hL hT [] (by cbv) ?_ ?_
              · exact hq0
              refine Run.ret ?_
              cases h
              refine ⟨_, _, by cbv, ?_, ?_⟩
              · exact LLe.r
              · exact (ALe.v LLe.r ALe.nil)
            · have h := if_f c93 h
              refine Run.skip ?_
              refine Run.region hL hT [] (by cbv) ?_ ?_
              · exact (hq trivial hq0)
              refine ⟨(ar .add .i64 z68 1), h, Weak.of _ [(1, 1), (2, 2)] hA (by cbv) ?_⟩
              repeat (first | exact hq0 | refine hq (by first | exact True.intro | rfl) ?_)
          · have h := if_f c69 h
            refine Run.exit ?_
            refine ⟨(), h, Weak.of _ [(1, 1), (2, 2)] hA (by cbv) ?_⟩
            repeat (first | exact hq0 | refine hq (by first | exact True.intro | rfl) ?_)
      · intro y54 h
        rw [h_K55] at h
        refine Run.seq ?_
        refine Run.seq ?_
        obtain ⟨r94, h_r94, h⟩ := bnd h
        obtain ⟨r95, h_r95, h⟩ := bnd h
        refine Run.region hL hT [(3, .call [false, false, false] [.v (.jk), .v (.jk), .v (.jk)] [.v (.s (.bool r94))]), (8, .call [false, false, false] [.v (.jk), .v (.jk), .v (.jk)] [.v (.s (.bool r95))])] (by cbv) ?_ ?_
        · exact (hq trivial (hq (hC (spec_l1In_ac h_r94)) (hq (fun _ => hq0) (hq (fun g97 => (hq g97 (hq trivial hq0))) (hq (fun g98 => (hq g98 (hq (hC (spec_l1In_ac (gd_t h_r95 g98))) hq0))) (hq (fun g99 => (hq g99 hq0)) (hq (fun _ => hq0) (hq (fun q101 => (hq (bo_m q101) hq0)) (hq (fun _ => hq0) (hq (fun g103 => (hq g103 (hq trivial hq0))) (hq (fun g104 => (hq g104 (hq trivial hq0))) (hq (fun g105 => (hq g105 hq0)) (hq (fun _ => hq0) (hq (fun g107 => (hq g107 (hq trivial hq0))) (hq (fun g108 => (hq g108 (hq (fun q109 => (hq (bo_a g108 q109) hq0)) (hq (fun _ => hq0) hq0)))) (hq (fun _ => hq0) (hq (fun q112 => (hq (bo_m q112) hq0)) hq0)))))))))))))))))
        refine Run.cond (by cbv) (hq0) (fun c113 => ?_) (fun c113 => ?_)
        · have h := if_t c113 h
          refine Run.seq ?_
          refine Run.region hL hT [] (by cbv) ?_ ?_
          · exact hq0
          refine Run.ret ?_
          cases h
          refine ⟨_, _, by cbv, ?_, ?_⟩
          · exact LLe.r
          · exact (ALe.v LLe.r ALe.nil)
        · have h := if_f c113 h
          refine Run.skip ?_
          refine Run.seq ?_
          refine Run.seq ?_
          refine Run.region hL hT [] (by cbv) ?_ ?_
          · exact (hq trivial hq0)
          refine Run.cond (by cbv) (hq0) (fun c114 => ?_) (fun c114 => ?_)
          · have h := if_t c114 h
            refine Run.seq ?_
            refine Run.region hL hT [] (by cbv) ?_ ?_
            · exact (hq trivial (hq trivial (hq (fun _ => hq0) (hq (fun g116 => (hq g116 (hq trivial hq0))) (hq (fun g117 => (hq g117 (hq trivial hq0))) (hq (fun q118 => (hq q118 hq0)) (hq (fun _ => hq0) hq0)))))))
            refine Run.ret ?_
            cases h
            refine ⟨_, _, by cbv, ?_, ?_⟩
            · exact LLe.r
            · exact (ALe.v LLe.r ALe.nil)
          · have h := if_f c114 h
            refine Run.skip ?_
            refine Run.seq ?_
            obtain ⟨r120, h_r120, h⟩ := bnd h
            obtain ⟨x121, h_x121, h⟩ := bnd h
            obtain ⟨r122, h_r122, h⟩ := bnd h
            refine Run.draw hL hT hM [(6, .call [false, false, false] [.v (.jk), .v (.jk), .v (.jk)] [.v (.s (.bool r120))]), (14, .el [.s (.int .i64 x121)]), (17, .call [false, false, false] [.v (.jk), .v (.jk), .v (.jk)] [.v (.s (.bool r122))])] (by cbv) (collect_cons (by cbv) (by cbv) (collect_cons (by cbv) (by cbv) (collect_cons (by cbv) (by cbv) (collect_cons (by cbv) (by cbv) (collect_cons (by cbv) (by cbv) (collect_cons (by cbv) (by cbv) (collect_cons (by cbv) (by cbv) (collect_cons (by cbv) (by cbv) (collect_cons (by cbv) (by cbv) (collect_cons (by cbv) (by cbv) (collect_cons (by cbv) (by cbv) (collect_cons (by cbv) (by cbv) (collect_cons (by cbv) (by cbv) (collect_cons (by cbv) (by cbv) (collect_cons (by cbv) (by cbv) (collect_cons (by cbv) (by cbv) (collect_cons (by cbv) (by cbv) (collect_cons (by cbv) (by cbv) (collect_cons (by cbv) (by cbv) (collect_cons (by cbv) (by cbv) collect_nil)))))))))))))))))))) (by cbv) (by cbv) (by cbv) ?_ ?_
            · exact (hq trivial (hq trivial (hq trivial (hq (by rw [show ln (eInt_c a0v_Cols) = lenI_Int a0v_Cols from ln_eq Int_c _]; exact (hC (spec_l1In_ac h_r120))) (hq (fun _ => hq0) (hq (fun g124 => (hq g124 (hq trivial hq0))) (hq (fun _ => hq0) (hq (fun g126 => (hq g126 (hq trivial hq0))) (hq (fun _ => hq0) (hq (fun g128 => (hq g128 (hq trivial hq0))) (hq (fun g129 => (hq g129 (hq g129 (hq (get_le (gd_t h_x121 g129)) (hq (get_lt (f := Int_c) (gd_t h_x121 g129)) (hq (get_ge (f := Int_c) (gd_t h_x121 g129)) hq0)))))) (hq (fun g130 => (hq g130 hq0)) (hq (fun g131 => (hq g131 (hq trivial hq0))) (hq (fun g132 => (hq g132 (hq g132 (hq (hC (spec_l1In_ac (gd_t h_r122 g132))) hq0)))) (hq (fun q133 => (hq q133 hq0)) (hq (fun _ => hq0) hq0))))))))))))))))
            rw [show ln (eInt_c a0v_Cols) = lenI_Int a0v_Cols from ln_eq Int_c _]
            refine Run.ret ?_
            cases h
            refine ⟨_, _, by cbv, ?_, ?_⟩
            · exact LLe.r
            · exact (ALe.v LLe.r ALe.nil)

theorem spec_QueryText_ac {a0v_Cols : List Int} {a1v_Table : Int} {a1v_Where : List Cond} {a1v_Order : Int} {a1v_Down : Bool} {a1v_First : Int} {a1v_Show : List Int} {a1v_Kids : Bool} {a1v_KidTable : Int} {a1v_KidCol : Int} {r : ByteArray} (h : spec_QueryText.f (Schema.mk a0v_Cols) (Query.mk a1v_Table a1v_Where a1v_Order a1v_Down a1v_First a1v_Show a1v_Kids a1v_KidTable a1v_KidCol) = some r) : AC Tryd.prog 9 [.ag [.im false (rowsOf Int_c a0v_Cols)], .ag [.s (.int .i64 a1v_Table), .im false (rowsOf Cond_c a1v_Where), .s (.int .i64 a1v_Order), .s (.bool a1v_Down), .s (.int .i64 a1v_First), .im false (rowsOf Int_c a1v_Show), .s (.bool a1v_Kids), .s (.int .i64 a1v_KidTable), .s (.int .i64 a1v_KidCol)]] [.ag [.jk], .ag [.jk, .jk, .jk, .jk, .jk, .jk, .jk, .jk, .jk]] [.v (.s (.string r))] := by
  unfold spec_QueryText.f at h
  let eCond_c := rowsOf Cond_c
  let eInt_c := rowsOf Int_c
  let eStr_c := rowsOf Str_c
  let lenI_Cond := @lenI Cond
  let lenI_Int := @lenI Int
  show AC Tryd.prog 9 [.ag [.im false (eInt_c a0v_Cols)], .ag [.s (.int .i64 a1v_Table), .im false (eCond_c a1v_Where), .s (.int .i64 a1v_Order), .s (.bool a1v_Down), .s (.int .i64 a1v_First), .im false (eInt_c a1v_Show), .s (.bool a1v_Kids), .s (.int .i64 a1v_KidTable), .s (.int .i64 a1v_KidCol)]] _ _
  refine run3 Tryd.func9 (by rfl) (by rfl) (by cbv) ⟨by decide, rfl⟩ ?_
  intro ar cm bo sc sa sx ss sl bs sb ln sr ap up rp fr ge le lt nz mm ma sm fl al ci hL F hP hA hT hM hC
  refine Run.seq ?_
  refine Run.region hL hT [] (by cbv) ?_ ?_
  · exact hq0
  refine Run.seq ?_
  refine Run.seq ?_
  obtain ⟨r1, h_r1, h⟩ := bnd h
  refine Run.region hL hT [(2, .call [false, false] [.ag [.jk], .ag [.jk, .jk, .jk, .jk, .jk, .jk, .jk, .jk, .jk]] [.v (.s (.bool r1))])] (by cbv) ?_ ?_
  · exact (hq trivial (hq trivial (hq (hC (spec_QueryOk_ac h_r1)) hq0)))
  refine Run.cond (by cbv) (hq0) (fun c2 => ?_) (fun c2 => ?_)
  · have h := if_t c2 h
    refine Run.seq ?_
    refine Run.region hL hT [] (by cbv) ?_ ?_
    · exact hq0
    refine Run.ret ?_
    cases h
    refine ⟨_, _, by cbv, ?_, ?_⟩
    · exact LLe.r
    · exact (ALe.v LLe.r ALe.nil)
  · have h := if_f c2 h
    refine Run.skip ?_
    refine Run.seq ?_
    obtain ⟨r3, h_r3, h⟩ := bnd h
    obtain ⟨s4, h_s4, h⟩ := bnd h
    refine Run.region hL hT [(2, .call [false] [.v (.jk)] [.v (.s (.string r3))]), (3, .hd [] (.t (.s (.string s4))) [])] (by cbv) ?_ ?_
    · exact (hq trivial (hq (hC (spec_l2Digits_ac h_r3)) (hq (hand_add h_s4) hq0)))
    obtain ⟨K6, h_K6, h⟩ := joinE h
    refine Run.join1 K6 (r := r) (fun (y5 : ByteArray) => ⟨104, 100000, [(3, .pt 1 0 0), (5, .t (.s (.string y5)))], [(1, .box 35 [.t (.s (.int .i64 a1v_Table)), .t (.im false (eCond_c a1v_Where)), .t (.s (.int .i64 a1v_Order)), .t (.s (.bool a1v_Down)), .t (.s (.int .i64 a1v_First)), .t (.im false (eInt_c a1v_Show)), .t (.s (.bool a1v_Kids)), .t (.s (.int .i64 a1v_KidTable)), .t (.s (.int .i64 a1v_KidCol))])]⟩) ?_ ?_
    · skip
      refine Run.seq ?_
      refine Run.region hL hT [] (by cbv) ?_ ?_
      · exact hq0
      refine Run.block ?_
      refine Run.loop2 (fun (z18 : ByteArray) (z19 : Int) => ⟨104, 100000, [(3, .pt 1 0 0), (5, .t (.s (.string z18))), (6, .t (.s (.int .i64 z19)))], [(1, .box 35 [.t (.s (.int .i64 a1v_Table)), .t (.im false (eCond_c a1v_Where)), .t (.s (.int .i64 a1v_Order)), .t (.s (.bool a1v_Down)), .t (.s (.int .i64 a1v_First)), .t (.im false (eInt_c a1v_Show)), .t (.s (.bool a1v_Kids)), .t (.s (.int .i64 a1v_KidTable)), .t (.s (.int .i64 a1v_KidCol))])]⟩) (x0 := s4) (x1 := 0) h (Weak.of _ [(1, 1)] hA (by cbv) ?_) (fun _ _ => rfl) ?_
      · repeat (first | exact hq0 | refine hq (by first | exact True.intro | rfl) ?_)
      · intro k z18 z19 h
        rw [spec_QueryText.l0] at h
        refine Run.seq ?_
        refine Run.seq ?_
        refine Run.region hL hT [] (by cbv) ?_ ?_
        · exact (hq trivial (hq trivial hq0))
        rw [show ln (eCond_c a1v_Where) = lenI_Cond a1v_Where from ln_eq Cond_c _]
        refine Run.cond (by cbv) (hq0) (fun c20 => ?_) (fun c20 => ?_)
        · have h := if_t c20 h
          refine Run.skip ?_
          refine Run.seq ?_
          refine Run.block ?_
          refine Run.seq ?_
          obtain ⟨⟨x21v_Col, x21v_Op, x21v_V⟩, h_x21, h⟩ := bnd h
          refine Run.region hL hT [(3, .el [.s (.int .i64 x21v_Col), .s (.int .i64 x21v_Op), .s (.int .i64 x21v_V)])] (by cbv) ?_ ?_
          · exact (hq trivial (hq (get_le h_x21) (hq (get_lt (f := Cond_c) h_x21) (hq (get_ge (f := Cond_c) h_x21) (hq trivial hq0)))))
          obtain ⟨s22, h_s22, h⟩ := bnd h
          obtain ⟨r23, h_r23, h⟩ := bnd h
          obtain ⟨s24, h_s24, h⟩ := bnd h
          obtain ⟨s25, h_s25, h⟩ := bnd h
          obtain ⟨r26, h_r26, h⟩ := bnd h
          obtain ⟨x27, h_x27, h⟩ := bnd h
          obtain ⟨s28, h_s28, h⟩ := bnd h
          obtain ⟨s29, h_s29, h⟩ := bnd h
          obtain ⟨r30, h_r30, h⟩ := bnd h
          obtain ⟨s31, h_s31, h⟩ := bnd h
          refine Run.draw hL hT hM [(1, .hd [] (.t (.s (.string s22))) []), (4, .call [false] [.v (.jk)] [.v (.s (.string r23))]), (5, .hd [] (.t (.s (.string s24))) []), (6, .hd [] (.t (.s (.string s25))) []), (7, .call [] [] [.v (.ow 9 (eStr_c r26))]), (11, .el [.s (.string x27)]), (12, .hd [] (.t (.s (.string s28))) []), (13, .hd [] (.t (.s (.string s29))) []), (16, .call [false] [.v (.jk)] [.v (.s (.string r30))]), (17, .hd [] (.t (.s (.string s31))) [])] (by cbv) (collect_cons (by cbv) (by cbv) (collect_cons (by cbv) (by cbv) (collect_cons (by cbv) (by cbv) (collect_cons (by cbv) (by cbv) (collect_cons (by cbv) (by cbv) (collect_cons (by cbv) (by cbv) (collect_cons (by cbv) (by cbv) (collect_cons (by cbv) (by cbv) (collect_cons (by cbv) (by cbv) (collect_cons (by cbv) (by cbv) (collect_cons (by cbv) (by cbv) (collect_cons (by cbv) (by cbv) (collect_cons (by cbv) (by cbv) (collect_cons (by cbv) (by cbv) (collect_cons (by cbv) (by cbv) (collect_cons (by cbv) (by cbv) (collect_cons (by cbv) (by cbv) (collect_cons (by cbv) (by cbv) (collect_cons (by cbv) (by cbv) collect_nil))))))))))))))))))) (by cbv) (by cbv) (by cbv) ?_ ?_
          · exact (hq (hand_add h_s22) (hq trivial (hq (hC (spec_l2Digits_ac h_r23)) (hq (hand_add h_s24) (hq (hand_add h_s25) (hq (hC (spec_l10Signs_ac h_r26)) (hq trivial (hq (get_le h_x27) (hq (get_lt (f := Str_c) h_x27) (hq (get_le h_x27) (hq (get_lt (f := Str_c) h_x27) (hq (get_ge (f := Str_c) h_x27) (hq (hand_add h_s28) (hq (hand_add h_s29) (hq trivial (hq (hC (spec_l2Digits_ac h_r30)) (hq (hand_add h_s31) hq0)))))))))))))))))
          refine Run.region hL hT [] (by cbv) ?_ ?_
          · exact (hq trivial hq0)
          refine ⟨s31, (ar .add .i64 z19 1), h, Weak.of _ [(1, 1)] hA (by cbv) ?_⟩
          repeat (first | exact hq0 | refine hq (by first | exact True.intro | rfl) ?_)
        · have h := if_f c20 h
          refine Run.exit ?_
          refine ⟨z18, h, Weak.of _ [(1, 1)] hA (by cbv) ?_⟩
          repeat (first | exact hq0 | refine hq (by first | exact True.intro | rfl) ?_)
    · intro y5 h
      rw [h_K6] at h
      obtain ⟨K33, h_K33, h⟩ := joinE h
      refine Run.join1 K33 (r := r) (fun (y32 : ByteArray) => ⟨104, 100000, [(3, .pt 1 0 0), (5, .t (.s (.string y32)))], [(1, .box 35 [.t (.s (.int .i64 a1v_Table)), .t (.im false (eCond_c a1v_Where)), .t (.s (.int .i64 a1v_Order)), .t (.s (.bool a1v_Down)), .t (.s (.int .i64 a1v_First)), .t (.im false (eInt_c a1v_Show)), .t (.s (.bool a1v_Kids)), .t (.s (.int .i64 a1v_KidTable)), .t (.s (.int .i64 a1v_KidCol))])]⟩) ?_ ?_
      · skip
        refine Run.seq ?_
        refine Run.region hL hT [] (by cbv) ?_ ?_
        · exact (hq trivial (hq trivial hq0))
        refine Run.cond (by cbv) (hq0) (fun c34 => ?_) (fun c34 => ?_)
        · have h := if_t c34 h
          refine Run.seq ?_
          obtain ⟨s35, h_s35, h⟩ := bnd h
          obtain ⟨r36, h_r36, h⟩ := bnd h
          obtain ⟨s37, h_s37, h⟩ := bnd h
          refine Run.region hL hT [(1, .hd [] (.t (.s (.string s35))) []), (5, .call [false] [.v (.jk)] [.v (.s (.string r36))]), (6, .hd [] (.t (.s (.string s37))) [])] (by cbv) ?_ ?_
          · exact (hq (hand_add h_s35) (hq trivial (hq trivial (hq (hC (spec_l2Digits_ac h_r36)) (hq (hand_add h_s37) hq0)))))
          refine Run.seq ?_
          refine Run.region hL hT [] (by cbv) ?_ ?_
          · exact (hq trivial hq0)
          refine Run.cond (by cbv) (hq0) (fun c38 => ?_) (fun c38 => ?_)
          · have h := if_t c38 h
            obtain ⟨s39, h_s39, h⟩ := bnd h
            refine Run.region hL hT [(1, .hd [] (.t (.s (.string s39))) [])] (by cbv) ?_ ?_
            · exact (hq (hand_add h_s39) hq0)
            refine ⟨s39, h, Weak.of _ [(1, 1)] hA (by cbv) ?_⟩
            repeat (first | exact hq0 | refine hq (by first | exact True.intro | rfl) ?_)
          · have h := if_f c38 h
            refine Run.skip ?_
            refine ⟨s37, h, Weak.of _ [(1, 1)] hA (by cbv) ?_⟩
            repeat (first | exact hq0 | refine hq (by first | exact True.intro | rfl) ?_)
        · have h := if_f c34 h
          refine Run.skip ?_
          refine ⟨y5, h, Weak.of _ [(1, 1)] hA (by cbv) ?_⟩
          repeat (first | exact hq0 | refine hq (by first | exact True.intro | rfl) ?_)
      · intro y32 h
        rw [h_K33] at h
        obtain ⟨K41, h_K41, h⟩ := joinE h
        refine Run.join1 K41 (r := r) (fun (y40 : ByteArray) => ⟨104, 100000, [(3, .pt 1 0 0), (5, .t (.s (.string y40)))], [(1, .box 35 [.t (.s (.int .i64 a1v_Table)), .t (.im false (eCond_c a1v_Where)), .t (.s (.int .i64 a1v_Order)), .t (.s (.bool a1v_Down)), .t (.s (.int .i64 a1v_First)), .t (.im false (eInt_c a1v_Show)), .t (.s (.bool a1v_Kids)), .t (.s (.int .i64 a1v_KidTable)), .t (.s (.int .i64 a1v_KidCol))])]⟩) ?_ ?_
        · skip
          refine Run.seq ?_
          refine Run.region hL hT [] (by cbv) ?_ ?_
          · exact (hq trivial (hq trivial hq0))
          refine Run.cond (by cbv) (hq0) (fun c42 => ?_) (fun c42 => ?_)
          · have h := if_t c42 h
            obtain ⟨s43, h_s43, h⟩ := bnd h
            obtain ⟨r44, h_r44, h⟩ := bnd h
            obtain ⟨s45, h_s45, h⟩ := bnd h
            refine Run.region hL hT [(1, .hd [] (.t (.s (.string s43))) []), (4, .call [false] [.v (.jk)] [.v (.s (.string r44))]), (5, .hd [] (.t (.s (.string s45))) [])] (by cbv) ?_ ?_
            · exact (hq (hand_add h_s43) (hq trivial (hq (hC (spec_l2Digits_ac h_r44)) (hq (hand_add h_s45) hq0))))
            refine ⟨s45, h, Weak.of _ [(1, 1)] hA (by cbv) ?_⟩
            repeat (first | exact hq0 | refine hq (by first | exact True.intro | rfl) ?_)
          · have h := if_f c42 h
            refine Run.skip ?_
            refine ⟨y32, h, Weak.of _ [(1, 1)] hA (by cbv) ?_⟩
            repeat (first | exact hq0 | refine hq (by first | exact True.intro | rfl) ?_)
        · intro y40 h
          rw [h_K41] at h
          obtain ⟨K47, h_K47, h⟩ := joinE h
          refine Run.join1 K47 (r := r) (fun (y46 : ByteArray) => ⟨104, 100000, [(3, .pt 1 0 0), (5, .t (.s (.string y46)))], [(1, .box 35 [.t (.s (.int .i64 a1v_Table)), .t (.im false (eCond_c a1v_Where)), .t (.s (.int .i64 a1v_Order)), .t (.s (.bool a1v_Down)), .t (.s (.int .i64 a1v_First)), .t (.im false (eInt_c a1v_Show)), .t (.s (.bool a1v_Kids)), .t (.s (.int .i64 a1v_KidTable)), .t (.s (.int .i64 a1v_KidCol))])]⟩) ?_ ?_
          · skip
            refine Run.seq ?_
            refine Run.region hL hT [] (by cbv) ?_ ?_
            · exact hq0
            refine Run.block ?_
            refine Run.loop2 (fun (z59 : ByteArray) (z60 : Int) => ⟨104, 100000, [(3, .pt 1 0 0), (5, .t (.s (.string z59))), (8, .t (.s (.int .i64 z60)))], [(1, .box 35 [.t (.s (.int .i64 a1v_Table)), .t (.im false (eCond_c a1v_Where)), .t (.s (.int .i64 a1v_Order)), .t (.s (.bool a1v_Down)), .t (.s (.int .i64 a1v_First)), .t (.im false (eInt_c a1v_Show)), .t (.s (.bool a1v_Kids)), .t (.s (.int .i64 a1v_KidTable)), .t (.s (.int .i64 a1v_KidCol))])]⟩) (x0 := y40) (x1 := 0) h (Weak.of _ [(1, 1)] hA (by cbv) ?_) (fun _ _ => rfl) ?_
            · repeat (first | exact hq0 | refine hq (by first | exact True.intro | rfl) ?_)
            · intro k z59 z60 h
              rw [spec_QueryText.l1] at h
              refine Run.seq ?_
              refine Run.seq ?_
              refine Run.region hL hT [] (by cbv) ?_ ?_
              · exact (hq trivial (hq trivial hq0))
              rw [show ln (eInt_c a1v_Show) = lenI_Int a1v_Show from ln_eq Int_c _]
              refine Run.cond (by cbv) (hq0) (fun c61 => ?_) (fun c61 => ?_)
              · have h := if_t c61 h
                refine Run.skip ?_
                refine Run.seq ?_
                refine Run.block ?_
                obtain ⟨K63, h_K63, h⟩ := joinE h
                refine Run.join1 K63 (r := r) (fun (y62 : ByteArray) => ⟨104, 100000, [(3, .pt 1 0 0), (5, .t (.s (.string y62))), (8, .t (.s (.int .i64 z60)))], [(1, .box 35 [.t (.s (.int .i64 a1v_Table)), .t (.im false (eCond_c a1v_Where)), .t (.s (.int .i64 a1v_Order)), .t (.s (.bool a1v_Down)), .t (.s (.int .i64 a1v_First)), .t (.im false (eInt_c a1v_Show)), .t (.s (.bool a1v_Kids)), .t (.s (.int .i64 a1v_KidTable)), .t (.s (.int .i64 a1v_KidCol))])]⟩) ?_ ?_
                · skip
                  refine Run.seq ?_
                  refine Run.region hL hT [] (by cbv) ?_ ?_
                  · exact (hq trivial hq0)
                  refine Run.cond (by cbv) (hq0) (fun c64 => ?_) (fun c64 => ?_)
                  · have h := if_t c64 h
                    obtain ⟨s65, h_s65, h⟩ := bnd h
                    refine Run.region hL hT [(1, .hd [] (.t (.s (.string s65))) [])] (by cbv) ?_ ?_
                    · exact (hq (hand_add h_s65) hq0)
                    refine ⟨s65, h, Weak.of _ [(1, 1)] hA (by cbv) ?_⟩
                    repeat (first | exact hq0 | refine hq (by first | exact True.intro | rfl) ?_)
                  · have h := if_f c64 h
                    refine Run.skip ?_
                    refine ⟨z59, h, Weak.of _ [(1, 1)] hA (by cbv) ?_⟩
                    repeat (first | exact hq0 | refine hq (by first | exact True.intro | rfl) ?_)
                · intro y62 h
                  rw [h_K63] at h
                  obtain ⟨s66, h_s66, h⟩ := bnd h
                  obtain ⟨x67, h_x67, h⟩ := bnd h
                  obtain ⟨r68, h_r68, h⟩ := bnd h
                  obtain ⟨s69, h_s69, h⟩ := bnd h
                  refine Run.region hL hT [(1, .hd [] (.t (.s (.string s66))) []), (5, .el [.s (.int .i64 x67)]), (7, .call [false] [.v (.jk)] [.v (.s (.string r68))]), (8, .hd [] (.t (.s (.string s69))) [])] (by cbv) ?_ ?_
                  · exact (hq (hand_add h_s66) (hq trivial (hq (get_le h_x67) (hq (get_lt (f := Int_c) h_x67) (hq (get_ge (f := Int_c) h_x67) (hq (hC (spec_l2Digits_ac h_r68)) (hq (hand_add h_s69) hq0)))))))
                  refine Run.region hL hT [] (by cbv) ?_ ?_
                  · exact (hq trivial hq0)
                  refine ⟨s69, (ar .add .i64 z60 1), h, Weak.of _ [(1, 1)] hA (by cbv) ?_⟩
                  repeat (first | exact hq0 | refine hq (by first | exact True.intro | rfl) ?_)
              · have h := if_f c61 h
                refine Run.exit ?_
                refine ⟨z59, h, Weak.of _ [(1, 1)] hA (by cbv) ?_⟩
                repeat (first | exact hq0 | refine hq (by first | exact True.intro | rfl) ?_)
          · intro y46 h
            rw [h_K47] at h
            refine Run.seq ?_
            refine Run.seq ?_
            refine Run.region hL hT [] (by cbv) ?_ ?_
            · exact (hq trivial hq0)
            refine Run.cond (by cbv) (hq0) (fun c70 => ?_) (fun c70 => ?_)
            · have h := if_t c70 h
              obtain ⟨s71, h_s71, h⟩ := bnd h
              obtain ⟨r72, h_r72, h⟩ := bnd h
              obtain ⟨s73, h_s73, h⟩ := bnd h
              obtain ⟨s74, h_s74, h⟩ := bnd h
              obtain ⟨r75, h_r75, h⟩ := bnd h
              obtain ⟨s76, h_s76, h⟩ := bnd h
              refine Run.draw hL hT hM [(1, .hd [] (.t (.s (.string s71))) []), (4, .call [false] [.v (.jk)] [.v (.s (.string r72))]), (5, .hd [] (.t (.s (.string s73))) []), (6, .hd [] (.t (.s (.string s74))) []), (9, .call [false] [.v (.jk)] [.v (.s (.string r75))]), (10, .hd [] (.t (.s (.string s76))) [])] (by cbv) (collect_cons (by cbv) (by cbv) (collect_cons (by cbv) (by cbv) (collect_cons (by cbv) (by cbv) (collect_cons (by cbv) (by cbv) (collect_cons (by cbv) (by cbv) (collect_cons (by cbv) (by cbv) (collect_cons (by cbv) (by cbv) (collect_cons (by cbv) (by cbv) (collect_cons (by cbv) (by cbv) (collect_cons (by cbv) (by cbv) (collect_cons (by cbv) (by cbv) (collect_cons (by cbv) (by cbv) collect_nil)))))))))))) (by cbv) (by cbv) (by cbv) ?_ ?_
              · exact (hq (hand_add h_s71) (hq trivial (hq (hC (spec_l2Digits_ac h_r72)) (hq (hand_add h_s73) (hq (hand_add h_s74) (hq trivial (hq (hC (spec_l2Digits_ac h_r75)) (hq (hand_add h_s76) hq0))))))))
              refine Run.seq ?_
              refine Run.region hL hT [] (by cbv) ?_ ?_
              · exact hq0
              refine Run.ret ?_
              cases h
              refine ⟨_, _, by cbv, ?_, ?_⟩
              · exact LLe.r
              · exact (ALe.v LLe.r ALe.nil)
            · have h := if_f c70 h
              refine Run.skip ?_
              refine Run.seq ?_
              refine Run.region hL hT [] (by cbv) ?_ ?_
              · exact hq0
              refine Run.ret ?_
              cases h
              refine ⟨_, _, by cbv, ?_, ?_⟩
              · exact LLe.r
              · exact (ALe.v LLe.r ALe.nil)

theorem spec_QueryRead_ac {a0v_Cols : List Int} {a1 : ByteArray} {r : Query × Bool} (h : spec_QueryRead.f (Schema.mk a0v_Cols) a1 = some r) : AC Tryd.prog 15 [.ag [.im false (rowsOf Int_c a0v_Cols)], .v (.s (.string a1))] [.ag [.jk], .v (.jk)] [.ag [.s (.int .i64 r.1.Table), .ow 65 (rowsOf Cond_c r.1.Where), .s (.int .i64 r.1.Order), .s (.bool r.1.Down), .s (.int .i64 r.1.First), .ow 3 (rowsOf Int_c r.1.Show), .s (.bool r.1.Kids), .s (.int .i64 r.1.KidTable), .s (.int .i64 r.1.KidCol)], .v (.s (.bool r.2))] := by
  unfold spec_QueryRead.f at h
  let eCond_c := rowsOf Cond_c
  let eInt_c := rowsOf Int_c
  let eStr_c := rowsOf Str_c
  let lenI_Str := @lenI ByteArray
  show AC Tryd.prog 15 [.ag [.im false (eInt_c a0v_Cols)], .v (.s (.string a1))] _ _
  refine run3 Tryd.func15 (by rfl) (by rfl) (by cbv) ⟨by decide, rfl⟩ ?_
  intro ar cm bo sc sa sx ss sl bs sb ln sr ap up rp fr ge le lt nz mm ma sm fl al ci hL F hP hA hT hM hC
  refine Run.seq ?_
  refine Run.region hL hT [] (by cbv) ?_ ?_
  · exact hq0
  refine Run.seq ?_
  refine Run.region hL hT [] (by cbv) ?_ ?_
  · exact (hq trivial hq0)
  refine Run.seq ?_
  obtain ⟨r1, h_r1, h⟩ := bnd h
  refine Run.region hL hT [(1, .call [false] [.v (.jk)] [.v (.ow 9 (eStr_c r1))])] (by cbv) ?_ ?_
  · exact (hq (hC (spec_l10Words_ac h_r1)) hq0)
  obtain ⟨K11, h_K11, h⟩ := joinE h
  refine Run.join9 K11 (r := r) (fun (y2 : Int) (y3 : List Cond) (y4 : Int) (y5 : Bool) (y6 : Int) (y7 : List Int) (y8 : Bool) (y9 : Int) (y10 : Int) => ⟨147, 100000, [(1, .t (.s (.string a1))), (2, .pt 1 0 0), (4, .pt 2 0 0), (6, .pt 3 0 0)], [(1, .box 31 [.t (.im false (eInt_c a0v_Cols))]), (2, .box 35 [.t (.s (.int .i64 0)), .t (.s (.slice none 0 0)), .t (.s (.int .i64 0)), .t (.s (.bool false)), .t (.s (.int .i64 0)), .t (.s (.slice none 0 0)), .t (.s (.bool false)), .t (.s (.int .i64 0)), .t (.s (.int .i64 0))]), (3, .box 35 [.t (.s (.int .i64 y2)), .rf 4, .t (.s (.int .i64 y4)), .t (.s (.bool y5)), .t (.s (.int .i64 y6)), .rf 5, .t (.s (.bool y8)), .t (.s (.int .i64 y9)), .t (.s (.int .i64 y10))]), (4, .row 0 65 3 (eCond_c y3)), (5, .row 0 3 1 (eInt_c y7))]⟩) ?_ ?_
  · skip
    refine Run.seq ?_
    refine Run.region hL hT [] (by cbv) ?_ ?_
    · exact hq0
    refine Run.block ?_
    refine Run.loop10 (fun (z50 : Int) (z51 : List Cond) (z52 : Int) (z53 : Bool) (z54 : Int) (z55 : List Int) (z56 : Bool) (z57 : Int) (z58 : Int) (z59 : Int) => ⟨147, 100000, [(1, .t (.s (.string a1))), (2, .pt 1 0 0), (4, .pt 2 0 0), (6, .pt 3 0 0), (7, .rf 6), (8, .t (.s (.int .i64 z59)))], [(1, .box 31 [.t (.im false (eInt_c a0v_Cols))]), (2, .box 35 [.t (.s (.int .i64 0)), .t (.s (.slice none 0 0)), .t (.s (.int .i64 0)), .t (.s (.bool false)), .t (.s (.int .i64 0)), .t (.s (.slice none 0 0)), .t (.s (.bool false)), .t (.s (.int .i64 0)), .t (.s (.int .i64 0))]), (3, .box 35 [.t (.s (.int .i64 z50)), .rf 4, .t (.s (.int .i64 z52)), .t (.s (.bool z53)), .t (.s (.int .i64 z54)), .rf 5, .t (.s (.bool z56)), .t (.s (.int .i64 z57)), .t (.s (.int .i64 z58))]), (4, .row 0 65 3 (eCond_c z51)), (5, .row 0 3 1 (eInt_c z55)), (6, .row 0 9 1 (eStr_c r1))]⟩) (x0 := 0) (x1 := []) (x2 := 0) (x3 := false) (x4 := 0) (x5 := []) (x6 := false) (x7 := 0) (x8 := 0) (x9 := 0) h ((Weak.nilB (l := [.t (.s (.int .i64 0))]) hT 4097 1 17384 65 rfl (by cbv) (by cbv) (by cbv)).trans ((Weak.nilB (l := [.t (.s (.int .i64 0)), .rf 17384, .t (.s (.int .i64 0)), .t (.s (.bool false)), .t (.s (.int .i64 0))]) hT 4097 5 17385 3 rfl (by cbv) (by cbv) (by cbv)).trans (Weak.of _ [(1, 0), (2, 1), (3, 4097), (4, 17384), (5, 17385), (6, 8193)] hA (by cbv) ?_))) (fun _ _ _ _ _ _ _ _ _ _ => rfl) ?_
    · repeat (first | exact hq0 | refine hq (by first | exact True.intro | rfl) ?_)
    · intro k z50 z51 z52 z53 z54 z55 z56 z57 z58 z59 h
      rw [spec_QueryRead.l0] at h
      refine Run.seq ?_
      refine Run.seq ?_
      refine Run.region hL hT [] (by cbv) ?_ ?_
      · exact (hq trivial (hq (fun _ => hq0) (hq (fun g61 => (by have g61C := g61; rw [show ln (eStr_c r1) = lenI_Str r1 from ln_eq Str_c _] at g61C; exact (hq g61 hq0))) (hq (fun g62 => (by have g62C := g62; rw [show ln (eStr_c r1) = lenI_Str r1 from ln_eq Str_c _] at g62C; exact (hq g62 (hq trivial hq0)))) (hq (fun q63 => (by have q63C := q63; rw [show ln (eStr_c r1) = lenI_Str r1 from ln_eq Str_c _] at q63C; exact (hq q63 hq0))) (hq (fun _ => hq0) hq0))))))
      rw [show ln (eStr_c r1) = lenI_Str r1 from ln_eq Str_c _]
      refine Run.cond (by cbv) (hq0) (fun c65 => ?_) (fun c65 => ?_)
      · have h := if_t c65 h
        refine Run.skip ?_
        obtain ⟨K75, h_K75, h⟩ := joinE h
        refine Run.join9 K75 (r := r) (fun (y66 : Int) (y67 : List Cond) (y68 : Int) (y69 : Bool) (y70 : Int) (y71 : List Int) (y72 : Bool) (y73 : Int) (y74 : Int) => ⟨147, 100000, [(1, .t (.s (.string a1))), (2, .pt 1 0 0), (4, .pt 2 0 0), (6, .pt 3 0 0), (7, .rf 6), (8, .t (.s (.int .i64 z59)))], [(1, .box 31 [.t (.im false (eInt_c a0v_Cols))]), (2, .box 35 [.t (.s (.int .i64 0)), .t (.s (.slice none 0 0)), .t (.s (.int .i64 0)), .t (.s (.bool false)), .t (.s (.int .i64 0)), .t (.s (.slice none 0 0)), .t (.s (.bool false)), .t (.s (.int .i64 0)), .t (.s (.int .i64 0))]), (3, .box 35 [.t (.s (.int .i64 y66)), .rf 4, .t (.s (.int .i64 y68)), .t (.s (.bool y69)), .t (.s (.int .i64 y70)), .rf 5, .t (.s (.bool y72)), .t (.s (.int .i64 y73)), .t (.s (.int .i64 y74))]), (4, .row 0 65 3 (eCond_c y67)), (5, .row 0 3 1 (eInt_c y71)), (6, .row 0 9 1 (eStr_c r1))]⟩) ?_ ?_
        · skip
          refine Run.block ?_
          refine Run.seq ?_
          obtain ⟨x76, h_x76, h⟩ := bnd h
          refine Run.region hL hT [(3, .el [.s (.string x76)])] (by cbv) ?_ ?_
          · exact (hq (get_le h_x76) (hq (get_lt (f := Str_c) h_x76) (hq (get_le h_x76) (hq (get_lt (f := Str_c) h_x76) (hq (get_ge (f := Str_c) h_x76) hq0)))))
          refine Run.block ?_
          refine Run.seq ?_
          refine Run.region hL hT [] (by cbv) ?_ ?_
          · exact hq0
          refine Run.cond (by cbv) (hq0) (fun c77 => ?_) (fun c77 => ?_)
          · have h := if_t c77 h
            obtain ⟨r78, h_r78, h⟩ := bnd h
            refine Run.region hL hT [(3, .call [false, false] [.v (.jk), .v (.jk)] [.v (.s (.int .i64 r78))])] (by cbv) ?_ ?_
            · exact (hq trivial (hq (hC (AC.args (spec_l10Arg_ac h_r78) (ALe.v (LLe.im (RLe.eq (fr_row Str_c_z _))) (ALe.v LLe.r ALe.nil)))) (hq trivial hq0)))
            refine ⟨r78, z51, z52, z53, z54, z55, z56, z57, z58, h, Weak.of _ [(1, 1), (2, 2), (3, 3), (4, 4), (5, 5), (6, 6)] hA (by cbv) ?_⟩
            repeat (first | exact hq0 | refine hq (by first | exact True.intro | rfl) ?_)
          · have h := if_f c77 h
            refine Run.seq ?_
            refine Run.region hL hT [] (by cbv) ?_ ?_
            · exact hq0
            refine Run.cond (by cbv) (hq0) (fun c79 => ?_) (fun c79 => ?_)
            · have h := if_t c79 h
              refine Run.seq ?_
              obtain ⟨r80, h_r80, h⟩ := bnd h
              obtain ⟨r81, h_r81, h⟩ := bnd h
              refine Run.region hL hT [(3, .call [false, false] [.v (.jk), .v (.jk)] [.v (.s (.int .i64 r80))]), (7, .call [false, false] [.v (.jk), .v (.jk)] [.v (.s (.int .i64 r81))])] (by cbv) ?_ ?_
              · exact (hq trivial (hq (hC (AC.args (spec_l10Arg_ac h_r80) (ALe.v (LLe.im (RLe.eq (fr_row Str_c_z _))) (ALe.v LLe.r ALe.nil)))) (hq trivial (hq (hC (AC.args (spec_l10Arg_ac h_r81) (ALe.v (LLe.im (RLe.eq (fr_row Str_c_z _))) (ALe.v LLe.r ALe.nil)))) (hq trivial hq0)))))
              obtain ⟨K83, h_K83, h⟩ := joinE h
              refine Run.join1 K83 (r := r) (fun (y82 : Int) => ⟨147, 100000, [(1, .t (.s (.string a1))), (2, .pt 1 0 0), (4, .pt 2 0 0), (6, .pt 3 0 0), (7, .rf 6), (8, .t (.s (.int .i64 z59))), (9, .pt 7 0 0)], [(1, .box 31 [.t (.im false (eInt_c a0v_Cols))]), (2, .box 35 [.t (.s (.int .i64 0)), .t (.s (.slice none 0 0)), .t (.s (.int .i64 0)), .t (.s (.bool false)), .t (.s (.int .i64 0)), .t (.s (.slice none 0 0)), .t (.s (.bool false)), .t (.s (.int .i64 0)), .t (.s (.int .i64 0))]), (3, .box 35 [.t (.s (.int .i64 z50)), .rf 4, .t (.s (.int .i64 z52)), .t (.s (.bool z53)), .t (.s (.int .i64 z54)), .rf 5, .t (.s (.bool z56)), .t (.s (.int .i64 z57)), .t (.s (.int .i64 z58))]), (4, .row 0 65 3 (eCond_c z51)), (5, .row 0 3 1 (eInt_c z55)), (6, .row 0 9 1 (eStr_c r1)), (7, .box 65 [.t (.s (.int .i64 r80)), .t (.s (.int .i64 y82)), .t (.s (.int .i64 r81))])]⟩) ?_ ?_
              · skip
                refine Run.seq ?_
                refine Run.region hL hT [] (by cbv) ?_ ?_
                · exact hq0
                refine Run.block ?_
                refine Run.loop2 (fun (z108 : Int) (z109 : Int) => ⟨147, 100000, [(1, .t (.s (.string a1))), (2, .pt 1 0 0), (4, .pt 2 0 0), (6, .pt 3 0 0), (7, .rf 6), (8, .t (.s (.int .i64 z59))), (9, .pt 7 0 0), (10, .t (.s (.int .i64 z109)))], [(1, .box 31 [.t (.im false (eInt_c a0v_Cols))]), (2, .box 35 [.t (.s (.int .i64 0)), .t (.s (.slice none 0 0)), .t (.s (.int .i64 0)), .t (.s (.bool false)), .t (.s (.int .i64 0)), .t (.s (.slice none 0 0)), .t (.s (.bool false)), .t (.s (.int .i64 0)), .t (.s (.int .i64 0))]), (3, .box 35 [.t (.s (.int .i64 z50)), .rf 4, .t (.s (.int .i64 z52)), .t (.s (.bool z53)), .t (.s (.int .i64 z54)), .rf 5, .t (.s (.bool z56)), .t (.s (.int .i64 z57)), .t (.s (.int .i64 z58))]), (4, .row 0 65 3 (eCond_c z51)), (5, .row 0 3 1 (eInt_c z55)), (6, .row 0 9 1 (eStr_c r1)), (7, .box 65 [.t (.s (.int .i64 r80)), .t (.s (.int .i64 z108)), .t (.s (.int .i64 r81))])]⟩) (x0 := 0) (x1 := 1) h (Weak.of _ [(1, 1), (2, 2), (3, 3), (4, 4), (5, 5), (6, 6), (7, 116393)] hA (by cbv) ?_) (fun _ _ => rfl) ?_
                · repeat (first | exact hq0 | refine hq (by first | exact True.intro | rfl) ?_)
                · intro k z108 z109 h
                  rw [spec_QueryRead.l1] at h
                  refine Run.seq ?_
                  refine Run.seq ?_
                  refine Run.region hL hT [] (by cbv) ?_ ?_
                  · exact (hq trivial (hq (fun _ => hq0) (hq (fun g111 => (hq g111 (hq trivial hq0))) (hq (fun _ => hq0) (hq (fun g113 => (hq g113 hq0)) (hq (fun g114 => (hq g114 (hq g114 (hq trivial hq0)))) (hq (fun q115 => (hq q115 hq0)) (hq (fun _ => hq0) hq0))))))))
                  rw [show ln (eStr_c r1) = lenI_Str r1 from ln_eq Str_c _]
                  refine Run.cond (by cbv) (hq0) (fun c117 => ?_) (fun c117 => ?_)
                  · have h := if_t c117 h
                    refine Run.skip ?_
                    refine Run.seq ?_
                    refine Run.block ?_
                    refine Run.seq ?_
                    obtain ⟨x118, h_x118, h⟩ := bnd h
                    obtain ⟨r119, h_r119, h⟩ := bnd h
                    obtain ⟨x120, h_x120, h⟩ := bnd h
                    refine Run.draw hL hT hM [(4, .el [.s (.string x118)]), (5, .call [] [] [.v (.ow 9 (eStr_c r119))]), (8, .el [.s (.string x120)])] (by cbv) (collect_cons (by cbv) (by cbv) (collect_cons (by cbv) (by cbv) (collect_cons (by cbv) (by cbv) (collect_cons (by cbv) (by cbv) (collect_cons (by cbv) (by cbv) (collect_cons (by cbv) (by cbv) (collect_cons (by cbv) (by cbv) (collect_cons (by cbv) (by cbv) (collect_cons (by cbv) (by cbv) (collect_cons (by cbv) (by cbv) collect_nil)))))))))) (by cbv) (by cbv) (by cbv) ?_ ?_
                    · exact (hq trivial (hq (get_le h_x118) (hq (get_lt (f := Str_c) h_x118) (hq (get_le h_x118) (hq (get_lt (f := Str_c) h_x118) (hq (get_ge (f := Str_c) h_x118) (hq (hC (spec_l10Signs_ac h_r119)) (hq (get_le h_x120) (hq (get_lt (f := Str_c) h_x120) (hq (get_le h_x120) (hq (get_lt (f := Str_c) h_x120) (hq (get_ge (f := Str_c) h_x120) hq0))))))))))))
                    refine Run.cond (by cbv) (hq0) (fun c121 => ?_) (fun c121 => ?_)
                    · have h := if_t c121 h
                      refine Run.region hL hT [] (by cbv) ?_ ?_
                      · exact (hq trivial hq0)
                      refine Run.region hL hT [] (by cbv) ?_ ?_
                      · exact (hq trivial hq0)
                      refine ⟨z109, (ar .add .i64 z109 1), h, Weak.of _ [(1, 1), (2, 2), (3, 3), (4, 4), (5, 5), (6, 6), (7, 7)] hA (by cbv) ?_⟩
                      repeat (first | exact hq0 | refine hq (by first | exact True.intro | rfl) ?_)
                    · have h := if_f c121 h
                      refine Run.skip ?_
                      refine Run.region hL hT [] (by cbv) ?_ ?_
                      · exact (hq trivial hq0)
                      refine ⟨z108, (ar .add .i64 z109 1), h, Weak.of _ [(1, 1), (2, 2), (3, 3), (4, 4), (5, 5), (6, 6), (7, 7)] hA (by cbv) ?_⟩
                      repeat (first | exact hq0 | refine hq (by first | exact True.intro | rfl) ?_)
                  · have h := if_f c117 h
                    refine Run.exit ?_
                    refine ⟨z108, h, Weak.of _ [(1, 1), (2, 2), (3, 3), (4, 4), (5, 5), (6, 6), (7, 7)] hA (by cbv) ?_⟩
                    repeat (first | exact hq0 | refine hq (by first | exact True.intro | rfl) ?_)
              · intro y82 h
                rw [h_K83] at h
                obtain ⟨l122, h_l122, h⟩ := bnd h
                obtain ⟨l123, h_l123, h⟩ := bnd h
                refine Run.region hL hT [] (by cbv) ?_ ?_
                · exact (hq trivial (hq trivial (hq (app_mb (P := Tryd.prog) (f := Cond_c) RLe.r (some_le (f := Cond_c) h_l122 (RLe.cons rfl LLe.r RLe.nil)) h_l123) (hq trivial hq0))))
                refine ⟨z50, l123, z52, z53, z54, z55, z56, z57, z58, h, (Weak.row (rows := (ap (eCond_c z51) ([[.s (.int .i64 r80), .s (.int .i64 y82), .s (.int .i64 r81)]]))) 100004 (eCond_c l123) (by cbv) (app_le (f := Cond_c) RLe.r (some_le (f := Cond_c) h_l122 (RLe.cons rfl LLe.r RLe.nil)) h_l123)).trans (Weak.of _ [(1, 1), (2, 2), (3, 3), (4, 100004), (5, 5), (6, 6)] hA (by cbv) ?_)⟩
                repeat (first | exact hq0 | refine hq (by first | exact True.intro | rfl) ?_)
            · have h := if_f c79 h
              refine Run.seq ?_
              refine Run.region hL hT [] (by cbv) ?_ ?_
              · exact hq0
              refine Run.cond (by cbv) (hq0) (fun c124 => ?_) (fun c124 => ?_)
              · have h := if_t c124 h
                obtain ⟨r125, h_r125, h⟩ := bnd h
                refine Run.region hL hT [(3, .call [false, false] [.v (.jk), .v (.jk)] [.v (.s (.int .i64 r125))])] (by cbv) ?_ ?_
                · exact (hq trivial (hq (hC (AC.args (spec_l10Arg_ac h_r125) (ALe.v (LLe.im (RLe.eq (fr_row Str_c_z _))) (ALe.v LLe.r ALe.nil)))) (hq trivial (hq trivial hq0))))
                refine ⟨z50, z51, (ar .add .i64 r125 1), z53, z54, z55, z56, z57, z58, h, Weak.of _ [(1, 1), (2, 2), (3, 3), (4, 4), (5, 5), (6, 6)] hA (by cbv) ?_⟩
                repeat (first | exact hq0 | refine hq (by first | exact True.intro | rfl) ?_)
              · have h := if_f c124 h
                refine Run.seq ?_
                refine Run.region hL hT [] (by cbv) ?_ ?_
                · exact hq0
                refine Run.cond (by cbv) (hq0) (fun c126 => ?_) (fun c126 => ?_)
                · have h := if_t c126 h
                  refine Run.region hL hT [] (by cbv) ?_ ?_
                  · exact (hq trivial hq0)
                  refine ⟨z50, z51, z52, true, z54, z55, z56, z57, z58, h, Weak.of _ [(1, 1), (2, 2), (3, 3), (4, 4), (5, 5), (6, 6)] hA (by cbv) ?_⟩
                  repeat (first | exact hq0 | refine hq (by first | exact True.intro | rfl) ?_)
                · have h := if_f c126 h
                  refine Run.seq ?_
                  refine Run.region hL hT [] (by cbv) ?_ ?_
                  · exact hq0
                  refine Run.cond (by cbv) (hq0) (fun c127 => ?_) (fun c127 => ?_)
                  · have h := if_t c127 h
                    obtain ⟨r128, h_r128, h⟩ := bnd h
                    refine Run.region hL hT [(3, .call [false, false] [.v (.jk), .v (.jk)] [.v (.s (.int .i64 r128))])] (by cbv) ?_ ?_
                    · exact (hq trivial (hq (hC (AC.args (spec_l10Arg_ac h_r128) (ALe.v (LLe.im (RLe.eq (fr_row Str_c_z _))) (ALe.v LLe.r ALe.nil)))) (hq trivial hq0)))
                    refine ⟨z50, z51, z52, z53, r128, z55, z56, z57, z58, h, Weak.of _ [(1, 1), (2, 2), (3, 3), (4, 4), (5, 5), (6, 6)] hA (by cbv) ?_⟩
                    repeat (first | exact hq0 | refine hq (by first | exact True.intro | rfl) ?_)
                  · have h := if_f c127 h
                    refine Run.seq ?_
                    refine Run.region hL hT [] (by cbv) ?_ ?_
                    · exact hq0
                    refine Run.cond (by cbv) (hq0) (fun c129 => ?_) (fun c129 => ?_)
                    · have h := if_t c129 h
                      refine Run.seq ?_
                      refine Run.region hL hT [] (by cbv) ?_ ?_
                      · exact (hq trivial hq0)
                      refine Run.block ?_
                      refine Run.loop2 (fun (z151 : List Int) (z152 : Int) => ⟨147, 100000, [(1, .t (.s (.string a1))), (2, .pt 1 0 0), (4, .pt 2 0 0), (6, .pt 3 0 0), (7, .rf 6), (8, .t (.s (.int .i64 z59))), (11, .t (.s (.int .i64 z152)))], [(1, .box 31 [.t (.im false (eInt_c a0v_Cols))]), (2, .box 35 [.t (.s (.int .i64 0)), .t (.s (.slice none 0 0)), .t (.s (.int .i64 0)), .t (.s (.bool false)), .t (.s (.int .i64 0)), .t (.s (.slice none 0 0)), .t (.s (.bool false)), .t (.s (.int .i64 0)), .t (.s (.int .i64 0))]), (3, .box 35 [.t (.s (.int .i64 z50)), .rf 4, .t (.s (.int .i64 z52)), .t (.s (.bool z53)), .t (.s (.int .i64 z54)), .rf 5, .t (.s (.bool z56)), .t (.s (.int .i64 z57)), .t (.s (.int .i64 z58))]), (4, .row 0 65 3 (eCond_c z51)), (5, .row 0 3 1 (eInt_c z151)), (6, .row 0 9 1 (eStr_c r1))]⟩) (x0 := z55) (x1 := (ar .add .i64 z59 1)) h (Weak.of _ [(1, 1), (2, 2), (3, 3), (4, 4), (5, 5), (6, 6)] hA (by cbv) ?_) (fun _ _ => rfl) ?_
                      · repeat (first | exact hq0 | refine hq (by first | exact True.intro | rfl) ?_)
                      · intro k z151 z152 h
                        rw [spec_QueryRead.l2] at h
                        refine Run.seq ?_
                        refine Run.seq ?_
                        refine Run.region hL hT [] (by cbv) ?_ ?_
                        · exact (hq trivial hq0)
                        rw [show ln (eStr_c r1) = lenI_Str r1 from ln_eq Str_c _]
                        refine Run.cond (by cbv) (hq0) (fun c153 => ?_) (fun c153 => ?_)
                        · have h := if_t c153 h
                          refine Run.skip ?_
                          refine Run.seq ?_
                          refine Run.block ?_
                          refine Run.seq ?_
                          obtain ⟨x154, h_x154, h⟩ := bnd h
                          obtain ⟨⟨r155v_1, r155v_2⟩, h_r155, h⟩ := bnd h
                          refine Run.region hL hT [(3, .el [.s (.string x154)]), (4, .call [false] [.v (.jk)] [.v (.s (.int .i64 r155v_1)), .v (.s (.bool r155v_2))])] (by cbv) ?_ ?_
                          · exact (hq (get_le h_x154) (hq (get_lt (f := Str_c) h_x154) (hq (get_le h_x154) (hq (get_lt (f := Str_c) h_x154) (hq (get_ge (f := Str_c) h_x154) (hq (hC (spec_l10Num_ac h_r155)) hq0))))))
                          refine Run.seq ?_
                          refine Run.seq ?_
                          refine Run.region hL hT [] (by cbv) ?_ ?_
                          · exact hq0
                          refine Run.cond (by cbv) (hq0) (fun c156 => ?_) (fun c156 => ?_)
                          · have h := if_t c156 h
                            refine Run.exit ?_
                            refine ⟨z50, z51, z52, z53, z54, z151, z56, z57, z58, h, Weak.of _ [(1, 1), (2, 2), (3, 3), (4, 4), (5, 5), (6, 6)] hA (by cbv) ?_⟩
                            repeat (first | exact hq0 | refine hq (by first | exact True.intro | rfl) ?_)
                          · have h := if_f c156 h
                            refine Run.skip ?_
                            obtain ⟨l157, h_l157, h⟩ := bnd h
                            obtain ⟨l158, h_l158, h⟩ := bnd h
                            refine Run.region hL hT [] (by cbv) ?_ ?_
                            · exact (hq trivial (hq (app_mb (P := Tryd.prog) (f := Int_c) RLe.r (some_le (f := Int_c) h_l157 (RLe.cons rfl LLe.r RLe.nil)) h_l158) (hq trivial hq0)))
                            refine Run.row (rows := (ap (eInt_c z151) ([[.s (.int .i64 r155v_1)]]))) 112292 (eInt_c l158) (by cbv) (app_le (f := Int_c) RLe.r (some_le (f := Int_c) h_l157 (RLe.cons rfl LLe.r RLe.nil)) h_l158) ?_
                            refine Run.region hL hT [] (by cbv) ?_ ?_
                            · exact (hq trivial hq0)
                            refine ⟨l158, (ar .add .i64 z152 1), h, Weak.of _ [(1, 1), (2, 2), (3, 3), (4, 4), (5, 112292), (6, 6)] hA (by cbv) ?_⟩
                            repeat (first | exact hq0 | refine hq (by first | exact True.intro | rfl) ?_)
                        · have h := if_f c153 h
                          refine Run.exit ?_
                          refine ⟨z50, z51, z52, z53, z54, z151, z56, z57, z58, h, Weak.of _ [(1, 1), (2, 2), (3, 3), (4, 4), (5, 5), (6, 6)] hA (by cbv) ?_⟩
                          repeat (first | exact hq0 | refine hq (by first | exact True.intro | rfl) ?_)
                    · have h := if_f c129 h
                      refine Run.seq ?_
                      refine Run.region hL hT [] (by cbv) ?_ ?_
                      · exact hq0
                      refine Run.cond (by cbv) (hq0) (fun c159 => ?_) (fun c159 => ?_)
                      · have h := if_t c159 h
                        refine Run.seq ?_
                        refine Run.region hL hT [] (by cbv) ?_ ?_
                        · exact (hq trivial hq0)
                        refine Run.seq ?_
                        obtain ⟨r160, h_r160, h⟩ := bnd h
                        refine Run.region hL hT [(3, .call [false, false] [.v (.jk), .v (.jk)] [.v (.s (.int .i64 r160))])] (by cbv) ?_ ?_
                        · exact (hq trivial (hq (hC (AC.args (spec_l10Arg_ac h_r160) (ALe.v (LLe.im (RLe.eq (fr_row Str_c_z _))) (ALe.v LLe.r ALe.nil)))) (hq trivial hq0)))
                        obtain ⟨r161, h_r161, h⟩ := bnd h
                        refine Run.region hL hT [(3, .call [false, false] [.v (.jk), .v (.jk)] [.v (.s (.int .i64 r161))])] (by cbv) ?_ ?_
                        · exact (hq trivial (hq (hC (AC.args (spec_l10Arg_ac h_r161) (ALe.v (LLe.im (RLe.eq (fr_row Str_c_z _))) (ALe.v LLe.r ALe.nil)))) (hq trivial hq0)))
                        refine ⟨z50, z51, z52, z53, z54, z55, true, r160, r161, h, Weak.of _ [(1, 1), (2, 2), (3, 3), (4, 4), (5, 5), (6, 6)] hA (by cbv) ?_⟩
                        repeat (first | exact hq0 | refine hq (by first | exact True.intro | rfl) ?_)
                      · have h := if_f c159 h
                        refine Run.skip ?_
                        refine ⟨z50, z51, z52, z53, z54, z55, z56, z57, z58, h, Weak.of _ [(1, 1), (2, 2), (3, 3), (4, 4), (5, 5), (6, 6)] hA (by cbv) ?_⟩
                        repeat (first | exact hq0 | refine hq (by first | exact True.intro | rfl) ?_)
        · intro y66 y67 y68 y69 y70 y71 y72 y73 y74 h
          rw [h_K75] at h
          refine Run.region hL hT [] (by cbv) ?_ ?_
          · exact (hq trivial hq0)
          refine ⟨y66, y67, y68, y69, y70, y71, y72, y73, y74, (ar .add .i64 z59 1), h, Weak.of _ [(1, 1), (2, 2), (3, 3), (4, 4), (5, 5), (6, 6)] hA (by cbv) ?_⟩
          repeat (first | exact hq0 | refine hq (by first | exact True.intro | rfl) ?_)
      · have h := if_f c65 h
        refine Run.exit ?_
        refine ⟨z50, z51, z52, z53, z54, z55, z56, z57, z58, h, Weak.of _ [(1, 1), (2, 2), (3, 3), (4, 4), (5, 5)] hA (by cbv) ?_⟩
        repeat (first | exact hq0 | refine hq (by first | exact True.intro | rfl) ?_)
  · intro y2 y3 y4 y5 y6 y7 y8 y9 y10 h
    rw [h_K11] at h
    refine Run.seq ?_
    refine Run.seq ?_
    obtain ⟨r162, h_r162, h⟩ := bnd h
    refine Run.region hL hT [(5, .call [false, false] [.ag [.jk], .ag [.jk, .jk, .jk, .jk, .jk, .jk, .jk, .jk, .jk]] [.v (.s (.string r162))])] (by cbv) ?_ ?_
    · exact (hq (fun g163 => (hq trivial hq0)) (hq (fun g164 => (hq trivial hq0)) (hq (fun g165 => (hq g165 (hq g165 (hq (hC (AC.args (spec_QueryText_ac (gd_t h_r162 g165)) (ALe.ag rfl LLe.r (ALe.ag rfl (LLe.c (LLe.cons (LLe.im (RLe.eq (fr_row Cond_c_z _))) (LLe.c (LLe.c (LLe.c (LLe.cons (LLe.im (RLe.eq (fr_row Int_c_z _))) (LLe.c (LLe.c (LLe.c LLe.nil))))))))) ALe.nil)))) hq0)))) (hq (fun _ => hq0) (hq (fun g167 => (hq g167 (hq g167 hq0))) (hq (fun _ => hq0) (hq (fun q169 => (hq (bo_m q169) hq0)) hq0)))))))
    refine Run.cond (by cbv) (hq0) (fun c170 => ?_) (fun c170 => ?_)
    · have h := if_t c170 h
      refine Run.seq ?_
      refine Run.region hL hT [] (by cbv) ?_ ?_
      · exact (hq trivial hq0)
      refine Run.ret ?_
      cases h
      refine ⟨_, _, by cbv, ?_, ?_⟩
      · exact LLe.r
      · exact (ALe.ag rfl (LLe.c (LLe.cons LLe.nilO (LLe.c (LLe.c (LLe.c (LLe.cons LLe.nilO (LLe.c (LLe.c (LLe.c LLe.nil))))))))) (ALe.v LLe.r ALe.nil))
    · have h := if_f c170 h
      refine Run.skip ?_
      refine Run.seq ?_
      refine Run.region hL hT [] (by cbv) ?_ ?_
      · exact (hq trivial (hq trivial hq0))
      refine Run.ret ?_
      cases h
      refine ⟨_, _, by cbv, ?_, ?_⟩
      · exact LLe.r
      · exact (ALe.ag rfl LLe.r (ALe.v LLe.r ALe.nil))

theorem impl_within_ac {a0 : Int} {a1 : Int} {a2 : Int} {r : Bool} (h : impl_within.f a0 a1 a2 = some r) : AC Tryd.prog 63 [.v (.s (.int .i64 a0)), .v (.s (.int .i64 a1)), .v (.s (.int .i64 a2))] [.v (.jk), .v (.jk), .v (.jk)] [.v (.s (.bool r))] := by
  unfold impl_within.f at h
  show AC Tryd.prog 63 [.v (.s (.int .i64 a0)), .v (.s (.int .i64 a1)), .v (.s (.int .i64 a2))] _ _
  refine run3 Tryd.func63 (by rfl) (by rfl) (by cbv) ⟨by decide, rfl⟩ ?_
  intro ar cm bo sc sa sx ss sl bs sb ln sr ap up rp fr ge le lt nz mm ma sm fl al ci hL F hP hA hT hM hC
  refine Run.seq ?_
  refine Run.region hL hT [] (by cbv) ?_ ?_
  · exact hq0
  refine Run.seq ?_
  refine Run.region hL hT [] (by cbv) ?_ ?_
  · exact (hq trivial (hq (fun _ => hq0) (hq (fun _ => hq0) (hq (fun g3 => (hq g3 (hq g3 (hq trivial hq0)))) (hq (fun q4 => (hq q4 hq0)) (hq (fun _ => hq0) hq0))))))
  refine Run.ret ?_
  cases h
  refine ⟨_, _, by cbv, ?_, ?_⟩
  · exact LLe.r
  · exact (ALe.v LLe.r ALe.nil)

theorem impl_SchemaOk_ac {a0v_Cols : List Int} {r : Bool} (h : impl_SchemaOk.f (Schema.mk a0v_Cols) = some r) : AC Tryd.prog 61 [.ag [.im false (rowsOf Int_c a0v_Cols)]] [.ag [.jk]] [.v (.s (.bool r))] := by
  unfold impl_SchemaOk.f at h
  let eInt_c := rowsOf Int_c
  let lenI_Int := @lenI Int
  show AC Tryd.prog 61 [.ag [.im false (eInt_c a0v_Cols)]] _ _
  refine run3 Tryd.func61 (by rfl) (by rfl) (by cbv) ⟨by decide, rfl⟩ ?_
  intro ar cm bo sc sa sx ss sl bs sb ln sr ap up rp fr ge le lt nz mm ma sm fl al ci hL F hP hA hT hM hC
  refine Run.seq ?_
  refine Run.region hL hT [] (by cbv) ?_ ?_
  · exact hq0
  obtain ⟨K2, h_K2, h⟩ := joinE h
  refine Run.join1 K2 (r := r) (fun (y1 : Unit) => ⟨20, 100000, [(1, .pt 1 0 0)], [(1, .box 31 [.t (.im false (eInt_c a0v_Cols))])]⟩) ?_ ?_
  · skip
    refine Run.seq ?_
    refine Run.region hL hT [] (by cbv) ?_ ?_
    · exact (hq trivial hq0)
    rw [show ln (eInt_c a0v_Cols) = lenI_Int a0v_Cols from ln_eq Int_c _]
    refine Run.block ?_
    refine Run.loop1 (fun (z7 : Int) => ⟨20, 100000, [(1, .pt 1 0 0), (6, .t (.im false (eInt_c a0v_Cols))), (7, .t (.s (.int .i64 (lenI_Int a0v_Cols)))), (8, .t (.s (.int .i64 z7)))], [(1, .box 31 [.t (.im false (eInt_c a0v_Cols))])]⟩) (x0 := 0) h (Weak.of _ [(1, 0)] hA (by cbv) ?_) (fun _ => rfl) ?_
    · repeat (first | exact hq0 | refine hq (by first | exact True.intro | rfl) ?_)
    · intro k z7 h
      rw [impl_SchemaOk.l0] at h
      refine Run.seq ?_
      refine Run.region hL hT [] (by cbv) ?_ ?_
      · exact (hq trivial hq0)
      refine Run.seq ?_
      refine Run.cond (by cbv) (hq0) (fun c8 => ?_) (fun c8 => ?_)
      · have h := if_t c8 h
        refine Run.skip ?_
        refine Run.seq ?_
        refine Run.block ?_
        refine Run.seq ?_
        obtain ⟨x9, h_x9, h⟩ := bnd h
        refine Run.region hL hT [(0, .el [.s (.int .i64 x9)])] (by cbv) ?_ ?_
        · exact (hq (get_le h_x9) (hq (get_lt (f := Int_c) h_x9) (hq (get_ge (f := Int_c) h_x9) hq0)))
        refine Run.seq ?_
        obtain ⟨r10, h_r10, h⟩ := bnd h
        refine Run.region hL hT [(1, .call [false, false, false] [.v (.jk), .v (.jk), .v (.jk)] [.v (.s (.bool r10))])] (by cbv) ?_ ?_
        · exact (hq (hC (impl_within_ac h_r10)) hq0)
        refine Run.cond (by cbv) (hq0) (fun c11 => ?_) (fun c11 => ?_)
        · have h := if_t c11 h
          refine Run.seq ?_
          refine Run.region hL hT [] (by cbv) ?_ ?_
          · exact hq0
          refine Run.ret ?_
          cases h
          refine ⟨_, _, by cbv, ?_, ?_⟩
          · exact LLe.r
          · exact (ALe.v LLe.r ALe.nil)
        · have h := if_f c11 h
          refine Run.skip ?_
          refine Run.region hL hT [] (by cbv) ?_ ?_
          · exact (hq trivial hq0)
          refine ⟨(ar .add .i64 z7 1), h, Weak.of _ [(1, 1)] hA (by cbv) ?_⟩
          repeat (first | exact hq0 | refine hq (by first | exact True.intro | rfl) ?_)
      · have h := if_f c8 h
        refine Run.exit ?_
        refine ⟨(), h, Weak.of _ [(1, 1)] hA (by cbv) ?_⟩
        repeat (first | exact hq0 | refine hq (by first | exact True.intro | rfl) ?_)
  · intro y1 h
    rw [h_K2] at h
    refine Run.seq ?_
    obtain ⟨r12, h_r12, h⟩ := bnd h
    refine Run.region hL hT [(3, .call [false, false, false] [.v (.jk), .v (.jk), .v (.jk)] [.v (.s (.bool r12))])] (by cbv) ?_ ?_
    · exact (hq trivial (hq (by rw [show ln (eInt_c a0v_Cols) = lenI_Int a0v_Cols from ln_eq Int_c _]; exact (hC (impl_within_ac h_r12))) hq0))
    rw [show ln (eInt_c a0v_Cols) = lenI_Int a0v_Cols from ln_eq Int_c _]
    refine Run.ret ?_
    cases h
    refine ⟨_, _, by cbv, ?_, ?_⟩
    · exact LLe.r
    · exact (ALe.v LLe.r ALe.nil)

theorem impl_hasTable_ac {a0v_Cols : List Int} {a1 : Int} {r : Bool} (h : impl_hasTable.f (Schema.mk a0v_Cols) a1 = some r) : AC Tryd.prog 62 [.ag [.im false (rowsOf Int_c a0v_Cols)], .v (.s (.int .i64 a1))] [.ag [.jk], .v (.jk)] [.v (.s (.bool r))] := by
  unfold impl_hasTable.f at h
  let eInt_c := rowsOf Int_c
  let lenI_Int := @lenI Int
  show AC Tryd.prog 62 [.ag [.im false (eInt_c a0v_Cols)], .v (.s (.int .i64 a1))] _ _
  refine run3 Tryd.func62 (by rfl) (by rfl) (by cbv) ⟨by decide, rfl⟩ ?_
  intro ar cm bo sc sa sx ss sl bs sb ln sr ap up rp fr ge le lt nz mm ma sm fl al ci hL F hP hA hT hM hC
  refine Run.seq ?_
  refine Run.region hL hT [] (by cbv) ?_ ?_
  · exact hq0
  refine Run.seq ?_
  obtain ⟨r1, h_r1, h⟩ := bnd h
  refine Run.region hL hT [(5, .call [false, false, false] [.v (.jk), .v (.jk), .v (.jk)] [.v (.s (.bool r1))])] (by cbv) ?_ ?_
  · exact (hq trivial (hq trivial (hq (by rw [show ln (eInt_c a0v_Cols) = lenI_Int a0v_Cols from ln_eq Int_c _]; exact (hC (impl_within_ac h_r1))) hq0)))
  rw [show ln (eInt_c a0v_Cols) = lenI_Int a0v_Cols from ln_eq Int_c _]
  refine Run.ret ?_
  cases h
  refine ⟨_, _, by cbv, ?_, ?_⟩
  · exact LLe.r
  · exact (ALe.v LLe.r ALe.nil)

theorem impl_isNum_ac {a0 : Int} {r : Bool} (h : impl_isNum.f a0 = some r) : AC Tryd.prog 64 [.v (.s (.int .i64 a0))] [.v (.jk)] [.v (.s (.bool r))] := by
  unfold impl_isNum.f at h
  show AC Tryd.prog 64 [.v (.s (.int .i64 a0))] _ _
  refine run3 Tryd.func64 (by rfl) (by rfl) (by cbv) ⟨by decide, rfl⟩ ?_
  intro ar cm bo sc sa sx ss sl bs sb ln sr ap up rp fr ge le lt nz mm ma sm fl al ci hL F hP hA hT hM hC
  refine Run.seq ?_
  refine Run.region hL hT [] (by cbv) ?_ ?_
  · exact hq0
  refine Run.seq ?_
  obtain ⟨r1, h_r1, h⟩ := bnd h
  refine Run.region hL hT [(1, .call [false, false, false] [.v (.jk), .v (.jk), .v (.jk)] [.v (.s (.bool r1))])] (by cbv) ?_ ?_
  · exact (hq (hC (impl_within_ac h_r1)) hq0)
  refine Run.ret ?_
  cases h
  refine ⟨_, _, by cbv, ?_, ?_⟩
  · exact LLe.r
  · exact (ALe.v LLe.r ALe.nil)

theorem impl_kidsFit_ac {a0v_Cols : List Int} {a1v_Table : Int} {a1v_Where : List Cond} {a1v_Order : Int} {a1v_Down : Bool} {a1v_First : Int} {a1v_Show : List Int} {a1v_Kids : Bool} {a1v_KidTable : Int} {a1v_KidCol : Int} {r : Bool} (h : impl_kidsFit.f (Schema.mk a0v_Cols) (Query.mk a1v_Table a1v_Where a1v_Order a1v_Down a1v_First a1v_Show a1v_Kids a1v_KidTable a1v_KidCol) = some r) : AC Tryd.prog 65 [.ag [.im false (rowsOf Int_c a0v_Cols)], .ag [.s (.int .i64 a1v_Table), .im false (rowsOf Cond_c a1v_Where), .s (.int .i64 a1v_Order), .s (.bool a1v_Down), .s (.int .i64 a1v_First), .im false (rowsOf Int_c a1v_Show), .s (.bool a1v_Kids), .s (.int .i64 a1v_KidTable), .s (.int .i64 a1v_KidCol)]] [.ag [.jk], .ag [.jk, .jk, .jk, .jk, .jk, .jk, .jk, .jk, .jk]] [.v (.s (.bool r))] := by
  unfold impl_kidsFit.f at h
  let eCond_c := rowsOf Cond_c
  let eInt_c := rowsOf Int_c
  show AC Tryd.prog 65 [.ag [.im false (eInt_c a0v_Cols)], .ag [.s (.int .i64 a1v_Table), .im false (eCond_c a1v_Where), .s (.int .i64 a1v_Order), .s (.bool a1v_Down), .s (.int .i64 a1v_First), .im false (eInt_c a1v_Show), .s (.bool a1v_Kids), .s (.int .i64 a1v_KidTable), .s (.int .i64 a1v_KidCol)]] _ _
  refine run3 Tryd.func65 (by rfl) (by rfl) (by cbv) ⟨by decide, rfl⟩ ?_
  intro ar cm bo sc sa sx ss sl bs sb ln sr ap up rp fr ge le lt nz mm ma sm fl al ci hL F hP hA hT hM hC
  refine Run.seq ?_
  refine Run.region hL hT [] (by cbv) ?_ ?_
  · exact hq0
  refine Run.seq ?_
  refine Run.seq ?_
  refine Run.region hL hT [] (by cbv) ?_ ?_
  · exact (hq trivial hq0)
  refine Run.cond (by cbv) (hq0) (fun c1 => ?_) (fun c1 => ?_)
  · have h := if_t c1 h
    refine Run.seq ?_
    refine Run.region hL hT [] (by cbv) ?_ ?_
    · exact (hq trivial (hq trivial (hq (fun _ => hq0) (hq (fun g3 => (hq g3 (hq trivial hq0))) (hq (fun g4 => (hq g4 (hq trivial hq0))) (hq (fun q5 => (hq q5 hq0)) (hq (fun _ => hq0) hq0)))))))
    refine Run.ret ?_
    cases h
    refine ⟨_, _, by cbv, ?_, ?_⟩
    · exact LLe.r
    · exact (ALe.v LLe.r ALe.nil)
  · have h := if_f c1 h
    refine Run.skip ?_
    refine Run.seq ?_
    obtain ⟨r7, h_r7, h⟩ := bnd h
    obtain ⟨x8, h_x8, h⟩ := bnd h
    obtain ⟨r9, h_r9, h⟩ := bnd h
    refine Run.draw hL hT hM [(3, .call [false, false] [.ag [.jk], .v (.jk)] [.v (.s (.bool r7))]), (11, .el [.s (.int .i64 x8)]), (14, .call [false, false, false] [.v (.jk), .v (.jk), .v (.jk)] [.v (.s (.bool r9))])] (by cbv) (collect_cons (by cbv) (by cbv) (collect_cons (by cbv) (by cbv) (collect_cons (by cbv) (by cbv) (collect_cons (by cbv) (by cbv) (collect_cons (by cbv) (by cbv) (collect_cons (by cbv) (by cbv) (collect_cons (by cbv) (by cbv) (collect_cons (by cbv) (by cbv) (collect_cons (by cbv) (by cbv) (collect_cons (by cbv) (by cbv) (collect_cons (by cbv) (by cbv) (collect_cons (by cbv) (by cbv) (collect_cons (by cbv) (by cbv) (collect_cons (by cbv) (by cbv) (collect_cons (by cbv) (by cbv) (collect_cons (by cbv) (by cbv) (collect_cons (by cbv) (by cbv) collect_nil))))))))))))))))) (by cbv) (by cbv) (by cbv) ?_ ?_
    · exact (hq trivial (hq trivial (hq (hC (impl_hasTable_ac h_r7)) (hq (fun _ => hq0) (hq (fun g11 => (hq g11 (hq trivial hq0))) (hq (fun _ => hq0) (hq (fun g13 => (hq g13 (hq trivial hq0))) (hq (fun _ => hq0) (hq (fun g15 => (hq g15 (hq trivial hq0))) (hq (fun g16 => (hq g16 (hq g16 (hq (get_le (gd_t h_x8 g16)) (hq (get_lt (f := Int_c) (gd_t h_x8 g16)) (hq (get_ge (f := Int_c) (gd_t h_x8 g16)) hq0)))))) (hq (fun g17 => (hq g17 hq0)) (hq (fun g18 => (hq g18 (hq trivial hq0))) (hq (fun g19 => (hq g19 (hq g19 (hq (hC (impl_within_ac (gd_t h_r9 g19))) hq0)))) (hq (fun q20 => (hq q20 hq0)) (hq (fun _ => hq0) hq0)))))))))))))))
    refine Run.ret ?_
    cases h
    refine ⟨_, _, by cbv, ?_, ?_⟩
    · exact LLe.r
    · exact (ALe.v LLe.r ALe.nil)

theorem impl_QueryOk_ac {a0v_Cols : List Int} {a1v_Table : Int} {a1v_Where : List Cond} {a1v_Order : Int} {a1v_Down : Bool} {a1v_First : Int} {a1v_Show : List Int} {a1v_Kids : Bool} {a1v_KidTable : Int} {a1v_KidCol : Int} {r : Bool} (h : impl_QueryOk.f (Schema.mk a0v_Cols) (Query.mk a1v_Table a1v_Where a1v_Order a1v_Down a1v_First a1v_Show a1v_Kids a1v_KidTable a1v_KidCol) = some r) : AC Tryd.prog 27 [.ag [.im false (rowsOf Int_c a0v_Cols)], .ag [.s (.int .i64 a1v_Table), .im false (rowsOf Cond_c a1v_Where), .s (.int .i64 a1v_Order), .s (.bool a1v_Down), .s (.int .i64 a1v_First), .im false (rowsOf Int_c a1v_Show), .s (.bool a1v_Kids), .s (.int .i64 a1v_KidTable), .s (.int .i64 a1v_KidCol)]] [.ag [.jk], .ag [.jk, .jk, .jk, .jk, .jk, .jk, .jk, .jk, .jk]] [.v (.s (.bool r))] := by
  unfold impl_QueryOk.f at h
  let eCond_c := rowsOf Cond_c
  let eInt_c := rowsOf Int_c
  let lenI_Cond := @lenI Cond
  let lenI_Int := @lenI Int
  show AC Tryd.prog 27 [.ag [.im false (eInt_c a0v_Cols)], .ag [.s (.int .i64 a1v_Table), .im false (eCond_c a1v_Where), .s (.int .i64 a1v_Order), .s (.bool a1v_Down), .s (.int .i64 a1v_First), .im false (eInt_c a1v_Show), .s (.bool a1v_Kids), .s (.int .i64 a1v_KidTable), .s (.int .i64 a1v_KidCol)]] _ _
  refine run3 Tryd.func27 (by rfl) (by rfl) (by cbv) ⟨by decide, rfl⟩ ?_
  intro ar cm bo sc sa sx ss sl bs sb ln sr ap up rp fr ge le lt nz mm ma sm fl al ci hL F hP hA hT hM hC
  refine Run.seq ?_
  refine Run.region hL hT [] (by cbv) ?_ ?_
  · exact hq0
  refine Run.seq ?_
  refine Run.seq ?_
  obtain ⟨r1, h_r1, h⟩ := bnd h
  obtain ⟨r2, h_r2, h⟩ := bnd h
  refine Run.region hL hT [(1, .call [false] [.ag [.jk]] [.v (.s (.bool r1))]), (7, .call [false, false] [.ag [.jk], .v (.jk)] [.v (.s (.bool r2))])] (by cbv) ?_ ?_
  · exact (hq trivial (hq (hC (impl_SchemaOk_ac h_r1)) (hq (fun g3 => (hq trivial hq0)) (hq (fun _ => hq0) (hq (fun g5 => (hq g5 (hq trivial hq0))) (hq (fun g6 => (hq g6 (hq g6 (hq (hC (impl_hasTable_ac (gd_t h_r2 g6))) hq0)))) (hq (fun g7 => (hq g7 hq0)) (hq (fun _ => hq0) (hq (fun q9 => (hq (bo_m q9) hq0)) hq0)))))))))
  refine Run.cond (by cbv) (hq0) (fun c10 => ?_) (fun c10 => ?_)
  · have h := if_t c10 h
    refine Run.seq ?_
    refine Run.region hL hT [] (by cbv) ?_ ?_
    · exact hq0
    refine Run.ret ?_
    cases h
    refine ⟨_, _, by cbv, ?_, ?_⟩
    · exact LLe.r
    · exact (ALe.v LLe.r ALe.nil)
  · have h := if_f c10 h
    refine Run.skip ?_
    refine Run.seq ?_
    obtain ⟨x11, h_x11, h⟩ := bnd h
    refine Run.region hL hT [(4, .el [.s (.int .i64 x11)])] (by cbv) ?_ ?_
    · exact (hq trivial (hq trivial (hq (get_le h_x11) (hq (get_lt (f := Int_c) h_x11) (hq (get_ge (f := Int_c) h_x11) hq0)))))
    obtain ⟨K13, h_K13, h⟩ := joinE h
    refine Run.join1 K13 (r := r) (fun (y12 : Unit) => ⟨112, 100000, [(2, .pt 1 0 0), (3, .pt 2 0 0), (5, .t (.s (.int .i64 x11)))], [(1, .box 31 [.t (.im false (eInt_c a0v_Cols))]), (2, .box 35 [.t (.s (.int .i64 a1v_Table)), .t (.im false (eCond_c a1v_Where)), .t (.s (.int .i64 a1v_Order)), .t (.s (.bool a1v_Down)), .t (.s (.int .i64 a1v_First)), .t (.im false (eInt_c a1v_Show)), .t (.s (.bool a1v_Kids)), .t (.s (.int .i64 a1v_KidTable)), .t (.s (.int .i64 a1v_KidCol))])]⟩) ?_ ?_
    · skip
      refine Run.seq ?_
      refine Run.region hL hT [] (by cbv) ?_ ?_
      · exact (hq trivial hq0)
      rw [show ln (eCond_c a1v_Where) = lenI_Cond a1v_Where from ln_eq Cond_c _]
      refine Run.block ?_
      refine Run.loop1 (fun (z28 : Int) => ⟨112, 100000, [(2, .pt 1 0 0), (3, .pt 2 0 0), (5, .t (.s (.int .i64 x11))), (28, .t (.im false (eCond_c a1v_Where))), (29, .t (.s (.int .i64 (lenI_Cond a1v_Where)))), (30, .t (.s (.int .i64 z28)))], [(1, .box 31 [.t (.im false (eInt_c a0v_Cols))]), (2, .box 35 [.t (.s (.int .i64 a1v_Table)), .t (.im false (eCond_c a1v_Where)), .t (.s (.int .i64 a1v_Order)), .t (.s (.bool a1v_Down)), .t (.s (.int .i64 a1v_First)), .t (.im false (eInt_c a1v_Show)), .t (.s (.bool a1v_Kids)), .t (.s (.int .i64 a1v_KidTable)), .t (.s (.int .i64 a1v_KidCol))])]⟩) (x0 := 0) h (Weak.of _ [(1, 0), (2, 1)] hA (by cbv) ?_) (fun _ => rfl) ?_
      · repeat (first | exact hq0 | refine hq (by first | exact True.intro | rfl) ?_)
      · intro k z28 h
        rw [impl_QueryOk.l0] at h
        refine Run.seq ?_
        refine Run.region hL hT [] (by cbv) ?_ ?_
        · exact (hq trivial hq0)
        refine Run.seq ?_
        refine Run.cond (by cbv) (hq0) (fun c29 => ?_) (fun c29 => ?_)
        · have h := if_t c29 h
          refine Run.skip ?_
          refine Run.seq ?_
          refine Run.block ?_
          refine Run.seq ?_
          obtain ⟨⟨x30v_Col, x30v_Op, x30v_V⟩, h_x30, h⟩ := bnd h
          refine Run.region hL hT [(0, .el [.s (.int .i64 x30v_Col), .s (.int .i64 x30v_Op), .s (.int .i64 x30v_V)])] (by cbv) ?_ ?_
          · exact (hq (get_le h_x30) (hq (get_lt (f := Cond_c) h_x30) (hq (get_ge (f := Cond_c) h_x30) (hq trivial hq0))))
          refine Run.seq ?_
          obtain ⟨r31, h_r31, h⟩ := bnd h
          obtain ⟨r32, h_r32, h⟩ := bnd h
          obtain ⟨r33, h_r33, h⟩ := bnd h
          refine Run.region hL hT [(4, .call [false, false, false] [.v (.jk), .v (.jk), .v (.jk)] [.v (.s (.bool r31))]), (9, .call [false, false, false] [.v (.jk), .v (.jk), .v (.jk)] [.v (.s (.bool r32))]), (15, .call [false] [.v (.jk)] [.v (.s (.bool r33))])] (by cbv) ?_ ?_
          · exact (hq trivial (hq trivial (hq (hC (impl_within_ac h_r31)) (hq (fun _ => hq0) (hq (fun g35 => (hq g35 (hq trivial hq0))) (hq (fun g36 => (hq g36 (hq (hC (impl_within_ac (gd_t h_r32 g36))) hq0))) (hq (fun g37 => (hq g37 hq0)) (hq (fun _ => hq0) (hq (fun q39 => (hq (bo_m q39) hq0)) (hq (fun _ => hq0) (hq (fun g41 => (hq g41 (hq trivial hq0))) (hq (fun g42 => (hq g42 (hq (hC (impl_isNum_ac (gd_t h_r33 g42))) hq0))) (hq (fun g43 => (hq g43 hq0)) (hq (fun _ => hq0) (hq (fun q45 => (hq (bo_m q45) hq0)) hq0)))))))))))))))
          refine Run.cond (by cbv) (hq0) (fun c46 => ?_) (fun c46 => ?_)
          · have h := if_t c46 h
            refine Run.seq ?_
            refine Run.region hL hT [] (by cbv) ?_ ?_
            · exact hq0
            refine Run.ret ?_
            cases h
            refine ⟨_, _, by cbv, ?_, ?_⟩
            · exact LLe.r
            · exact (ALe.v LLe.r ALe.nil)
          · have h := if_f c46 h
            refine Run.skip ?_
            refine Run.region hL hT [] (by cbv) ?_ ?_
            · exact (hq trivial hq0)
            refine ⟨(ar .add .i64 z28 1), h, Weak.of _ [(1, 1), (2, 2)] hA (by cbv) ?_⟩
            repeat (first | exact hq0 | refine hq (by first | exact True.intro | rfl) ?_)
        · have h := if_f c29 h
          refine Run.exit ?_
          refine ⟨(), h, Weak.of _ [(1, 1), (2, 2)] hA (by cbv) ?_⟩
          repeat (first | exact hq0 | refine hq (by first | exact True.intro | rfl) ?_)
    · intro y12 h
      rw [h_K13] at h
      obtain ⟨K48, h_K48, h⟩ := joinE h
      refine Run.join1 K48 (r := r) (fun (y47 : Unit) => ⟨112, 100000, [(2, .pt 1 0 0), (3, .pt 2 0 0), (5, .t (.s (.int .i64 x11)))], [(1, .box 31 [.t (.im false (eInt_c a0v_Cols))]), (2, .box 35 [.t (.s (.int .i64 a1v_Table)), .t (.im false (eCond_c a1v_Where)), .t (.s (.int .i64 a1v_Order)), .t (.s (.bool a1v_Down)), .t (.s (.int .i64 a1v_First)), .t (.im false (eInt_c a1v_Show)), .t (.s (.bool a1v_Kids)), .t (.s (.int .i64 a1v_KidTable)), .t (.s (.int .i64 a1v_KidCol))])]⟩) ?_ ?_
      · skip
        refine Run.seq ?_
        refine Run.region hL hT [] (by cbv) ?_ ?_
        · exact (hq trivial hq0)
        rw [show ln (eInt_c a1v_Show) = lenI_Int a1v_Show from ln_eq Int_c _]
        refine Run.block ?_
        refine Run.loop1 (fun (z63 : Int) => ⟨112, 100000, [(2, .pt 1 0 0), (3, .pt 2 0 0), (5, .t (.s (.int .i64 x11))), (54, .t (.im false (eInt_c a1v_Show))), (55, .t (.s (.int .i64 (lenI_Int a1v_Show)))), (56, .t (.s (.int .i64 z63)))], [(1, .box 31 [.t (.im false (eInt_c a0v_Cols))]), (2, .box 35 [.t (.s (.int .i64 a1v_Table)), .t (.im false (eCond_c a1v_Where)), .t (.s (.int .i64 a1v_Order)), .t (.s (.bool a1v_Down)), .t (.s (.int .i64 a1v_First)), .t (.im false (eInt_c a1v_Show)), .t (.s (.bool a1v_Kids)), .t (.s (.int .i64 a1v_KidTable)), .t (.s (.int .i64 a1v_KidCol))])]⟩) (x0 := 0) h (Weak.of _ [(1, 1), (2, 2)] hA (by cbv) ?_) (fun _ => rfl) ?_
        · repeat (first | exact hq0 | refine hq (by first | exact True.intro | rfl) ?_)
        · intro k z63 h
          rw [impl_QueryOk.l1] at h
          refine Run.seq ?_
          refine Run.region hL hT [] (by cbv) ?_ ?_
          · exact (hq trivial hq0)
          refine Run.seq ?_
          refine Run.cond (by cbv) (hq0) (fun c64 => ?_) (fun c64 => ?_)
          · have h := if_t c64 h
            refine Run.skip ?_
            refine Run.seq ?_
            refine Run.block ?_
            refine Run.seq ?_
            obtain ⟨x65, h_x65, h⟩ := bnd h
            refine Run.region hL hT [(1, .el [.s (.int .i64 x65)])] (by cbv) ?_ ?_
            · exact (hq (get_le h_x65) (hq (get_lt (f := Int_c) h_x65) (hq (get_ge (f := Int_c) h_x65) hq0)))
            refine Run.seq ?_
            obtain ⟨r66, h_r66, h⟩ := bnd h
            obtain ⟨x67, h_x67, h⟩ := bnd h
            refine Run.region hL hT [(3, .call [false, false, false] [.v (.jk), .v (.jk), .v (.jk)] [.v (.s (.bool r66))]), (13, .el [.s (.int .i64 x67)])] (by cbv) ?_ ?_
            · exact (hq trivial (hq (hC (impl_within_ac h_r66)) (hq (fun _ => hq0) (hq (fun g69 => (hq g69 (hq trivial hq0))) (hq (fun g70 => (hq g70 hq0)) (hq (fun _ => hq0) (hq (fun g72 => (hq g72 (hq trivial hq0))) (hq (fun _ => hq0) (hq (fun g74 => (hq g74 (hq trivial hq0))) (hq (fun g75 => (hq g75 (hq g75 (hq (get_le (gd_t h_x67 g75)) (hq (get_lt (f := Int_c) (gd_t h_x67 g75)) (hq (get_ge (f := Int_c) (gd_t h_x67 g75)) hq0)))))) (hq (fun g76 => (hq g76 hq0)) (hq (fun _ => hq0) (hq (fun g78 => (hq g78 (hq g78 (hq trivial hq0)))) (hq (fun g79 => (hq g79 (hq (fun q80 => (hq (bo_a g79 q80) hq0)) (hq (fun _ => hq0) hq0)))) (hq (fun _ => hq0) (hq (fun q83 => (hq (bo_m q83) hq0)) hq0))))))))))))))))
            refine Run.cond (by cbv) (hq0) (fun c84 => ?_) (fun c84 => ?_)
            · have h := if_t c84 h
              refine Run.seq ?_
              refine Run.region hL hT [] (by cbv) ?_ ?_
              · exact hq0
              refine Run.ret ?_
              cases h
              refine ⟨_, _, by cbv, ?_, ?_⟩
              · exact LLe.r
              · exact (ALe.v LLe.r ALe.nil)
            · have h := if_f c84 h
              refine Run.skip ?_
              refine Run.region hL hT [] (by cbv) ?_ ?_
              · exact (hq trivial hq0)
              refine ⟨(ar .add .i64 z63 1), h, Weak.of _ [(1, 1), (2, 2)] hA (by cbv) ?_⟩
              repeat (first | exact hq0 | refine hq (by first | exact True.intro | rfl) ?_)
          · have h := if_f c64 h
            refine Run.exit ?_
            refine ⟨(), h, Weak.of _ [(1, 1), (2, 2)] hA (by cbv) ?_⟩
            repeat (first | exact hq0 | refine hq (by first | exact True.intro | rfl) ?_)
      · intro y47 h
        rw [h_K48] at h
        refine Run.seq ?_
        obtain ⟨r85, h_r85, h⟩ := bnd h
        refine Run.region hL hT [(3, .call [false, false, false] [.v (.jk), .v (.jk), .v (.jk)] [.v (.s (.bool r85))])] (by cbv) ?_ ?_
        · exact (hq trivial (hq (hC (impl_within_ac h_r85)) (hq (fun _ => hq0) (hq (fun g87 => (hq g87 (hq trivial hq0))) (hq (fun g88 => (hq g88 hq0)) (hq (fun g89 => (hq g89 hq0)) (hq (fun _ => hq0) (hq (fun g91 => (hq g91 (hq trivial hq0))) (hq (fun g92 => (hq g92 (hq trivial hq0))) (hq (fun g93 => (hq g93 (hq (fun _ => hq0) (hq (fun q95 => (hq (bo_a g93 (bo_m q95)) hq0)) hq0)))) (hq (fun q96 => (hq q96 hq0)) (hq (fun _ => hq0) hq0))))))))))))
        refine Run.seq ?_
        obtain ⟨r98, h_r98, h⟩ := bnd h
        obtain ⟨r99, h_r99, h⟩ := bnd h
        refine Run.region hL hT [(10, .call [false, false, false] [.v (.jk), .v (.jk), .v (.jk)] [.v (.s (.bool r98))]), (15, .call [false, false] [.ag [.jk], .ag [.jk, .jk, .jk, .jk, .jk, .jk, .jk, .jk, .jk]] [.v (.s (.bool r99))])] (by cbv) ?_ ?_
        · exact (hq trivial (hq trivial (hq (fun _ => hq0) (hq (fun q101 => (by have q101C := q101; rw [show ln (eCond_c a1v_Where) = lenI_Cond a1v_Where from ln_eq Cond_c _] at q101C; exact (hq q101 hq0))) (hq (fun _ => hq0) (hq (fun _ => hq0) (hq (fun g104 => (by have g104C := g104; rw [show ln (eCond_c a1v_Where) = lenI_Cond a1v_Where from ln_eq Cond_c _] at g104C; exact (hq g104 (hq trivial hq0)))) (hq (fun g105 => (by have g105C := g105; rw [show ln (eCond_c a1v_Where) = lenI_Cond a1v_Where from ln_eq Cond_c _] at g105C; exact (hq g105 (hq (hC (impl_within_ac (gd_t h_r98 g105C))) hq0)))) (hq (fun q106 => (by have q106C := q106; rw [show ln (eCond_c a1v_Where) = lenI_Cond a1v_Where from ln_eq Cond_c _] at q106C; exact (hq q106 hq0))) (hq (fun _ => hq0) (hq (fun g108 => (by have g108C := g108; rw [show ln (eCond_c a1v_Where) = lenI_Cond a1v_Where from ln_eq Cond_c _] at g108C; exact (hq trivial hq0))) (hq (fun g109 => (by have g109C := g109; rw [show ln (eCond_c a1v_Where) = lenI_Cond a1v_Where from ln_eq Cond_c _] at g109C; exact (hq trivial hq0))) (hq (fun g110 => (by have g110C := g110; rw [show ln (eCond_c a1v_Where) = lenI_Cond a1v_Where from ln_eq Cond_c _] at g110C; exact (hq g110 (hq g110 (hq (hC (impl_kidsFit_ac (gd_t h_r99 g110C))) hq0))))) (hq (fun q111 => (by have q111C := q111; rw [show ln (eCond_c a1v_Where) = lenI_Cond a1v_Where from ln_eq Cond_c _] at q111C; exact (hq q111 hq0))) (hq (fun _ => hq0) hq0)))))))))))))))
        rw [show ln (eCond_c a1v_Where) = lenI_Cond a1v_Where from ln_eq Cond_c _]
        refine Run.ret ?_
        cases h
        refine ⟨_, _, by cbv, ?_, ?_⟩
        · exact LLe.r
        · exact (ALe.v LLe.r ALe.nil)

def laysItoa_ren : Go.Shelf.Ren := ⟨fun | 171 => 76 | 243 => 107 | 246 => 121 | 283 => 134 | 284 => 135 | 285 => 136 | 286 => 137 | 129 => 151 | 317 => 150 | 318 => 152 | 319 => 153 | 320 => 154 | 337 => 160 | 338 => 161 | n => n, fun | 3 => 3 | 9 => 9 | 2 => 2 | 4 => 4 | 171 => 151 | 0 => 0 | 53 => 152 | 37 => 54 | 5 => 5 | 173 => 155 | 212 => 166 | 51 => 167 | 20 => 20 | 213 => 168 | 46 => 141 | 232 => 186 | 233 => 187 | n => n, fun | 17 => 1 | 18 => 6 | 19 => 7 | n => n⟩
theorem laysItoa : Go.Proofs.LaysM.n171 Tryd.prog laysItoa_ren := {
  mixed := by kernel_rfl
  f129 := Tryd.func151.trans (congrArg some (by kernel_rfl))
  f171 := Tryd.func76.trans (congrArg some (by kernel_rfl))
  f243 := Tryd.func107.trans (congrArg some (by kernel_rfl))
  f246 := Tryd.func121.trans (congrArg some (by kernel_rfl))
  f283 := Tryd.func134.trans (congrArg some (by kernel_rfl))
  f284 := Tryd.func135.trans (congrArg some (by kernel_rfl))
  f285 := Tryd.func136.trans (congrArg some (by kernel_rfl))
  f286 := Tryd.func137.trans (congrArg some (by kernel_rfl))
  f317 := Tryd.func150.trans (congrArg some (by kernel_rfl))
  f318 := Tryd.func152.trans (congrArg some (by kernel_rfl))
  f319 := Tryd.func153.trans (congrArg some (by kernel_rfl))
  f320 := Tryd.func154.trans (congrArg some (by kernel_rfl))
  f337 := Tryd.func160.trans (congrArg some (by kernel_rfl))
  f338 := Tryd.func161.trans (congrArg some (by kernel_rfl))
  t0 := Tryd.underlying0
  a0 := Tryd.isAgg0
  z0 := Tryd.sizeOf0
  v0 := Tryd.zeroValue0
  t2 := Tryd.underlying2
  a2 := Tryd.isAgg2
  z2 := Tryd.sizeOf2
  v2 := Tryd.zeroValue2
  t3 := Tryd.underlying3
  a3 := Tryd.isAgg3
  z3 := Tryd.sizeOf3
  v3 := Tryd.zeroValue3
  t4 := Tryd.underlying4
  a4 := Tryd.isAgg4
  z4 := Tryd.sizeOf4
  v4 := Tryd.zeroValue4
  t5 := Tryd.underlying5
  a5 := Tryd.isAgg5
  z5 := Tryd.sizeOf5
  v5 := Tryd.zeroValue5
  t9 := Tryd.underlying9
  a9 := Tryd.isAgg9
  z9 := Tryd.sizeOf9
  v9 := Tryd.zeroValue9
  t20 := Tryd.underlying20
  a20 := Tryd.isAgg20
  z20 := Tryd.sizeOf20
  v20 := Tryd.zeroValue20
  t37 := Tryd.underlying54
  a37 := Tryd.isAgg54
  z37 := Tryd.sizeOf54
  v37 := Tryd.zeroValue54
  t46 := Tryd.underlying141
  a46 := Tryd.isAgg141
  z46 := Tryd.sizeOf141
  v46 := Tryd.zeroValue141
  t51 := Tryd.underlying167
  a51 := Tryd.isAgg167
  z51 := Tryd.sizeOf167
  v51 := Tryd.zeroValue167
  t53 := Tryd.underlying152
  a53 := Tryd.isAgg152
  z53 := Tryd.sizeOf152
  v53 := Tryd.zeroValue152
  t171 := Tryd.underlying151
  a171 := Tryd.isAgg151
  z171 := Tryd.sizeOf151
  v171 := Tryd.zeroValue151
  t173 := Tryd.underlying155
  a173 := Tryd.isAgg155
  z173 := Tryd.sizeOf155
  v173 := Tryd.zeroValue155
  t212 := Tryd.underlying166
  a212 := Tryd.isAgg166
  z212 := Tryd.sizeOf166
  v212 := Tryd.zeroValue166
  t213 := Tryd.underlying168
  a213 := Tryd.isAgg168
  z213 := Tryd.sizeOf168
  t232 := Tryd.underlying186
  a232 := Tryd.isAgg186
  z232 := Tryd.sizeOf186
  v232 := Tryd.zeroValue186
  t233 := Tryd.underlying187
  a233 := Tryd.isAgg187
  z233 := Tryd.sizeOf187
  v233 := Tryd.zeroValue187
  g17 := by kernel_rfl
  g18 := by kernel_rfl
  g19 := by kernel_rfl
  i0 := by kernel_rfl
  i2 := by kernel_rfl
  i3 := by kernel_rfl
  i4 := by kernel_rfl
  i5 := by kernel_rfl
  i9 := by kernel_rfl
  i20 := by kernel_rfl
  i37 := by kernel_rfl
  i46 := by kernel_rfl
  i51 := by kernel_rfl
  i53 := by kernel_rfl
  i171 := by kernel_rfl
  i173 := by kernel_rfl
  i212 := by kernel_rfl
  i232 := by kernel_rfl
  i233 := by kernel_rfl
  m17 := by kernel_rfl
  m18 := by kernel_rfl
  m19 := by kernel_rfl }
theorem strconv_Itoa_ac {a0 : Int} {r : ByteArray} (h : strconv_Itoa.f a0 = some r) : AC Tryd.prog 76 [.v (.s (.int .i64 a0))] [.v .jk] [.v (.s (.string r))] := AC.of_itoa ⟨_, Tryd.func76, by rfl, by rfl⟩ (g := 1) (by kernel_rfl) (fun n h0 h1 w htab => Go.Proofs.Any.strconv_Itoa laysItoa n h0 h1 w htab) h

theorem impl_digits_ac {a0 : Int} {r : ByteArray} (h : impl_digits.f a0 = some r) : AC Tryd.prog 37 [.v (.s (.int .i64 a0))] [.v (.jk)] [.v (.s (.string r))] := by
  unfold impl_digits.f at h
  show AC Tryd.prog 37 [.v (.s (.int .i64 a0))] _ _
  refine run3 Tryd.func37 (by rfl) (by rfl) (by cbv) ⟨by decide, rfl⟩ ?_
  intro ar cm bo sc sa sx ss sl bs sb ln sr ap up rp fr ge le lt nz mm ma sm fl al ci hL F hP hA hT hM hC
  refine Run.seq ?_
  refine Run.region hL hT [] (by cbv) ?_ ?_
  · exact hq0
  refine Run.seq ?_
  obtain ⟨r1, h_r1, h⟩ := bnd h
  refine Run.region hL hT [(1, .call [false] [.v (.jk)] [.v (.s (.string r1))])] (by cbv) ?_ ?_
  · exact (hq (hC (strconv_Itoa_ac h_r1)) hq0)
  refine Run.ret ?_
  cases h
  refine ⟨_, _, by cbv, ?_, ?_⟩
  · exact LLe.r
  · exact (ALe.v LLe.r ALe.nil)

def laysJoin_ren : Go.Shelf.Ren := ⟨fun | 156 => 38 | 165 => 77 | 166 => 78 | 169 => 79 | 240 => 108 | 241 => 109 | 276 => 122 | 277 => 123 | n => n, fun | 31 => 46 | 9 => 9 | 3 => 3 | 4 => 4 | 0 => 0 | 20 => 20 | 72 => 108 | 76 => 112 | 70 => 106 | 37 => 54 | 75 => 111 | 127 => 134 | 164 => 143 | 5 => 5 | 80 => 114 | n => n, fun | n => n⟩
theorem laysJoin : Go.Proofs.Lays.n156 Tryd.prog laysJoin_ren := {
  mixed := by kernel_rfl
  f156 := Tryd.func38.trans (congrArg some (by kernel_rfl))
  f165 := Tryd.func77.trans (congrArg some (by kernel_rfl))
  f166 := Tryd.func78.trans (congrArg some (by kernel_rfl))
  f169 := Tryd.func79.trans (congrArg some (by kernel_rfl))
  f240 := Tryd.func108.trans (congrArg some (by kernel_rfl))
  f241 := Tryd.func109.trans (congrArg some (by kernel_rfl))
  f276 := Tryd.func122.trans (congrArg some (by kernel_rfl))
  f277 := Tryd.func123.trans (congrArg some (by kernel_rfl))
  t0 := Tryd.underlying0
  a0 := Tryd.isAgg0
  z0 := Tryd.sizeOf0
  v0 := Tryd.zeroValue0
  t3 := Tryd.underlying3
  a3 := Tryd.isAgg3
  z3 := Tryd.sizeOf3
  v3 := Tryd.zeroValue3
  t4 := Tryd.underlying4
  a4 := Tryd.isAgg4
  z4 := Tryd.sizeOf4
  v4 := Tryd.zeroValue4
  t9 := Tryd.underlying9
  a9 := Tryd.isAgg9
  z9 := Tryd.sizeOf9
  v9 := Tryd.zeroValue9
  t20 := Tryd.underlying20
  a20 := Tryd.isAgg20
  z20 := Tryd.sizeOf20
  v20 := Tryd.zeroValue20
  t31 := Tryd.underlying46
  a31 := Tryd.isAgg46
  z31 := Tryd.sizeOf46
  v31 := Tryd.zeroValue46
  t37 := Tryd.underlying54
  a37 := Tryd.isAgg54
  z37 := Tryd.sizeOf54
  v37 := Tryd.zeroValue54
  t70 := Tryd.underlying106
  a70 := Tryd.isAgg106
  z70 := Tryd.sizeOf106
  v70 := Tryd.zeroValue106
  t72 := Tryd.underlying108
  a72 := Tryd.isAgg108
  z72 := Tryd.sizeOf108
  v72 := Tryd.zeroValue108
  t75 := Tryd.underlying111
  a75 := Tryd.isAgg111
  z75 := Tryd.sizeOf111
  v75 := Tryd.zeroValue111
  t76 := Tryd.underlying112
  a76 := Tryd.isAgg112
  z76 := Tryd.sizeOf112
  v76 := Tryd.zeroValue112
  t127 := Tryd.underlying134
  a127 := Tryd.isAgg134
  z127 := Tryd.sizeOf134
  v127 := Tryd.zeroValue134
  t164 := Tryd.underlying143
  a164 := Tryd.isAgg143
  z164 := Tryd.sizeOf143
  v164 := Tryd.zeroValue143 }
theorem joinExtra : Builder.Extra Tryd.prog laysJoin_ren := { sizeBuilder := by kernel_rfl, liesBuilder := by kernel_rfl, t5 := Tryd.underlying5, a5 := Tryd.isAgg5, z5 := Tryd.sizeOf5, v5 := Tryd.zeroValue5, infoByte := by kernel_rfl, cellsByte := by kernel_rfl, sizeByte := by kernel_rfl, neB5 := by decide }
theorem strings_Join_ac {a0 : List ByteArray} {a1 r : ByteArray} (h : strings_Join.f a0 a1 = some r) : AC Tryd.prog 38 [.v (.im false (rowsOf Str_c a0)), .v (.s (.string a1))] [.v .jk, .v .jk] [.v (.s (.string r))] := AC.of_join (fun _ => rfl) ⟨_, Tryd.func38, by rfl, by rfl⟩ (fun a c sep w => Go.Proofs.Any.strings_Join_none laysJoin joinExtra a c sep w) (fun bk o c xs sep w h1 h2 h3 h4 h5 => Go.Proofs.Any.strings_Join laysJoin joinExtra bk o c xs sep w h1 h2 h3 h4 h5) h

theorem impl_QueryText_ac {a0v_Cols : List Int} {a1v_Table : Int} {a1v_Where : List Cond} {a1v_Order : Int} {a1v_Down : Bool} {a1v_First : Int} {a1v_Show : List Int} {a1v_Kids : Bool} {a1v_KidTable : Int} {a1v_KidCol : Int} {r : ByteArray} (h : impl_QueryText.f (Schema.mk a0v_Cols) (Query.mk a1v_Table a1v_Where a1v_Order a1v_Down a1v_First a1v_Show a1v_Kids a1v_KidTable a1v_KidCol) = some r) : AC Tryd.prog 12 [.ag [.im false (rowsOf Int_c a0v_Cols)], .ag [.s (.int .i64 a1v_Table), .im false (rowsOf Cond_c a1v_Where), .s (.int .i64 a1v_Order), .s (.bool a1v_Down), .s (.int .i64 a1v_First), .im false (rowsOf Int_c a1v_Show), .s (.bool a1v_Kids), .s (.int .i64 a1v_KidTable), .s (.int .i64 a1v_KidCol)]] [.ag [.jk], .ag [.jk, .jk, .jk, .jk, .jk, .jk, .jk, .jk, .jk]] [.v (.s (.string r))] := by
  unfold impl_QueryText.f at h
  let eCond_c := rowsOf Cond_c
  let eInt_c := rowsOf Int_c
  let eStr_c := rowsOf Str_c
  let lenI_Cond := @lenI Cond
  let lenI_Int := @lenI Int
  show AC Tryd.prog 12 [.ag [.im false (eInt_c a0v_Cols)], .ag [.s (.int .i64 a1v_Table), .im false (eCond_c a1v_Where), .s (.int .i64 a1v_Order), .s (.bool a1v_Down), .s (.int .i64 a1v_First), .im false (eInt_c a1v_Show), .s (.bool a1v_Kids), .s (.int .i64 a1v_KidTable), .s (.int .i64 a1v_KidCol)]] _ _
  refine run3 Tryd.func12 (by rfl) (by rfl) (by cbv) ⟨by decide, rfl⟩ ?_
  intro ar cm bo sc sa sx ss sl bs sb ln sr ap up rp fr ge le lt nz mm ma sm fl al ci hL F hP hA hT hM hC
  refine Run.seq ?_
  refine Run.region hL hT [] (by cbv) ?_ ?_
  · exact hq0
  refine Run.seq ?_
  refine Run.seq ?_
  obtain ⟨r1, h_r1, h⟩ := bnd h
  refine Run.region hL hT [(2, .call [false, false] [.ag [.jk], .ag [.jk, .jk, .jk, .jk, .jk, .jk, .jk, .jk, .jk]] [.v (.s (.bool r1))])] (by cbv) ?_ ?_
  · exact (hq trivial (hq trivial (hq (hC (impl_QueryOk_ac h_r1)) hq0)))
  refine Run.cond (by cbv) (hq0) (fun c2 => ?_) (fun c2 => ?_)
  · have h := if_t c2 h
    refine Run.seq ?_
    refine Run.region hL hT [] (by cbv) ?_ ?_
    · exact hq0
    refine Run.ret ?_
    cases h
    refine ⟨_, _, by cbv, ?_, ?_⟩
    · exact LLe.r
    · exact (ALe.v LLe.r ALe.nil)
  · have h := if_f c2 h
    refine Run.skip ?_
    refine Run.seq ?_
    obtain ⟨r3, h_r3, h⟩ := bnd h
    obtain ⟨l4, h_l4, h⟩ := bnd h
    refine Run.region hL hT [(2, .call [false] [.v (.jk)] [.v (.s (.string r3))])] (by cbv) ?_ ?_
    · exact (hq trivial (hq (hC (impl_digits_ac h_r3)) hq0))
    refine Run.row (rows := [[.s (.string (ByteArray.mk #[102, 114, 111, 109]))], [.s (.string r3)]]) 8195 (eStr_c l4) (by cbv) (some_le (f := Str_c) h_l4 (RLe.cons rfl LLe.r (RLe.cons rfl LLe.r RLe.nil))) ?_
    obtain ⟨K6, h_K6, h⟩ := joinE h
    refine Run.join1 K6 (r := r) (fun (y5 : List ByteArray) => ⟨98, 100000, [(3, .pt 1 0 0), (5, .rf 2)], [(1, .box 35 [.t (.s (.int .i64 a1v_Table)), .t (.im false (eCond_c a1v_Where)), .t (.s (.int .i64 a1v_Order)), .t (.s (.bool a1v_Down)), .t (.s (.int .i64 a1v_First)), .t (.im false (eInt_c a1v_Show)), .t (.s (.bool a1v_Kids)), .t (.s (.int .i64 a1v_KidTable)), .t (.s (.int .i64 a1v_KidCol))]), (2, .row 0 9 1 (eStr_c y5))]⟩) ?_ ?_
    · skip
      refine Run.seq ?_
      refine Run.region hL hT [] (by cbv) ?_ ?_
      · exact (hq trivial hq0)
      rw [show ln (eCond_c a1v_Where) = lenI_Cond a1v_Where from ln_eq Cond_c _]
      refine Run.block ?_
      refine Run.loop2 (fun (z20 : List ByteArray) (z21 : Int) => ⟨98, 100000, [(3, .pt 1 0 0), (5, .rf 2), (19, .t (.im false (eCond_c a1v_Where))), (20, .t (.s (.int .i64 (lenI_Cond a1v_Where)))), (21, .t (.s (.int .i64 z21)))], [(1, .box 35 [.t (.s (.int .i64 a1v_Table)), .t (.im false (eCond_c a1v_Where)), .t (.s (.int .i64 a1v_Order)), .t (.s (.bool a1v_Down)), .t (.s (.int .i64 a1v_First)), .t (.im false (eInt_c a1v_Show)), .t (.s (.bool a1v_Kids)), .t (.s (.int .i64 a1v_KidTable)), .t (.s (.int .i64 a1v_KidCol))]), (2, .row 0 9 1 (eStr_c z20))]⟩) (x0 := l4) (x1 := 0) h (Weak.of _ [(1, 1), (2, 8195)] hA (by cbv) ?_) (fun _ _ => rfl) ?_
      · repeat (first | exact hq0 | refine hq (by first | exact True.intro | rfl) ?_)
      · intro k z20 z21 h
        rw [impl_QueryText.l0] at h
        refine Run.seq ?_
        refine Run.region hL hT [] (by cbv) ?_ ?_
        · exact (hq trivial hq0)
        refine Run.seq ?_
        refine Run.cond (by cbv) (hq0) (fun c22 => ?_) (fun c22 => ?_)
        · have h := if_t c22 h
          refine Run.skip ?_
          refine Run.seq ?_
          refine Run.block ?_
          refine Run.seq ?_
          obtain ⟨⟨x23v_Col, x23v_Op, x23v_V⟩, h_x23, h⟩ := bnd h
          refine Run.region hL hT [(0, .el [.s (.int .i64 x23v_Col), .s (.int .i64 x23v_Op), .s (.int .i64 x23v_V)])] (by cbv) ?_ ?_
          · exact (hq (get_le h_x23) (hq (get_lt (f := Cond_c) h_x23) (hq (get_ge (f := Cond_c) h_x23) (hq trivial hq0))))
          obtain ⟨r24, h_r24, h⟩ := bnd h
          obtain ⟨u25, h_u25, h⟩ := bnd h
          obtain ⟨r26, h_r26, h⟩ := bnd h
          obtain ⟨l27, h_l27, h⟩ := bnd h
          obtain ⟨l28, h_l28, h⟩ := bnd h
          refine Run.draw hL hT hM [(3, .call [false] [.v (.jk)] [.v (.s (.string r24))]), (12, .call [false] [.v (.jk)] [.v (.s (.string r26))])] (by cbv) (collect_cons (by cbv) (by cbv) (collect_cons (by cbv) (by cbv) (collect_cons (by cbv) (by cbv) (collect_cons (by cbv) (by cbv) (collect_cons (by cbv) (by cbv) (collect_cons (by cbv) (by cbv) (collect_cons (by cbv) (by cbv) (collect_cons (by cbv) (by cbv) (collect_cons (by cbv) (by cbv) (collect_cons (by cbv) (by cbv) (collect_cons (by cbv) (by cbv) (collect_cons (by cbv) (by cbv) (collect_cons (by cbv) (by cbv) (collect_cons (by cbv) (by cbv) (collect_cons (by cbv) (by cbv) (collect_cons (by cbv) (by cbv) collect_nil)))))))))))))))) (by cbv) (by cbv) (by cbv) ?_ ?_
          · exact (hq trivial (hq (hC (impl_digits_ac h_r24)) (hq trivial (hq trivial (hq trivial (hq (cutS_0 h_u25) (hq (cutS_1 h_u25) (hq (cutS_2 h_u25) (hq trivial (hq (hC (impl_digits_ac h_r26)) (hq (app_mb (P := Tryd.prog) (f := Str_c) RLe.r (some_le (f := Str_c) h_l27 (RLe.cons rfl LLe.r (RLe.cons rfl LLe.r (RLe.cons rfl LLe.r (RLe.cons rfl LLe.r RLe.nil))))) h_l28) hq0)))))))))))
          refine Run.row (rows := (ap (eStr_c z20) ([[.s (.string (ByteArray.mk #[119, 104, 101, 114, 101]))], [.s (.string r24)], [.s (.string (ss (ByteArray.mk #[61, 60, 62, 33]) (ar .sub .i64 x23v_Op 1) x23v_Op))], [.s (.string r26)]]))) 108206 (eStr_c l28) (by cbv) (app_le (f := Str_c) RLe.r (some_le (f := Str_c) h_l27 (RLe.cons rfl LLe.r (RLe.cons rfl LLe.r (RLe.cons rfl LLe.r (RLe.cons rfl LLe.r RLe.nil))))) h_l28) ?_
          refine Run.region hL hT [] (by cbv) ?_ ?_
          · exact (hq trivial hq0)
          refine ⟨l28, (ar .add .i64 z21 1), h, Weak.of _ [(1, 1), (2, 108206)] hA (by cbv) ?_⟩
          repeat (first | exact hq0 | refine hq (by first | exact True.intro | rfl) ?_)
        · have h := if_f c22 h
          refine Run.exit ?_
          refine ⟨z20, h, Weak.of _ [(1, 1), (2, 2)] hA (by cbv) ?_⟩
          repeat (first | exact hq0 | refine hq (by first | exact True.intro | rfl) ?_)
    · intro y5 h
      rw [h_K6] at h
      obtain ⟨K30, h_K30, h⟩ := joinE h
      refine Run.join1 K30 (r := r) (fun (y29 : List ByteArray) => ⟨98, 100000, [(3, .pt 1 0 0), (5, .rf 2)], [(1, .box 35 [.t (.s (.int .i64 a1v_Table)), .t (.im false (eCond_c a1v_Where)), .t (.s (.int .i64 a1v_Order)), .t (.s (.bool a1v_Down)), .t (.s (.int .i64 a1v_First)), .t (.im false (eInt_c a1v_Show)), .t (.s (.bool a1v_Kids)), .t (.s (.int .i64 a1v_KidTable)), .t (.s (.int .i64 a1v_KidCol))]), (2, .row 0 9 1 (eStr_c y29))]⟩) ?_ ?_
      · skip
        refine Run.seq ?_
        refine Run.region hL hT [] (by cbv) ?_ ?_
        · exact (hq trivial (hq trivial hq0))
        refine Run.cond (by cbv) (hq0) (fun c31 => ?_) (fun c31 => ?_)
        · have h := if_t c31 h
          refine Run.seq ?_
          obtain ⟨r32, h_r32, h⟩ := bnd h
          obtain ⟨l33, h_l33, h⟩ := bnd h
          obtain ⟨l34, h_l34, h⟩ := bnd h
          refine Run.region hL hT [(4, .call [false] [.v (.jk)] [.v (.s (.string r32))])] (by cbv) ?_ ?_
          · exact (hq trivial (hq trivial (hq (hC (impl_digits_ac h_r32)) (hq (app_mb (P := Tryd.prog) (f := Str_c) RLe.r (some_le (f := Str_c) h_l33 (RLe.cons rfl LLe.r (RLe.cons rfl LLe.r RLe.nil))) h_l34) hq0))))
          refine Run.row (rows := (ap (eStr_c y5) ([[.s (.string (ByteArray.mk #[111, 114, 100, 101, 114]))], [.s (.string r32)]]))) 104102 (eStr_c l34) (by cbv) (app_le (f := Str_c) RLe.r (some_le (f := Str_c) h_l33 (RLe.cons rfl LLe.r (RLe.cons rfl LLe.r RLe.nil))) h_l34) ?_
          refine Run.seq ?_
          refine Run.region hL hT [] (by cbv) ?_ ?_
          · exact (hq trivial hq0)
          refine Run.cond (by cbv) (hq0) (fun c35 => ?_) (fun c35 => ?_)
          · have h := if_t c35 h
            obtain ⟨l36, h_l36, h⟩ := bnd h
            obtain ⟨l37, h_l37, h⟩ := bnd h
            refine Run.region hL hT [] (by cbv) ?_ ?_
            · exact (hq (app_mb (P := Tryd.prog) (f := Str_c) RLe.r (some_le (f := Str_c) h_l36 (RLe.cons rfl LLe.r RLe.nil)) h_l37) hq0)
            refine ⟨l37, h, (Weak.row (rows := (ap (eStr_c l34) ([[.s (.string (ByteArray.mk #[100, 111, 119, 110]))]]))) 112290 (eStr_c l37) (by cbv) (app_le (f := Str_c) RLe.r (some_le (f := Str_c) h_l36 (RLe.cons rfl LLe.r RLe.nil)) h_l37)).trans (Weak.of _ [(1, 1), (2, 112290)] hA (by cbv) ?_)⟩
            repeat (first | exact hq0 | refine hq (by first | exact True.intro | rfl) ?_)
          · have h := if_f c35 h
            refine Run.skip ?_
            refine ⟨l34, h, Weak.of _ [(1, 1), (2, 104102)] hA (by cbv) ?_⟩
            repeat (first | exact hq0 | refine hq (by first | exact True.intro | rfl) ?_)
        · have h := if_f c31 h
          refine Run.skip ?_
          refine ⟨y5, h, Weak.of _ [(1, 1), (2, 2)] hA (by cbv) ?_⟩
          repeat (first | exact hq0 | refine hq (by first | exact True.intro | rfl) ?_)
      · intro y29 h
        rw [h_K30] at h
        obtain ⟨K39, h_K39, h⟩ := joinE h
        refine Run.join1 K39 (r := r) (fun (y38 : List ByteArray) => ⟨98, 100000, [(3, .pt 1 0 0), (5, .rf 2)], [(1, .box 35 [.t (.s (.int .i64 a1v_Table)), .t (.im false (eCond_c a1v_Where)), .t (.s (.int .i64 a1v_Order)), .t (.s (.bool a1v_Down)), .t (.s (.int .i64 a1v_First)), .t (.im false (eInt_c a1v_Show)), .t (.s (.bool a1v_Kids)), .t (.s (.int .i64 a1v_KidTable)), .t (.s (.int .i64 a1v_KidCol))]), (2, .row 0 9 1 (eStr_c y38))]⟩) ?_ ?_
        · skip
          refine Run.seq ?_
          refine Run.region hL hT [] (by cbv) ?_ ?_
          · exact (hq trivial (hq trivial hq0))
          refine Run.cond (by cbv) (hq0) (fun c40 => ?_) (fun c40 => ?_)
          · have h := if_t c40 h
            obtain ⟨r41, h_r41, h⟩ := bnd h
            obtain ⟨l42, h_l42, h⟩ := bnd h
            obtain ⟨l43, h_l43, h⟩ := bnd h
            refine Run.region hL hT [(3, .call [false] [.v (.jk)] [.v (.s (.string r41))])] (by cbv) ?_ ?_
            · exact (hq trivial (hq (hC (impl_digits_ac h_r41)) (hq (app_mb (P := Tryd.prog) (f := Str_c) RLe.r (some_le (f := Str_c) h_l42 (RLe.cons rfl LLe.r (RLe.cons rfl LLe.r RLe.nil))) h_l43) hq0)))
            refine ⟨l43, h, (Weak.row (rows := (ap (eStr_c y29) ([[.s (.string (ByteArray.mk #[102, 105, 114, 115, 116]))], [.s (.string r41)]]))) 104101 (eStr_c l43) (by cbv) (app_le (f := Str_c) RLe.r (some_le (f := Str_c) h_l42 (RLe.cons rfl LLe.r (RLe.cons rfl LLe.r RLe.nil))) h_l43)).trans (Weak.of _ [(1, 1), (2, 104101)] hA (by cbv) ?_)⟩
            repeat (first | exact hq0 | refine hq (by first | exact True.intro | rfl) ?_)
          · have h := if_f c40 h
            refine Run.skip ?_
            refine ⟨y29, h, Weak.of _ [(1, 1), (2, 2)] hA (by cbv) ?_⟩
            repeat (first | exact hq0 | refine hq (by first | exact True.intro | rfl) ?_)
        · intro y38 h
          rw [h_K39] at h
          obtain ⟨K45, h_K45, h⟩ := joinE h
          refine Run.join1 K45 (r := r) (fun (y44 : List ByteArray) => ⟨98, 100000, [(3, .pt 1 0 0), (5, .rf 2)], [(1, .box 35 [.t (.s (.int .i64 a1v_Table)), .t (.im false (eCond_c a1v_Where)), .t (.s (.int .i64 a1v_Order)), .t (.s (.bool a1v_Down)), .t (.s (.int .i64 a1v_First)), .t (.im false (eInt_c a1v_Show)), .t (.s (.bool a1v_Kids)), .t (.s (.int .i64 a1v_KidTable)), .t (.s (.int .i64 a1v_KidCol))]), (2, .row 0 9 1 (eStr_c y44))]⟩) ?_ ?_
          · skip
            refine Run.seq ?_
            refine Run.region hL hT [] (by cbv) ?_ ?_
            · exact (hq trivial (hq trivial hq0))
            rw [show ln (eInt_c a1v_Show) = lenI_Int a1v_Show from ln_eq Int_c _]
            refine Run.cond (by cbv) (hq0) (fun c46 => ?_) (fun c46 => ?_)
            · have h := if_t c46 h
              refine Run.seq ?_
              obtain ⟨l47, h_l47, h⟩ := bnd h
              obtain ⟨l48, h_l48, h⟩ := bnd h
              refine Run.region hL hT [] (by cbv) ?_ ?_
              · exact (hq (app_mb (P := Tryd.prog) (f := Str_c) RLe.r (some_le (f := Str_c) h_l47 (RLe.cons rfl LLe.r RLe.nil)) h_l48) hq0)
              refine Run.row (rows := (ap (eStr_c y38) ([[.s (.string (ByteArray.mk #[115, 104, 111, 119]))]]))) 104098 (eStr_c l48) (by cbv) (app_le (f := Str_c) RLe.r (some_le (f := Str_c) h_l47 (RLe.cons rfl LLe.r RLe.nil)) h_l48) ?_
              refine Run.seq ?_
              refine Run.region hL hT [] (by cbv) ?_ ?_
              · exact (hq trivial hq0)
              rw [show ln (eInt_c a1v_Show) = lenI_Int a1v_Show from ln_eq Int_c _]
              refine Run.block ?_
              refine Run.loop2 (fun (z62 : List ByteArray) (z63 : Int) => ⟨98, 100000, [(3, .pt 1 0 0), (5, .rf 2), (73, .t (.im false (eInt_c a1v_Show))), (74, .t (.s (.int .i64 (lenI_Int a1v_Show)))), (75, .t (.s (.int .i64 z63)))], [(1, .box 35 [.t (.s (.int .i64 a1v_Table)), .t (.im false (eCond_c a1v_Where)), .t (.s (.int .i64 a1v_Order)), .t (.s (.bool a1v_Down)), .t (.s (.int .i64 a1v_First)), .t (.im false (eInt_c a1v_Show)), .t (.s (.bool a1v_Kids)), .t (.s (.int .i64 a1v_KidTable)), .t (.s (.int .i64 a1v_KidCol))]), (2, .row 0 9 1 (eStr_c z62))]⟩) (x0 := l48) (x1 := 0) h (Weak.of _ [(1, 1), (2, 104098)] hA (by cbv) ?_) (fun _ _ => rfl) ?_
              · repeat (first | exact hq0 | refine hq (by first | exact True.intro | rfl) ?_)
              · intro k z62 z63 h
                rw [impl_QueryText.l1] at h
                refine Run.seq ?_
                refine Run.region hL hT [] (by cbv) ?_ ?_
                · exact (hq trivial hq0)
                refine Run.seq ?_
                refine Run.cond (by cbv) (hq0) (fun c64 => ?_) (fun c64 => ?_)
                · have h := if_t c64 h
                  refine Run.skip ?_
                  refine Run.seq ?_
                  refine Run.block ?_
                  refine Run.seq ?_
                  obtain ⟨x65, h_x65, h⟩ := bnd h
                  refine Run.region hL hT [(0, .el [.s (.int .i64 x65)])] (by cbv) ?_ ?_
                  · exact (hq (get_le h_x65) (hq (get_lt (f := Int_c) h_x65) (hq (get_ge (f := Int_c) h_x65) hq0)))
                  obtain ⟨r66, h_r66, h⟩ := bnd h
                  obtain ⟨l67, h_l67, h⟩ := bnd h
                  obtain ⟨l68, h_l68, h⟩ := bnd h
                  refine Run.region hL hT [(2, .call [false] [.v (.jk)] [.v (.s (.string r66))])] (by cbv) ?_ ?_
                  · exact (hq (hC (impl_digits_ac h_r66)) (hq (app_mb (P := Tryd.prog) (f := Str_c) RLe.r (some_le (f := Str_c) h_l67 (RLe.cons rfl LLe.r RLe.nil)) h_l68) hq0))
                  refine Run.row (rows := (ap (eStr_c z62) ([[.s (.string r66)]]))) 108196 (eStr_c l68) (by cbv) (app_le (f := Str_c) RLe.r (some_le (f := Str_c) h_l67 (RLe.cons rfl LLe.r RLe.nil)) h_l68) ?_
                  refine Run.region hL hT [] (by cbv) ?_ ?_
                  · exact (hq trivial hq0)
                  refine ⟨l68, (ar .add .i64 z63 1), h, Weak.of _ [(1, 1), (2, 108196)] hA (by cbv) ?_⟩
                  repeat (first | exact hq0 | refine hq (by first | exact True.intro | rfl) ?_)
                · have h := if_f c64 h
                  refine Run.exit ?_
                  refine ⟨z62, h, Weak.of _ [(1, 1), (2, 2)] hA (by cbv) ?_⟩
                  repeat (first | exact hq0 | refine hq (by first | exact True.intro | rfl) ?_)
            · have h := if_f c46 h
              refine Run.skip ?_
              refine ⟨y38, h, Weak.of _ [(1, 1), (2, 2)] hA (by cbv) ?_⟩
              repeat (first | exact hq0 | refine hq (by first | exact True.intro | rfl) ?_)
          · intro y44 h
            rw [h_K45] at h
            obtain ⟨K70, h_K70, h⟩ := joinE h
            refine Run.join1 K70 (r := r) (fun (y69 : List ByteArray) => ⟨98, 100000, [(5, .rf 1)], [(1, .row 0 9 1 (eStr_c y69))]⟩) ?_ ?_
            · skip
              refine Run.seq ?_
              refine Run.region hL hT [] (by cbv) ?_ ?_
              · exact (hq trivial hq0)
              refine Run.cond (by cbv) (hq0) (fun c71 => ?_) (fun c71 => ?_)
              · have h := if_t c71 h
                obtain ⟨r72, h_r72, h⟩ := bnd h
                obtain ⟨r73, h_r73, h⟩ := bnd h
                obtain ⟨l74, h_l74, h⟩ := bnd h
                obtain ⟨l75, h_l75, h⟩ := bnd h
                refine Run.draw hL hT hM [(3, .call [false] [.v (.jk)] [.v (.s (.string r72))]), (6, .call [false] [.v (.jk)] [.v (.s (.string r73))])] (by cbv) (collect_cons (by cbv) (by cbv) (collect_cons (by cbv) (by cbv) (collect_cons (by cbv) (by cbv) (collect_cons (by cbv) (by cbv) (collect_cons (by cbv) (by cbv) (collect_cons (by cbv) (by cbv) (collect_cons (by cbv) (by cbv) (collect_cons (by cbv) (by cbv) (collect_cons (by cbv) (by cbv) (collect_cons (by cbv) (by cbv) collect_nil)))))))))) (by cbv) (by cbv) (by cbv) ?_ ?_
                · exact (hq trivial (hq (hC (impl_digits_ac h_r72)) (hq trivial (hq (hC (impl_digits_ac h_r73)) (hq (app_mb (P := Tryd.prog) (f := Str_c) RLe.r (some_le (f := Str_c) h_l74 (RLe.cons rfl LLe.r (RLe.cons rfl LLe.r (RLe.cons rfl LLe.r RLe.nil)))) h_l75) hq0)))))
                refine ⟨l75, h, (Weak.row (rows := (ap (eStr_c y44) ([[.s (.string (ByteArray.mk #[107, 105, 100, 115]))], [.s (.string r72)], [.s (.string r73)]]))) 104104 (eStr_c l75) (by cbv) (app_le (f := Str_c) RLe.r (some_le (f := Str_c) h_l74 (RLe.cons rfl LLe.r (RLe.cons rfl LLe.r (RLe.cons rfl LLe.r RLe.nil)))) h_l75)).trans (Weak.of _ [(1, 104104)] hA (by cbv) ?_)⟩
                repeat (first | exact hq0 | refine hq (by first | exact True.intro | rfl) ?_)
              · have h := if_f c71 h
                refine Run.skip ?_
                refine ⟨y44, h, Weak.of _ [(1, 2)] hA (by cbv) ?_⟩
                repeat (first | exact hq0 | refine hq (by first | exact True.intro | rfl) ?_)
            · intro y69 h
              rw [h_K70] at h
              refine Run.seq ?_
              obtain ⟨r76, h_r76, h⟩ := bnd h
              refine Run.region hL hT [(1, .call [false, false] [.v (.jk), .v (.jk)] [.v (.s (.string r76))])] (by cbv) ?_ ?_
              · exact (hq (hC (AC.args (strings_Join_ac h_r76) (ALe.v (LLe.im (RLe.eq (fr_row Str_c_z _))) (ALe.v LLe.r ALe.nil)))) hq0)
              refine Run.ret ?_
              cases h
              refine ⟨_, _, by cbv, ?_, ?_⟩
              · exact LLe.r
              · exact (ALe.v LLe.r ALe.nil)

def laysSplit_ren : Go.Shelf.Ren := ⟨fun | 146 => 44 | 221 => 82 | 268 => 110 | 138 => 111 | 143 => 112 | 195 => 124 | 197 => 125 | 218 => 126 | 219 => 127 | 260 => 138 | 217 => 139 | 225 => 140 | 224 => 141 | 267 => 142 | 266 => 155 | 314 => 156 | n => n, fun | 9 => 9 | 31 => 46 | 3 => 3 | 4 => 4 | 0 => 0 | 105 => 147 | 21 => 21 | 5 => 5 | 46 => 141 | 119 => 170 | 139 => 173 | 138 => 172 | 146 => 174 | 51 => 167 | n => n, fun | 1 => 0 | 3 => 2 | 4 => 3 | n => n⟩
theorem laysSplit : Go.Proofs.Lays.n146 Tryd.prog laysSplit_ren := {
  mixed := by kernel_rfl
  f138 := Tryd.func111.trans (congrArg some (by kernel_rfl))
  f143 := Tryd.func112.trans (congrArg some (by kernel_rfl))
  f146 := Tryd.func44.trans (congrArg some (by kernel_rfl))
  f195 := Tryd.func124.trans (congrArg some (by kernel_rfl))
  f197 := Tryd.func125.trans (congrArg some (by kernel_rfl))
  f217 := Tryd.func139.trans (congrArg some (by kernel_rfl))
  f218 := Tryd.func126.trans (congrArg some (by kernel_rfl))
  f219 := Tryd.func127.trans (congrArg some (by kernel_rfl))
  f221 := Tryd.func82.trans (congrArg some (by kernel_rfl))
  f224 := Tryd.func141.trans (congrArg some (by kernel_rfl))
  f225 := Tryd.func140.trans (congrArg some (by kernel_rfl))
  f260 := Tryd.func138.trans (congrArg some (by kernel_rfl))
  f266 := Tryd.func155.trans (congrArg some (by kernel_rfl))
  f267 := Tryd.func142.trans (congrArg some (by kernel_rfl))
  f268 := Tryd.func110.trans (congrArg some (by kernel_rfl))
  f314 := Tryd.func156.trans (congrArg some (by kernel_rfl))
  t0 := Tryd.underlying0
  a0 := Tryd.isAgg0
  z0 := Tryd.sizeOf0
  v0 := Tryd.zeroValue0
  t3 := Tryd.underlying3
  a3 := Tryd.isAgg3
  z3 := Tryd.sizeOf3
  v3 := Tryd.zeroValue3
  t4 := Tryd.underlying4
  a4 := Tryd.isAgg4
  z4 := Tryd.sizeOf4
  v4 := Tryd.zeroValue4
  t5 := Tryd.underlying5
  a5 := Tryd.isAgg5
  z5 := Tryd.sizeOf5
  v5 := Tryd.zeroValue5
  t9 := Tryd.underlying9
  a9 := Tryd.isAgg9
  z9 := Tryd.sizeOf9
  v9 := Tryd.zeroValue9
  t21 := Tryd.underlying21
  a21 := Tryd.isAgg21
  z21 := Tryd.sizeOf21
  v21 := Tryd.zeroValue21
  t31 := Tryd.underlying46
  a31 := Tryd.isAgg46
  z31 := Tryd.sizeOf46
  v31 := Tryd.zeroValue46
  t46 := Tryd.underlying141
  a46 := Tryd.isAgg141
  z46 := Tryd.sizeOf141
  v46 := Tryd.zeroValue141
  t51 := Tryd.underlying167
  a51 := Tryd.isAgg167
  z51 := Tryd.sizeOf167
  v51 := Tryd.zeroValue167
  t105 := Tryd.underlying147
  a105 := Tryd.isAgg147
  z105 := Tryd.sizeOf147
  v105 := Tryd.zeroValue147
  t119 := Tryd.underlying170
  a119 := Tryd.isAgg170
  z119 := Tryd.sizeOf170
  t138 := Tryd.underlying172
  a138 := Tryd.isAgg172
  z138 := Tryd.sizeOf172
  v138 := Tryd.zeroValue172
  t139 := Tryd.underlying173
  a139 := Tryd.isAgg173
  z139 := Tryd.sizeOf173
  v139 := Tryd.zeroValue173
  t146 := Tryd.underlying174
  a146 := Tryd.isAgg174
  z146 := Tryd.sizeOf174
  v146 := Tryd.zeroValue174
  g1 := by kernel_rfl
  g3 := by kernel_rfl
  g4 := by kernel_rfl }
theorem strings_Split_ac {a0 a1 : ByteArray} {r : List ByteArray} (h : strings_Split.f a0 a1 = some r) : AC Tryd.prog 44 [.v (.s (.string a0)), .v (.s (.string a1))] [.v .jk, .v .jk] [.v (.ow 9 (rowsOf Str_c r))] := AC.of_split (fun _ => rfl) ⟨_, Tryd.func44, by rfl, by rfl⟩ (by kernel_rfl) (fun s c w hs => split_one laysSplit (by kernel_rfl) s c w hs) h

theorem impl_asker_take_ac {a0v_words : List ByteArray} {a0v_bad : Bool} {a1 : ByteArray} {r : asker × Bool} (h : impl_asker_take.f (asker.mk a0v_words a0v_bad) a1 = some r) : AC Tryd.prog 83 [.v (.bx 79 [.im true (rowsOf Str_c a0v_words), .s (.bool a0v_bad)]), .v (.s (.string a1))] [.v (.bx 79 [.im true (rowsOf Str_c r.1.words), .s (.bool r.1.bad)]), .v (.jk)] [.v (.s (.bool r.2))] := by
  unfold impl_asker_take.f at h
  let eStr_c := rowsOf Str_c
  let lenI_Str := @lenI ByteArray
  show AC Tryd.prog 83 [.v (.bx 79 [.im true (eStr_c a0v_words), .s (.bool a0v_bad)]), .v (.s (.string a1))] _ _
  refine run3 Tryd.func83 (by rfl) (by rfl) (by cbv) ⟨by decide, rfl⟩ ?_
  intro ar cm bo sc sa sx ss sl bs sb ln sr ap up rp fr ge le lt nz mm ma sm fl al ci hL F hP hA hT hM hC
  refine Run.seq ?_
  refine Run.region hL hT [] (by cbv) ?_ ?_
  · exact hq0
  refine Run.seq ?_
  obtain ⟨x1, h_x1, h⟩ := bnd h
  refine Run.region hL hT [(11, .el [.s (.string x1)])] (by cbv) ?_ ?_
  · exact (hq trivial (hq trivial (hq (fun _ => hq0) (hq (fun g3 => (by have g3C := g3; rw [show ln (eStr_c a0v_words) = lenI_Str a0v_words from ln_eq Str_c _] at g3C; exact (hq g3 hq0))) (hq (fun g4 => (by have g4C := g4; rw [show ln (eStr_c a0v_words) = lenI_Str a0v_words from ln_eq Str_c _] at g4C; exact (hq g4 hq0))) (hq (fun g5 => (by have g5C := g5; rw [show ln (eStr_c a0v_words) = lenI_Str a0v_words from ln_eq Str_c _] at g5C; exact (hq g5 (hq trivial hq0)))) (hq (fun g6 => (by have g6C := g6; rw [show ln (eStr_c a0v_words) = lenI_Str a0v_words from ln_eq Str_c _] at g6C; exact (hq g6 (hq (get_le (gd_t h_x1 g6C)) (hq (get_lt (f := Str_c) (gd_t h_x1 g6C)) (hq (get_ge (f := Str_c) (gd_t h_x1 g6C)) hq0)))))) (hq (fun g7 => (by have g7C := g7; rw [show ln (eStr_c a0v_words) = lenI_Str a0v_words from ln_eq Str_c _] at g7C; exact (hq g7 hq0))) (hq (fun _ => hq0) (hq (fun g9 => (by have g9C := g9; rw [show ln (eStr_c a0v_words) = lenI_Str a0v_words from ln_eq Str_c _] at g9C; exact (hq g9 (hq g9 hq0)))) (hq (fun q10 => (by have q10C := q10; rw [show ln (eStr_c a0v_words) = lenI_Str a0v_words from ln_eq Str_c _] at q10C; exact (hq q10 hq0))) (hq (fun _ => hq0) hq0))))))))))))
  rw [show ln (eStr_c a0v_words) = lenI_Str a0v_words from ln_eq Str_c _]
  refine Run.seq ?_
  refine Run.seq ?_
  refine Run.region hL hT [] (by cbv) ?_ ?_
  · exact hq0
  refine Run.cond (by cbv) (hq0) (fun c12 => ?_) (fun c12 => ?_)
  · have h := if_t c12 h
    obtain ⟨l13, h_l13, h⟩ := bnd h
    refine Run.region hL hT [] (by cbv) ?_ ?_
    · exact (hq trivial (hq (cut_0 h_l13) (hq (cut_1r (f := Str_c) h_l13) (hq (Int.le_refl _) (hq (al_row Str_c_n _) (hq trivial hq0))))))
    rw [show sr (eStr_c a0v_words) 1 (ln (eStr_c a0v_words)) = eStr_c l13 from cut_srr Str_c h_l13]
    refine Run.seq ?_
    refine Run.region hL hT [] (by cbv) ?_ ?_
    · exact hq0
    refine Run.ret ?_
    cases h
    refine ⟨_, _, by cbv, ?_, ?_⟩
    · exact LLe.r
    · exact (ALe.v LLe.r ALe.nil)
  · have h := if_f c12 h
    refine Run.skip ?_
    refine Run.seq ?_
    refine Run.region hL hT [] (by cbv) ?_ ?_
    · exact hq0
    refine Run.ret ?_
    cases h
    refine ⟨_, _, by cbv, ?_, ?_⟩
    · exact LLe.r
    · exact (ALe.v LLe.r ALe.nil)

def laysAtoi_ren : Go.Shelf.Ren := ⟨fun | 172 => 113 | 244 => 128 | 245 => 129 | 247 => 143 | 279 => 144 | 280 => 145 | 281 => 146 | 282 => 147 | 287 => 157 | 316 => 158 | 171 => 76 | 205 => 159 | 321 => 162 | 322 => 163 | 243 => 107 | 246 => 121 | 283 => 134 | 284 => 135 | 285 => 136 | 286 => 137 | 129 => 151 | 317 => 150 | 318 => 152 | 319 => 153 | 320 => 154 | 337 => 160 | 338 => 161 | n => n, fun | 9 => 9 | 3 => 3 | 75 => 111 | 76 => 112 | 4 => 4 | 5 => 5 | 167 => 158 | 37 => 54 | 0 => 0 | 85 => 159 | 2 => 2 | 168 => 161 | 53 => 152 | 175 => 176 | 46 => 141 | 210 => 179 | 127 => 134 | 145 => 185 | 143 => 183 | 21 => 21 | 171 => 151 | 173 => 155 | 212 => 166 | 51 => 167 | 20 => 20 | 213 => 168 | 232 => 186 | 233 => 187 | 80 => 114 | n => n, fun | 15 => 4 | 16 => 5 | 17 => 1 | 18 => 6 | 19 => 7 | n => n⟩
theorem laysAtoi : Go.Proofs.LaysC.n172 Tryd.prog laysAtoi_ren := {
  mixed := by kernel_rfl
  f129 := Tryd.func151.trans (congrArg some (by kernel_rfl))
  f171 := Tryd.func76.trans (congrArg some (by kernel_rfl))
  f172 := Tryd.func113.trans (congrArg some (by kernel_rfl))
  f205 := Tryd.func159.trans (congrArg some (by kernel_rfl))
  f243 := Tryd.func107.trans (congrArg some (by kernel_rfl))
  f244 := Tryd.func128.trans (congrArg some (by kernel_rfl))
  f245 := Tryd.func129.trans (congrArg some (by kernel_rfl))
  f246 := Tryd.func121.trans (congrArg some (by kernel_rfl))
  f247 := Tryd.func143.trans (congrArg some (by kernel_rfl))
  f279 := Tryd.func144.trans (congrArg some (by kernel_rfl))
  f280 := Tryd.func145.trans (congrArg some (by kernel_rfl))
  f281 := Tryd.func146.trans (congrArg some (by kernel_rfl))
  f282 := Tryd.func147.trans (congrArg some (by kernel_rfl))
  f283 := Tryd.func134.trans (congrArg some (by kernel_rfl))
  f284 := Tryd.func135.trans (congrArg some (by kernel_rfl))
  f285 := Tryd.func136.trans (congrArg some (by kernel_rfl))
  f286 := Tryd.func137.trans (congrArg some (by kernel_rfl))
  f287 := Tryd.func157.trans (congrArg some (by kernel_rfl))
  f316 := Tryd.func158.trans (congrArg some (by kernel_rfl))
  f317 := Tryd.func150.trans (congrArg some (by kernel_rfl))
  f318 := Tryd.func152.trans (congrArg some (by kernel_rfl))
  f319 := Tryd.func153.trans (congrArg some (by kernel_rfl))
  f320 := Tryd.func154.trans (congrArg some (by kernel_rfl))
  f321 := Tryd.func162.trans (congrArg some (by kernel_rfl))
  f322 := Tryd.func163.trans (congrArg some (by kernel_rfl))
  f337 := Tryd.func160.trans (congrArg some (by kernel_rfl))
  f338 := Tryd.func161.trans (congrArg some (by kernel_rfl))
  t0 := Tryd.underlying0
  a0 := Tryd.isAgg0
  z0 := Tryd.sizeOf0
  v0 := Tryd.zeroValue0
  t2 := Tryd.underlying2
  a2 := Tryd.isAgg2
  z2 := Tryd.sizeOf2
  v2 := Tryd.zeroValue2
  t3 := Tryd.underlying3
  a3 := Tryd.isAgg3
  z3 := Tryd.sizeOf3
  v3 := Tryd.zeroValue3
  t4 := Tryd.underlying4
  a4 := Tryd.isAgg4
  z4 := Tryd.sizeOf4
  v4 := Tryd.zeroValue4
  t5 := Tryd.underlying5
  a5 := Tryd.isAgg5
  z5 := Tryd.sizeOf5
  v5 := Tryd.zeroValue5
  t9 := Tryd.underlying9
  a9 := Tryd.isAgg9
  z9 := Tryd.sizeOf9
  v9 := Tryd.zeroValue9
  t20 := Tryd.underlying20
  a20 := Tryd.isAgg20
  z20 := Tryd.sizeOf20
  v20 := Tryd.zeroValue20
  t21 := Tryd.underlying21
  a21 := Tryd.isAgg21
  z21 := Tryd.sizeOf21
  v21 := Tryd.zeroValue21
  t37 := Tryd.underlying54
  a37 := Tryd.isAgg54
  z37 := Tryd.sizeOf54
  v37 := Tryd.zeroValue54
  t46 := Tryd.underlying141
  a46 := Tryd.isAgg141
  z46 := Tryd.sizeOf141
  v46 := Tryd.zeroValue141
  t51 := Tryd.underlying167
  a51 := Tryd.isAgg167
  z51 := Tryd.sizeOf167
  v51 := Tryd.zeroValue167
  t53 := Tryd.underlying152
  a53 := Tryd.isAgg152
  z53 := Tryd.sizeOf152
  v53 := Tryd.zeroValue152
  t75 := Tryd.underlying111
  a75 := Tryd.isAgg111
  z75 := Tryd.sizeOf111
  v75 := Tryd.zeroValue111
  t76 := Tryd.underlying112
  a76 := Tryd.isAgg112
  z76 := Tryd.sizeOf112
  v76 := Tryd.zeroValue112
  t85 := Tryd.underlying159
  a85 := Tryd.isAgg159
  z85 := Tryd.sizeOf159
  v85 := Tryd.zeroValue159
  t127 := Tryd.underlying134
  a127 := Tryd.isAgg134
  z127 := Tryd.sizeOf134
  v127 := Tryd.zeroValue134
  t143 := Tryd.underlying183
  a143 := Tryd.isAgg183
  z143 := Tryd.sizeOf183
  v143 := Tryd.zeroValue183
  t145 := Tryd.underlying185
  a145 := Tryd.isAgg185
  z145 := Tryd.sizeOf185
  v145 := Tryd.zeroValue185
  t167 := Tryd.underlying158
  a167 := Tryd.isAgg158
  z167 := Tryd.sizeOf158
  v167 := Tryd.zeroValue158
  t168 := Tryd.underlying161
  a168 := Tryd.isAgg161
  z168 := Tryd.sizeOf161
  v168 := Tryd.zeroValue161
  t171 := Tryd.underlying151
  a171 := Tryd.isAgg151
  z171 := Tryd.sizeOf151
  v171 := Tryd.zeroValue151
  t173 := Tryd.underlying155
  a173 := Tryd.isAgg155
  z173 := Tryd.sizeOf155
  v173 := Tryd.zeroValue155
  t175 := Tryd.underlying176
  a175 := Tryd.isAgg176
  z175 := Tryd.sizeOf176
  v175 := Tryd.zeroValue176
  t210 := Tryd.underlying179
  a210 := Tryd.isAgg179
  z210 := Tryd.sizeOf179
  v210 := Tryd.zeroValue179
  t212 := Tryd.underlying166
  a212 := Tryd.isAgg166
  z212 := Tryd.sizeOf166
  v212 := Tryd.zeroValue166
  t213 := Tryd.underlying168
  a213 := Tryd.isAgg168
  z213 := Tryd.sizeOf168
  t232 := Tryd.underlying186
  a232 := Tryd.isAgg186
  z232 := Tryd.sizeOf186
  v232 := Tryd.zeroValue186
  t233 := Tryd.underlying187
  a233 := Tryd.isAgg187
  z233 := Tryd.sizeOf187
  v233 := Tryd.zeroValue187
  g15 := by kernel_rfl
  g16 := by kernel_rfl
  g17 := by kernel_rfl
  g18 := by kernel_rfl
  g19 := by kernel_rfl
  t80 := Tryd.underlying114
  a80 := Tryd.isAgg114
  z80 := Tryd.sizeOf114
  v80 := Tryd.zeroValue114
  i0 := by kernel_rfl
  i2 := by kernel_rfl
  i3 := by kernel_rfl
  i4 := by kernel_rfl
  i5 := by kernel_rfl
  i9 := by kernel_rfl
  i20 := by kernel_rfl
  i21 := by kernel_rfl
  i37 := by kernel_rfl
  i46 := by kernel_rfl
  i51 := by kernel_rfl
  i53 := by kernel_rfl
  i75 := by kernel_rfl
  i76 := by kernel_rfl
  i80 := by kernel_rfl
  i85 := by kernel_rfl
  i127 := by kernel_rfl
  i143 := by kernel_rfl
  i145 := by kernel_rfl
  i167 := by kernel_rfl
  i168 := by kernel_rfl
  i171 := by kernel_rfl
  i173 := by kernel_rfl
  i175 := by kernel_rfl
  i210 := by kernel_rfl
  i212 := by kernel_rfl
  i232 := by kernel_rfl
  i233 := by kernel_rfl
  m15 := by kernel_rfl
  m16 := by kernel_rfl
  m17 := by kernel_rfl
  m18 := by kernel_rfl
  m19 := by kernel_rfl
  c0 := by kernel_rfl
  c2 := by kernel_rfl
  c3 := by kernel_rfl
  c4 := by kernel_rfl
  c5 := by kernel_rfl
  c9 := by kernel_rfl
  c20 := by kernel_rfl
  c21 := by kernel_rfl
  c37 := by kernel_rfl
  c46 := by kernel_rfl
  c51 := by kernel_rfl
  c53 := by kernel_rfl
  c75 := by kernel_rfl
  c76 := by kernel_rfl
  c80 := by kernel_rfl
  c85 := by kernel_rfl
  c127 := by kernel_rfl
  c143 := by kernel_rfl
  c145 := by kernel_rfl
  c167 := by kernel_rfl
  c168 := by kernel_rfl
  c171 := by kernel_rfl
  c173 := by kernel_rfl
  c175 := by kernel_rfl
  c210 := by kernel_rfl
  c212 := by kernel_rfl
  c213 := by kernel_rfl
  c232 := by kernel_rfl
  c233 := by kernel_rfl }
theorem strconv_Atoi_ac1 {a0 : ByteArray} {v : Int} {b : Bool} (h : strconv_Atoi.f a0 = some (v, b)) (hk : b = true) : AC Tryd.prog 113 [.v (.s (.string a0))] [.v .jk] [.v (.s (.int .i64 v)), .v (.s .nilIface)] :=
  AC.of_atoi1 (ty := laysAtoi_ren.t 5) ⟨_, Tryd.func113, by rfl, by rfl⟩ (fun s h1 v h2 w => Go.Proofs.Any.strconv_Atoi_ok laysAtoi s h1 v h2 w) h hk
theorem strconv_Atoi_ac0 {a0 : ByteArray} {v : Int} {b : Bool} (h : strconv_Atoi.f a0 = some (v, b)) (hk : b = false) : AC Tryd.prog 113 [.v (.s (.string a0))] [.v .jk] [.v (.s (.int .i64 v)), .v .er] :=
  AC.of_atoi0 (ty := laysAtoi_ren.t 168) (g15 := 4) (g16 := 5) ⟨_, Tryd.func113, by rfl, by rfl⟩ (by kernel_rfl) (by kernel_rfl)
    (fun s h1 h2 ev w h3 h4 => (Go.Proofs.Any.strconv_Atoi_syntax laysAtoi s h1 (by revert h2; generalize Lib.atoiAll s.data.toList = r; intro q; cases r <;> first | rfl | exact absurd rfl q.1 | exact absurd rfl (q.2 _)) ev w h3 h4).mono fun e w' ⟨N, a, _, _, d⟩ => ⟨N, a, d⟩)
    (fun s h1 h2 ev w h3 h4 => (Go.Proofs.Any.strconv_Atoi_range laysAtoi s h1 h2 ev w h3 h4).mono fun e w' ⟨N, a, _, _, d⟩ => ⟨N, a, d⟩) h hk

theorem impl_asker_isNumber_ac {a0v_words : List ByteArray} {a0v_bad : Bool} {r : Bool} (h : impl_asker_isNumber.f (asker.mk a0v_words a0v_bad) = some r) : AC Tryd.prog 86 [.v (.ip [.im false (rowsOf Str_c a0v_words), .s (.bool a0v_bad)])] [.v (.jk)] [.v (.s (.bool r))] := by
  unfold impl_asker_isNumber.f at h
  let eStr_c := rowsOf Str_c
  let lenI_Str := @lenI ByteArray
  show AC Tryd.prog 86 [.v (.ip [.im false (eStr_c a0v_words), .s (.bool a0v_bad)])] _ _
  refine run3 Tryd.func86 (by rfl) (by rfl) (by cbv) ⟨by decide, rfl⟩ ?_
  intro ar cm bo sc sa sx ss sl bs sb ln sr ap up rp fr ge le lt nz mm ma sm fl al ci hL F hP hA hT hM hC
  refine Run.seq ?_
  refine Run.region hL hT [] (by cbv) ?_ ?_
  · exact hq0
  refine Run.seq ?_
  refine Run.seq ?_
  refine Run.region hL hT [] (by cbv) ?_ ?_
  · exact (hq trivial hq0)
  rw [show ln (eStr_c a0v_words) = lenI_Str a0v_words from ln_eq Str_c _]
  refine Run.cond (by cbv) (hq0) (fun c1 => ?_) (fun c1 => ?_)
  · have h := if_t c1 h
    refine Run.seq ?_
    refine Run.region hL hT [] (by cbv) ?_ ?_
    · exact hq0
    refine Run.ret ?_
    cases h
    refine ⟨_, _, by cbv, ?_, ?_⟩
    · exact LLe.r
    · exact (ALe.v LLe.r ALe.nil)
  · have h := if_f c1 h
    refine Run.skip ?_
    refine Run.seq ?_
    obtain ⟨x2, h_x2, h⟩ := bnd h
    obtain ⟨⟨r3v_1, r3v_2⟩, h_r3, h⟩ := bnd h
    by_cases hk4 : r3v_2 = true
    · have h := if_t hk4 h
      refine Run.region hL hT [(4, .el [.s (.string x2)]), (6, .call [false] [.v (.jk)] [.v (.s (.int .i64 r3v_1)), .v (.s .nilIface)])] (by cbv) ?_ ?_
      · exact (hq (get_le h_x2) (hq (get_lt (f := Str_c) h_x2) (hq (get_ge (f := Str_c) h_x2) (hq (hC (strconv_Atoi_ac1 h_r3 hk4)) hq0))))
      refine Run.seq ?_
      refine Run.region hL hT [] (by cbv) ?_ ?_
      · exact hq0
      refine Run.ret ?_
      cases h
      refine ⟨_, _, by cbv, ?_, ?_⟩
      · exact LLe.r
      · exact (ALe.v LLe.r ALe.nil)
    · rw [Bool.not_eq_true] at hk4
      have h := if_f hk4 h
      refine Run.region hL hT [(4, .el [.s (.string x2)]), (6, .call [false] [.v (.jk)] [.v (.s (.int .i64 r3v_1)), .v (.er)])] (by cbv) ?_ ?_
      · exact (hq (get_le h_x2) (hq (get_lt (f := Str_c) h_x2) (hq (get_ge (f := Str_c) h_x2) (hq (hC (strconv_Atoi_ac0 h_r3 hk4)) hq0))))
      refine Run.seq ?_
      refine Run.region hL hT [] (by cbv) ?_ ?_
      · exact hq0
      refine Run.ret ?_
      cases h
      refine ⟨_, _, by cbv, ?_, ?_⟩
      · exact LLe.r
      · exact (ALe.v LLe.r ALe.nil)

theorem impl_asker_number_ac {a0v_words : List ByteArray} {a0v_bad : Bool} {r : asker × Int} (h : impl_asker_number.f (asker.mk a0v_words a0v_bad) = some r) : AC Tryd.prog 84 [.v (.bx 79 [.im true (rowsOf Str_c a0v_words), .s (.bool a0v_bad)])] [.v (.bx 79 [.im true (rowsOf Str_c r.1.words), .s (.bool r.1.bad)])] [.v (.s (.int .i64 r.2))] := by
  unfold impl_asker_number.f at h
  let eStr_c := rowsOf Str_c
  let lenI_Str := @lenI ByteArray
  show AC Tryd.prog 84 [.v (.bx 79 [.im true (eStr_c a0v_words), .s (.bool a0v_bad)])] _ _
  refine run3 Tryd.func84 (by rfl) (by rfl) (by cbv) ⟨by decide, rfl⟩ ?_
  intro ar cm bo sc sa sx ss sl bs sb ln sr ap up rp fr ge le lt nz mm ma sm fl al ci hL F hP hA hT hM hC
  refine Run.seq ?_
  refine Run.region hL hT [] (by cbv) ?_ ?_
  · exact hq0
  refine Run.seq ?_
  refine Run.seq ?_
  obtain ⟨r1, h_r1, h⟩ := bnd h
  refine Run.region hL hT [(1, .call [false] [.v (.jk)] [.v (.s (.bool r1))])] (by cbv) ?_ ?_
  · exact (hq (hC (impl_asker_isNumber_ac h_r1)) hq0)
  refine Run.cond (by cbv) (hq0) (fun c2 => ?_) (fun c2 => ?_)
  · have h := if_t c2 h
    refine Run.seq ?_
    refine Run.region hL hT [] (by cbv) ?_ ?_
    · exact (hq trivial hq0)
    refine Run.seq ?_
    refine Run.region hL hT [] (by cbv) ?_ ?_
    · exact hq0
    refine Run.ret ?_
    cases h
    refine ⟨_, _, by cbv, ?_, ?_⟩
    · exact LLe.r
    · exact (ALe.v LLe.r ALe.nil)
  · have h := if_f c2 h
    refine Run.skip ?_
    refine Run.seq ?_
    obtain ⟨x3, h_x3, h⟩ := bnd h
    obtain ⟨⟨r4v_1, r4v_2⟩, h_r4, h⟩ := bnd h
    by_cases hk5 : r4v_2 = true
    · have h := if_t hk5 h
      refine Run.region hL hT [(4, .el [.s (.string x3)]), (6, .call [false] [.v (.jk)] [.v (.s (.int .i64 r4v_1)), .v (.s .nilIface)])] (by cbv) ?_ ?_
      · exact (hq trivial (hq (get_le h_x3) (hq (get_lt (f := Str_c) h_x3) (hq (get_ge (f := Str_c) h_x3) (hq (hC (strconv_Atoi_ac1 h_r4 hk5)) hq0)))))
      refine Run.seq ?_
      obtain ⟨l6, h_l6, h⟩ := bnd h
      refine Run.region hL hT [] (by cbv) ?_ ?_
      · exact (hq trivial (hq (cut_0 h_l6) (hq (cut_1r (f := Str_c) h_l6) (hq (Int.le_refl _) (hq (al_row Str_c_n _) (hq trivial hq0))))))
      rw [show sr (eStr_c a0v_words) 1 (ln (eStr_c a0v_words)) = eStr_c l6 from cut_srr Str_c h_l6]
      refine Run.seq ?_
      refine Run.region hL hT [] (by cbv) ?_ ?_
      · exact hq0
      refine Run.ret ?_
      cases h
      refine ⟨_, _, by cbv, ?_, ?_⟩
      · exact LLe.r
      · exact (ALe.v LLe.r ALe.nil)
    · rw [Bool.not_eq_true] at hk5
      have h := if_f hk5 h
      refine Run.region hL hT [(4, .el [.s (.string x3)]), (6, .call [false] [.v (.jk)] [.v (.s (.int .i64 r4v_1)), .v (.er)])] (by cbv) ?_ ?_
      · exact (hq trivial (hq (get_le h_x3) (hq (get_lt (f := Str_c) h_x3) (hq (get_ge (f := Str_c) h_x3) (hq (hC (strconv_Atoi_ac0 h_r4 hk5)) hq0)))))
      refine Run.seq ?_
      obtain ⟨l7, h_l7, h⟩ := bnd h
      refine Run.region hL hT [] (by cbv) ?_ ?_
      · exact (hq trivial (hq (cut_0 h_l7) (hq (cut_1r (f := Str_c) h_l7) (hq (Int.le_refl _) (hq (al_row Str_c_n _) (hq trivial hq0))))))
      rw [show sr (eStr_c a0v_words) 1 (ln (eStr_c a0v_words)) = eStr_c l7 from cut_srr Str_c h_l7]
      refine Run.seq ?_
      refine Run.region hL hT [] (by cbv) ?_ ?_
      · exact hq0
      refine Run.ret ?_
      cases h
      refine ⟨_, _, by cbv, ?_, ?_⟩
      · exact LLe.r
      · exact (ALe.v LLe.r ALe.nil)

theorem impl_asker_cond_ac {a0v_words : List ByteArray} {a0v_bad : Bool} {r : asker × Cond} (h : impl_asker_cond.f (asker.mk a0v_words a0v_bad) = some r) : AC Tryd.prog 85 [.v (.bx 79 [.im true (rowsOf Str_c a0v_words), .s (.bool a0v_bad)])] [.v (.bx 79 [.im true (rowsOf Str_c r.1.words), .s (.bool r.1.bad)])] [.ag [.s (.int .i64 r.2.Col), .s (.int .i64 r.2.Op), .s (.int .i64 r.2.V)]] := by
  unfold impl_asker_cond.f at h
  let eStr_c := rowsOf Str_c
  show AC Tryd.prog 85 [.v (.bx 79 [.im true (eStr_c a0v_words), .s (.bool a0v_bad)])] _ _
  refine run3 Tryd.func85 (by rfl) (by rfl) (by cbv) ⟨by decide, rfl⟩ ?_
  intro ar cm bo sc sa sx ss sl bs sb ln sr ap up rp fr ge le lt nz mm ma sm fl al ci hL F hP hA hT hM hC
  refine Run.seq ?_
  refine Run.region hL hT [] (by cbv) ?_ ?_
  · exact hq0
  refine Run.seq ?_
  refine Run.region hL hT [] (by cbv) ?_ ?_
  · exact (hq trivial hq0)
  refine Run.seq ?_
  obtain ⟨⟨⟨r1v_1v_words, r1v_1v_bad⟩, r1v_2⟩, h_r1, h⟩ := bnd h
  refine Run.region hL hT [(1, .call [true] [.v (.bx 79 [.im true (eStr_c r1v_1v_words), .s (.bool r1v_1v_bad)])] [.v (.s (.int .i64 r1v_2))])] (by cbv) ?_ ?_
  · exact (hq (hC (impl_asker_number_ac h_r1)) (hq trivial hq0))
  obtain ⟨K5, h_K5, h⟩ := joinE h
  refine Run.join3 K5 (r := r) (fun (y2 : List ByteArray) (y3 : Bool) (y4 : Int) => ⟨28, 100000, [(0, .pt 0 0 0), (2, .pt 1 0 0), (3, .pt 2 0 0)], [(0, .box 79 [.t (.im true (eStr_c y2)), .t (.s (.bool y3))]), (1, .box 65 [.t (.s (.int .i64 0)), .t (.s (.int .i64 0)), .t (.s (.int .i64 0))]), (2, .box 65 [.t (.s (.int .i64 r1v_2)), .t (.s (.int .i64 y4)), .t (.s (.int .i64 0))])]⟩) ?_ ?_
  · skip
    refine Run.seq ?_
    refine Run.region hL hT [] (by cbv) ?_ ?_
    · exact hq0
    refine Run.block ?_
    refine Run.loop3 (fun (z15 : List ByteArray) (z16 : Bool) (z17 : Int) => ⟨28, 100000, [(0, .pt 0 0 0), (2, .pt 1 0 0), (3, .pt 2 0 0), (10, .t (.s (.int .i64 z17)))], [(0, .box 79 [.t (.im true (eStr_c z15)), .t (.s (.bool z16))]), (1, .box 65 [.t (.s (.int .i64 0)), .t (.s (.int .i64 0)), .t (.s (.int .i64 0))]), (2, .box 65 [.t (.s (.int .i64 r1v_2)), .t (.s (.int .i64 0)), .t (.s (.int .i64 0))])]⟩) (x0 := r1v_1v_words) (x1 := r1v_1v_bad) (x2 := 0) h (Weak.of _ [(0, 0), (1, 1), (2, 4098)] hA (by cbv) ?_) (fun _ _ _ => rfl) ?_
    · repeat (first | exact hq0 | refine hq (by first | exact True.intro | rfl) ?_)
    · intro k z15 z16 z17 h
      rw [impl_asker_cond.l0] at h
      refine Run.seq ?_
      refine Run.region hL hT [] (by cbv) ?_ ?_
      · exact (hq trivial hq0)
      refine Run.seq ?_
      refine Run.cond (by cbv) (hq0) (fun c18 => ?_) (fun c18 => ?_)
      · have h := if_t c18 h
        refine Run.skip ?_
        refine Run.seq ?_
        refine Run.block ?_
        refine Run.seq ?_
        refine Run.region hL hT [] (by cbv) ?_ ?_
        · exact hq0
        refine Run.seq ?_
        obtain ⟨u19, h_u19, h⟩ := bnd h
        obtain ⟨⟨⟨r20v_1v_words, r20v_1v_bad⟩, r20v_2⟩, h_r20, h⟩ := bnd h
        refine Run.region hL hT [(5, .call [true, false] [.v (.bx 79 [.im true (eStr_c r20v_1v_words), .s (.bool r20v_1v_bad)]), .v (.jk)] [.v (.s (.bool r20v_2))])] (by cbv) ?_ ?_
        · exact (hq trivial (hq (cutS_0 h_u19) (hq (cutS_1 h_u19) (hq (cutS_2 h_u19) (hq (hC (impl_asker_take_ac h_r20)) hq0)))))
        refine Run.seq ?_
        refine Run.region hL hT [] (by cbv) ?_ ?_
        · exact hq0
        refine Run.cond (by cbv) (hq0) (fun c21 => ?_) (fun c21 => ?_)
        · have h := if_t c21 h
          refine Run.seq ?_
          refine Run.region hL hT [] (by cbv) ?_ ?_
          · exact (hq trivial (hq trivial hq0))
          refine Run.exit ?_
          refine ⟨r20v_1v_words, r20v_1v_bad, (ar .add .i64 z17 1), h, Weak.of _ [(0, 0), (1, 1), (2, 2)] hA (by cbv) ?_⟩
          repeat (first | exact hq0 | refine hq (by first | exact True.intro | rfl) ?_)
        · have h := if_f c21 h
          refine Run.skip ?_
          refine Run.region hL hT [] (by cbv) ?_ ?_
          · exact (hq trivial hq0)
          refine ⟨r20v_1v_words, r20v_1v_bad, (ar .add .i64 z17 1), h, Weak.of _ [(0, 0), (1, 1), (2, 2)] hA (by cbv) ?_⟩
          repeat (first | exact hq0 | refine hq (by first | exact True.intro | rfl) ?_)
      · have h := if_f c18 h
        refine Run.exit ?_
        refine ⟨z15, z16, 0, h, Weak.of _ [(0, 0), (1, 1), (2, 2)] hA (by cbv) ?_⟩
        repeat (first | exact hq0 | refine hq (by first | exact True.intro | rfl) ?_)
  · intro y2 y3 y4 h
    rw [h_K5] at h
    refine Run.seq ?_
    obtain ⟨⟨⟨r22v_1v_words, r22v_1v_bad⟩, r22v_2⟩, h_r22, h⟩ := bnd h
    refine Run.region hL hT [(1, .call [true] [.v (.bx 79 [.im true (eStr_c r22v_1v_words), .s (.bool r22v_1v_bad)])] [.v (.s (.int .i64 r22v_2))])] (by cbv) ?_ ?_
    · exact (hq (hC (impl_asker_number_ac h_r22)) (hq trivial hq0))
    refine Run.seq ?_
    refine Run.region hL hT [] (by cbv) ?_ ?_
    · exact (hq trivial (hq trivial hq0))
    refine Run.ret ?_
    cases h
    refine ⟨_, _, by cbv, ?_, ?_⟩
    · exact LLe.r
    · exact (ALe.ag rfl LLe.r ALe.nil)

theorem impl_asker_query_ac {a0v_words : List ByteArray} {a0v_bad : Bool} {r : asker × Query} (h : impl_asker_query.f (asker.mk a0v_words a0v_bad) = some r) : AC Tryd.prog 45 [.v (.bx 79 [.im true (rowsOf Str_c a0v_words), .s (.bool a0v_bad)])] [.v (.bx 79 [.im true (rowsOf Str_c r.1.words), .s (.bool r.1.bad)])] [.ag [.s (.int .i64 r.2.Table), .ow 65 (rowsOf Cond_c r.2.Where), .s (.int .i64 r.2.Order), .s (.bool r.2.Down), .s (.int .i64 r.2.First), .ow 3 (rowsOf Int_c r.2.Show), .s (.bool r.2.Kids), .s (.int .i64 r.2.KidTable), .s (.int .i64 r.2.KidCol)]] := by
  unfold impl_asker_query.f at h
  let eCond_c := rowsOf Cond_c
  let eInt_c := rowsOf Int_c
  let eStr_c := rowsOf Str_c
  show AC Tryd.prog 45 [.v (.bx 79 [.im true (eStr_c a0v_words), .s (.bool a0v_bad)])] _ _
  refine run3 Tryd.func45 (by rfl) (by rfl) (by cbv) ⟨by decide, rfl⟩ ?_
  intro ar cm bo sc sa sx ss sl bs sb ln sr ap up rp fr ge le lt nz mm ma sm fl al ci hL F hP hA hT hM hC
  refine Run.seq ?_
  refine Run.region hL hT [] (by cbv) ?_ ?_
  · exact hq0
  refine Run.seq ?_
  refine Run.region hL hT [] (by cbv) ?_ ?_
  · exact (hq trivial hq0)
  refine Run.seq ?_
  obtain ⟨⟨⟨r1v_1v_words, r1v_1v_bad⟩, r1v_2⟩, h_r1, h⟩ := bnd h
  refine Run.region hL hT [(2, .call [true, false] [.v (.bx 79 [.im true (eStr_c r1v_1v_words), .s (.bool r1v_1v_bad)]), .v (.jk)] [.v (.s (.bool r1v_2))])] (by cbv) ?_ ?_
  · exact (hq (hC (impl_asker_take_ac h_r1)) (hq trivial hq0))
  refine Run.seq ?_
  obtain ⟨⟨⟨r2v_1v_words, r2v_1v_bad⟩, r2v_2⟩, h_r2, h⟩ := bnd h
  refine Run.region hL hT [(1, .call [true] [.v (.bx 79 [.im true (eStr_c r2v_1v_words), .s (.bool r2v_1v_bad)])] [.v (.s (.int .i64 r2v_2))])] (by cbv) ?_ ?_
  · exact (hq (hC (impl_asker_number_ac h_r2)) (hq trivial hq0))
  obtain ⟨K6, h_K6, h⟩ := joinE h
  refine Run.join3 K6 (r := r) (fun (y3 : List ByteArray) (y4 : Bool) (y5 : List Cond) => ⟨69, 100000, [(0, .pt 0 0 0), (2, .pt 1 0 0), (3, .pt 2 0 0)], [(0, .box 79 [.t (.im true (eStr_c y3)), .t (.s (.bool y4))]), (1, .box 35 [.t (.s (.int .i64 0)), .t (.s (.slice none 0 0)), .t (.s (.int .i64 0)), .t (.s (.bool false)), .t (.s (.int .i64 0)), .t (.s (.slice none 0 0)), .t (.s (.bool false)), .t (.s (.int .i64 0)), .t (.s (.int .i64 0))]), (2, .box 35 [.t (.s (.int .i64 r2v_2)), .rf 3, .t (.s (.int .i64 0)), .t (.s (.bool false)), .t (.s (.int .i64 0)), .t (.s (.slice none 0 0)), .t (.s (.bool false)), .t (.s (.int .i64 0)), .t (.s (.int .i64 0))]), (3, .row 0 65 3 (eCond_c y5))]⟩) ?_ ?_
  · skip
    refine Run.block ?_
    refine Run.loop3 (fun (z40 : List ByteArray) (z41 : Bool) (z42 : List Cond) => ⟨69, 100000, [(0, .pt 0 0 0), (2, .pt 1 0 0), (3, .pt 2 0 0)], [(0, .box 79 [.t (.im true (eStr_c z40)), .t (.s (.bool z41))]), (1, .box 35 [.t (.s (.int .i64 0)), .t (.s (.slice none 0 0)), .t (.s (.int .i64 0)), .t (.s (.bool false)), .t (.s (.int .i64 0)), .t (.s (.slice none 0 0)), .t (.s (.bool false)), .t (.s (.int .i64 0)), .t (.s (.int .i64 0))]), (2, .box 35 [.t (.s (.int .i64 r2v_2)), .rf 3, .t (.s (.int .i64 0)), .t (.s (.bool false)), .t (.s (.int .i64 0)), .t (.s (.slice none 0 0)), .t (.s (.bool false)), .t (.s (.int .i64 0)), .t (.s (.int .i64 0))]), (3, .row 0 65 3 (eCond_c z42))]⟩) (x0 := r2v_1v_words) (x1 := r2v_1v_bad) (x2 := []) h ((Weak.nilB (l := [.t (.s (.int .i64 r2v_2))]) hT 4098 1 17385 65 rfl (by cbv) (by cbv) (by cbv)).trans (Weak.of _ [(0, 0), (1, 1), (2, 4098), (3, 17385)] hA (by cbv) ?_)) (fun _ _ _ => rfl) ?_
    · repeat (first | exact hq0 | refine hq (by first | exact True.intro | rfl) ?_)
    · intro k z40 z41 z42 h
      rw [impl_asker_query.l0] at h
      refine Run.seq ?_
      refine Run.seq ?_
      by_cases hk43 : (bo z41 false true) = true
      · have h := if_t hk43 h
        obtain ⟨⟨⟨r44v_1v_words, r44v_1v_bad⟩, r44v_2⟩, h_r44, h⟩ := bnd h
        refine Run.region hL hT [(6, .on0), (7, .on1 (.call [true, false] [.v (.bx 79 [.im true (eStr_c r44v_1v_words), .s (.bool r44v_1v_bad)]), .v (.jk)] [.v (.s (.bool r44v_2))]))] (by cbv) ?_ ?_
        · exact (hq trivial (hq hk43 (hq hk43 (hq hk43 (hq (hC (impl_asker_take_ac h_r44)) (hq (fun q45 => (hq q45 hq0)) (hq (fun _ => hq0) hq0)))))))
        refine Run.cond (by cbv) (hq0) (fun c47 => ?_) (fun c47 => ?_)
        · have h := if_t c47 h
          refine Run.skip ?_
          refine Run.block ?_
          refine Run.seq ?_
          obtain ⟨⟨⟨r48v_1v_words, r48v_1v_bad⟩, ⟨r48v_2v_Col, r48v_2v_Op, r48v_2v_V⟩⟩, h_r48, h⟩ := bnd h
          refine Run.region hL hT [(1, .call [true] [.v (.bx 79 [.im true (eStr_c r48v_1v_words), .s (.bool r48v_1v_bad)])] [.ag [.s (.int .i64 r48v_2v_Col), .s (.int .i64 r48v_2v_Op), .s (.int .i64 r48v_2v_V)]])] (by cbv) ?_ ?_
          · exact (hq (hC (impl_asker_cond_ac h_r48)) (hq trivial hq0))
          obtain ⟨l49, h_l49, h⟩ := bnd h
          obtain ⟨l50, h_l50, h⟩ := bnd h
          refine Run.region hL hT [] (by cbv) ?_ ?_
          · exact (hq trivial (hq trivial (hq (app_mb (P := Tryd.prog) (f := Cond_c) RLe.r (some_le (f := Cond_c) h_l49 (RLe.cons rfl LLe.r RLe.nil)) h_l50) (hq trivial hq0))))
          refine ⟨r48v_1v_words, r48v_1v_bad, l50, h, (Weak.row (rows := (ap (eCond_c z42) ([[.s (.int .i64 r48v_2v_Col), .s (.int .i64 r48v_2v_Op), .s (.int .i64 r48v_2v_V)]]))) 108196 (eCond_c l50) (by cbv) (app_le (f := Cond_c) RLe.r (some_le (f := Cond_c) h_l49 (RLe.cons rfl LLe.r RLe.nil)) h_l50)).trans (Weak.of _ [(0, 0), (1, 1), (2, 2), (3, 108196)] hA (by cbv) ?_)⟩
          repeat (first | exact hq0 | refine hq (by first | exact True.intro | rfl) ?_)
        · have h := if_f c47 h
          refine Run.exit ?_
          refine ⟨r44v_1v_words, r44v_1v_bad, z42, h, Weak.of _ [(0, 0), (1, 1), (2, 2), (3, 3)] hA (by cbv) ?_⟩
          repeat (first | exact hq0 | refine hq (by first | exact True.intro | rfl) ?_)
      · rw [Bool.not_eq_true] at hk43
        have h := if_f hk43 h
        refine Run.region hL hT [(6, .off (.pt 0 0 0)), (7, .off (.t (.s (.bool false))))] (by cbv) ?_ ?_
        · exact (hq trivial (hq hk43 (hq hk43 (hq (fun q51 => (hq q51 hq0)) (hq (fun _ => hq0) hq0)))))
        refine Run.cond (by cbv) (hq0) (fun c53 => ?_) (fun c53 => ?_)
        · have h := if_t c53 h
          refine Run.skip ?_
          refine Run.block ?_
          refine Run.seq ?_
          obtain ⟨⟨⟨r54v_1v_words, r54v_1v_bad⟩, ⟨r54v_2v_Col, r54v_2v_Op, r54v_2v_V⟩⟩, h_r54, h⟩ := bnd h
          refine Run.region hL hT [(1, .call [true] [.v (.bx 79 [.im true (eStr_c r54v_1v_words), .s (.bool r54v_1v_bad)])] [.ag [.s (.int .i64 r54v_2v_Col), .s (.int .i64 r54v_2v_Op), .s (.int .i64 r54v_2v_V)]])] (by cbv) ?_ ?_
          · exact (hq (hC (impl_asker_cond_ac h_r54)) (hq trivial hq0))
          obtain ⟨l55, h_l55, h⟩ := bnd h
          obtain ⟨l56, h_l56, h⟩ := bnd h
          refine Run.region hL hT [] (by cbv) ?_ ?_
          · exact (hq trivial (hq trivial (hq (app_mb (P := Tryd.prog) (f := Cond_c) RLe.r (some_le (f := Cond_c) h_l55 (RLe.cons rfl LLe.r RLe.nil)) h_l56) (hq trivial hq0))))
          refine ⟨r54v_1v_words, r54v_1v_bad, l56, h, (Weak.row (rows := (ap (eCond_c z42) ([[.s (.int .i64 r54v_2v_Col), .s (.int .i64 r54v_2v_Op), .s (.int .i64 r54v_2v_V)]]))) 108196 (eCond_c l56) (by cbv) (app_le (f := Cond_c) RLe.r (some_le (f := Cond_c) h_l55 (RLe.cons rfl LLe.r RLe.nil)) h_l56)).trans (Weak.of _ [(0, 0), (1, 1), (2, 2), (3, 108196)] hA (by cbv) ?_)⟩
          repeat (first | exact hq0 | refine hq (by first | exact True.intro | rfl) ?_)
        · have h := if_f c53 h
          refine Run.exit ?_
          refine ⟨z40, z41, z42, h, Weak.of _ [(0, 0), (1, 1), (2, 2), (3, 3)] hA (by cbv) ?_⟩
          repeat (first | exact hq0 | refine hq (by first | exact True.intro | rfl) ?_)
  · intro y3 y4 y5 h
    rw [h_K6] at h
    obtain ⟨K61, h_K61, h⟩ := joinE h
    refine Run.join4 K61 (r := r) (fun (y57 : List ByteArray) (y58 : Bool) (y59 : Int) (y60 : Bool) => ⟨69, 100000, [(0, .pt 0 0 0), (2, .pt 1 0 0), (3, .pt 2 0 0)], [(0, .box 79 [.t (.im true (eStr_c y57)), .t (.s (.bool y58))]), (1, .box 35 [.t (.s (.int .i64 0)), .t (.s (.slice none 0 0)), .t (.s (.int .i64 0)), .t (.s (.bool false)), .t (.s (.int .i64 0)), .t (.s (.slice none 0 0)), .t (.s (.bool false)), .t (.s (.int .i64 0)), .t (.s (.int .i64 0))]), (2, .box 35 [.t (.s (.int .i64 r2v_2)), .rf 3, .t (.s (.int .i64 y59)), .t (.s (.bool y60)), .t (.s (.int .i64 0)), .t (.s (.slice none 0 0)), .t (.s (.bool false)), .t (.s (.int .i64 0)), .t (.s (.int .i64 0))]), (3, .row 0 65 3 (eCond_c y5))]⟩) ?_ ?_
    · skip
      refine Run.seq ?_
      obtain ⟨⟨⟨r62v_1v_words, r62v_1v_bad⟩, r62v_2⟩, h_r62, h⟩ := bnd h
      refine Run.region hL hT [(1, .call [true, false] [.v (.bx 79 [.im true (eStr_c r62v_1v_words), .s (.bool r62v_1v_bad)]), .v (.jk)] [.v (.s (.bool r62v_2))])] (by cbv) ?_ ?_
      · exact (hq (hC (impl_asker_take_ac h_r62)) hq0)
      refine Run.cond (by cbv) (hq0) (fun c63 => ?_) (fun c63 => ?_)
      · have h := if_t c63 h
        refine Run.seq ?_
        obtain ⟨⟨⟨r64v_1v_words, r64v_1v_bad⟩, r64v_2⟩, h_r64, h⟩ := bnd h
        refine Run.region hL hT [(1, .call [true] [.v (.bx 79 [.im true (eStr_c r64v_1v_words), .s (.bool r64v_1v_bad)])] [.v (.s (.int .i64 r64v_2))])] (by cbv) ?_ ?_
        · exact (hq (hC (impl_asker_number_ac h_r64)) (hq trivial (hq trivial hq0)))
        obtain ⟨⟨⟨r65v_1v_words, r65v_1v_bad⟩, r65v_2⟩, h_r65, h⟩ := bnd h
        refine Run.region hL hT [(1, .call [true, false] [.v (.bx 79 [.im true (eStr_c r65v_1v_words), .s (.bool r65v_1v_bad)]), .v (.jk)] [.v (.s (.bool r65v_2))])] (by cbv) ?_ ?_
        · exact (hq (hC (impl_asker_take_ac h_r65)) (hq trivial hq0))
        refine ⟨r65v_1v_words, r65v_1v_bad, (ar .add .i64 r64v_2 1), r65v_2, h, Weak.of _ [(0, 0), (1, 1), (2, 2), (3, 3)] hA (by cbv) ?_⟩
        repeat (first | exact hq0 | refine hq (by first | exact True.intro | rfl) ?_)
      · have h := if_f c63 h
        refine Run.skip ?_
        refine ⟨r62v_1v_words, r62v_1v_bad, 0, false, h, Weak.of _ [(0, 0), (1, 1), (2, 2), (3, 3)] hA (by cbv) ?_⟩
        repeat (first | exact hq0 | refine hq (by first | exact True.intro | rfl) ?_)
    · intro y57 y58 y59 y60 h
      rw [h_K61] at h
      obtain ⟨K69, h_K69, h⟩ := joinE h
      refine Run.join3 K69 (r := r) (fun (y66 : List ByteArray) (y67 : Bool) (y68 : Int) => ⟨69, 100000, [(0, .pt 0 0 0), (2, .pt 1 0 0), (3, .pt 2 0 0)], [(0, .box 79 [.t (.im true (eStr_c y66)), .t (.s (.bool y67))]), (1, .box 35 [.t (.s (.int .i64 0)), .t (.s (.slice none 0 0)), .t (.s (.int .i64 0)), .t (.s (.bool false)), .t (.s (.int .i64 0)), .t (.s (.slice none 0 0)), .t (.s (.bool false)), .t (.s (.int .i64 0)), .t (.s (.int .i64 0))]), (2, .box 35 [.t (.s (.int .i64 r2v_2)), .rf 3, .t (.s (.int .i64 y59)), .t (.s (.bool y60)), .t (.s (.int .i64 y68)), .t (.s (.slice none 0 0)), .t (.s (.bool false)), .t (.s (.int .i64 0)), .t (.s (.int .i64 0))]), (3, .row 0 65 3 (eCond_c y5))]⟩) ?_ ?_
      · skip
        refine Run.seq ?_
        obtain ⟨⟨⟨r70v_1v_words, r70v_1v_bad⟩, r70v_2⟩, h_r70, h⟩ := bnd h
        refine Run.region hL hT [(1, .call [true, false] [.v (.bx 79 [.im true (eStr_c r70v_1v_words), .s (.bool r70v_1v_bad)]), .v (.jk)] [.v (.s (.bool r70v_2))])] (by cbv) ?_ ?_
        · exact (hq (hC (impl_asker_take_ac h_r70)) hq0)
        refine Run.cond (by cbv) (hq0) (fun c71 => ?_) (fun c71 => ?_)
        · have h := if_t c71 h
          obtain ⟨⟨⟨r72v_1v_words, r72v_1v_bad⟩, r72v_2⟩, h_r72, h⟩ := bnd h
          refine Run.region hL hT [(1, .call [true] [.v (.bx 79 [.im true (eStr_c r72v_1v_words), .s (.bool r72v_1v_bad)])] [.v (.s (.int .i64 r72v_2))])] (by cbv) ?_ ?_
          · exact (hq (hC (impl_asker_number_ac h_r72)) (hq trivial hq0))
          refine ⟨r72v_1v_words, r72v_1v_bad, r72v_2, h, Weak.of _ [(0, 0), (1, 1), (2, 2), (3, 3)] hA (by cbv) ?_⟩
          repeat (first | exact hq0 | refine hq (by first | exact True.intro | rfl) ?_)
        · have h := if_f c71 h
          refine Run.skip ?_
          refine ⟨r70v_1v_words, r70v_1v_bad, 0, h, Weak.of _ [(0, 0), (1, 1), (2, 2), (3, 3)] hA (by cbv) ?_⟩
          repeat (first | exact hq0 | refine hq (by first | exact True.intro | rfl) ?_)
      · intro y66 y67 y68 h
        rw [h_K69] at h
        obtain ⟨K76, h_K76, h⟩ := joinE h
        refine Run.join3 K76 (r := r) (fun (y73 : List ByteArray) (y74 : Bool) (y75 : List Int) => ⟨69, 100000, [(0, .pt 0 0 0), (2, .pt 1 0 0), (3, .pt 2 0 0)], [(0, .box 79 [.t (.im true (eStr_c y73)), .t (.s (.bool y74))]), (1, .box 35 [.t (.s (.int .i64 0)), .t (.s (.slice none 0 0)), .t (.s (.int .i64 0)), .t (.s (.bool false)), .t (.s (.int .i64 0)), .t (.s (.slice none 0 0)), .t (.s (.bool false)), .t (.s (.int .i64 0)), .t (.s (.int .i64 0))]), (2, .box 35 [.t (.s (.int .i64 r2v_2)), .rf 3, .t (.s (.int .i64 y59)), .t (.s (.bool y60)), .t (.s (.int .i64 y68)), .rf 4, .t (.s (.bool false)), .t (.s (.int .i64 0)), .t (.s (.int .i64 0))]), (3, .row 0 65 3 (eCond_c y5)), (4, .row 0 3 1 (eInt_c y75))]⟩) ?_ ?_
        · skip
          refine Run.seq ?_
          obtain ⟨⟨⟨r77v_1v_words, r77v_1v_bad⟩, r77v_2⟩, h_r77, h⟩ := bnd h
          refine Run.region hL hT [(1, .call [true, false] [.v (.bx 79 [.im true (eStr_c r77v_1v_words), .s (.bool r77v_1v_bad)]), .v (.jk)] [.v (.s (.bool r77v_2))])] (by cbv) ?_ ?_
          · exact (hq (hC (impl_asker_take_ac h_r77)) hq0)
          refine Run.cond (by cbv) (hq0) (fun c78 => ?_) (fun c78 => ?_)
          · have h := if_t c78 h
            refine Run.block ?_
            refine Run.loop3 (fun (z114 : List ByteArray) (z115 : Bool) (z116 : List Int) => ⟨69, 100000, [(0, .pt 0 0 0), (2, .pt 1 0 0), (3, .pt 2 0 0)], [(0, .box 79 [.t (.im true (eStr_c z114)), .t (.s (.bool z115))]), (1, .box 35 [.t (.s (.int .i64 0)), .t (.s (.slice none 0 0)), .t (.s (.int .i64 0)), .t (.s (.bool false)), .t (.s (.int .i64 0)), .t (.s (.slice none 0 0)), .t (.s (.bool false)), .t (.s (.int .i64 0)), .t (.s (.int .i64 0))]), (2, .box 35 [.t (.s (.int .i64 r2v_2)), .rf 3, .t (.s (.int .i64 y59)), .t (.s (.bool y60)), .t (.s (.int .i64 y68)), .rf 4, .t (.s (.bool false)), .t (.s (.int .i64 0)), .t (.s (.int .i64 0))]), (3, .row 0 65 3 (eCond_c y5)), (4, .row 0 3 1 (eInt_c z116))]⟩) (x0 := r77v_1v_words) (x1 := r77v_1v_bad) (x2 := []) h ((Weak.nilB (l := [.t (.s (.int .i64 r2v_2)), .rf 3, .t (.s (.int .i64 y59)), .t (.s (.bool y60)), .t (.s (.int .i64 y68))]) hT 2 5 105096 3 rfl (by cbv) (by cbv) (by cbv)).trans (Weak.of _ [(0, 0), (1, 1), (2, 2), (3, 3), (4, 105096)] hA (by cbv) ?_)) (fun _ _ _ => rfl) ?_
            · repeat (first | exact hq0 | refine hq (by first | exact True.intro | rfl) ?_)
            · intro k z114 z115 z116 h
              rw [impl_asker_query.l1] at h
              refine Run.seq ?_
              refine Run.seq ?_
              obtain ⟨r117, h_r117, h⟩ := bnd h
              refine Run.region hL hT [(1, .call [false] [.v (.jk)] [.v (.s (.bool r117))])] (by cbv) ?_ ?_
              · exact (hq (hC (impl_asker_isNumber_ac h_r117)) hq0)
              refine Run.cond (by cbv) (hq0) (fun c118 => ?_) (fun c118 => ?_)
              · have h := if_t c118 h
                refine Run.skip ?_
                refine Run.block ?_
                refine Run.seq ?_
                obtain ⟨⟨⟨r119v_1v_words, r119v_1v_bad⟩, r119v_2⟩, h_r119, h⟩ := bnd h
                refine Run.region hL hT [(1, .call [true] [.v (.bx 79 [.im true (eStr_c r119v_1v_words), .s (.bool r119v_1v_bad)])] [.v (.s (.int .i64 r119v_2))])] (by cbv) ?_ ?_
                · exact (hq (hC (impl_asker_number_ac h_r119)) hq0)
                obtain ⟨l120, h_l120, h⟩ := bnd h
                obtain ⟨l121, h_l121, h⟩ := bnd h
                refine Run.region hL hT [] (by cbv) ?_ ?_
                · exact (hq trivial (hq (app_mb (P := Tryd.prog) (f := Int_c) RLe.r (some_le (f := Int_c) h_l120 (RLe.cons rfl LLe.r RLe.nil)) h_l121) (hq trivial hq0)))
                refine ⟨r119v_1v_words, r119v_1v_bad, l121, h, (Weak.row (rows := (ap (eInt_c z116) ([[.s (.int .i64 r119v_2)]]))) 108196 (eInt_c l121) (by cbv) (app_le (f := Int_c) RLe.r (some_le (f := Int_c) h_l120 (RLe.cons rfl LLe.r RLe.nil)) h_l121)).trans (Weak.of _ [(0, 0), (1, 1), (2, 2), (3, 3), (4, 108196)] hA (by cbv) ?_)⟩
                repeat (first | exact hq0 | refine hq (by first | exact True.intro | rfl) ?_)
              · have h := if_f c118 h
                refine Run.exit ?_
                refine ⟨z114, z115, z116, h, Weak.of _ [(0, 0), (1, 1), (2, 2), (3, 3), (4, 4)] hA (by cbv) ?_⟩
                repeat (first | exact hq0 | refine hq (by first | exact True.intro | rfl) ?_)
          · have h := if_f c78 h
            refine Run.skip ?_
            refine ⟨r77v_1v_words, r77v_1v_bad, [], h, (Weak.nilB (l := [.t (.s (.int .i64 r2v_2)), .rf 3, .t (.s (.int .i64 y59)), .t (.s (.bool y60)), .t (.s (.int .i64 y68))]) hT 2 5 105096 3 rfl (by cbv) (by cbv) (by cbv)).trans (Weak.of _ [(0, 0), (1, 1), (2, 2), (3, 3), (4, 105096)] hA (by cbv) ?_)⟩
            repeat (first | exact hq0 | refine hq (by first | exact True.intro | rfl) ?_)
        · intro y73 y74 y75 h
          rw [h_K76] at h
          refine Run.seq ?_
          refine Run.seq ?_
          obtain ⟨⟨⟨r122v_1v_words, r122v_1v_bad⟩, r122v_2⟩, h_r122, h⟩ := bnd h
          refine Run.region hL hT [(1, .call [true, false] [.v (.bx 79 [.im true (eStr_c r122v_1v_words), .s (.bool r122v_1v_bad)]), .v (.jk)] [.v (.s (.bool r122v_2))])] (by cbv) ?_ ?_
          · exact (hq (hC (impl_asker_take_ac h_r122)) hq0)
          refine Run.cond (by cbv) (hq0) (fun c123 => ?_) (fun c123 => ?_)
          · have h := if_t c123 h
            refine Run.seq ?_
            refine Run.region hL hT [] (by cbv) ?_ ?_
            · exact (hq trivial hq0)
            refine Run.seq ?_
            obtain ⟨⟨⟨r124v_1v_words, r124v_1v_bad⟩, r124v_2⟩, h_r124, h⟩ := bnd h
            refine Run.region hL hT [(1, .call [true] [.v (.bx 79 [.im true (eStr_c r124v_1v_words), .s (.bool r124v_1v_bad)])] [.v (.s (.int .i64 r124v_2))])] (by cbv) ?_ ?_
            · exact (hq (hC (impl_asker_number_ac h_r124)) (hq trivial hq0))
            obtain ⟨⟨⟨r125v_1v_words, r125v_1v_bad⟩, r125v_2⟩, h_r125, h⟩ := bnd h
            refine Run.region hL hT [(1, .call [true] [.v (.bx 79 [.im true (eStr_c r125v_1v_words), .s (.bool r125v_1v_bad)])] [.v (.s (.int .i64 r125v_2))])] (by cbv) ?_ ?_
            · exact (hq (hC (impl_asker_number_ac h_r125)) (hq trivial hq0))
            refine Run.seq ?_
            refine Run.region hL hT [] (by cbv) ?_ ?_
            · exact (hq trivial (hq trivial hq0))
            refine Run.ret ?_
            cases h
            refine ⟨_, _, by cbv, ?_, ?_⟩
            · exact LLe.r
            · exact (ALe.ag rfl LLe.r ALe.nil)
          · have h := if_f c123 h
            refine Run.skip ?_
            refine Run.seq ?_
            refine Run.region hL hT [] (by cbv) ?_ ?_
            · exact (hq trivial (hq trivial hq0))
            refine Run.ret ?_
            cases h
            refine ⟨_, _, by cbv, ?_, ?_⟩
            · exact LLe.r
            · exact (ALe.ag rfl LLe.r ALe.nil)

theorem impl_QueryRead_ac {a0v_Cols : List Int} {a1 : ByteArray} {r : Query × Bool} (h : impl_QueryRead.f (Schema.mk a0v_Cols) a1 = some r) : AC Tryd.prog 16 [.ag [.im false (rowsOf Int_c a0v_Cols)], .v (.s (.string a1))] [.ag [.jk], .v (.jk)] [.ag [.s (.int .i64 r.1.Table), .ow 65 (rowsOf Cond_c r.1.Where), .s (.int .i64 r.1.Order), .s (.bool r.1.Down), .s (.int .i64 r.1.First), .ow 3 (rowsOf Int_c r.1.Show), .s (.bool r.1.Kids), .s (.int .i64 r.1.KidTable), .s (.int .i64 r.1.KidCol)], .v (.s (.bool r.2))] := by
  unfold impl_QueryRead.f at h
  let eCond_c := rowsOf Cond_c
  let eInt_c := rowsOf Int_c
  let eStr_c := rowsOf Str_c
  let lenI_Str := @lenI ByteArray
  show AC Tryd.prog 16 [.ag [.im false (eInt_c a0v_Cols)], .v (.s (.string a1))] _ _
  refine run3 Tryd.func16 (by rfl) (by rfl) (by cbv) ⟨by decide, rfl⟩ ?_
  intro ar cm bo sc sa sx ss sl bs sb ln sr ap up rp fr ge le lt nz mm ma sm fl al ci hL F hP hA hT hM hC
  refine Run.seq ?_
  refine Run.region hL hT [] (by cbv) ?_ ?_
  · exact hq0
  refine Run.seq ?_
  obtain ⟨r1, h_r1, h⟩ := bnd h
  refine Run.region hL hT [(1, .call [false, false] [.v (.jk), .v (.jk)] [.v (.ow 9 (eStr_c r1))])] (by cbv) ?_ ?_
  · exact (hq (hC (strings_Split_ac h_r1)) hq0)
  refine Run.seq ?_
  refine Run.weak ?_ (Weak.keep (rows := eStr_c r1) 4097 (by cbv) (eStr_c r1) (fr_row Str_c_z _))
  obtain ⟨⟨⟨r2v_1v_words, r2v_1v_bad⟩, ⟨r2v_2v_Table, r2v_2v_Where, r2v_2v_Order, r2v_2v_Down, r2v_2v_First, r2v_2v_Show, r2v_2v_Kids, r2v_2v_KidTable, r2v_2v_KidCol⟩⟩, h_r2, h⟩ := bnd h
  refine Run.region hL hT [(1, .call [true] [.v (.bx 79 [.im true (eStr_c r2v_1v_words), .s (.bool r2v_1v_bad)])] [.ag [.s (.int .i64 r2v_2v_Table), .ow 65 (eCond_c r2v_2v_Where), .s (.int .i64 r2v_2v_Order), .s (.bool r2v_2v_Down), .s (.int .i64 r2v_2v_First), .ow 3 (eInt_c r2v_2v_Show), .s (.bool r2v_2v_Kids), .s (.int .i64 r2v_2v_KidTable), .s (.int .i64 r2v_2v_KidCol)]])] (by cbv) ?_ ?_
  · exact (hq (hC (impl_asker_query_ac h_r2)) (hq trivial hq0))
  refine Run.seq ?_
  refine Run.seq ?_
  obtain ⟨r3, h_r3, h⟩ := bnd h
  obtain ⟨r4, h_r4, h⟩ := bnd h
  refine Run.region hL hT [(15, .call [false, false] [.ag [.jk], .ag [.jk, .jk, .jk, .jk, .jk, .jk, .jk, .jk, .jk]] [.v (.s (.bool r3))]), (21, .call [false, false] [.ag [.jk], .ag [.jk, .jk, .jk, .jk, .jk, .jk, .jk, .jk, .jk]] [.v (.s (.string r4))])] (by cbv) ?_ ?_
  · exact (hq trivial (hq (fun _ => hq0) (hq (fun g6 => (hq g6 hq0)) (hq (fun g7 => (hq g7 hq0)) (hq (fun g8 => (hq g8 (hq trivial hq0))) (hq (fun g9 => (hq g9 hq0)) (hq (fun g10 => (hq g10 (hq trivial hq0))) (hq (fun _ => hq0) (hq (fun q12 => (hq (bo_m q12) hq0)) (hq (fun g13 => (by have g13C := g13; rw [show ln (eStr_c r2v_1v_words) = lenI_Str r2v_1v_words from ln_eq Str_c _] at g13C; exact (hq trivial hq0))) (hq (fun g14 => (by have g14C := g14; rw [show ln (eStr_c r2v_1v_words) = lenI_Str r2v_1v_words from ln_eq Str_c _] at g14C; exact (hq trivial hq0))) (hq (fun g15 => (by have g15C := g15; rw [show ln (eStr_c r2v_1v_words) = lenI_Str r2v_1v_words from ln_eq Str_c _] at g15C; exact (hq g15 (hq g15 (hq (hC (AC.args (impl_QueryOk_ac (gd_t h_r3 g15C)) (ALe.ag rfl LLe.r (ALe.ag rfl (LLe.c (LLe.cons (LLe.im (RLe.eq (fr_row Cond_c_z _))) (LLe.c (LLe.c (LLe.c (LLe.cons (LLe.im (RLe.eq (fr_row Int_c_z _))) (LLe.c (LLe.c (LLe.c LLe.nil))))))))) ALe.nil)))) hq0))))) (hq (fun g16 => (by have g16C := g16; rw [show ln (eStr_c r2v_1v_words) = lenI_Str r2v_1v_words from ln_eq Str_c _] at g16C; exact (hq g16 hq0))) (hq (fun _ => hq0) (hq (fun q18 => (by have q18C := q18; rw [show ln (eStr_c r2v_1v_words) = lenI_Str r2v_1v_words from ln_eq Str_c _] at q18C; exact (hq (bo_m q18) hq0))) (hq (fun g19 => (by have g19C := g19; rw [show ln (eStr_c r2v_1v_words) = lenI_Str r2v_1v_words from ln_eq Str_c _] at g19C; exact (hq trivial hq0))) (hq (fun g20 => (by have g20C := g20; rw [show ln (eStr_c r2v_1v_words) = lenI_Str r2v_1v_words from ln_eq Str_c _] at g20C; exact (hq trivial hq0))) (hq (fun g21 => (by have g21C := g21; rw [show ln (eStr_c r2v_1v_words) = lenI_Str r2v_1v_words from ln_eq Str_c _] at g21C; exact (hq g21 (hq g21 (hq (hC (AC.args (impl_QueryText_ac (gd_t h_r4 g21C)) (ALe.ag rfl LLe.r (ALe.ag rfl (LLe.c (LLe.cons (LLe.im (RLe.eq (fr_row Cond_c_z _))) (LLe.c (LLe.c (LLe.c (LLe.cons (LLe.im (RLe.eq (fr_row Int_c_z _))) (LLe.c (LLe.c (LLe.c LLe.nil))))))))) ALe.nil)))) hq0))))) (hq (fun _ => hq0) (hq (fun g23 => (by have g23C := g23; rw [show ln (eStr_c r2v_1v_words) = lenI_Str r2v_1v_words from ln_eq Str_c _] at g23C; exact (hq g23 (hq g23 hq0)))) (hq (fun _ => hq0) (hq (fun q25 => (by have q25C := q25; rw [show ln (eStr_c r2v_1v_words) = lenI_Str r2v_1v_words from ln_eq Str_c _] at q25C; exact (hq (bo_m q25) hq0))) hq0))))))))))))))))))))))
  rw [show ln (eStr_c r2v_1v_words) = lenI_Str r2v_1v_words from ln_eq Str_c _]
  refine Run.cond (by cbv) (hq0) (fun c26 => ?_) (fun c26 => ?_)
  · have h := if_t c26 h
    refine Run.seq ?_
    refine Run.region hL hT [] (by cbv) ?_ ?_
    · exact (hq trivial hq0)
    refine Run.ret ?_
    cases h
    refine ⟨_, _, by cbv, ?_, ?_⟩
    · exact LLe.r
    · exact (ALe.ag rfl (LLe.c (LLe.cons LLe.nilO (LLe.c (LLe.c (LLe.c (LLe.cons LLe.nilO (LLe.c (LLe.c (LLe.c LLe.nil))))))))) (ALe.v LLe.r ALe.nil))
  · have h := if_f c26 h
    refine Run.skip ?_
    refine Run.seq ?_
    refine Run.region hL hT [] (by cbv) ?_ ?_
    · exact (hq trivial (hq trivial hq0))
    refine Run.ret ?_
    cases h
    refine ⟨_, _, by cbv, ?_, ?_⟩
    · exact LLe.r
    · exact (ALe.ag rfl LLe.r (ALe.v LLe.r ALe.nil))

theorem laws_markIntS_ac {a0 : List Int} {a1 : Int} {r : (List Int) × Int} (h : laws_markIntS.f a0 a1 = some r) : AC Tryd.prog 46 [.v (.ow 3 (rowsOf Int_c a0)), .v (.s (.int .i64 a1))] [.v (.ow 3 (rowsOf Int_c r.1)), .v (.jk)] [.v (.s (.int .i64 r.2))] := by
  unfold laws_markIntS.f at h
  let eInt_c := rowsOf Int_c
  let lenI_Int := @lenI Int
  show AC Tryd.prog 46 [.v (.ow 3 (eInt_c a0)), .v (.s (.int .i64 a1))] _ _
  refine run3 Tryd.func46 (by rfl) (by rfl) (by cbv) ⟨by decide, rfl⟩ ?_
  intro ar cm bo sc sa sx ss sl bs sb ln sr ap up rp fr ge le lt nz mm ma sm fl al ci hL F hP hA hT hM hC
  refine Run.seq ?_
  refine Run.region hL hT [] (by cbv) ?_ ?_
  · exact hq0
  refine Run.seq ?_
  refine Run.seq ?_
  refine Run.region hL hT [] (by cbv) ?_ ?_
  · exact hq0
  refine Run.block ?_
  refine Run.loop3 (fun (z4 : List Int) (z5 : Int) (z6 : Int) => ⟨19, 100000, [(0, .rf 0), (1, .t (.s (.int .i64 z5))), (5, .t (.s (.int .i64 z6)))], [(0, .row 0 3 1 (eInt_c z4))]⟩) (x0 := a0) (x1 := a1) (x2 := 0) h (Weak.of _ [(0, 0)] hA (by cbv) ?_) (fun _ _ _ => rfl) ?_
  · repeat (first | exact hq0 | refine hq (by first | exact True.intro | rfl) ?_)
  · intro k z4 z5 z6 h
    rw [laws_markIntS.l0] at h
    refine Run.seq ?_
    refine Run.seq ?_
    refine Run.region hL hT [] (by cbv) ?_ ?_
    · exact (hq trivial hq0)
    rw [show ln (eInt_c z4) = lenI_Int z4 from ln_eq Int_c _]
    refine Run.cond (by cbv) (hq0) (fun c7 => ?_) (fun c7 => ?_)
    · have h := if_t c7 h
      refine Run.skip ?_
      refine Run.seq ?_
      refine Run.block ?_
      refine Run.seq ?_
      obtain ⟨x8, h_x8, h⟩ := bnd h
      obtain ⟨l9, h_l9, h⟩ := bnd h
      refine Run.region hL hT [] (by cbv) ?_ ?_
      · exact (hq (get_le h_x8) (hq (get_lt (f := Int_c) h_x8) (hq (get_le h_x8) (hq (get_lt (f := Int_c) h_x8) hq0))))
      refine Run.row (rows := (up (eInt_c z4) z6 0 [.s (.int .i64 z5)])) 0 (eInt_c l9) (by cbv) (sto_le (f := Int_c) h_x8 h_l9 rfl LLe.r) ?_
      refine Run.region hL hT [] (by cbv) ?_ ?_
      · exact (hq trivial hq0)
      refine Run.region hL hT [] (by cbv) ?_ ?_
      · exact (hq trivial hq0)
      refine ⟨l9, (ar .add .i64 z5 1), (ar .add .i64 z6 1), h, Weak.of _ [(0, 0)] hA (by cbv) ?_⟩
      repeat (first | exact hq0 | refine hq (by first | exact True.intro | rfl) ?_)
    · have h := if_f c7 h
      refine Run.exit ?_
      refine Run.seq ?_
      refine Run.region hL hT [] (by cbv) ?_ ?_
      · exact hq0
      refine Run.ret ?_
      cases h
      refine ⟨_, _, by cbv, ?_, ?_⟩
      · exact LLe.r
      · exact (ALe.v LLe.r ALe.nil)

theorem laws_markSchema_ac {a0v_Cols : List Int} {a1 : Int} {r : Schema × Int} (h : laws_markSchema.f (Schema.mk a0v_Cols) a1 = some r) : AC Tryd.prog 17 [.ag [.ow 3 (rowsOf Int_c a0v_Cols)], .v (.s (.int .i64 a1))] [.ag [.ow 3 (rowsOf Int_c r.1.Cols)], .v (.jk)] [.v (.s (.int .i64 r.2))] := by
  unfold laws_markSchema.f at h
  let eInt_c := rowsOf Int_c
  show AC Tryd.prog 17 [.ag [.ow 3 (eInt_c a0v_Cols)], .v (.s (.int .i64 a1))] _ _
  refine run3 Tryd.func17 (by rfl) (by rfl) (by cbv) ⟨by decide, rfl⟩ ?_
  intro ar cm bo sc sa sx ss sl bs sb ln sr ap up rp fr ge le lt nz mm ma sm fl al ci hL F hP hA hT hM hC
  refine Run.seq ?_
  refine Run.region hL hT [] (by cbv) ?_ ?_
  · exact hq0
  refine Run.seq ?_
  obtain ⟨⟨r1v_1, r1v_2⟩, h_r1, h⟩ := bnd h
  refine Run.region hL hT [(3, .call [true, false] [.v (.ow 3 (eInt_c r1v_1)), .v (.jk)] [.v (.s (.int .i64 r1v_2))])] (by cbv) ?_ ?_
  · exact (hq trivial (hq (hC (laws_markIntS_ac h_r1)) hq0))
  refine Run.seq ?_
  refine Run.region hL hT [] (by cbv) ?_ ?_
  · exact hq0
  refine Run.ret ?_
  cases h
  refine ⟨_, _, by cbv, ?_, ?_⟩
  · exact LLe.r
  · exact (ALe.v LLe.r ALe.nil)

theorem laws_markCondS_ac {a0 : List Cond} {a1 : Int} {r : (List Cond) × Int} (h : laws_markCondS.f a0 a1 = some r) : AC Tryd.prog 47 [.v (.ow 65 (rowsOf Cond_c a0)), .v (.s (.int .i64 a1))] [.v (.ow 65 (rowsOf Cond_c r.1)), .v (.jk)] [.v (.s (.int .i64 r.2))] := by
  unfold laws_markCondS.f at h
  let eCond_c := rowsOf Cond_c
  let lenI_Cond := @lenI Cond
  show AC Tryd.prog 47 [.v (.ow 65 (eCond_c a0)), .v (.s (.int .i64 a1))] _ _
  refine run3 Tryd.func47 (by rfl) (by rfl) (by cbv) ⟨by decide, rfl⟩ ?_
  intro ar cm bo sc sa sx ss sl bs sb ln sr ap up rp fr ge le lt nz mm ma sm fl al ci hL F hP hA hT hM hC
  refine Run.seq ?_
  refine Run.region hL hT [] (by cbv) ?_ ?_
  · exact hq0
  refine Run.seq ?_
  refine Run.seq ?_
  refine Run.region hL hT [] (by cbv) ?_ ?_
  · exact hq0
  refine Run.block ?_
  refine Run.loop3 (fun (z4 : List Cond) (z5 : Int) (z6 : Int) => ⟨34, 100000, [(0, .rf 0), (1, .t (.s (.int .i64 z5))), (5, .t (.s (.int .i64 z6)))], [(0, .row 0 65 3 (eCond_c z4))]⟩) (x0 := a0) (x1 := a1) (x2 := 0) h (Weak.of _ [(0, 0)] hA (by cbv) ?_) (fun _ _ _ => rfl) ?_
  · repeat (first | exact hq0 | refine hq (by first | exact True.intro | rfl) ?_)
  · intro k z4 z5 z6 h
    rw [laws_markCondS.l0] at h
    refine Run.seq ?_
    refine Run.seq ?_
    refine Run.region hL hT [] (by cbv) ?_ ?_
    · exact (hq trivial hq0)
    rw [show ln (eCond_c z4) = lenI_Cond z4 from ln_eq Cond_c _]
    refine Run.cond (by cbv) (hq0) (fun c7 => ?_) (fun c7 => ?_)
    · have h := if_t c7 h
      refine Run.skip ?_
      refine Run.seq ?_
      refine Run.block ?_
      refine Run.seq ?_
      obtain ⟨⟨x8v_Col, x8v_Op, x8v_V⟩, h_x8, h⟩ := bnd h
      obtain ⟨l9, h_l9, h⟩ := bnd h
      refine Run.region hL hT [] (by cbv) ?_ ?_
      · exact (hq (get_le h_x8) (hq (get_lt (f := Cond_c) h_x8) (hq (get_le h_x8) (hq (get_lt (f := Cond_c) h_x8) hq0))))
      refine Run.row (rows := (up (eCond_c z4) z6 0 [.s (.int .i64 z5)])) 0 (eCond_c l9) (by cbv) (sto_le (f := Cond_c) h_x8 h_l9 rfl LLe.r) ?_
      refine Run.seq ?_
      refine Run.region hL hT [] (by cbv) ?_ ?_
      · exact (hq trivial hq0)
      refine Run.seq ?_
      obtain ⟨⟨x10v_Col, x10v_Op, x10v_V⟩, h_x10, h⟩ := bnd h
      obtain ⟨l11, h_l11, h⟩ := bnd h
      refine Run.region hL hT [] (by cbv) ?_ ?_
      · exact (hq (get_le h_x10) (hq (get_lt (f := Cond_c) h_x10) (hq (get_le h_x10) (hq (get_lt (f := Cond_c) h_x10) hq0))))
      refine Run.row (rows := (up (eCond_c l9) z6 1 [.s (.int .i64 (ar .add .i64 z5 1))])) 0 (eCond_c l11) (by cbv) (sto_le (f := Cond_c) h_x10 h_l11 rfl LLe.r) ?_
      refine Run.seq ?_
      refine Run.region hL hT [] (by cbv) ?_ ?_
      · exact (hq trivial hq0)
      refine Run.seq ?_
      obtain ⟨⟨x12v_Col, x12v_Op, x12v_V⟩, h_x12, h⟩ := bnd h
      obtain ⟨l13, h_l13, h⟩ := bnd h
      refine Run.region hL hT [] (by cbv) ?_ ?_
      · exact (hq (get_le h_x12) (hq (get_lt (f := Cond_c) h_x12) (hq (get_le h_x12) (hq (get_lt (f := Cond_c) h_x12) hq0))))
      refine Run.row (rows := (up (eCond_c l11) z6 2 [.s (.int .i64 (ar .add .i64 (ar .add .i64 z5 1) 1))])) 0 (eCond_c l13) (by cbv) (sto_le (f := Cond_c) h_x12 h_l13 rfl LLe.r) ?_
      refine Run.region hL hT [] (by cbv) ?_ ?_
      · exact (hq trivial hq0)
      refine Run.region hL hT [] (by cbv) ?_ ?_
      · exact (hq trivial hq0)
      refine ⟨l13, (ar .add .i64 (ar .add .i64 (ar .add .i64 z5 1) 1) 1), (ar .add .i64 z6 1), h, Weak.of _ [(0, 0)] hA (by cbv) ?_⟩
      repeat (first | exact hq0 | refine hq (by first | exact True.intro | rfl) ?_)
    · have h := if_f c7 h
      refine Run.exit ?_
      refine Run.seq ?_
      refine Run.region hL hT [] (by cbv) ?_ ?_
      · exact hq0
      refine Run.ret ?_
      cases h
      refine ⟨_, _, by cbv, ?_, ?_⟩
      · exact LLe.r
      · exact (ALe.v LLe.r ALe.nil)

theorem laws_markQuery_ac {a0v_Table : Int} {a0v_Where : List Cond} {a0v_Order : Int} {a0v_Down : Bool} {a0v_First : Int} {a0v_Show : List Int} {a0v_Kids : Bool} {a0v_KidTable : Int} {a0v_KidCol : Int} {a1 : Int} {r : Query × Int} (h : laws_markQuery.f (Query.mk a0v_Table a0v_Where a0v_Order a0v_Down a0v_First a0v_Show a0v_Kids a0v_KidTable a0v_KidCol) a1 = some r) : AC Tryd.prog 18 [.ag [.s (.int .i64 a0v_Table), .ow 65 (rowsOf Cond_c a0v_Where), .s (.int .i64 a0v_Order), .s (.bool a0v_Down), .s (.int .i64 a0v_First), .ow 3 (rowsOf Int_c a0v_Show), .s (.bool a0v_Kids), .s (.int .i64 a0v_KidTable), .s (.int .i64 a0v_KidCol)], .v (.s (.int .i64 a1))] [.ag [.jk, .ow 65 (rowsOf Cond_c r.1.Where), .jk, .jk, .jk, .ow 3 (rowsOf Int_c r.1.Show), .jk, .jk, .jk], .v (.jk)] [.v (.s (.int .i64 r.2))] := by
  unfold laws_markQuery.f at h
  let eCond_c := rowsOf Cond_c
  let eInt_c := rowsOf Int_c
  show AC Tryd.prog 18 [.ag [.s (.int .i64 a0v_Table), .ow 65 (eCond_c a0v_Where), .s (.int .i64 a0v_Order), .s (.bool a0v_Down), .s (.int .i64 a0v_First), .ow 3 (eInt_c a0v_Show), .s (.bool a0v_Kids), .s (.int .i64 a0v_KidTable), .s (.int .i64 a0v_KidCol)], .v (.s (.int .i64 a1))] _ _
  refine run3 Tryd.func18 (by rfl) (by rfl) (by cbv) ⟨by decide, rfl⟩ ?_
  intro ar cm bo sc sa sx ss sl bs sb ln sr ap up rp fr ge le lt nz mm ma sm fl al ci hL F hP hA hT hM hC
  refine Run.seq ?_
  refine Run.region hL hT [] (by cbv) ?_ ?_
  · exact hq0
  refine Run.seq ?_
  obtain ⟨⟨r1v_1, r1v_2⟩, h_r1, h⟩ := bnd h
  refine Run.region hL hT [(3, .call [true, false] [.v (.ow 65 (eCond_c r1v_1)), .v (.jk)] [.v (.s (.int .i64 r1v_2))])] (by cbv) ?_ ?_
  · exact (hq trivial (hq (hC (laws_markCondS_ac h_r1)) hq0))
  refine Run.seq ?_
  obtain ⟨⟨r2v_1, r2v_2⟩, h_r2, h⟩ := bnd h
  refine Run.region hL hT [(3, .call [true, false] [.v (.ow 3 (eInt_c r2v_1)), .v (.jk)] [.v (.s (.int .i64 r2v_2))])] (by cbv) ?_ ?_
  · exact (hq trivial (hq (hC (laws_markIntS_ac h_r2)) hq0))
  refine Run.seq ?_
  refine Run.region hL hT [] (by cbv) ?_ ?_
  · exact hq0
  refine Run.ret ?_
  cases h
  refine ⟨_, _, by cbv, ?_, ?_⟩
  · exact LLe.r
  · exact (ALe.v LLe.r ALe.nil)

theorem laws_heldCondS_ac {a0 : List Cond} {a1 : Int} {r : Int} (h : laws_heldCondS.f a0 a1 = some r) : AC Tryd.prog 48 [.v (.im false (rowsOf Cond_c a0)), .v (.s (.int .i64 a1))] [.v (.jk), .v (.jk)] [.v (.s (.int .i64 r))] := by
  unfold laws_heldCondS.f at h
  let eCond_c := rowsOf Cond_c
  let lenI_Cond := @lenI Cond
  show AC Tryd.prog 48 [.v (.im false (eCond_c a0)), .v (.s (.int .i64 a1))] _ _
  refine run3 Tryd.func48 (by rfl) (by rfl) (by cbv) ⟨by decide, rfl⟩ ?_
  intro ar cm bo sc sa sx ss sl bs sb ln sr ap up rp fr ge le lt nz mm ma sm fl al ci hL F hP hA hT hM hC
  refine Run.seq ?_
  refine Run.region hL hT [] (by cbv) ?_ ?_
  · exact hq0
  refine Run.seq ?_
  refine Run.seq ?_
  refine Run.region hL hT [] (by cbv) ?_ ?_
  · exact hq0
  refine Run.block ?_
  refine Run.loop2 (fun (z4 : Int) (z5 : Int) => ⟨40, 100000, [(0, .t (.im false (eCond_c a0))), (1, .t (.s (.int .i64 z4))), (5, .t (.s (.int .i64 z5)))], []⟩) (x0 := a1) (x1 := 0) h (Weak.of _ [] hA (by cbv) ?_) (fun _ _ => rfl) ?_
  · repeat (first | exact hq0 | refine hq (by first | exact True.intro | rfl) ?_)
  · intro k z4 z5 h
    rw [laws_heldCondS.l0] at h
    refine Run.seq ?_
    refine Run.seq ?_
    refine Run.region hL hT [] (by cbv) ?_ ?_
    · exact (hq trivial hq0)
    rw [show ln (eCond_c a0) = lenI_Cond a0 from ln_eq Cond_c _]
    refine Run.cond (by cbv) (hq0) (fun c6 => ?_) (fun c6 => ?_)
    · have h := if_t c6 h
      refine Run.skip ?_
      refine Run.seq ?_
      refine Run.block ?_
      refine Run.seq ?_
      refine Run.seq ?_
      obtain ⟨⟨x7v_Col, x7v_Op, x7v_V⟩, h_x7, h⟩ := bnd h
      refine Run.region hL hT [(2, .el [.s (.int .i64 x7v_Col), .s (.int .i64 x7v_Op), .s (.int .i64 x7v_V)])] (by cbv) ?_ ?_
      · exact (hq (get_le h_x7) (hq (get_lt (f := Cond_c) h_x7) (hq (get_ge (f := Cond_c) h_x7) (hq trivial hq0))))
      refine Run.cond (by cbv) (hq0) (fun c8 => ?_) (fun c8 => ?_)
      · have h := if_t c8 h
        refine Run.seq ?_
        refine Run.region hL hT [] (by cbv) ?_ ?_
        · exact hq0
        refine Run.ret ?_
        cases h
        refine ⟨_, _, by cbv, ?_, ?_⟩
        · exact LLe.r
        · exact (ALe.v LLe.r ALe.nil)
      · have h := if_f c8 h
        refine Run.skip ?_
        refine Run.seq ?_
        refine Run.region hL hT [] (by cbv) ?_ ?_
        · exact (hq trivial hq0)
        refine Run.seq ?_
        refine Run.seq ?_
        refine Run.region hL hT [(2, .el [.s (.int .i64 x7v_Col), .s (.int .i64 x7v_Op), .s (.int .i64 x7v_V)])] (by cbv) ?_ ?_
        · exact (hq (get_le h_x7) (hq (get_lt (f := Cond_c) h_x7) (hq (get_ge (f := Cond_c) h_x7) (hq trivial hq0))))
        refine Run.cond (by cbv) (hq0) (fun c9 => ?_) (fun c9 => ?_)
        · have h := if_t c9 h
          refine Run.seq ?_
          refine Run.region hL hT [] (by cbv) ?_ ?_
          · exact hq0
          refine Run.ret ?_
          cases h
          refine ⟨_, _, by cbv, ?_, ?_⟩
          · exact LLe.r
          · exact (ALe.v LLe.r ALe.nil)
        · have h := if_f c9 h
          refine Run.skip ?_
          refine Run.seq ?_
          refine Run.region hL hT [] (by cbv) ?_ ?_
          · exact (hq trivial hq0)
          refine Run.seq ?_
          refine Run.seq ?_
          refine Run.region hL hT [(2, .el [.s (.int .i64 x7v_Col), .s (.int .i64 x7v_Op), .s (.int .i64 x7v_V)])] (by cbv) ?_ ?_
          · exact (hq (get_le h_x7) (hq (get_lt (f := Cond_c) h_x7) (hq (get_ge (f := Cond_c) h_x7) (hq trivial hq0))))
          refine Run.cond (by cbv) (hq0) (fun c10 => ?_) (fun c10 => ?_)
          · have h := if_t c10 h
            refine Run.seq ?_
            refine Run.region hL hT [] (by cbv) ?_ ?_
            · exact hq0
            refine Run.ret ?_
            cases h
            refine ⟨_, _, by cbv, ?_, ?_⟩
            · exact LLe.r
            · exact (ALe.v LLe.r ALe.nil)
          · have h := if_f c10 h
            refine Run.skip ?_
            refine Run.region hL hT [] (by cbv) ?_ ?_
            · exact (hq trivial hq0)
            refine Run.region hL hT [] (by cbv) ?_ ?_
            · exact (hq trivial hq0)
            refine ⟨(ar .add .i64 (ar .add .i64 (ar .add .i64 z4 1) 1) 1), (ar .add .i64 z5 1), h, Weak.of _ [] hA (by cbv) ?_⟩
            repeat (first | exact hq0 | refine hq (by first | exact True.intro | rfl) ?_)
    · have h := if_f c6 h
      refine Run.exit ?_
      refine Run.seq ?_
      refine Run.region hL hT [] (by cbv) ?_ ?_
      · exact hq0
      refine Run.ret ?_
      cases h
      refine ⟨_, _, by cbv, ?_, ?_⟩
      · exact LLe.r
      · exact (ALe.v LLe.r ALe.nil)

theorem laws_heldIntS_ac {a0 : List Int} {a1 : Int} {r : Int} (h : laws_heldIntS.f a0 a1 = some r) : AC Tryd.prog 49 [.v (.im false (rowsOf Int_c a0)), .v (.s (.int .i64 a1))] [.v (.jk), .v (.jk)] [.v (.s (.int .i64 r))] := by
  unfold laws_heldIntS.f at h
  let eInt_c := rowsOf Int_c
  let lenI_Int := @lenI Int
  show AC Tryd.prog 49 [.v (.im false (eInt_c a0)), .v (.s (.int .i64 a1))] _ _
  refine run3 Tryd.func49 (by rfl) (by rfl) (by cbv) ⟨by decide, rfl⟩ ?_
  intro ar cm bo sc sa sx ss sl bs sb ln sr ap up rp fr ge le lt nz mm ma sm fl al ci hL F hP hA hT hM hC
  refine Run.seq ?_
  refine Run.region hL hT [] (by cbv) ?_ ?_
  · exact hq0
  refine Run.seq ?_
  refine Run.seq ?_
  refine Run.region hL hT [] (by cbv) ?_ ?_
  · exact hq0
  refine Run.block ?_
  refine Run.loop2 (fun (z4 : Int) (z5 : Int) => ⟨21, 100000, [(0, .t (.im false (eInt_c a0))), (1, .t (.s (.int .i64 z4))), (5, .t (.s (.int .i64 z5)))], []⟩) (x0 := a1) (x1 := 0) h (Weak.of _ [] hA (by cbv) ?_) (fun _ _ => rfl) ?_
  · repeat (first | exact hq0 | refine hq (by first | exact True.intro | rfl) ?_)
  · intro k z4 z5 h
    rw [laws_heldIntS.l0] at h
    refine Run.seq ?_
    refine Run.seq ?_
    refine Run.region hL hT [] (by cbv) ?_ ?_
    · exact (hq trivial hq0)
    rw [show ln (eInt_c a0) = lenI_Int a0 from ln_eq Int_c _]
    refine Run.cond (by cbv) (hq0) (fun c6 => ?_) (fun c6 => ?_)
    · have h := if_t c6 h
      refine Run.skip ?_
      refine Run.seq ?_
      refine Run.block ?_
      refine Run.seq ?_
      refine Run.seq ?_
      obtain ⟨x7, h_x7, h⟩ := bnd h
      refine Run.region hL hT [(2, .el [.s (.int .i64 x7)])] (by cbv) ?_ ?_
      · exact (hq (get_le h_x7) (hq (get_lt (f := Int_c) h_x7) (hq (get_ge (f := Int_c) h_x7) (hq trivial hq0))))
      refine Run.cond (by cbv) (hq0) (fun c8 => ?_) (fun c8 => ?_)
      · have h := if_t c8 h
        refine Run.seq ?_
        refine Run.region hL hT [] (by cbv) ?_ ?_
        · exact hq0
        refine Run.ret ?_
        cases h
        refine ⟨_, _, by cbv, ?_, ?_⟩
        · exact LLe.r
        · exact (ALe.v LLe.r ALe.nil)
      · have h := if_f c8 h
        refine Run.skip ?_
        refine Run.region hL hT [] (by cbv) ?_ ?_
        · exact (hq trivial hq0)
        refine Run.region hL hT [] (by cbv) ?_ ?_
        · exact (hq trivial hq0)
        refine ⟨(ar .add .i64 z4 1), (ar .add .i64 z5 1), h, Weak.of _ [] hA (by cbv) ?_⟩
        repeat (first | exact hq0 | refine hq (by first | exact True.intro | rfl) ?_)
    · have h := if_f c6 h
      refine Run.exit ?_
      refine Run.seq ?_
      refine Run.region hL hT [] (by cbv) ?_ ?_
      · exact hq0
      refine Run.ret ?_
      cases h
      refine ⟨_, _, by cbv, ?_, ?_⟩
      · exact LLe.r
      · exact (ALe.v LLe.r ALe.nil)

theorem laws_heldQuery_ac {a0v_Table : Int} {a0v_Where : List Cond} {a0v_Order : Int} {a0v_Down : Bool} {a0v_First : Int} {a0v_Show : List Int} {a0v_Kids : Bool} {a0v_KidTable : Int} {a0v_KidCol : Int} {a1 : Int} {r : Int} (h : laws_heldQuery.f (Query.mk a0v_Table a0v_Where a0v_Order a0v_Down a0v_First a0v_Show a0v_Kids a0v_KidTable a0v_KidCol) a1 = some r) : AC Tryd.prog 19 [.ag [.s (.int .i64 a0v_Table), .im false (rowsOf Cond_c a0v_Where), .s (.int .i64 a0v_Order), .s (.bool a0v_Down), .s (.int .i64 a0v_First), .im false (rowsOf Int_c a0v_Show), .s (.bool a0v_Kids), .s (.int .i64 a0v_KidTable), .s (.int .i64 a0v_KidCol)], .v (.s (.int .i64 a1))] [.ag [.jk, .jk, .jk, .jk, .jk, .jk, .jk, .jk, .jk], .v (.jk)] [.v (.s (.int .i64 r))] := by
  unfold laws_heldQuery.f at h
  let eCond_c := rowsOf Cond_c
  let eInt_c := rowsOf Int_c
  show AC Tryd.prog 19 [.ag [.s (.int .i64 a0v_Table), .im false (eCond_c a0v_Where), .s (.int .i64 a0v_Order), .s (.bool a0v_Down), .s (.int .i64 a0v_First), .im false (eInt_c a0v_Show), .s (.bool a0v_Kids), .s (.int .i64 a0v_KidTable), .s (.int .i64 a0v_KidCol)], .v (.s (.int .i64 a1))] _ _
  refine run3 Tryd.func19 (by rfl) (by rfl) (by cbv) ⟨by decide, rfl⟩ ?_
  intro ar cm bo sc sa sx ss sl bs sb ln sr ap up rp fr ge le lt nz mm ma sm fl al ci hL F hP hA hT hM hC
  refine Run.seq ?_
  refine Run.region hL hT [] (by cbv) ?_ ?_
  · exact hq0
  refine Run.seq ?_
  obtain ⟨r1, h_r1, h⟩ := bnd h
  refine Run.region hL hT [(3, .call [false, false] [.v (.jk), .v (.jk)] [.v (.s (.int .i64 r1))])] (by cbv) ?_ ?_
  · exact (hq trivial (hq (hC (laws_heldCondS_ac h_r1)) hq0))
  refine Run.seq ?_
  refine Run.seq ?_
  refine Run.region hL hT [] (by cbv) ?_ ?_
  · exact (hq trivial hq0)
  refine Run.cond (by cbv) (hq0) (fun c2 => ?_) (fun c2 => ?_)
  · have h := if_t c2 h
    refine Run.seq ?_
    refine Run.region hL hT [] (by cbv) ?_ ?_
    · exact hq0
    refine Run.ret ?_
    cases h
    refine ⟨_, _, by cbv, ?_, ?_⟩
    · exact LLe.r
    · exact (ALe.v LLe.r ALe.nil)
  · have h := if_f c2 h
    refine Run.skip ?_
    refine Run.seq ?_
    obtain ⟨r3, h_r3, h⟩ := bnd h
    refine Run.region hL hT [(3, .call [false, false] [.v (.jk), .v (.jk)] [.v (.s (.int .i64 r3))])] (by cbv) ?_ ?_
    · exact (hq trivial (hq (hC (laws_heldIntS_ac h_r3)) hq0))
    refine Run.seq ?_
    refine Run.seq ?_
    refine Run.region hL hT [] (by cbv) ?_ ?_
    · exact (hq trivial hq0)
    refine Run.cond (by cbv) (hq0) (fun c4 => ?_) (fun c4 => ?_)
    · have h := if_t c4 h
      refine Run.seq ?_
      refine Run.region hL hT [] (by cbv) ?_ ?_
      · exact hq0
      refine Run.ret ?_
      cases h
      refine ⟨_, _, by cbv, ?_, ?_⟩
      · exact LLe.r
      · exact (ALe.v LLe.r ALe.nil)
    · have h := if_f c4 h
      refine Run.skip ?_
      refine Run.seq ?_
      refine Run.region hL hT [] (by cbv) ?_ ?_
      · exact hq0
      refine Run.ret ?_
      cases h
      refine ⟨_, _, by cbv, ?_, ?_⟩
      · exact LLe.r
      · exact (ALe.v LLe.r ALe.nil)

theorem laws_szIntS_ac {a0 : List Int} {a1 : Int} {r : Int} (h : laws_szIntS.f a0 a1 = some r) : AC Tryd.prog 30 [.v (.im false (rowsOf Int_c a0)), .v (.s (.int .i64 a1))] [.v (.jk), .v (.jk)] [.v (.s (.int .i64 r))] := by
  unfold laws_szIntS.f at h
  let eInt_c := rowsOf Int_c
  let lenI_Int := @lenI Int
  show AC Tryd.prog 30 [.v (.im false (eInt_c a0)), .v (.s (.int .i64 a1))] _ _
  refine run3 Tryd.func30 (by rfl) (by rfl) (by cbv) ⟨by decide, rfl⟩ ?_
  intro ar cm bo sc sa sx ss sl bs sb ln sr ap up rp fr ge le lt nz mm ma sm fl al ci hL F hP hA hT hM hC
  refine Run.seq ?_
  refine Run.region hL hT [] (by cbv) ?_ ?_
  · exact hq0
  refine Run.seq ?_
  refine Run.region hL hT [] (by cbv) ?_ ?_
  · exact (hq trivial hq0)
  rw [show ln (eInt_c a0) = lenI_Int a0 from ln_eq Int_c _]
  refine Run.seq ?_
  refine Run.seq ?_
  refine Run.region hL hT [] (by cbv) ?_ ?_
  · exact (hq trivial hq0)
  refine Run.cond (by cbv) (hq0) (fun c1 => ?_) (fun c1 => ?_)
  · have h := if_t c1 h
    refine Run.seq ?_
    refine Run.region hL hT [] (by cbv) ?_ ?_
    · exact hq0
    refine Run.ret ?_
    cases h
    refine ⟨_, _, by cbv, ?_, ?_⟩
    · exact LLe.r
    · exact (ALe.v LLe.r ALe.nil)
  · have h := if_f c1 h
    refine Run.skip ?_
    refine Run.seq ?_
    refine Run.region hL hT [] (by cbv) ?_ ?_
    · exact hq0
    refine Run.ret ?_
    cases h
    refine ⟨_, _, by cbv, ?_, ?_⟩
    · exact LLe.r
    · exact (ALe.v LLe.r ALe.nil)

theorem laws_szSchema_ac {a0v_Cols : List Int} {a1 : Int} {r : Int} (h : laws_szSchema.f (Schema.mk a0v_Cols) a1 = some r) : AC Tryd.prog 7 [.ag [.im false (rowsOf Int_c a0v_Cols)], .v (.s (.int .i64 a1))] [.ag [.jk], .v (.jk)] [.v (.s (.int .i64 r))] := by
  unfold laws_szSchema.f at h
  let eInt_c := rowsOf Int_c
  show AC Tryd.prog 7 [.ag [.im false (eInt_c a0v_Cols)], .v (.s (.int .i64 a1))] _ _
  refine run3 Tryd.func7 (by rfl) (by rfl) (by cbv) ⟨by decide, rfl⟩ ?_
  intro ar cm bo sc sa sx ss sl bs sb ln sr ap up rp fr ge le lt nz mm ma sm fl al ci hL F hP hA hT hM hC
  refine Run.seq ?_
  refine Run.region hL hT [] (by cbv) ?_ ?_
  · exact hq0
  refine Run.seq ?_
  obtain ⟨r1, h_r1, h⟩ := bnd h
  refine Run.region hL hT [(3, .call [false, false] [.v (.jk), .v (.jk)] [.v (.s (.int .i64 r1))])] (by cbv) ?_ ?_
  · exact (hq trivial (hq (hC (laws_szIntS_ac h_r1)) hq0))
  refine Run.seq ?_
  refine Run.seq ?_
  refine Run.region hL hT [] (by cbv) ?_ ?_
  · exact (hq trivial hq0)
  refine Run.cond (by cbv) (hq0) (fun c2 => ?_) (fun c2 => ?_)
  · have h := if_t c2 h
    refine Run.seq ?_
    refine Run.region hL hT [] (by cbv) ?_ ?_
    · exact hq0
    refine Run.ret ?_
    cases h
    refine ⟨_, _, by cbv, ?_, ?_⟩
    · exact LLe.r
    · exact (ALe.v LLe.r ALe.nil)
  · have h := if_f c2 h
    refine Run.skip ?_
    refine Run.seq ?_
    refine Run.region hL hT [] (by cbv) ?_ ?_
    · exact hq0
    refine Run.ret ?_
    cases h
    refine ⟨_, _, by cbv, ?_, ?_⟩
    · exact LLe.r
    · exact (ALe.v LLe.r ALe.nil)


end Go.Proofs.YtcpekllcbimpmaaDoor.L
