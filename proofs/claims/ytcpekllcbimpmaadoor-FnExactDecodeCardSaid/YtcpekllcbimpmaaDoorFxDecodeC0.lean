/- The contracts of the program's functions. -/
import Derived.Test.YtcpekllcbimpmaaDoorProg
import Derived.Test.YtcpekllcbimpmaaDoorFxDecodeU
import Derived.KernelRfl
namespace Go.Proofs.YtcpekllcbimpmaaDoor.L
open Go Go.Proofs
set_option linter.unusedVariables false
set_option linter.unusedSimpArgs false
set_option maxRecDepth 8000
def Str_c (x : ByteArray) : List T := [.s (.string x)]
theorem Str_c_n : ∀ x, (Str_c x).length = 1 := fun _ => rfl
theorem Str_c_f : ∀ x, (Str_c x).length = 1 ∧ ∀ c ∈ Str_c x, ∃ v, c = T.s v := fun x => ⟨rfl, by simp [Str_c]⟩
theorem Str_c_z : ∀ x, fzL (Str_c x) = Str_c x := fun _ => rfl
mutual
def Json_i : Json → List T
  | ⟨x_Kind, x_N, x_S, x_List_, x_Names⟩ => [.s (.int .i64 x_Kind), .s (.int .i64 x_N), .s (.string x_S), .im false (Json_iL x_List_), .im false (rowsOf Str_c x_Names)]
def Json_iL : List Json → Rws
  | [] => []
  | x :: l => Json_i x :: Json_iL l
end
theorem Json_iL_m : ∀ l, Json_iL l = rowsOf Json_i l
  | [] => rfl
  | x :: l => by rw [Json_iL, Json_iL_m l]; rfl
def Json_iU (x : Json) : List T := [.s (.int .i64 x.Kind), .s (.int .i64 x.N), .s (.string x.S), .im false (rowsOf Json_i x.List_), .im false (rowsOf Str_c x.Names)]
theorem Json_i_u : ∀ x, Json_i x = Json_iU x
  | ⟨x_Kind, x_N, x_S, x_List_, x_Names⟩ => by rw [Json_i, Json_iL_m]; rfl
theorem Json_iU_n : ∀ x, (Json_iU x).length = 5 := fun _ => rfl
theorem Json_i_n : ∀ x, (Json_i x).length = 5 := fun x => by rw [Json_i_u]; rfl
mutual
def Json_k : Json → List T
  | ⟨x_Kind, x_N, x_S, x_List_, x_Names⟩ => [.s (.int .i64 x_Kind), .s (.int .i64 x_N), .s (.string x_S), .im true (Json_kL x_List_), .im true (rowsOf Str_c x_Names)]
def Json_kL : List Json → Rws
  | [] => []
  | x :: l => Json_k x :: Json_kL l
end
theorem Json_kL_m : ∀ l, Json_kL l = rowsOf Json_k l
  | [] => rfl
  | x :: l => by rw [Json_kL, Json_kL_m l]; rfl
def Json_kU (x : Json) : List T := [.s (.int .i64 x.Kind), .s (.int .i64 x.N), .s (.string x.S), .im true (rowsOf Json_k x.List_), .im true (rowsOf Str_c x.Names)]
theorem Json_k_u : ∀ x, Json_k x = Json_kU x
  | ⟨x_Kind, x_N, x_S, x_List_, x_Names⟩ => by rw [Json_k, Json_kL_m]; rfl
theorem Json_kU_n : ∀ x, (Json_kU x).length = 5 := fun _ => rfl
theorem Json_k_n : ∀ x, (Json_k x).length = 5 := fun x => by rw [Json_k_u]; rfl
mutual
theorem Json_k_ik1 {P : Program} : ∀ x, KLL P (Json_i x) (Json_k x)
  | ⟨x_Kind, x_N, x_S, x_List_, x_Names⟩ => by
    rw [Json_i_u, Json_k_u]
    exact (KLL.c (KLL.c (KLL.c (KLL.cons (KLL.im (Json_k_ikL x_List_)) (KLL.cons (KLL.im KRe.r) KLL.r)))))
theorem Json_k_ikL {P : Program} : ∀ l, KRe P (rowsOf Json_i l) (rowsOf Json_k l)
  | [] => KRe.nil
  | x :: l => KRe.cons (by rw [Json_i_n, Json_k_n]) (Json_k_ik1 x) (Json_k_ikL l)
end
mutual
theorem Json_k_le1 {P : Program} : ∀ x, LLe P (Json_k x) (Json_i x)
  | ⟨x_Kind, x_N, x_S, x_List_, x_Names⟩ => by
    rw [Json_i_u, Json_k_u]
    exact (LLe.c (LLe.c (LLe.c (LLe.cons (LLe.k (Json_k_le x_List_)) (LLe.cons (LLe.k RLe.r) LLe.nil)))))
theorem Json_k_le {P : Program} : ∀ l, RLe P (rowsOf Json_k l) (rowsOf Json_i l)
  | [] => RLe.nil
  | x :: l => RLe.cons (by rw [Json_i_n, Json_k_n]) (Json_k_le1 x) (Json_k_le l)
end
theorem Json_k_fi1 {P : Program} : ∀ x, LLe P (fzL (Json_k x)) (Json_i x)
  | ⟨x_Kind, x_N, x_S, x_List_, x_Names⟩ => by
    rw [Json_i_u, Json_k_u]
    exact (LLe.c (LLe.c (LLe.c (LLe.cons (LLe.im (Json_k_le x_List_)) (LLe.cons LLe.r LLe.nil)))))
theorem Json_k_fzn : ∀ x, (fzL (Json_k x)).length = 5 := fun x => by rw [Json_k_u]; rfl
theorem Json_k_fi {P : Program} : ∀ l, RLe P (fzR (rowsOf Json_k l)) (rowsOf Json_i l)
  | [] => RLe.nil
  | x :: l => RLe.cons (by rw [Json_k_fzn, Json_i_n]) (Json_k_fi1 x) (Json_k_fi l)
theorem Json_k_kk1 {P : Program} : ∀ x, KLL P (fzL (Json_k x)) (Json_k x)
  | ⟨x_Kind, x_N, x_S, x_List_, x_Names⟩ => by
    rw [Json_k_u]
    exact (KLL.c (KLL.c (KLL.c (KLL.cons (KLL.im KRe.r) (KLL.cons (KLL.im KRe.r) KLL.r)))))
theorem Json_k_kk {P : Program} : ∀ l, KRe P (fzR (rowsOf Json_k l)) (rowsOf Json_k l)
  | [] => KRe.nil
  | x :: l => KRe.cons (by rw [Json_k_fzn, Json_k_n]) (Json_k_kk1 x) (Json_k_kk l)
theorem Json_k_kv {P : Program} (l : List Json) : LLe P [.im true (Ls.fr (rowsOf Json_k l))] [.im true (rowsOf Json_k l)] := LLe.kk (Json_k_kk l)
mutual
def Json_o : Json → List T
  | ⟨x_Kind, x_N, x_S, x_List_, x_Names⟩ => [.s (.int .i64 x_Kind), .s (.int .i64 x_N), .s (.string x_S), .ow 48 (Json_oL x_List_), .ow 9 (rowsOf Str_c x_Names)]
def Json_oL : List Json → Rws
  | [] => []
  | x :: l => Json_o x :: Json_oL l
end
theorem Json_oL_m : ∀ l, Json_oL l = rowsOf Json_o l
  | [] => rfl
  | x :: l => by rw [Json_oL, Json_oL_m l]; rfl
def Json_oU (x : Json) : List T := [.s (.int .i64 x.Kind), .s (.int .i64 x.N), .s (.string x.S), .ow 48 (rowsOf Json_o x.List_), .ow 9 (rowsOf Str_c x.Names)]
theorem Json_o_u : ∀ x, Json_o x = Json_oU x
  | ⟨x_Kind, x_N, x_S, x_List_, x_Names⟩ => by rw [Json_o, Json_oL_m]; rfl
theorem Json_oU_n : ∀ x, (Json_oU x).length = 5 := fun _ => rfl
theorem Json_o_n : ∀ x, (Json_o x).length = 5 := fun x => by rw [Json_o_u]; rfl
mutual
theorem Json_o_z : ∀ x, fzL (Json_o x) = Json_i x
  | ⟨x_Kind, x_N, x_S, x_List_, x_Names⟩ => by
    rw [Json_o_u, Json_i_u]
    simp only [Json_oU, Json_iU, fzL, T.fz, fr_rows Str_c_z, Json_oL_z x_List_]
theorem Json_oL_z : ∀ l, fzR (rowsOf Json_o l) = rowsOf Json_i l
  | [] => rfl
  | x :: l => by
    show fzR (Json_o x :: rowsOf Json_o l) = Json_i x :: rowsOf Json_i l
    rw [fzR, Json_o_z x, Json_oL_z l]
end
def u8_c (x : Int) : List T := [.s (.int .u8 x)]
theorem u8_c_n : ∀ x, (u8_c x).length = 1 := fun _ => rfl
theorem u8_c_f : ∀ x, (u8_c x).length = 1 ∧ ∀ c ∈ u8_c x, ∃ v, c = T.s v := fun x => ⟨rfl, by simp [u8_c]⟩
theorem u8_c_z : ∀ x, fzL (u8_c x) = u8_c x := fun _ => rfl
theorem Json_o_kv {P : Program} (l : List Json) : LLe P [.im true (Ls.fr (rowsOf Json_o l))] [.im true (rowsOf Json_k l)] := LLe.kk_eq (Json_oL_z l) (Json_k_ikL l)
def tab : List (Nat × Ty) := [(3, Ty.mk false 1 8 0 [] [.int .i64 0] (some .i64) false false false false none),
  (4, Ty.mk false 1 1 0 [] [.bool false] (none) true false false false none),
  (5, Ty.mk false 1 1 0 [] [.int .u8 0] (some .u8) false false false false none),
  (9, Ty.mk false 1 16 0 [] [.string ByteArray.empty] (none) false false false true none),
  (45, Ty.mk false 1 24 48 [] [.slice none 0 0] (none) false false true false none),
  (46, Ty.mk false 1 24 9 [] [.slice none 0 0] (none) false false true false none),
  (48, Ty.mk true 5 80 0 [(0, 1), (1, 1), (2, 1), (3, 1), (4, 1)] [.int .i64 0, .int .i64 0, .string ByteArray.empty, .slice none 0 0, .slice none 0 0] (none) false false false false none),
  (54, Ty.mk false 1 24 5 [] [.slice none 0 0] (none) false false true false none),
  (82, Ty.mk false 1 8 0 [] [.pointer none] (none) false false false false none),
  (84, Ty.mk true 4 40 0 [(0, 1), (1, 1), (2, 1), (3, 1)] [.string ByteArray.empty, .int .i64 0, .bool false, .int .i64 0] (none) false false false false none),
  (87, Ty.mk false 1 8 0 [] [.pointer none] (none) false false false false none),
  (89, Ty.mk true 2 24 0 [(0, 1), (1, 1)] [.string ByteArray.empty, .bool false] (none) false false false false none),
  (111, Ty.mk false 1 16 0 [] [.nilIface] (none) false true false false none)]
theorem tab_ok : TabOk Tryd.prog tab := TabOk.of (l := [(3, false), (4, false), (5, false), (9, false), (45, false), (46, false), (48, false), (54, false), (82, false), (84, false), (87, false), (89, false), (111, false)]) (by kernel_rfl)
theorem mixed : Tryd.prog.follows .mixedOrders = true := by rfl
theorem run3 {f : FuncId} {fn : Func} {c : Code} {args outs res : List A} {σ : St} {ds : List (Option Nat)} (hf : Tryd.prog.funcs[f]? = some fn) (hnm : (fn.name == "runtime.NumGoroutine") = false) (hb : fn.body = some c) (he : entry tab fn.ntmps args = some (σ, ds)) (hds : (idsOf ds).Nodup ∧ ds.length = (acells args).length)
    (h : let ar := Ls.ar; let cm := Ls.cm; let bo := Ls.bo; let sc := Ls.sc; let sa := Ls.sa; let sx := Ls.sx; let ss := Ls.ss; let sl := Ls.sl; let bs := Ls.bs; let sb := Ls.sb; let ln := Ls.ln; let sr := Ls.sr; let ap := Ls.ap; let up := Ls.up; let rp := Ls.rp; let fr := Ls.fr; let ge := Ls.ge; let le := Ls.le; let lt := Ls.lt; let nz := Ls.nz; let mm := Ls.mm; let ma := Ls.ma; let sm := Ls.sm; let fl := Ls.fl; let al := Ls.al; let ci := Ls.ci; (⟨ar, cm, bo, sc, sa, sx, ss, sl, bs, sb, ln, sr, ap, up, rp, fr, ge, le, lt, nz, mm, ma, sm, fl, al, ci⟩ : Lf) = Ls → ∀ F : Fr, F.P = Tryd.prog → (∀ i v, F.anc i = some v → i ∈ idsOf ds) → TabOk F.P tab → F.P.follows .mixedOrders = true → (∀ {f a o r}, AC Tryd.prog f a o r → AC F.P f a o r) → Run F σ c (endQ (EndL Tryd.prog tab fn.results.toList ds outs res))) : AC Tryd.prog f args outs res :=
  AC.of_run2 tab_ok hf hnm hb he hds fun F hP hA => h rfl F hP hA (hP ▸ tab_ok) (hP ▸ mixed) fun h => hP ▸ h

theorem spec_l2Peek_ac {a0v_s : ByteArray} {a0v_at_ : Int} {a0v_ok : Bool} {a0v_left : Int} {r : Int} (h : spec_l2Peek.f (l2Cur.mk a0v_s a0v_at_ a0v_ok a0v_left) = some r) : AC Tryd.prog 87 [.v (.ip [.s (.string a0v_s), .s (.int .i64 a0v_at_), .s (.bool a0v_ok), .s (.int .i64 a0v_left)])] [.v (.jk)] [.v (.s (.int .u8 r))] := by
  unfold spec_l2Peek.f at h
  show AC Tryd.prog 87 [.v (.ip [.s (.string a0v_s), .s (.int .i64 a0v_at_), .s (.bool a0v_ok), .s (.int .i64 a0v_left)])] _ _
  refine run3 Tryd.func87 (by rfl) (by rfl) (by cbv) ⟨by decide, rfl⟩ ?_
  intro ar cm bo sc sa sx ss sl bs sb ln sr ap up rp fr ge le lt nz mm ma sm fl al ci hL F hP hA hT hM hC
  refine Run.seq ?_
  refine Run.region hL hT [] (by cbv) ?_ ?_
  · exact hq0
  refine Run.seq ?_
  refine Run.seq ?_
  refine Run.draw hL hT hM [] (by cbv) (collect_cons (by cbv) (by cbv) (collect_cons (by cbv) (by cbv) (collect_cons (by cbv) (by cbv) (collect_cons (by cbv) (by cbv) (collect_cons (by cbv) (by cbv) (collect_cons (by cbv) (by cbv) (collect_cons (by cbv) (by cbv) (collect_cons (by cbv) (by cbv) (collect_cons (by cbv) (by cbv) (collect_cons (by cbv) (by cbv) collect_nil)))))))))) (by cbv) (by cbv) (by cbv) ?_ ?_
  · exact (hq trivial hq0)
  refine Run.cond (by cbv) (hq0) (fun c1 => ?_) (fun c1 => ?_)
  · have h := if_t c1 h
    refine Run.seq ?_
    refine Run.region hL hT [] (by cbv) ?_ ?_
    · exact hq0
    refine Run.ret ?_
    cases h
    refine ⟨_, _, by cbv, ?_, ?_⟩
    · exact LLe.r
    · exact (ALe.v LLe.r ALe.nil)
  · have h := if_f c1 h
    refine Run.skip ?_
    refine Run.seq ?_
    obtain ⟨u2, h_u2, h⟩ := bnd h
    refine Run.draw hL hT hM [] (by cbv) (collect_cons (by cbv) (by cbv) (collect_cons (by cbv) (by cbv) (collect_cons (by cbv) (by cbv) (collect_cons (by cbv) (by cbv) (collect_cons (by cbv) (by cbv) (collect_cons (by cbv) (by cbv) (collect_cons (by cbv) (by cbv) (collect_cons (by cbv) (by cbv) (collect_cons (by cbv) (by cbv) (collect_cons (by cbv) (by cbv) collect_nil)))))))))) (by cbv) (by cbv) (by cbv) ?_ ?_
    · exact (hq (inS_0 h_u2) (hq (inS_1 h_u2) hq0))
    refine Run.ret ?_
    cases h
    refine ⟨_, _, by cbv, ?_, ?_⟩
    · exact LLe.r
    · exact (ALe.v LLe.r ALe.nil)

theorem spec_l2Number_ac {a0v_s : ByteArray} {a0v_at_ : Int} {a0v_ok : Bool} {a0v_left : Int} {r : l2Cur × Int} (h : spec_l2Number.f (l2Cur.mk a0v_s a0v_at_ a0v_ok a0v_left) = some r) : AC Tryd.prog 81 [.v (.bx 84 [.s (.string a0v_s), .s (.int .i64 a0v_at_), .s (.bool a0v_ok), .s (.int .i64 a0v_left)])] [.v (.bx 84 [.s (.string r.1.s), .s (.int .i64 r.1.at_), .s (.bool r.1.ok), .s (.int .i64 r.1.left)])] [.v (.s (.int .i64 r.2))] := by
  unfold spec_l2Number.f at h
  show AC Tryd.prog 81 [.v (.bx 84 [.s (.string a0v_s), .s (.int .i64 a0v_at_), .s (.bool a0v_ok), .s (.int .i64 a0v_left)])] _ _
  refine run3 Tryd.func81 (by rfl) (by rfl) (by cbv) ⟨by decide, rfl⟩ ?_
  intro ar cm bo sc sa sx ss sl bs sb ln sr ap up rp fr ge le lt nz mm ma sm fl al ci hL F hP hA hT hM hC
  refine Run.seq ?_
  refine Run.region hL hT [] (by cbv) ?_ ?_
  · exact hq0
  refine Run.seq ?_
  obtain ⟨r1, h_r1, h⟩ := bnd h
  refine Run.region hL hT [(1, .call [false] [.v (.jk)] [.v (.s (.int .u8 r1))])] (by cbv) ?_ ?_
  · exact (hq (hC (spec_l2Peek_ac h_r1)) (hq trivial hq0))
  obtain ⟨K4, h_K4, h⟩ := joinE h
  refine Run.join2 K4 (r := r) (fun (y2 : Int) (y3 : Bool) => ⟨65, 100000, [(0, .pt 0 0 0), (3, .t (.s (.bool y3)))], [(0, .box 84 [.t (.s (.string a0v_s)), .t (.s (.int .i64 y2)), .t (.s (.bool a0v_ok)), .t (.s (.int .i64 a0v_left))])]⟩) ?_ ?_
  · skip
    refine Run.seq ?_
    refine Run.region hL hT [] (by cbv) ?_ ?_
    · exact hq0
    refine Run.cond (by cbv) (hq0) (fun c5 => ?_) (fun c5 => ?_)
    · have h := if_t c5 h
      refine Run.region hL hT [] (by cbv) ?_ ?_
      · exact (hq trivial (hq trivial (hq trivial hq0)))
      refine ⟨(ar .add .i64 a0v_at_ 1), (cm .eql r1 45), h, Weak.of _ [(0, 0)] hA (by cbv) ?_⟩
      repeat (first | exact hq0 | refine hq (by first | exact True.intro | rfl) ?_)
    · have h := if_f c5 h
      refine Run.skip ?_
      refine ⟨a0v_at_, (cm .eql r1 45), h, Weak.of _ [(0, 0)] hA (by cbv) ?_⟩
      repeat (first | exact hq0 | refine hq (by first | exact True.intro | rfl) ?_)
  · intro y2 y3 h
    rw [h_K4] at h
    refine Run.seq ?_
    refine Run.region hL hT [] (by cbv) ?_ ?_
    · exact (hq trivial hq0)
    refine Run.seq ?_
    refine Run.region hL hT [] (by cbv) ?_ ?_
    · exact hq0
    obtain ⟨K8, h_K8, h⟩ := joinE h
    refine Run.join2 K8 (r := r) (fun (y6 : Int) (y7 : Int) => ⟨65, 100000, [(0, .pt 0 0 0), (3, .t (.s (.bool y3))), (4, .t (.s (.int .i64 y2))), (5, .t (.s (.int .i64 y7)))], [(0, .box 84 [.t (.s (.string a0v_s)), .t (.s (.int .i64 y6)), .t (.s (.bool a0v_ok)), .t (.s (.int .i64 a0v_left))])]⟩) ?_ ?_
    · skip
      refine Run.block ?_
      refine Run.loop2 (fun (z16 : Int) (z17 : Int) => ⟨65, 100000, [(0, .pt 0 0 0), (3, .t (.s (.bool y3))), (4, .t (.s (.int .i64 y2))), (5, .t (.s (.int .i64 z17)))], [(0, .box 84 [.t (.s (.string a0v_s)), .t (.s (.int .i64 z16)), .t (.s (.bool a0v_ok)), .t (.s (.int .i64 a0v_left))])]⟩) (x0 := y2) (x1 := 0) h (Weak.of _ [(0, 0)] hA (by cbv) ?_) (fun _ _ => rfl) ?_
      · repeat (first | exact hq0 | refine hq (by first | exact True.intro | rfl) ?_)
      · intro k z16 z17 h
        rw [spec_l2Number.l0] at h
        refine Run.seq ?_
        refine Run.seq ?_
        obtain ⟨r18, h_r18, h⟩ := bnd h
        obtain ⟨r19, h_r19, h⟩ := bnd h
        refine Run.region hL hT [(1, .call [false] [.v (.jk)] [.v (.s (.int .u8 r18))]), (5, .call [false] [.v (.jk)] [.v (.s (.int .u8 r19))])] (by cbv) ?_ ?_
        · exact (hq (hC (spec_l2Peek_ac h_r18)) (hq trivial (hq (fun _ => hq0) (hq (fun g21 => (hq g21 (hq (hC (spec_l2Peek_ac (gd_t h_r19 g21))) hq0))) (hq (fun g22 => (hq g22 (hq trivial hq0))) (hq (fun q23 => (hq q23 hq0)) (hq (fun _ => hq0) (hq (fun _ => hq0) (hq (fun g26 => (hq g26 hq0)) (hq (fun g27 => (hq g27 hq0)) (hq (fun g28 => (hq g28 (hq trivial hq0))) (hq (fun _ => hq0) (hq (fun g30 => (hq g30 (hq g30 (hq trivial hq0)))) (hq (fun g31 => (hq g31 (hq trivial hq0))) (hq (fun q32 => (hq q32 hq0)) (hq (fun _ => hq0) hq0))))))))))))))))
        refine Run.cond (by cbv) (hq0) (fun c34 => ?_) (fun c34 => ?_)
        · have h := if_t c34 h
          refine Run.skip ?_
          refine Run.block ?_
          refine Run.seq ?_
          obtain ⟨r35, h_r35, h⟩ := bnd h
          refine Run.region hL hT [(3, .call [false] [.v (.jk)] [.v (.s (.int .u8 r35))])] (by cbv) ?_ ?_
          · exact (hq trivial (hq (hC (spec_l2Peek_ac h_r35)) (hq trivial (hq trivial hq0))))
          refine Run.region hL hT [] (by cbv) ?_ ?_
          · exact (hq trivial (hq trivial (hq trivial hq0)))
          refine ⟨(ar .add .i64 z16 1), (ar .sub .i64 (ar .add .i64 (ar .mul .i64 10 z17) (ar .or .i64 r35 0)) 48), h, Weak.of _ [(0, 0)] hA (by cbv) ?_⟩
          repeat (first | exact hq0 | refine hq (by first | exact True.intro | rfl) ?_)
        · have h := if_f c34 h
          refine Run.exit ?_
          refine ⟨z16, z17, h, Weak.of _ [(0, 0)] hA (by cbv) ?_⟩
          repeat (first | exact hq0 | refine hq (by first | exact True.intro | rfl) ?_)
    · intro y6 y7 h
      rw [h_K8] at h
      obtain ⟨K37, h_K37, h⟩ := joinE h
      refine Run.join1 K37 (r := r) (fun (y36 : Bool) => ⟨65, 100000, [(3, .t (.s (.bool y3))), (5, .t (.s (.int .i64 y7)))], [(0, .box 84 [.t (.s (.string a0v_s)), .t (.s (.int .i64 y6)), .t (.s (.bool y36)), .t (.s (.int .i64 a0v_left))])]⟩) ?_ ?_
      · skip
        refine Run.seq ?_
        refine Run.region hL hT [] (by cbv) ?_ ?_
        · exact (hq trivial (hq trivial hq0))
        refine Run.cond (by cbv) (hq0) (fun c38 => ?_) (fun c38 => ?_)
        · have h := if_t c38 h
          refine Run.region hL hT [] (by cbv) ?_ ?_
          · exact (hq trivial hq0)
          refine ⟨false, h, Weak.of _ [(0, 0)] hA (by cbv) ?_⟩
          repeat (first | exact hq0 | refine hq (by first | exact True.intro | rfl) ?_)
        · have h := if_f c38 h
          refine Run.skip ?_
          refine ⟨a0v_ok, h, Weak.of _ [(0, 0)] hA (by cbv) ?_⟩
          repeat (first | exact hq0 | refine hq (by first | exact True.intro | rfl) ?_)
      · intro y36 h
        rw [h_K37] at h
        refine Run.seq ?_
        refine Run.seq ?_
        refine Run.region hL hT [] (by cbv) ?_ ?_
        · exact hq0
        refine Run.cond (by cbv) (hq0) (fun c39 => ?_) (fun c39 => ?_)
        · have h := if_t c39 h
          refine Run.seq ?_
          refine Run.region hL hT [] (by cbv) ?_ ?_
          · exact (hq trivial hq0)
          refine Run.ret ?_
          cases h
          refine ⟨_, _, by cbv, ?_, ?_⟩
          · exact LLe.r
          · exact (ALe.v LLe.r ALe.nil)
        · have h := if_f c39 h
          refine Run.skip ?_
          refine Run.seq ?_
          refine Run.region hL hT [] (by cbv) ?_ ?_
          · exact hq0
          refine Run.ret ?_
          cases h
          refine ⟨_, _, by cbv, ?_, ?_⟩
          · exact LLe.r
          · exact (ALe.v LLe.r ALe.nil)

theorem spec_l2Take_ac {a0v_s : ByteArray} {a0v_at_ : Int} {a0v_ok : Bool} {a0v_left : Int} {a1 : ByteArray} {r : l2Cur} (h : spec_l2Take.f (l2Cur.mk a0v_s a0v_at_ a0v_ok a0v_left) a1 = some r) : AC Tryd.prog 88 [.v (.bx 84 [.s (.string a0v_s), .s (.int .i64 a0v_at_), .s (.bool a0v_ok), .s (.int .i64 a0v_left)]), .v (.s (.string a1))] [.v (.bx 84 [.s (.string r.s), .s (.int .i64 r.at_), .s (.bool r.ok), .s (.int .i64 r.left)]), .v (.jk)] [] := by
  unfold spec_l2Take.f at h
  show AC Tryd.prog 88 [.v (.bx 84 [.s (.string a0v_s), .s (.int .i64 a0v_at_), .s (.bool a0v_ok), .s (.int .i64 a0v_left)]), .v (.s (.string a1))] _ _
  refine run3 Tryd.func88 (by rfl) (by rfl) (by cbv) ⟨by decide, rfl⟩ ?_
  intro ar cm bo sc sa sx ss sl bs sb ln sr ap up rp fr ge le lt nz mm ma sm fl al ci hL F hP hA hT hM hC
  refine Run.seq ?_
  refine Run.seq ?_
  obtain ⟨u1, h_u1, h⟩ := bnd h
  refine Run.draw hL hT hM [] (by cbv) (collect_cons (by cbv) (by cbv) (collect_cons (by cbv) (by cbv) (collect_cons (by cbv) (by cbv) (collect_cons (by cbv) (by cbv) (collect_cons (by cbv) (by cbv) (collect_cons (by cbv) (by cbv) (collect_cons (by cbv) (by cbv) (collect_cons (by cbv) (by cbv) (collect_cons (by cbv) (by cbv) (collect_cons (by cbv) (by cbv) (collect_cons (by cbv) (by cbv) (collect_cons (by cbv) (by cbv) (collect_cons (by cbv) (by cbv) (collect_cons (by cbv) (by cbv) (collect_cons (by cbv) (by cbv) (collect_cons (by cbv) (by cbv) (collect_cons (by cbv) (by cbv) (collect_cons (by cbv) (by cbv) (collect_cons (by cbv) (by cbv) (collect_cons (by cbv) (by cbv) (collect_cons (by cbv) (by cbv) (collect_cons (by cbv) (by cbv) (collect_cons (by cbv) (by cbv) (collect_cons (by cbv) (by cbv) (collect_cons (by cbv) (by cbv) (collect_cons (by cbv) (by cbv) (collect_cons (by cbv) (by cbv) (collect_cons (by cbv) (by cbv) (collect_cons (by cbv) (by cbv) (collect_cons (by cbv) (by cbv) (collect_cons (by cbv) (by cbv) (collect_cons (by cbv) (by cbv) (collect_cons (by cbv) (by cbv) collect_nil))))))))))))))))))))))))))))))))) (by cbv) (by cbv) (by cbv) ?_ ?_
  · exact (hq trivial (hq trivial (hq trivial (hq trivial (hq (fun _ => hq0) (hq (fun g3 => (hq g3 hq0)) (hq (fun g4 => (hq g4 hq0)) (hq (fun g5 => (hq g5 (hq trivial hq0))) (hq (fun _ => hq0) (hq (fun g7 => (hq g7 hq0)) (hq (fun g8 => (hq g8 hq0)) (hq (fun g9 => (hq g9 (hq trivial hq0))) (hq (fun _ => hq0) (hq (fun g11 => (hq g11 hq0)) (hq (fun g12 => (hq g12 hq0)) (hq (fun g13 => (hq g13 (hq trivial hq0))) (hq (fun _ => hq0) (hq (fun g15 => (hq g15 hq0)) (hq (fun g16 => (hq g16 (hq g16 (hq trivial hq0)))) (hq (fun g17 => (hq g17 (hq g17 (hq g17 (hq (cutS_0 (gd_t h_u1 g17)) (hq (cutS_1 (gd_t h_u1 g17)) (hq (cutS_2 (gd_t h_u1 g17)) hq0))))))) (hq (fun _ => hq0) (hq (fun g19 => (hq g19 (hq g19 hq0))) (hq (fun _ => hq0) (hq (fun q21 => (hq (bo_m q21) hq0)) hq0))))))))))))))))))))))))
  refine Run.cond (by cbv) (hq0) (fun c22 => ?_) (fun c22 => ?_)
  · have h := if_t c22 h
    refine Run.seq ?_
    refine Run.region hL hT [] (by cbv) ?_ ?_
    · exact (hq trivial hq0)
    refine Run.ret ?_
    cases h
    refine ⟨_, _, by cbv, ?_, ?_⟩
    · exact LLe.r
    · exact ALe.nil
  · have h := if_f c22 h
    refine Run.skip ?_
    refine Run.region hL hT [] (by cbv) ?_ ?_
    · exact (hq trivial (hq trivial (hq trivial hq0)))
    cases h
    refine ⟨_, _, by cbv, ?_, ?_⟩
    · exact LLe.r
    · exact ALe.nil

theorem spec_l2String_ac {a0v_s : ByteArray} {a0v_at_ : Int} {a0v_ok : Bool} {a0v_left : Int} {r : l2Cur × ByteArray} (h : spec_l2String.f (l2Cur.mk a0v_s a0v_at_ a0v_ok a0v_left) = some r) : AC Tryd.prog 89 [.v (.bx 84 [.s (.string a0v_s), .s (.int .i64 a0v_at_), .s (.bool a0v_ok), .s (.int .i64 a0v_left)])] [.v (.bx 84 [.s (.string r.1.s), .s (.int .i64 r.1.at_), .s (.bool r.1.ok), .s (.int .i64 r.1.left)])] [.v (.s (.string r.2))] := by
  unfold spec_l2String.f at h
  let eu8_c := rowsOf u8_c
  show AC Tryd.prog 89 [.v (.bx 84 [.s (.string a0v_s), .s (.int .i64 a0v_at_), .s (.bool a0v_ok), .s (.int .i64 a0v_left)])] _ _
  refine run3 Tryd.func89 (by rfl) (by rfl) (by cbv) ⟨by decide, rfl⟩ ?_
  intro ar cm bo sc sa sx ss sl bs sb ln sr ap up rp fr ge le lt nz mm ma sm fl al ci hL F hP hA hT hM hC
  refine Run.seq ?_
  refine Run.region hL hT [] (by cbv) ?_ ?_
  · exact hq0
  refine Run.seq ?_
  obtain ⟨⟨r1v_s, r1v_at_, r1v_ok, r1v_left⟩, h_r1, h⟩ := bnd h
  refine Run.region hL hT [(1, .call [true, false] [.v (.bx 84 [.s (.string r1v_s), .s (.int .i64 r1v_at_), .s (.bool r1v_ok), .s (.int .i64 r1v_left)]), .v (.jk)] [])] (by cbv) ?_ ?_
  · exact (hq (hC (spec_l2Take_ac h_r1)) hq0)
  refine Run.seq ?_
  refine Run.region hL hT [] (by cbv) ?_ ?_
  · exact hq0
  obtain ⟨K5, h_K5, h⟩ := joinE h
  refine Run.join3 K5 (r := r) (fun (y2 : Int) (y3 : Bool) (y4 : List Int) => ⟨62, 100000, [(0, .pt 0 0 0), (3, .rf 1)], [(0, .box 84 [.t (.s (.string r1v_s)), .t (.s (.int .i64 y2)), .t (.s (.bool y3)), .t (.s (.int .i64 r1v_left))]), (1, .row 0 5 1 (eu8_c y4))]⟩) ?_ ?_
  · skip
    refine Run.block ?_
    refine Run.loop2 (fun (z11 : Int) (z12 : List Int) => ⟨62, 100000, [(0, .pt 0 0 0), (3, .rf 1)], [(0, .box 84 [.t (.s (.string r1v_s)), .t (.s (.int .i64 z11)), .t (.s (.bool r1v_ok)), .t (.s (.int .i64 r1v_left))]), (1, .row 0 5 1 (eu8_c z12))]⟩) (x0 := r1v_at_) (x1 := []) h (Weak.of _ [(0, 0), (1, 8193)] hA (by cbv) ?_) (fun _ _ => rfl) ?_
    · repeat (first | exact hq0 | refine hq (by first | exact True.intro | rfl) ?_)
    · intro k z11 z12 h
      rw [spec_l2String.l0] at h
      refine Run.seq ?_
      refine Run.seq ?_
      obtain ⟨r13, h_r13, h⟩ := bnd h
      refine Run.region hL hT [(6, .call [false] [.v (.jk)] [.v (.s (.int .u8 r13))])] (by cbv) ?_ ?_
      · exact (hq trivial (hq (fun _ => hq0) (hq (fun g15 => (hq g15 (hq (hC (spec_l2Peek_ac (gd_t h_r13 g15))) hq0))) (hq (fun g16 => (hq g16 (hq trivial hq0))) (hq (fun q17 => (hq q17 hq0)) (hq (fun _ => hq0) hq0))))))
      refine Run.cond (by cbv) (hq0) (fun c19 => ?_) (fun c19 => ?_)
      · have h := if_t c19 h
        refine Run.skip ?_
        refine Run.block ?_
        obtain ⟨K21, h_K21, h⟩ := joinE h
        refine Run.join1 K21 (r := r) (fun (y20 : Int) => ⟨62, 100000, [(0, .pt 0 0 0), (3, .rf 1)], [(0, .box 84 [.t (.s (.string r1v_s)), .t (.s (.int .i64 y20)), .t (.s (.bool r1v_ok)), .t (.s (.int .i64 r1v_left))]), (1, .row 0 5 1 (eu8_c z12))]⟩) ?_ ?_
        · skip
          refine Run.seq ?_
          obtain ⟨r22, h_r22, h⟩ := bnd h
          refine Run.region hL hT [(1, .call [false] [.v (.jk)] [.v (.s (.int .u8 r22))])] (by cbv) ?_ ?_
          · exact (hq (hC (spec_l2Peek_ac h_r22)) (hq trivial hq0))
          refine Run.cond (by cbv) (hq0) (fun c23 => ?_) (fun c23 => ?_)
          · have h := if_t c23 h
            refine Run.region hL hT [] (by cbv) ?_ ?_
            · exact (hq trivial (hq trivial (hq trivial hq0)))
            refine ⟨(ar .add .i64 z11 1), h, Weak.of _ [(0, 0), (1, 1)] hA (by cbv) ?_⟩
            repeat (first | exact hq0 | refine hq (by first | exact True.intro | rfl) ?_)
          · have h := if_f c23 h
            refine Run.skip ?_
            refine ⟨z11, h, Weak.of _ [(0, 0), (1, 1)] hA (by cbv) ?_⟩
            repeat (first | exact hq0 | refine hq (by first | exact True.intro | rfl) ?_)
        · intro y20 h
          rw [h_K21] at h
          refine Run.seq ?_
          refine Run.seq ?_
          refine Run.draw hL hT hM [] (by cbv) (collect_cons (by cbv) (by cbv) (collect_cons (by cbv) (by cbv) (collect_cons (by cbv) (by cbv) (collect_cons (by cbv) (by cbv) (collect_cons (by cbv) (by cbv) (collect_cons (by cbv) (by cbv) (collect_cons (by cbv) (by cbv) (collect_cons (by cbv) (by cbv) (collect_cons (by cbv) (by cbv) (collect_cons (by cbv) (by cbv) collect_nil)))))))))) (by cbv) (by cbv) (by cbv) ?_ ?_
          · exact (hq trivial (hq trivial (hq trivial hq0)))
          refine Run.cond (by cbv) (hq0) (fun c24 => ?_) (fun c24 => ?_)
          · have h := if_t c24 h
            refine Run.seq ?_
            refine Run.region hL hT [] (by cbv) ?_ ?_
            · exact (hq trivial hq0)
            refine Run.exit ?_
            refine ⟨y20, false, z12, h, Weak.of _ [(0, 0), (1, 1)] hA (by cbv) ?_⟩
            repeat (first | exact hq0 | refine hq (by first | exact True.intro | rfl) ?_)
          · have h := if_f c24 h
            refine Run.skip ?_
            refine Run.seq ?_
            obtain ⟨u25, h_u25, h⟩ := bnd h
            obtain ⟨l26, h_l26, h⟩ := bnd h
            obtain ⟨l27, h_l27, h⟩ := bnd h
            refine Run.draw hL hT hM [] (by cbv) (collect_cons (by cbv) (by cbv) (collect_cons (by cbv) (by cbv) (collect_cons (by cbv) (by cbv) (collect_cons (by cbv) (by cbv) (collect_cons (by cbv) (by cbv) (collect_cons (by cbv) (by cbv) (collect_cons (by cbv) (by cbv) (collect_cons (by cbv) (by cbv) (collect_cons (by cbv) (by cbv) (collect_cons (by cbv) (by cbv) (collect_cons (by cbv) (by cbv) (collect_cons (by cbv) (by cbv) (collect_cons (by cbv) (by cbv) collect_nil))))))))))))) (by cbv) (by cbv) (by cbv) ?_ ?_
            · exact (hq trivial (hq trivial (hq (inS_0 h_u25) (hq (inS_1 h_u25) (hq (app_mb (P := Tryd.prog) (f := u8_c) RLe.r (some_le (f := u8_c) h_l26 (RLe.cons rfl LLe.r RLe.nil)) h_l27) hq0)))))
            refine Run.row (rows := (ap (eu8_c z12) ([[.s (.int .u8 (sx r1v_s y20))]]))) 104107 (eu8_c l27) (by cbv) (app_le (f := u8_c) RLe.r (some_le (f := u8_c) h_l26 (RLe.cons rfl LLe.r RLe.nil)) h_l27) ?_
            refine Run.region hL hT [] (by cbv) ?_ ?_
            · exact (hq trivial (hq trivial (hq trivial hq0)))
            refine ⟨(ar .add .i64 y20 1), l27, h, Weak.of _ [(0, 0), (1, 104107)] hA (by cbv) ?_⟩
            repeat (first | exact hq0 | refine hq (by first | exact True.intro | rfl) ?_)
      · have h := if_f c19 h
        refine Run.exit ?_
        refine ⟨z11, r1v_ok, z12, h, Weak.of _ [(0, 0), (1, 1)] hA (by cbv) ?_⟩
        repeat (first | exact hq0 | refine hq (by first | exact True.intro | rfl) ?_)
  · intro y2 y3 y4 h
    rw [h_K5] at h
    refine Run.seq ?_
    obtain ⟨⟨r28v_s, r28v_at_, r28v_ok, r28v_left⟩, h_r28, h⟩ := bnd h
    refine Run.region hL hT [(1, .call [true, false] [.v (.bx 84 [.s (.string r28v_s), .s (.int .i64 r28v_at_), .s (.bool r28v_ok), .s (.int .i64 r28v_left)]), .v (.jk)] [])] (by cbv) ?_ ?_
    · exact (hq (hC (spec_l2Take_ac h_r28)) hq0)
    refine Run.seq ?_
    obtain ⟨s29, h_s29, h⟩ := bnd h
    refine Run.region hL hT [(1, .hd [1] (.t (.s (.string s29))) [])] (by cbv) ?_ ?_
    · exact (hq (hand_conv (ns := y4) hT (by rfl) (by rfl) (by rfl) (by rfl) (by rfl) (by rfl) (by rfl) (conv_row h_s29)) hq0)
    refine Run.ret ?_
    cases h
    refine ⟨_, _, by cbv, ?_, ?_⟩
    · exact LLe.r
    · exact (ALe.v LLe.r ALe.nil)

theorem spec_l2Many_ac (self : l2Cur → Int → Option (l2Cur × Json)) (hself : ∀ {a0v_s : ByteArray} {a0v_at_ : Int} {a0v_ok : Bool} {a0v_left : Int} {a1 : Int} {r : l2Cur × Json} (h : self (l2Cur.mk a0v_s a0v_at_ a0v_ok a0v_left) a1 = some r), AC Tryd.prog 50 [.v (.bx 84 [.s (.string a0v_s), .s (.int .i64 a0v_at_), .s (.bool a0v_ok), .s (.int .i64 a0v_left)]), .v (.s (.int .i64 a1))] [.v (.bx 84 [.s (.string r.1.s), .s (.int .i64 r.1.at_), .s (.bool r.1.ok), .s (.int .i64 r.1.left)]), .v (.jk)] [.ag [.s (.int .i64 r.2.Kind), .s (.int .i64 r.2.N), .s (.string r.2.S), .ow 48 (rowsOf Json_o r.2.List_), .ow 9 (rowsOf Str_c r.2.Names)]]) {a0v_s : ByteArray} {a0v_at_ : Int} {a0v_ok : Bool} {a0v_left : Int} {a1 : Int} {r : l2Cur × Json} (h : spec_l2Many.f self (l2Cur.mk a0v_s a0v_at_ a0v_ok a0v_left) a1 = some r) : AC Tryd.prog 90 [.v (.bx 84 [.s (.string a0v_s), .s (.int .i64 a0v_at_), .s (.bool a0v_ok), .s (.int .i64 a0v_left)]), .v (.s (.int .i64 a1))] [.v (.bx 84 [.s (.string r.1.s), .s (.int .i64 r.1.at_), .s (.bool r.1.ok), .s (.int .i64 r.1.left)]), .v (.jk)] [.ag [.s (.int .i64 r.2.Kind), .s (.int .i64 r.2.N), .s (.string r.2.S), .ow 48 (rowsOf Json_o r.2.List_), .ow 9 (rowsOf Str_c r.2.Names)]] := by
  unfold spec_l2Many.f at h
  let eJson_o := rowsOf Json_o
  let eStr_c := rowsOf Str_c
  let lenI_Json := @lenI Json
  show AC Tryd.prog 90 [.v (.bx 84 [.s (.string a0v_s), .s (.int .i64 a0v_at_), .s (.bool a0v_ok), .s (.int .i64 a0v_left)]), .v (.s (.int .i64 a1))] _ _
  refine run3 Tryd.func90 (by rfl) (by rfl) (by cbv) ⟨by decide, rfl⟩ ?_
  intro ar cm bo sc sa sx ss sl bs sb ln sr ap up rp fr ge le lt nz mm ma sm fl al ci hL F hP hA hT hM hC
  refine Run.seq ?_
  refine Run.region hL hT [] (by cbv) ?_ ?_
  · exact hq0
  refine Run.seq ?_
  refine Run.region hL hT [] (by cbv) ?_ ?_
  · exact (hq trivial hq0)
  refine Run.seq ?_
  refine Run.region hL hT [] (by cbv) ?_ ?_
  · exact hq0
  obtain ⟨K3, h_K3, h⟩ := joinE h
  refine Run.join2 K3 (r := r) (fun (y1 : Int) (y2 : ByteArray) => ⟨61, 100000, [(0, .pt 0 0 0), (1, .t (.s (.int .i64 a1))), (4, .pt 1 0 0), (5, .pt 2 0 0), (6, .t (.s (.string y2)))], [(0, .box 84 [.t (.s (.string a0v_s)), .t (.s (.int .i64 a0v_at_)), .t (.s (.bool a0v_ok)), .t (.s (.int .i64 a0v_left))]), (1, .box 48 [.t (.s (.int .i64 0)), .t (.s (.int .i64 0)), .t (.s (.string ByteArray.empty)), .t (.s (.slice none 0 0)), .t (.s (.slice none 0 0))]), (2, .box 48 [.t (.s (.int .i64 y1)), .t (.s (.int .i64 0)), .t (.s (.string ByteArray.empty)), .t (.s (.slice none 0 0)), .t (.s (.slice none 0 0))])]⟩) ?_ ?_
  · skip
    refine Run.seq ?_
    obtain ⟨r4, h_r4, h⟩ := bnd h
    refine Run.region hL hT [(1, .call [false] [.v (.jk)] [.v (.s (.int .u8 r4))])] (by cbv) ?_ ?_
    · exact (hq (hC (spec_l2Peek_ac h_r4)) (hq trivial hq0))
    refine Run.cond (by cbv) (hq0) (fun c5 => ?_) (fun c5 => ?_)
    · have h := if_t c5 h
      refine Run.seq ?_
      refine Run.region hL hT [] (by cbv) ?_ ?_
      · exact (hq trivial hq0)
      refine Run.region hL hT [] (by cbv) ?_ ?_
      · exact hq0
      refine ⟨5, (ByteArray.mk #[125]), h, Weak.of _ [(0, 0), (1, 1), (2, 4098)] hA (by cbv) ?_⟩
      repeat (first | exact hq0 | refine hq (by first | exact True.intro | rfl) ?_)
    · have h := if_f c5 h
      refine Run.skip ?_
      refine ⟨4, (ByteArray.mk #[93]), h, Weak.of _ [(0, 0), (1, 1), (2, 4098)] hA (by cbv) ?_⟩
      repeat (first | exact hq0 | refine hq (by first | exact True.intro | rfl) ?_)
  · intro y1 y2 h
    rw [h_K3] at h
    refine Run.seq ?_
    refine Run.region hL hT [] (by cbv) ?_ ?_
    · exact (hq trivial (hq trivial (hq trivial hq0)))
    obtain ⟨K12, h_K12, h⟩ := joinE h
    refine Run.join6 K12 (r := r) (fun (y6 : ByteArray) (y7 : Int) (y8 : Bool) (y9 : Int) (y10 : List Json) (y11 : List ByteArray) => ⟨61, 100000, [(0, .pt 0 0 0), (4, .pt 1 0 0), (5, .pt 2 0 0), (6, .t (.s (.string y2)))], [(0, .box 84 [.t (.s (.string y6)), .t (.s (.int .i64 y7)), .t (.s (.bool y8)), .t (.s (.int .i64 y9))]), (1, .box 48 [.t (.s (.int .i64 0)), .t (.s (.int .i64 0)), .t (.s (.string ByteArray.empty)), .t (.s (.slice none 0 0)), .t (.s (.slice none 0 0))]), (2, .box 48 [.t (.s (.int .i64 y1)), .t (.s (.int .i64 0)), .t (.s (.string ByteArray.empty)), .rf 3, .rf 4]), (3, .row 0 48 5 (eJson_o y10)), (4, .row 0 9 1 (eStr_c y11))]⟩) ?_ ?_
    · skip
      refine Run.block ?_
      refine Run.loop6 (fun (z39 : ByteArray) (z40 : Int) (z41 : Bool) (z42 : Int) (z43 : List Json) (z44 : List ByteArray) => ⟨61, 100000, [(0, .pt 0 0 0), (1, .t (.s (.int .i64 a1))), (4, .pt 1 0 0), (5, .pt 2 0 0), (6, .t (.s (.string y2)))], [(0, .box 84 [.t (.s (.string z39)), .t (.s (.int .i64 z40)), .t (.s (.bool z41)), .t (.s (.int .i64 z42))]), (1, .box 48 [.t (.s (.int .i64 0)), .t (.s (.int .i64 0)), .t (.s (.string ByteArray.empty)), .t (.s (.slice none 0 0)), .t (.s (.slice none 0 0))]), (2, .box 48 [.t (.s (.int .i64 y1)), .t (.s (.int .i64 0)), .t (.s (.string ByteArray.empty)), .rf 3, .rf 4]), (3, .row 0 48 5 (eJson_o z43)), (4, .row 0 9 1 (eStr_c z44))]⟩) (x0 := a0v_s) (x1 := (ar .add .i64 a0v_at_ 1)) (x2 := a0v_ok) (x3 := a0v_left) (x4 := []) (x5 := []) h ((Weak.nilB (l := [.t (.s (.int .i64 y1)), .t (.s (.int .i64 0)), .t (.s (.string ByteArray.empty))]) hT 2 3 105096 48 rfl (by cbv) (by cbv) (by cbv)).trans ((Weak.nilB (l := [.t (.s (.int .i64 y1)), .t (.s (.int .i64 0)), .t (.s (.string ByteArray.empty)), .rf 105096]) hT 2 4 105097 9 rfl (by cbv) (by cbv) (by cbv)).trans (Weak.of _ [(0, 0), (1, 1), (2, 2), (3, 105096), (4, 105097)] hA (by cbv) ?_))) (fun _ _ _ _ _ _ => rfl) ?_
      · repeat (first | exact hq0 | refine hq (by first | exact True.intro | rfl) ?_)
      · intro k z39 z40 z41 z42 z43 z44 h
        rw [spec_l2Many.l0] at h
        refine Run.seq ?_
        refine Run.seq ?_
        obtain ⟨r45, h_r45, h⟩ := bnd h
        obtain ⟨u46, h_u46, h⟩ := bnd h
        refine Run.draw hL hT hM [(6, .call [false] [.v (.jk)] [.v (.s (.int .u8 r45))])] (by cbv) (collect_cons (by cbv) (by cbv) (collect_cons (by cbv) (by cbv) (collect_cons (by cbv) (by cbv) (collect_cons (by cbv) (by cbv) (collect_cons (by cbv) (by cbv) (collect_cons (by cbv) (by cbv) (collect_cons (by cbv) (by cbv) (collect_cons (by cbv) (by cbv) (collect_cons (by cbv) (by cbv) (collect_cons (by cbv) (by cbv) (collect_cons (by cbv) (by cbv) collect_nil))))))))))) (by cbv) (by cbv) (by cbv) ?_ ?_
        · exact (hq trivial (hq (fun _ => hq0) (hq (fun g48 => (hq g48 (hq (hC (spec_l2Peek_ac (gd_t h_r45 g48))) hq0))) (hq (fun _ => hq0) (hq (fun g50 => (hq g50 (hq (inS_0 (gd_t h_u46 g50)) (hq (inS_1 (gd_t h_u46 g50)) hq0)))) (hq (fun g51 => (hq g51 (hq g51 (hq trivial hq0)))) (hq (fun q52 => (hq q52 hq0)) (hq (fun _ => hq0) hq0))))))))
        refine Run.cond (by cbv) (hq0) (fun c54 => ?_) (fun c54 => ?_)
        · have h := if_t c54 h
          refine Run.skip ?_
          refine Run.block ?_
          obtain ⟨K59, h_K59, h⟩ := joinE h
          refine Run.join4 K59 (r := r) (fun (y55 : ByteArray) (y56 : Int) (y57 : Bool) (y58 : Int) => ⟨61, 100000, [(0, .pt 0 0 0), (1, .t (.s (.int .i64 a1))), (4, .pt 1 0 0), (5, .pt 2 0 0), (6, .t (.s (.string y2)))], [(0, .box 84 [.t (.s (.string y55)), .t (.s (.int .i64 y56)), .t (.s (.bool y57)), .t (.s (.int .i64 y58))]), (1, .box 48 [.t (.s (.int .i64 0)), .t (.s (.int .i64 0)), .t (.s (.string ByteArray.empty)), .t (.s (.slice none 0 0)), .t (.s (.slice none 0 0))]), (2, .box 48 [.t (.s (.int .i64 y1)), .t (.s (.int .i64 0)), .t (.s (.string ByteArray.empty)), .rf 3, .rf 4]), (3, .row 0 48 5 (eJson_o z43)), (4, .row 0 9 1 (eStr_c z44))]⟩) ?_ ?_
          · skip
            refine Run.seq ?_
            refine Run.region hL hT [] (by cbv) ?_ ?_
            · exact (hq trivial (hq trivial hq0))
            rw [show ln (eJson_o z43) = lenI_Json z43 from ln_eq Json_o _]
            refine Run.cond (by cbv) (hq0) (fun c60 => ?_) (fun c60 => ?_)
            · have h := if_t c60 h
              obtain ⟨⟨r61v_s, r61v_at_, r61v_ok, r61v_left⟩, h_r61, h⟩ := bnd h
              refine Run.region hL hT [(1, .call [true, false] [.v (.bx 84 [.s (.string r61v_s), .s (.int .i64 r61v_at_), .s (.bool r61v_ok), .s (.int .i64 r61v_left)]), .v (.jk)] [])] (by cbv) ?_ ?_
              · exact (hq (hC (spec_l2Take_ac h_r61)) hq0)
              refine ⟨r61v_s, r61v_at_, r61v_ok, r61v_left, h, Weak.of _ [(0, 0), (1, 1), (2, 2), (3, 3), (4, 4)] hA (by cbv) ?_⟩
              repeat (first | exact hq0 | refine hq (by first | exact True.intro | rfl) ?_)
            · have h := if_f c60 h
              refine Run.skip ?_
              refine ⟨z39, z40, z41, z42, h, Weak.of _ [(0, 0), (1, 1), (2, 2), (3, 3), (4, 4)] hA (by cbv) ?_⟩
              repeat (first | exact hq0 | refine hq (by first | exact True.intro | rfl) ?_)
          · intro y55 y56 y57 y58 h
            rw [h_K59] at h
            obtain ⟨K67, h_K67, h⟩ := joinE h
            refine Run.join5 K67 (r := r) (fun (y62 : ByteArray) (y63 : Int) (y64 : Bool) (y65 : Int) (y66 : List ByteArray) => ⟨61, 100000, [(0, .pt 0 0 0), (1, .t (.s (.int .i64 a1))), (4, .pt 1 0 0), (5, .pt 2 0 0), (6, .t (.s (.string y2)))], [(0, .box 84 [.t (.s (.string y62)), .t (.s (.int .i64 y63)), .t (.s (.bool y64)), .t (.s (.int .i64 y65))]), (1, .box 48 [.t (.s (.int .i64 0)), .t (.s (.int .i64 0)), .t (.s (.string ByteArray.empty)), .t (.s (.slice none 0 0)), .t (.s (.slice none 0 0))]), (2, .box 48 [.t (.s (.int .i64 y1)), .t (.s (.int .i64 0)), .t (.s (.string ByteArray.empty)), .rf 3, .rf 4]), (3, .row 0 48 5 (eJson_o z43)), (4, .row 0 9 1 (eStr_c y66))]⟩) ?_ ?_
            · skip
              refine Run.seq ?_
              refine Run.region hL hT [] (by cbv) ?_ ?_
              · exact (hq trivial (hq trivial hq0))
              refine Run.cond (by cbv) (hq0) (fun c68 => ?_) (fun c68 => ?_)
              · have h := if_t c68 h
                refine Run.seq ?_
                obtain ⟨⟨⟨r69v_1v_s, r69v_1v_at_, r69v_1v_ok, r69v_1v_left⟩, r69v_2⟩, h_r69, h⟩ := bnd h
                obtain ⟨l70, h_l70, h⟩ := bnd h
                obtain ⟨l71, h_l71, h⟩ := bnd h
                refine Run.draw hL hT hM [(3, .call [true] [.v (.bx 84 [.s (.string r69v_1v_s), .s (.int .i64 r69v_1v_at_), .s (.bool r69v_1v_ok), .s (.int .i64 r69v_1v_left)])] [.v (.s (.string r69v_2))])] (by cbv) (collect_cons (by cbv) (by cbv) (collect_cons (by cbv) (by cbv) (collect_cons (by cbv) (by cbv) (collect_cons (by cbv) (by cbv) (collect_cons (by cbv) (by cbv) (collect_cons (by cbv) (by cbv) (collect_cons (by cbv) (by cbv) (collect_cons (by cbv) (by cbv) collect_nil)))))))) (by cbv) (by cbv) (by cbv) ?_ ?_
                · exact (hq trivial (hq (hC (spec_l2String_ac h_r69)) (hq (app_mb (P := Tryd.prog) (f := Str_c) RLe.r (some_le (f := Str_c) h_l70 (RLe.cons rfl LLe.r RLe.nil)) h_l71) (hq trivial hq0))))
                refine Run.row (rows := (ap (eStr_c z44) ([[.s (.string r69v_2)]]))) 104101 (eStr_c l71) (by cbv) (app_le (f := Str_c) RLe.r (some_le (f := Str_c) h_l70 (RLe.cons rfl LLe.r RLe.nil)) h_l71) ?_
                obtain ⟨⟨r72v_s, r72v_at_, r72v_ok, r72v_left⟩, h_r72, h⟩ := bnd h
                refine Run.region hL hT [(1, .call [true, false] [.v (.bx 84 [.s (.string r72v_s), .s (.int .i64 r72v_at_), .s (.bool r72v_ok), .s (.int .i64 r72v_left)]), .v (.jk)] [])] (by cbv) ?_ ?_
                · exact (hq (hC (spec_l2Take_ac h_r72)) hq0)
                refine ⟨r72v_s, r72v_at_, r72v_ok, r72v_left, l71, h, Weak.of _ [(0, 0), (1, 1), (2, 2), (3, 3), (4, 104101)] hA (by cbv) ?_⟩
                repeat (first | exact hq0 | refine hq (by first | exact True.intro | rfl) ?_)
              · have h := if_f c68 h
                refine Run.skip ?_
                refine ⟨y55, y56, y57, y58, z44, h, Weak.of _ [(0, 0), (1, 1), (2, 2), (3, 3), (4, 4)] hA (by cbv) ?_⟩
                repeat (first | exact hq0 | refine hq (by first | exact True.intro | rfl) ?_)
            · intro y62 y63 y64 y65 y66 h
              rw [h_K67] at h
              obtain ⟨⟨⟨r73v_1v_s, r73v_1v_at_, r73v_1v_ok, r73v_1v_left⟩, ⟨r73v_2v_Kind, r73v_2v_N, r73v_2v_S, r73v_2v_List_, r73v_2v_Names⟩⟩, h_r73, h⟩ := bnd h
              obtain ⟨l74, h_l74, h⟩ := bnd h
              obtain ⟨l75, h_l75, h⟩ := bnd h
              refine Run.draw hL hT hM [(5, .call [true, false] [.v (.bx 84 [.s (.string r73v_1v_s), .s (.int .i64 r73v_1v_at_), .s (.bool r73v_1v_ok), .s (.int .i64 r73v_1v_left)]), .v (.jk)] [.ag [.s (.int .i64 r73v_2v_Kind), .s (.int .i64 r73v_2v_N), .s (.string r73v_2v_S), .ow 48 (eJson_o r73v_2v_List_), .ow 9 (eStr_c r73v_2v_Names)]])] (by cbv) (collect_cons (by cbv) (by cbv) (collect_cons (by cbv) (by cbv) (collect_cons (by cbv) (by cbv) (collect_cons (by cbv) (by cbv) (collect_cons (by cbv) (by cbv) (collect_cons (by cbv) (by cbv) (collect_cons (by cbv) (by cbv) (collect_cons (by cbv) (by cbv) (collect_cons (by cbv) (by cbv) (collect_cons (by cbv) (by cbv) collect_nil)))))))))) (by cbv) (by cbv) (by cbv) ?_ ?_
              · exact (hq trivial (hq trivial (hq (hC (hself h_r73)) (hq (app_mb (P := Tryd.prog) (f := Json_o) RLe.r (some_leU Json_o_u h_l74 (RLe.cons rfl LLe.r RLe.nil)) h_l75) (hq trivial hq0)))))
              refine ⟨r73v_1v_s, r73v_1v_at_, r73v_1v_ok, r73v_1v_left, l75, y66, h, (Weak.row (rows := (ap (eJson_o z43) ([[.s (.int .i64 r73v_2v_Kind), .s (.int .i64 r73v_2v_N), .s (.string r73v_2v_S), .ow 48 (eJson_o r73v_2v_List_), .ow 9 (eStr_c r73v_2v_Names)]]))) 100007 (eJson_o l75) (by cbv) (app_le (f := Json_o) RLe.r (some_leU Json_o_u h_l74 (RLe.cons rfl LLe.r RLe.nil)) h_l75)).trans (Weak.of _ [(0, 0), (1, 1), (2, 2), (3, 100007), (4, 4)] hA (by cbv) ?_)⟩
              repeat (first | exact hq0 | refine hq (by first | exact True.intro | rfl) ?_)
        · have h := if_f c54 h
          refine Run.exit ?_
          refine ⟨z39, z40, z41, z42, z43, z44, h, Weak.of _ [(0, 0), (1, 1), (2, 2), (3, 3), (4, 4)] hA (by cbv) ?_⟩
          repeat (first | exact hq0 | refine hq (by first | exact True.intro | rfl) ?_)
    · intro y6 y7 y8 y9 y10 y11 h
      rw [h_K12] at h
      refine Run.seq ?_
      obtain ⟨⟨r76v_s, r76v_at_, r76v_ok, r76v_left⟩, h_r76, h⟩ := bnd h
      refine Run.region hL hT [(2, .call [true, false] [.v (.bx 84 [.s (.string r76v_s), .s (.int .i64 r76v_at_), .s (.bool r76v_ok), .s (.int .i64 r76v_left)]), .v (.jk)] [])] (by cbv) ?_ ?_
      · exact (hq (hC (spec_l2Take_ac h_r76)) hq0)
      refine Run.seq ?_
      refine Run.region hL hT [] (by cbv) ?_ ?_
      · exact (hq trivial (hq trivial hq0))
      refine Run.ret ?_
      cases h
      refine ⟨_, _, by cbv, ?_, ?_⟩
      · exact LLe.r
      · exact (ALe.ag rfl LLe.r ALe.nil)

theorem spec_l2Value_acs (self : l2Cur → Int → Option (l2Cur × Json)) (hself : ∀ {a0v_s : ByteArray} {a0v_at_ : Int} {a0v_ok : Bool} {a0v_left : Int} {a1 : Int} {r : l2Cur × Json} (h : self (l2Cur.mk a0v_s a0v_at_ a0v_ok a0v_left) a1 = some r), AC Tryd.prog 50 [.v (.bx 84 [.s (.string a0v_s), .s (.int .i64 a0v_at_), .s (.bool a0v_ok), .s (.int .i64 a0v_left)]), .v (.s (.int .i64 a1))] [.v (.bx 84 [.s (.string r.1.s), .s (.int .i64 r.1.at_), .s (.bool r.1.ok), .s (.int .i64 r.1.left)]), .v (.jk)] [.ag [.s (.int .i64 r.2.Kind), .s (.int .i64 r.2.N), .s (.string r.2.S), .ow 48 (rowsOf Json_o r.2.List_), .ow 9 (rowsOf Str_c r.2.Names)]]) {a0v_s : ByteArray} {a0v_at_ : Int} {a0v_ok : Bool} {a0v_left : Int} {a1 : Int} {r : l2Cur × Json} (h : spec_l2Value.b self (l2Cur.mk a0v_s a0v_at_ a0v_ok a0v_left) a1 = some r) : AC Tryd.prog 50 [.v (.bx 84 [.s (.string a0v_s), .s (.int .i64 a0v_at_), .s (.bool a0v_ok), .s (.int .i64 a0v_left)]), .v (.s (.int .i64 a1))] [.v (.bx 84 [.s (.string r.1.s), .s (.int .i64 r.1.at_), .s (.bool r.1.ok), .s (.int .i64 r.1.left)]), .v (.jk)] [.ag [.s (.int .i64 r.2.Kind), .s (.int .i64 r.2.N), .s (.string r.2.S), .ow 48 (rowsOf Json_o r.2.List_), .ow 9 (rowsOf Str_c r.2.Names)]] := by
  unfold spec_l2Value.b at h
  let eJson_o := rowsOf Json_o
  let eStr_c := rowsOf Str_c
  show AC Tryd.prog 50 [.v (.bx 84 [.s (.string a0v_s), .s (.int .i64 a0v_at_), .s (.bool a0v_ok), .s (.int .i64 a0v_left)]), .v (.s (.int .i64 a1))] _ _
  refine run3 Tryd.func50 (by rfl) (by rfl) (by cbv) ⟨by decide, rfl⟩ ?_
  intro ar cm bo sc sa sx ss sl bs sb ln sr ap up rp fr ge le lt nz mm ma sm fl al ci hL F hP hA hT hM hC
  refine Run.seq ?_
  refine Run.region hL hT [] (by cbv) ?_ ?_
  · exact hq0
  refine Run.seq ?_
  refine Run.region hL hT [] (by cbv) ?_ ?_
  · exact (hq trivial (hq trivial (hq trivial hq0)))
  obtain ⟨K3, h_K3, h⟩ := joinE h
  refine Run.join2 K3 (r := r) (fun (y1 : Bool) (y2 : Int) => ⟨61, 100000, [(0, .pt 0 0 0), (1, .t (.s (.int .i64 a1))), (4, .pt 1 0 0)], [(0, .box 84 [.t (.s (.string a0v_s)), .t (.s (.int .i64 a0v_at_)), .t (.s (.bool y1)), .t (.s (.int .i64 y2))]), (1, .box 48 [.t (.s (.int .i64 0)), .t (.s (.int .i64 0)), .t (.s (.string ByteArray.empty)), .t (.s (.slice none 0 0)), .t (.s (.slice none 0 0))])]⟩) ?_ ?_
  · skip
    refine Run.seq ?_
    refine Run.region hL hT [] (by cbv) ?_ ?_
    · exact (hq trivial (hq (fun _ => hq0) (hq (fun g5 => (hq g5 hq0)) (hq (fun g6 => (hq g6 hq0)) (hq (fun g7 => (hq g7 (hq trivial hq0))) (hq (fun g8 => (hq g8 (hq trivial hq0))) (hq (fun _ => hq0) (hq (fun q10 => (hq (bo_m q10) hq0)) hq0))))))))
    refine Run.cond (by cbv) (hq0) (fun c11 => ?_) (fun c11 => ?_)
    · have h := if_t c11 h
      refine Run.region hL hT [] (by cbv) ?_ ?_
      · exact (hq trivial hq0)
      refine ⟨false, (ar .sub .i64 a0v_left 1), h, Weak.of _ [(0, 0), (1, 1)] hA (by cbv) ?_⟩
      repeat (first | exact hq0 | refine hq (by first | exact True.intro | rfl) ?_)
    · have h := if_f c11 h
      refine Run.skip ?_
      refine ⟨a0v_ok, (ar .sub .i64 a0v_left 1), h, Weak.of _ [(0, 0), (1, 1)] hA (by cbv) ?_⟩
      repeat (first | exact hq0 | refine hq (by first | exact True.intro | rfl) ?_)
  · intro y1 y2 h
    rw [h_K3] at h
    refine Run.seq ?_
    refine Run.seq ?_
    refine Run.region hL hT [] (by cbv) ?_ ?_
    · exact (hq trivial hq0)
    refine Run.cond (by cbv) (hq0) (fun c12 => ?_) (fun c12 => ?_)
    · have h := if_t c12 h
      refine Run.seq ?_
      refine Run.region hL hT [] (by cbv) ?_ ?_
      · exact (hq trivial hq0)
      refine Run.ret ?_
      cases h
      refine ⟨_, _, by cbv, ?_, ?_⟩
      · exact LLe.r
      · exact (ALe.ag rfl (LLe.c (LLe.c (LLe.c (LLe.cons LLe.nilO (LLe.cons LLe.nilO LLe.nil))))) ALe.nil)
    · have h := if_f c12 h
      refine Run.skip ?_
      refine Run.seq ?_
      refine Run.seq ?_
      obtain ⟨r13, h_r13, h⟩ := bnd h
      refine Run.region hL hT [(1, .call [false] [.v (.jk)] [.v (.s (.int .u8 r13))])] (by cbv) ?_ ?_
      · exact (hq (hC (spec_l2Peek_ac h_r13)) hq0)
      refine Run.block ?_
      refine Run.seq ?_
      refine Run.region hL hT [] (by cbv) ?_ ?_
      · exact (hq trivial hq0)
      refine Run.cond (by cbv) (hq0) (fun c14 => ?_) (fun c14 => ?_)
      · have h := if_t c14 h
        refine Run.seq ?_
        obtain ⟨⟨r15v_s, r15v_at_, r15v_ok, r15v_left⟩, h_r15, h⟩ := bnd h
        refine Run.region hL hT [(1, .call [true, false] [.v (.bx 84 [.s (.string r15v_s), .s (.int .i64 r15v_at_), .s (.bool r15v_ok), .s (.int .i64 r15v_left)]), .v (.jk)] [])] (by cbv) ?_ ?_
        · exact (hq (hC (spec_l2Take_ac h_r15)) hq0)
        refine Run.seq ?_
        refine Run.region hL hT [] (by cbv) ?_ ?_
        · exact (hq trivial hq0)
        refine Run.ret ?_
        cases h
        refine ⟨_, _, by cbv, ?_, ?_⟩
        · exact LLe.r
        · exact (ALe.ag rfl (LLe.c (LLe.c (LLe.c (LLe.cons LLe.nilO (LLe.cons LLe.nilO LLe.nil))))) ALe.nil)
      · have h := if_f c14 h
        refine Run.seq ?_
        refine Run.region hL hT [] (by cbv) ?_ ?_
        · exact (hq trivial hq0)
        refine Run.cond (by cbv) (hq0) (fun c16 => ?_) (fun c16 => ?_)
        · have h := if_t c16 h
          refine Run.seq ?_
          obtain ⟨⟨r17v_s, r17v_at_, r17v_ok, r17v_left⟩, h_r17, h⟩ := bnd h
          refine Run.region hL hT [(1, .call [true, false] [.v (.bx 84 [.s (.string r17v_s), .s (.int .i64 r17v_at_), .s (.bool r17v_ok), .s (.int .i64 r17v_left)]), .v (.jk)] [])] (by cbv) ?_ ?_
          · exact (hq (hC (spec_l2Take_ac h_r17)) hq0)
          refine Run.seq ?_
          refine Run.region hL hT [] (by cbv) ?_ ?_
          · exact (hq trivial hq0)
          refine Run.ret ?_
          cases h
          refine ⟨_, _, by cbv, ?_, ?_⟩
          · exact LLe.r
          · exact (ALe.ag rfl (LLe.c (LLe.c (LLe.c (LLe.cons LLe.nilO (LLe.cons LLe.nilO LLe.nil))))) ALe.nil)
        · have h := if_f c16 h
          refine Run.seq ?_
          refine Run.region hL hT [] (by cbv) ?_ ?_
          · exact (hq trivial hq0)
          refine Run.cond (by cbv) (hq0) (fun c18 => ?_) (fun c18 => ?_)
          · have h := if_t c18 h
            refine Run.seq ?_
            obtain ⟨⟨r19v_s, r19v_at_, r19v_ok, r19v_left⟩, h_r19, h⟩ := bnd h
            refine Run.region hL hT [(1, .call [true, false] [.v (.bx 84 [.s (.string r19v_s), .s (.int .i64 r19v_at_), .s (.bool r19v_ok), .s (.int .i64 r19v_left)]), .v (.jk)] [])] (by cbv) ?_ ?_
            · exact (hq (hC (spec_l2Take_ac h_r19)) hq0)
            refine Run.seq ?_
            refine Run.region hL hT [] (by cbv) ?_ ?_
            · exact (hq trivial hq0)
            refine Run.ret ?_
            cases h
            refine ⟨_, _, by cbv, ?_, ?_⟩
            · exact LLe.r
            · exact (ALe.ag rfl (LLe.c (LLe.c (LLe.c (LLe.cons LLe.nilO (LLe.cons LLe.nilO LLe.nil))))) ALe.nil)
          · have h := if_f c18 h
            refine Run.seq ?_
            refine Run.region hL hT [] (by cbv) ?_ ?_
            · exact (hq trivial hq0)
            refine Run.cond (by cbv) (hq0) (fun c20 => ?_) (fun c20 => ?_)
            · have h := if_t c20 h
              refine Run.seq ?_
              obtain ⟨⟨⟨r21v_1v_s, r21v_1v_at_, r21v_1v_ok, r21v_1v_left⟩, r21v_2⟩, h_r21, h⟩ := bnd h
              refine Run.region hL hT [(1, .call [true] [.v (.bx 84 [.s (.string r21v_1v_s), .s (.int .i64 r21v_1v_at_), .s (.bool r21v_1v_ok), .s (.int .i64 r21v_1v_left)])] [.v (.s (.string r21v_2))])] (by cbv) ?_ ?_
              · exact (hq (hC (spec_l2String_ac h_r21)) (hq trivial hq0))
              refine Run.ret ?_
              cases h
              refine ⟨_, _, by cbv, ?_, ?_⟩
              · exact LLe.r
              · exact (ALe.ag rfl (LLe.c (LLe.c (LLe.c (LLe.cons LLe.nilO (LLe.cons LLe.nilO LLe.nil))))) ALe.nil)
            · have h := if_f c20 h
              obtain ⟨K23, h_K23, h⟩ := joinE h
              refine Run.join1 K23 (r := r) (fun (y22 : Bool) => ⟨61, 100000, [(0, .pt 0 0 0), (1, .t (.s (.int .i64 a1))), (4, .pt 1 0 0), (52, .t (.s (.bool y22)))], [(0, .box 84 [.t (.s (.string a0v_s)), .t (.s (.int .i64 a0v_at_)), .t (.s (.bool y1)), .t (.s (.int .i64 y2))]), (1, .box 48 [.t (.s (.int .i64 0)), .t (.s (.int .i64 0)), .t (.s (.string ByteArray.empty)), .t (.s (.slice none 0 0)), .t (.s (.slice none 0 0))])]⟩) ?_ ?_
              · skip
                refine Run.seq ?_
                refine Run.region hL hT [] (by cbv) ?_ ?_
                · exact (hq trivial hq0)
                refine Run.cond (by cbv) (hq0) (fun c24 => ?_) (fun c24 => ?_)
                · have h := if_t c24 h
                  refine Run.skip ?_
                  refine ⟨(cm .eql r13 91), h, Weak.of _ [(0, 0), (1, 1)] hA (by cbv) ?_⟩
                  repeat (first | exact hq0 | refine hq (by first | exact True.intro | rfl) ?_)
                · have h := if_f c24 h
                  refine Run.region hL hT [] (by cbv) ?_ ?_
                  · exact (hq trivial hq0)
                  refine ⟨(cm .eql r13 123), h, Weak.of _ [(0, 0), (1, 1)] hA (by cbv) ?_⟩
                  repeat (first | exact hq0 | refine hq (by first | exact True.intro | rfl) ?_)
              · intro y22 h
                rw [h_K23] at h
                refine Run.cond (by cbv) (hq0) (fun c25 => ?_) (fun c25 => ?_)
                · have h := if_t c25 h
                  refine Run.seq ?_
                  obtain ⟨⟨⟨r26v_1v_s, r26v_1v_at_, r26v_1v_ok, r26v_1v_left⟩, ⟨r26v_2v_Kind, r26v_2v_N, r26v_2v_S, r26v_2v_List_, r26v_2v_Names⟩⟩, h_r26, h⟩ := bnd h
                  refine Run.region hL hT [(2, .call [true, false] [.v (.bx 84 [.s (.string r26v_1v_s), .s (.int .i64 r26v_1v_at_), .s (.bool r26v_1v_ok), .s (.int .i64 r26v_1v_left)]), .v (.jk)] [.ag [.s (.int .i64 r26v_2v_Kind), .s (.int .i64 r26v_2v_N), .s (.string r26v_2v_S), .ow 48 (eJson_o r26v_2v_List_), .ow 9 (eStr_c r26v_2v_Names)]])] (by cbv) ?_ ?_
                  · exact (hq (hC (spec_l2Many_ac self hself h_r26)) (hq trivial hq0))
                  refine Run.ret ?_
                  cases h
                  refine ⟨_, _, by cbv, ?_, ?_⟩
                  · exact LLe.r
                  · exact (ALe.ag rfl LLe.r ALe.nil)
                · have h := if_f c25 h
                  refine Run.skip ?_
                  refine Run.seq ?_
                  obtain ⟨⟨⟨r27v_1v_s, r27v_1v_at_, r27v_1v_ok, r27v_1v_left⟩, r27v_2⟩, h_r27, h⟩ := bnd h
                  refine Run.region hL hT [(1, .call [true] [.v (.bx 84 [.s (.string r27v_1v_s), .s (.int .i64 r27v_1v_at_), .s (.bool r27v_1v_ok), .s (.int .i64 r27v_1v_left)])] [.v (.s (.int .i64 r27v_2))])] (by cbv) ?_ ?_
                  · exact (hq (hC (spec_l2Number_ac h_r27)) (hq trivial hq0))
                  refine Run.ret ?_
                  cases h
                  refine ⟨_, _, by cbv, ?_, ?_⟩
                  · exact LLe.r
                  · exact (ALe.ag rfl (LLe.c (LLe.c (LLe.c (LLe.cons LLe.nilO (LLe.cons LLe.nilO LLe.nil))))) ALe.nil)
theorem spec_l2Value_acg : ∀ (k : Nat) {a0v_s : ByteArray} {a0v_at_ : Int} {a0v_ok : Bool} {a0v_left : Int} {a1 : Int} {r : l2Cur × Json} (h : spec_l2Value.g k (l2Cur.mk a0v_s a0v_at_ a0v_ok a0v_left) a1 = some r), AC Tryd.prog 50 [.v (.bx 84 [.s (.string a0v_s), .s (.int .i64 a0v_at_), .s (.bool a0v_ok), .s (.int .i64 a0v_left)]), .v (.s (.int .i64 a1))] [.v (.bx 84 [.s (.string r.1.s), .s (.int .i64 r.1.at_), .s (.bool r.1.ok), .s (.int .i64 r.1.left)]), .v (.jk)] [.ag [.s (.int .i64 r.2.Kind), .s (.int .i64 r.2.N), .s (.string r.2.S), .ow 48 (rowsOf Json_o r.2.List_), .ow 9 (rowsOf Str_c r.2.Names)]]
  | 0 => fun h => by cases h
  | k + 1 => fun h => spec_l2Value_acs (spec_l2Value.g k) (spec_l2Value_acg k) h
theorem spec_l2Value_ac {a0v_s : ByteArray} {a0v_at_ : Int} {a0v_ok : Bool} {a0v_left : Int} {a1 : Int} {r : l2Cur × Json} (h : spec_l2Value.f (l2Cur.mk a0v_s a0v_at_ a0v_ok a0v_left) a1 = some r) : AC Tryd.prog 50 [.v (.bx 84 [.s (.string a0v_s), .s (.int .i64 a0v_at_), .s (.bool a0v_ok), .s (.int .i64 a0v_left)]), .v (.s (.int .i64 a1))] [.v (.bx 84 [.s (.string r.1.s), .s (.int .i64 r.1.at_), .s (.bool r.1.ok), .s (.int .i64 r.1.left)]), .v (.jk)] [.ag [.s (.int .i64 r.2.Kind), .s (.int .i64 r.2.N), .s (.string r.2.S), .ow 48 (rowsOf Json_o r.2.List_), .ow 9 (rowsOf Str_c r.2.Names)]] := spec_l2Value_acg 20 h

theorem spec_l1Text_ac {a0 : ByteArray} {r : Bool} (h : spec_l1Text.f a0 = some r) : AC Tryd.prog 130 [.v (.s (.string a0))] [.v (.jk)] [.v (.s (.bool r))] := by
  unfold spec_l1Text.f at h
  show AC Tryd.prog 130 [.v (.s (.string a0))] _ _
  refine run3 Tryd.func130 (by rfl) (by rfl) (by cbv) ⟨by decide, rfl⟩ ?_
  intro ar cm bo sc sa sx ss sl bs sb ln sr ap up rp fr ge le lt nz mm ma sm fl al ci hL F hP hA hT hM hC
  refine Run.seq ?_
  refine Run.region hL hT [] (by cbv) ?_ ?_
  · exact hq0
  refine Run.seq ?_
  refine Run.seq ?_
  refine Run.region hL hT [] (by cbv) ?_ ?_
  · exact hq0
  refine Run.block ?_
  refine Run.loop1 (fun (z3 : Int) => ⟨23, 100000, [(0, .t (.s (.string a0))), (3, .t (.s (.int .i64 z3)))], []⟩) (x0 := 0) h (Weak.of _ [] hA (by cbv) ?_) (fun _ => rfl) ?_
  · repeat (first | exact hq0 | refine hq (by first | exact True.intro | rfl) ?_)
  · intro k z3 h
    rw [spec_l1Text.l0] at h
    refine Run.seq ?_
    refine Run.seq ?_
    refine Run.region hL hT [] (by cbv) ?_ ?_
    · exact (hq trivial hq0)
    refine Run.cond (by cbv) (hq0) (fun c4 => ?_) (fun c4 => ?_)
    · have h := if_t c4 h
      refine Run.skip ?_
      refine Run.seq ?_
      refine Run.block ?_
      refine Run.seq ?_
      obtain ⟨u5, h_u5, h⟩ := bnd h
      obtain ⟨u6, h_u6, h⟩ := bnd h
      refine Run.region hL hT [] (by cbv) ?_ ?_
      · exact (hq (inS_0 h_u5) (hq (inS_1 h_u5) (hq trivial (hq (fun _ => hq0) (hq (fun _ => hq0) (hq (fun g9 => (hq g9 (hq g9 (hq (inS_0 (gd_t h_u6 g9)) (hq (inS_1 (gd_t h_u6 g9)) hq0))))) (hq (fun g10 => (hq g10 (hq trivial hq0))) (hq (fun _ => hq0) (hq (fun q12 => (hq (bo_m q12) hq0)) hq0)))))))))
      refine Run.cond (by cbv) (hq0) (fun c13 => ?_) (fun c13 => ?_)
      · have h := if_t c13 h
        refine Run.seq ?_
        refine Run.region hL hT [] (by cbv) ?_ ?_
        · exact hq0
        refine Run.ret ?_
        cases h
        refine ⟨_, _, by cbv, ?_, ?_⟩
        · exact LLe.r
        · exact (ALe.v LLe.r ALe.nil)
      · have h := if_f c13 h
        refine Run.skip ?_
        refine Run.region hL hT [] (by cbv) ?_ ?_
        · exact (hq trivial hq0)
        refine ⟨(ar .add .i64 z3 1), h, Weak.of _ [] hA (by cbv) ?_⟩
        repeat (first | exact hq0 | refine hq (by first | exact True.intro | rfl) ?_)
    · have h := if_f c4 h
      refine Run.exit ?_
      refine Run.seq ?_
      refine Run.region hL hT [] (by cbv) ?_ ?_
      · exact (hq trivial hq0)
      refine Run.ret ?_
      cases h
      refine ⟨_, _, by cbv, ?_, ?_⟩
      · exact LLe.r
      · exact (ALe.v LLe.r ALe.nil)

theorem spec_l1Names_ac {a0v_Kind : Int} {a0v_N : Int} {a0v_S : ByteArray} {a0v_List_ : List Json} {a0v_Names : List ByteArray} {r : Bool} (h : spec_l1Names.f (Json.mk a0v_Kind a0v_N a0v_S a0v_List_ a0v_Names) = some r) : AC Tryd.prog 131 [.ag [.s (.int .i64 a0v_Kind), .s (.int .i64 a0v_N), .s (.string a0v_S), .im false (rowsOf Json_i a0v_List_), .im false (rowsOf Str_c a0v_Names)]] [.ag [.jk, .jk, .jk, .jk, .jk]] [.v (.s (.bool r))] := by
  unfold spec_l1Names.f at h
  let eJson_i := rowsOf Json_i
  let eStr_c := rowsOf Str_c
  let lenI_Json := @lenI Json
  let lenI_Str := @lenI ByteArray
  show AC Tryd.prog 131 [.ag [.s (.int .i64 a0v_Kind), .s (.int .i64 a0v_N), .s (.string a0v_S), .im false (eJson_i a0v_List_), .im false (eStr_c a0v_Names)]] _ _
  refine run3 Tryd.func131 (by rfl) (by rfl) (by cbv) ⟨by decide, rfl⟩ ?_
  intro ar cm bo sc sa sx ss sl bs sb ln sr ap up rp fr ge le lt nz mm ma sm fl al ci hL F hP hA hT hM hC
  refine Run.seq ?_
  refine Run.region hL hT [] (by cbv) ?_ ?_
  · exact hq0
  refine Run.seq ?_
  refine Run.seq ?_
  refine Run.region hL hT [] (by cbv) ?_ ?_
  · exact (hq trivial (hq trivial hq0))
  refine Run.cond (by cbv) (hq0) (fun c1 => ?_) (fun c1 => ?_)
  · have h := if_t c1 h
    refine Run.seq ?_
    refine Run.region hL hT [] (by cbv) ?_ ?_
    · exact (hq trivial (hq trivial hq0))
    rw [show ln (eStr_c a0v_Names) = lenI_Str a0v_Names from ln_eq Str_c _]
    refine Run.ret ?_
    cases h
    refine ⟨_, _, by cbv, ?_, ?_⟩
    · exact LLe.r
    · exact (ALe.v LLe.r ALe.nil)
  · have h := if_f c1 h
    refine Run.skip ?_
    refine Run.seq ?_
    refine Run.seq ?_
    refine Run.region hL hT [] (by cbv) ?_ ?_
    · exact hq0
    refine Run.block ?_
    refine Run.loop1 (fun (z8 : Int) => ⟨50, 100000, [(1, .pt 1 0 0), (3, .t (.s (.int .i64 z8)))], [(1, .box 48 [.t (.s (.int .i64 a0v_Kind)), .t (.s (.int .i64 a0v_N)), .t (.s (.string a0v_S)), .t (.im false (eJson_i a0v_List_)), .t (.im false (eStr_c a0v_Names))])]⟩) (x0 := 0) h (Weak.of _ [(1, 0)] hA (by cbv) ?_) (fun _ => rfl) ?_
    · repeat (first | exact hq0 | refine hq (by first | exact True.intro | rfl) ?_)
    · intro k z8 h
      rw [spec_l1Names.l0] at h
      refine Run.seq ?_
      refine Run.seq ?_
      refine Run.region hL hT [] (by cbv) ?_ ?_
      · exact (hq trivial (hq trivial hq0))
      rw [show ln (eStr_c a0v_Names) = lenI_Str a0v_Names from ln_eq Str_c _]
      refine Run.cond (by cbv) (hq0) (fun c9 => ?_) (fun c9 => ?_)
      · have h := if_t c9 h
        refine Run.skip ?_
        refine Run.seq ?_
        refine Run.block ?_
        refine Run.seq ?_
        obtain ⟨x10, h_x10, h⟩ := bnd h
        obtain ⟨r11, h_r11, h⟩ := bnd h
        obtain ⟨x12, h_x12, h⟩ := bnd h
        refine Run.draw hL hT hM [(3, .el [.s (.string x10)]), (5, .call [false] [.v (.jk)] [.v (.s (.bool r11))]), (15, .el [.s (.string x12)]), (20, .el [.s (.string x10)])] (by cbv) (collect_cons (by cbv) (by cbv) (collect_cons (by cbv) (by cbv) (collect_cons (by cbv) (by cbv) (collect_cons (by cbv) (by cbv) (collect_cons (by cbv) (by cbv) (collect_cons (by cbv) (by cbv) (collect_cons (by cbv) (by cbv) (collect_cons (by cbv) (by cbv) (collect_cons (by cbv) (by cbv) (collect_cons (by cbv) (by cbv) (collect_cons (by cbv) (by cbv) (collect_cons (by cbv) (by cbv) (collect_cons (by cbv) (by cbv) (collect_cons (by cbv) (by cbv) (collect_cons (by cbv) (by cbv) (collect_cons (by cbv) (by cbv) (collect_cons (by cbv) (by cbv) (collect_cons (by cbv) (by cbv) (collect_cons (by cbv) (by cbv) (collect_cons (by cbv) (by cbv) (collect_cons (by cbv) (by cbv) (collect_cons (by cbv) (by cbv) (collect_cons (by cbv) (by cbv) (collect_cons (by cbv) (by cbv) (collect_cons (by cbv) (by cbv) collect_nil))))))))))))))))))))))))) (by cbv) (by cbv) (by cbv) ?_ ?_
        · exact (hq trivial (hq (get_le h_x10) (hq (get_lt (f := Str_c) h_x10) (hq (get_ge (f := Str_c) h_x10) (hq (hC (spec_l1Text_ac h_r11)) (hq (fun _ => hq0) (hq (fun g14 => (hq g14 (hq trivial hq0))) (hq (fun g15 => (hq g15 hq0)) (hq (fun _ => hq0) (hq (fun g17 => (hq g17 (hq trivial hq0))) (hq (fun _ => hq0) (hq (fun g19 => (hq g19 (hq trivial hq0))) (hq (fun g20 => (hq g20 (hq g20 (hq (get_le (gd_t h_x12 g20)) (hq (get_lt (f := Str_c) (gd_t h_x12 g20)) (hq (get_ge (f := Str_c) (gd_t h_x12 g20)) hq0)))))) (hq (fun g21 => (hq g21 hq0)) (hq (fun _ => hq0) (hq (fun g23 => (hq g23 (hq trivial hq0))) (hq (fun _ => hq0) (hq (fun g25 => (hq g25 (hq g25 (hq (get_le h_x10) (hq (get_lt (f := Str_c) h_x10) (hq (get_ge (f := Str_c) h_x10) hq0)))))) (hq (fun g26 => (hq g26 hq0)) (hq (fun g27 => (hq g27 (hq g27 hq0))) (hq (fun g28 => (hq g28 (hq (fun q29 => (hq (bo_a g28 q29) hq0)) (hq (fun _ => hq0) hq0)))) (hq (fun _ => hq0) (hq (fun q32 => (hq (bo_m q32) hq0)) hq0)))))))))))))))))))))))
        refine Run.cond (by cbv) (hq0) (fun c33 => ?_) (fun c33 => ?_)
        · have h := if_t c33 h
          refine Run.seq ?_
          refine Run.region hL hT [] (by cbv) ?_ ?_
          · exact hq0
          refine Run.ret ?_
          cases h
          refine ⟨_, _, by cbv, ?_, ?_⟩
          · exact LLe.r
          · exact (ALe.v LLe.r ALe.nil)
        · have h := if_f c33 h
          refine Run.skip ?_
          refine Run.region hL hT [] (by cbv) ?_ ?_
          · exact (hq trivial hq0)
          refine ⟨(ar .add .i64 z8 1), h, Weak.of _ [(1, 1)] hA (by cbv) ?_⟩
          repeat (first | exact hq0 | refine hq (by first | exact True.intro | rfl) ?_)
      · have h := if_f c9 h
        refine Run.exit ?_
        refine Run.seq ?_
        refine Run.region hL hT [] (by cbv) ?_ ?_
        · exact (hq trivial (hq trivial (hq trivial hq0)))
        rw [show ln (eJson_i a0v_List_) = lenI_Json a0v_List_ from ln_eq Json_i _]
        rw [show ln (eStr_c a0v_Names) = lenI_Str a0v_Names from ln_eq Str_c _]
        refine Run.ret ?_
        cases h
        refine ⟨_, _, by cbv, ?_, ?_⟩
        · exact LLe.r
        · exact (ALe.v LLe.r ALe.nil)

theorem spec_l1In_ac {a0 : Int} {a1 : Int} {a2 : Int} {r : Bool} (h : spec_l1In.f a0 a1 a2 = some r) : AC Tryd.prog 74 [.v (.s (.int .i64 a0)), .v (.s (.int .i64 a1)), .v (.s (.int .i64 a2))] [.v (.jk), .v (.jk), .v (.jk)] [.v (.s (.bool r))] := by
  unfold spec_l1In.f at h
  show AC Tryd.prog 74 [.v (.s (.int .i64 a0)), .v (.s (.int .i64 a1)), .v (.s (.int .i64 a2))] _ _
  refine run3 Tryd.func74 (by rfl) (by rfl) (by cbv) ⟨by decide, rfl⟩ ?_
  intro ar cm bo sc sa sx ss sl bs sb ln sr ap up rp fr ge le lt nz mm ma sm fl al ci hL F hP hA hT hM hC
  refine Run.seq ?_
  refine Run.region hL hT [] (by cbv) ?_ ?_
  · exact hq0
  refine Run.seq ?_
  refine Run.region hL hT [] (by cbv) ?_ ?_
  · exact (hq trivial (hq (fun _ => hq0) (hq (fun _ => hq0) (hq (fun g3 => (hq g3 (hq g3 (hq trivial hq0)))) (hq (fun q4 => (hq q4 hq0)) (hq (fun _ => hq0) hq0))))))
  refine Run.ret ?_
  cases h
  refine ⟨_, _, by cbv, ?_, ?_⟩
  · exact LLe.r
  · exact (ALe.v LLe.r ALe.nil)

theorem spec_l1Great_acs (self : Json → Int → Option Int) (hself : ∀ {a0v_Kind : Int} {a0v_N : Int} {a0v_S : ByteArray} {a0v_List_ : List Json} {a0v_Names : List ByteArray} {a1 : Int} {r : Int} (h : self (Json.mk a0v_Kind a0v_N a0v_S a0v_List_ a0v_Names) a1 = some r), AC Tryd.prog 114 [.ag [.s (.int .i64 a0v_Kind), .s (.int .i64 a0v_N), .s (.string a0v_S), .im false (rowsOf Json_i a0v_List_), .im false (rowsOf Str_c a0v_Names)], .v (.s (.int .i64 a1))] [.ag [.jk, .jk, .jk, .jk, .jk], .v (.jk)] [.v (.s (.int .i64 r))]) {a0v_Kind : Int} {a0v_N : Int} {a0v_S : ByteArray} {a0v_List_ : List Json} {a0v_Names : List ByteArray} {a1 : Int} {r : Int} (h : spec_l1Great.b self (Json.mk a0v_Kind a0v_N a0v_S a0v_List_ a0v_Names) a1 = some r) : AC Tryd.prog 114 [.ag [.s (.int .i64 a0v_Kind), .s (.int .i64 a0v_N), .s (.string a0v_S), .im false (rowsOf Json_i a0v_List_), .im false (rowsOf Str_c a0v_Names)], .v (.s (.int .i64 a1))] [.ag [.jk, .jk, .jk, .jk, .jk], .v (.jk)] [.v (.s (.int .i64 r))] := by
  unfold spec_l1Great.b at h
  let eJson_i := rowsOf Json_i
  let eStr_c := rowsOf Str_c
  let lenI_Json := @lenI Json
  show AC Tryd.prog 114 [.ag [.s (.int .i64 a0v_Kind), .s (.int .i64 a0v_N), .s (.string a0v_S), .im false (eJson_i a0v_List_), .im false (eStr_c a0v_Names)], .v (.s (.int .i64 a1))] _ _
  refine run3 Tryd.func114 (by rfl) (by rfl) (by cbv) ⟨by decide, rfl⟩ ?_
  intro ar cm bo sc sa sx ss sl bs sb ln sr ap up rp fr ge le lt nz mm ma sm fl al ci hL F hP hA hT hM hC
  refine Run.seq ?_
  refine Run.region hL hT [] (by cbv) ?_ ?_
  · exact hq0
  refine Run.seq ?_
  refine Run.region hL hT [] (by cbv) ?_ ?_
  · exact hq0
  refine Run.seq ?_
  refine Run.seq ?_
  refine Run.region hL hT [] (by cbv) ?_ ?_
  · exact (hq trivial hq0)
  refine Run.cond (by cbv) (hq0) (fun c1 => ?_) (fun c1 => ?_)
  · have h := if_t c1 h
    refine Run.seq ?_
    refine Run.region hL hT [] (by cbv) ?_ ?_
    · exact hq0
    refine Run.ret ?_
    cases h
    refine ⟨_, _, by cbv, ?_, ?_⟩
    · exact LLe.r
    · exact (ALe.v LLe.r ALe.nil)
  · have h := if_f c1 h
    refine Run.skip ?_
    refine Run.seq ?_
    refine Run.region hL hT [] (by cbv) ?_ ?_
    · exact hq0
    obtain ⟨K3, h_K3, h⟩ := joinE h
    refine Run.join1 K3 (r := r) (fun (y2 : Int) => ⟨106, 100000, [(2, .pt 1 0 0), (5, .t (.s (.int .i64 401))), (6, .t (.s (.int .i64 y2)))], [(1, .box 48 [.t (.s (.int .i64 a0v_Kind)), .t (.s (.int .i64 a0v_N)), .t (.s (.string a0v_S)), .t (.im false (eJson_i a0v_List_)), .t (.im false (eStr_c a0v_Names))])]⟩) ?_ ?_
    · skip
      refine Run.seq ?_
      refine Run.region hL hT [] (by cbv) ?_ ?_
      · exact (hq trivial hq0)
      refine Run.block ?_
      refine Run.seq ?_
      refine Run.region hL hT [] (by cbv) ?_ ?_
      · exact (hq trivial hq0)
      refine Run.cond (by cbv) (hq0) (fun c4 => ?_) (fun c4 => ?_)
      · have h := if_t c4 h
        refine Run.seq ?_
        refine Run.region hL hT [] (by cbv) ?_ ?_
        · exact (hq trivial (hq trivial hq0))
        refine Run.cond (by cbv) (hq0) (fun c5 => ?_) (fun c5 => ?_)
        · have h := if_t c5 h
          refine Run.seq ?_
          refine Run.region hL hT [] (by cbv) ?_ ?_
          · exact hq0
          refine Run.ret ?_
          cases h
          refine ⟨_, _, by cbv, ?_, ?_⟩
          · exact LLe.r
          · exact (ALe.v LLe.r ALe.nil)
        · have h := if_f c5 h
          refine Run.skip ?_
          refine ⟨1, h, Weak.of _ [(1, 0)] hA (by cbv) ?_⟩
          repeat (first | exact hq0 | refine hq (by first | exact True.intro | rfl) ?_)
      · have h := if_f c4 h
        refine Run.seq ?_
        refine Run.region hL hT [] (by cbv) ?_ ?_
        · exact (hq trivial hq0)
        refine Run.cond (by cbv) (hq0) (fun c6 => ?_) (fun c6 => ?_)
        · have h := if_t c6 h
          refine Run.seq ?_
          obtain ⟨r7, h_r7, h⟩ := bnd h
          refine Run.region hL hT [(2, .call [false, false, false] [.v (.jk), .v (.jk), .v (.jk)] [.v (.s (.bool r7))])] (by cbv) ?_ ?_
          · exact (hq trivial (hq (hC (spec_l1In_ac h_r7)) hq0))
          refine Run.cond (by cbv) (hq0) (fun c8 => ?_) (fun c8 => ?_)
          · have h := if_t c8 h
            refine Run.seq ?_
            refine Run.region hL hT [] (by cbv) ?_ ?_
            · exact hq0
            refine Run.ret ?_
            cases h
            refine ⟨_, _, by cbv, ?_, ?_⟩
            · exact LLe.r
            · exact (ALe.v LLe.r ALe.nil)
          · have h := if_f c8 h
            refine Run.skip ?_
            refine ⟨1, h, Weak.of _ [(1, 0)] hA (by cbv) ?_⟩
            repeat (first | exact hq0 | refine hq (by first | exact True.intro | rfl) ?_)
        · have h := if_f c6 h
          refine Run.seq ?_
          refine Run.region hL hT [] (by cbv) ?_ ?_
          · exact (hq trivial hq0)
          refine Run.cond (by cbv) (hq0) (fun c9 => ?_) (fun c9 => ?_)
          · have h := if_t c9 h
            refine Run.seq ?_
            obtain ⟨r10, h_r10, h⟩ := bnd h
            refine Run.region hL hT [(2, .call [false, false, false] [.v (.jk), .v (.jk), .v (.jk)] [.v (.s (.bool r10))])] (by cbv) ?_ ?_
            · exact (hq trivial (hq (hC (spec_l1In_ac h_r10)) hq0))
            refine Run.cond (by cbv) (hq0) (fun c11 => ?_) (fun c11 => ?_)
            · have h := if_t c11 h
              refine Run.seq ?_
              refine Run.region hL hT [] (by cbv) ?_ ?_
              · exact hq0
              refine Run.ret ?_
              cases h
              refine ⟨_, _, by cbv, ?_, ?_⟩
              · exact LLe.r
              · exact (ALe.v LLe.r ALe.nil)
            · have h := if_f c11 h
              refine Run.skip ?_
              refine ⟨1, h, Weak.of _ [(1, 0)] hA (by cbv) ?_⟩
              repeat (first | exact hq0 | refine hq (by first | exact True.intro | rfl) ?_)
          · have h := if_f c9 h
            refine Run.seq ?_
            refine Run.region hL hT [] (by cbv) ?_ ?_
            · exact (hq trivial hq0)
            refine Run.cond (by cbv) (hq0) (fun c12 => ?_) (fun c12 => ?_)
            · have h := if_t c12 h
              refine Run.seq ?_
              obtain ⟨r13, h_r13, h⟩ := bnd h
              refine Run.region hL hT [(2, .call [false] [.v (.jk)] [.v (.s (.bool r13))])] (by cbv) ?_ ?_
              · exact (hq trivial (hq (hC (spec_l1Text_ac h_r13)) hq0))
              refine Run.cond (by cbv) (hq0) (fun c14 => ?_) (fun c14 => ?_)
              · have h := if_t c14 h
                refine Run.seq ?_
                refine Run.region hL hT [] (by cbv) ?_ ?_
                · exact hq0
                refine Run.ret ?_
                cases h
                refine ⟨_, _, by cbv, ?_, ?_⟩
                · exact LLe.r
                · exact (ALe.v LLe.r ALe.nil)
              · have h := if_f c14 h
                refine Run.skip ?_
                refine ⟨1, h, Weak.of _ [(1, 0)] hA (by cbv) ?_⟩
                repeat (first | exact hq0 | refine hq (by first | exact True.intro | rfl) ?_)
            · have h := if_f c12 h
              obtain ⟨K16, h_K16, h⟩ := joinE h
              refine Run.join1 K16 (r := r) (fun (y15 : Bool) => ⟨106, 100000, [(1, .t (.s (.int .i64 a1))), (2, .pt 1 0 0), (5, .t (.s (.int .i64 401))), (6, .t (.s (.int .i64 1))), (41, .t (.s (.bool y15)))], [(1, .box 48 [.t (.s (.int .i64 a0v_Kind)), .t (.s (.int .i64 a0v_N)), .t (.s (.string a0v_S)), .t (.im false (eJson_i a0v_List_)), .t (.im false (eStr_c a0v_Names))])]⟩) ?_ ?_
              · skip
                refine Run.seq ?_
                refine Run.region hL hT [] (by cbv) ?_ ?_
                · exact (hq trivial hq0)
                refine Run.cond (by cbv) (hq0) (fun c17 => ?_) (fun c17 => ?_)
                · have h := if_t c17 h
                  refine Run.skip ?_
                  refine ⟨(cm .eql a0v_Kind 4), h, Weak.of _ [(1, 0)] hA (by cbv) ?_⟩
                  repeat (first | exact hq0 | refine hq (by first | exact True.intro | rfl) ?_)
                · have h := if_f c17 h
                  refine Run.region hL hT [] (by cbv) ?_ ?_
                  · exact (hq trivial hq0)
                  refine ⟨(cm .eql a0v_Kind 5), h, Weak.of _ [(1, 0)] hA (by cbv) ?_⟩
                  repeat (first | exact hq0 | refine hq (by first | exact True.intro | rfl) ?_)
              · intro y15 h
                rw [h_K16] at h
                refine Run.cond (by cbv) (hq0) (fun c18 => ?_) (fun c18 => ?_)
                · have h := if_t c18 h
                  refine Run.seq ?_
                  refine Run.region hL hT [] (by cbv) ?_ ?_
                  · exact hq0
                  refine Run.block ?_
                  refine Run.loop2 (fun (z28 : Int) (z29 : Int) => ⟨106, 100000, [(1, .t (.s (.int .i64 a1))), (2, .pt 1 0 0), (5, .t (.s (.int .i64 401))), (6, .t (.s (.int .i64 z28))), (7, .t (.s (.int .i64 z29)))], [(1, .box 48 [.t (.s (.int .i64 a0v_Kind)), .t (.s (.int .i64 a0v_N)), .t (.s (.string a0v_S)), .t (.im false (eJson_i a0v_List_)), .t (.im false (eStr_c a0v_Names))])]⟩) (x0 := 1) (x1 := 0) h (Weak.of _ [(1, 1)] hA (by cbv) ?_) (fun _ _ => rfl) ?_
                  · repeat (first | exact hq0 | refine hq (by first | exact True.intro | rfl) ?_)
                  · intro k z28 z29 h
                    rw [spec_l1Great.l0] at h
                    refine Run.seq ?_
                    refine Run.seq ?_
                    refine Run.region hL hT [] (by cbv) ?_ ?_
                    · exact (hq trivial (hq trivial (hq (fun _ => hq0) (hq (fun g31 => (by have g31C := g31; rw [show ln (eJson_i a0v_List_) = lenI_Json a0v_List_ from ln_eq Json_i _] at g31C; exact (hq g31 (hq trivial hq0)))) (hq (fun q32 => (by have q32C := q32; rw [show ln (eJson_i a0v_List_) = lenI_Json a0v_List_ from ln_eq Json_i _] at q32C; exact (hq q32 hq0))) (hq (fun _ => hq0) hq0))))))
                    rw [show ln (eJson_i a0v_List_) = lenI_Json a0v_List_ from ln_eq Json_i _]
                    refine Run.cond (by cbv) (hq0) (fun c34 => ?_) (fun c34 => ?_)
                    · have h := if_t c34 h
                      refine Run.skip ?_
                      refine Run.seq ?_
                      refine Run.block ?_
                      obtain ⟨⟨x35v_Kind, x35v_N, x35v_S, x35v_List_, x35v_Names⟩, h_x35, h⟩ := bnd h
                      obtain ⟨r36, h_r36, h⟩ := bnd h
                      refine Run.region hL hT [(4, .el [.s (.int .i64 x35v_Kind), .s (.int .i64 x35v_N), .s (.string x35v_S), .im false (eJson_i x35v_List_), .im false (eStr_c x35v_Names)]), (8, .call [false, false] [.ag [.jk, .jk, .jk, .jk, .jk], .v (.jk)] [.v (.s (.int .i64 r36))])] (by cbv) ?_ ?_
                      · exact (hq trivial (hq (get_le h_x35) (hq (get_lt (f := Json_i) h_x35) (hq (get_geU Json_i_u h_x35) (hq trivial (hq (hC (hself h_r36)) (hq trivial hq0)))))))
                      refine Run.region hL hT [] (by cbv) ?_ ?_
                      · exact (hq trivial hq0)
                      refine ⟨(ar .add .i64 z28 r36), (ar .add .i64 z29 1), h, Weak.of _ [(1, 1)] hA (by cbv) ?_⟩
                      repeat (first | exact hq0 | refine hq (by first | exact True.intro | rfl) ?_)
                    · have h := if_f c34 h
                      refine Run.exit ?_
                      refine ⟨z28, h, Weak.of _ [(1, 1)] hA (by cbv) ?_⟩
                      repeat (first | exact hq0 | refine hq (by first | exact True.intro | rfl) ?_)
                · have h := if_f c18 h
                  refine Run.seq ?_
                  refine Run.region hL hT [] (by cbv) ?_ ?_
                  · exact hq0
                  refine Run.ret ?_
                  cases h
                  refine ⟨_, _, by cbv, ?_, ?_⟩
                  · exact LLe.r
                  · exact (ALe.v LLe.r ALe.nil)
    · intro y2 h
      rw [h_K3] at h
      refine Run.seq ?_
      refine Run.seq ?_
      obtain ⟨r37, h_r37, h⟩ := bnd h
      refine Run.region hL hT [(36, .call [false] [.ag [.jk, .jk, .jk, .jk, .jk]] [.v (.s (.bool r37))])] (by cbv) ?_ ?_
      · exact (hq trivial (hq trivial (hq (fun _ => hq0) (hq (fun g39 => (hq g39 (hq trivial hq0))) (hq (fun g40 => (hq g40 hq0)) (hq (fun q41 => (hq q41 hq0)) (hq (fun _ => hq0) (hq (fun _ => hq0) (hq (fun g44 => (hq g44 (hq trivial hq0))) (hq (fun g45 => (hq g45 (hq trivial hq0))) (hq (fun g46 => (hq g46 hq0)) (hq (fun _ => hq0) (hq (fun g48 => (hq g48 (hq trivial hq0))) (hq (fun g49 => (hq g49 (hq trivial hq0))) (hq (fun g50 => (hq g50 (hq (fun _ => hq0) (hq (fun q52 => (hq (bo_a g50 (bo_m q52)) hq0)) hq0)))) (hq (fun g53 => (hq g53 hq0)) (hq (fun _ => hq0) (hq (fun g55 => (hq g55 (hq trivial hq0))) (hq (fun g56 => (hq g56 (hq trivial hq0))) (hq (fun g57 => (hq g57 (hq (fun q58 => (hq (bo_a g57 q58) hq0)) (hq (fun _ => hq0) hq0)))) (hq (fun _ => hq0) (hq (fun q61 => (hq (bo_m q61) hq0)) (hq (fun _ => hq0) (hq (fun g63 => (hq g63 (hq trivial hq0))) (hq (fun g64 => (hq g64 (hq trivial hq0))) (hq (fun g65 => (hq g65 hq0)) (hq (fun _ => hq0) (hq (fun g67 => (hq g67 (hq trivial hq0))) (hq (fun g68 => (hq g68 hq0)) (hq (fun g69 => (hq g69 (hq trivial hq0))) (hq (fun g70 => (hq g70 (hq (fun q71 => (hq (bo_a g70 q71) hq0)) (hq (fun _ => hq0) hq0)))) (hq (fun _ => hq0) (hq (fun q74 => (hq (bo_m q74) hq0)) (hq (fun g75 => (by have g75C := g75; rw [show ln (eJson_i a0v_List_) = lenI_Json a0v_List_ from ln_eq Json_i _] at g75C; exact (hq trivial hq0))) (hq (fun g76 => (by have g76C := g76; rw [show ln (eJson_i a0v_List_) = lenI_Json a0v_List_ from ln_eq Json_i _] at g76C; exact (hq g76 (hq (hC (spec_l1Names_ac (gd_t h_r37 g76C))) hq0)))) (hq (fun g77 => (by have g77C := g77; rw [show ln (eJson_i a0v_List_) = lenI_Json a0v_List_ from ln_eq Json_i _] at g77C; exact (hq g77 hq0))) (hq (fun _ => hq0) (hq (fun q79 => (by have q79C := q79; rw [show ln (eJson_i a0v_List_) = lenI_Json a0v_List_ from ln_eq Json_i _] at q79C; exact (hq (bo_m q79) hq0))) hq0))))))))))))))))))))))))))))))))))))))
      rw [show ln (eJson_i a0v_List_) = lenI_Json a0v_List_ from ln_eq Json_i _]
      refine Run.cond (by cbv) (hq0) (fun c80 => ?_) (fun c80 => ?_)
      · have h := if_t c80 h
        refine Run.seq ?_
        refine Run.region hL hT [] (by cbv) ?_ ?_
        · exact hq0
        refine Run.ret ?_
        cases h
        refine ⟨_, _, by cbv, ?_, ?_⟩
        · exact LLe.r
        · exact (ALe.v LLe.r ALe.nil)
      · have h := if_f c80 h
        refine Run.skip ?_
        refine Run.seq ?_
        refine Run.region hL hT [] (by cbv) ?_ ?_
        · exact hq0
        refine Run.ret ?_
        cases h
        refine ⟨_, _, by cbv, ?_, ?_⟩
        · exact LLe.r
        · exact (ALe.v LLe.r ALe.nil)
theorem spec_l1Great_acg : ∀ (k : Nat) {a0v_Kind : Int} {a0v_N : Int} {a0v_S : ByteArray} {a0v_List_ : List Json} {a0v_Names : List ByteArray} {a1 : Int} {r : Int} (h : spec_l1Great.g k (Json.mk a0v_Kind a0v_N a0v_S a0v_List_ a0v_Names) a1 = some r), AC Tryd.prog 114 [.ag [.s (.int .i64 a0v_Kind), .s (.int .i64 a0v_N), .s (.string a0v_S), .im false (rowsOf Json_i a0v_List_), .im false (rowsOf Str_c a0v_Names)], .v (.s (.int .i64 a1))] [.ag [.jk, .jk, .jk, .jk, .jk], .v (.jk)] [.v (.s (.int .i64 r))]
  | 0 => fun h => by cases h
  | k + 1 => fun h => spec_l1Great_acs (spec_l1Great.g k) (spec_l1Great_acg k) h
theorem spec_l1Great_ac {a0v_Kind : Int} {a0v_N : Int} {a0v_S : ByteArray} {a0v_List_ : List Json} {a0v_Names : List ByteArray} {a1 : Int} {r : Int} (h : spec_l1Great.f (Json.mk a0v_Kind a0v_N a0v_S a0v_List_ a0v_Names) a1 = some r) : AC Tryd.prog 114 [.ag [.s (.int .i64 a0v_Kind), .s (.int .i64 a0v_N), .s (.string a0v_S), .im false (rowsOf Json_i a0v_List_), .im false (rowsOf Str_c a0v_Names)], .v (.s (.int .i64 a1))] [.ag [.jk, .jk, .jk, .jk, .jk], .v (.jk)] [.v (.s (.int .i64 r))] := spec_l1Great_acg 20 h

theorem spec_JsonOk_ac {a0v_Kind : Int} {a0v_N : Int} {a0v_S : ByteArray} {a0v_List_ : List Json} {a0v_Names : List ByteArray} {r : Bool} (h : spec_JsonOk.f (Json.mk a0v_Kind a0v_N a0v_S a0v_List_ a0v_Names) = some r) : AC Tryd.prog 91 [.ag [.s (.int .i64 a0v_Kind), .s (.int .i64 a0v_N), .s (.string a0v_S), .im false (rowsOf Json_i a0v_List_), .im false (rowsOf Str_c a0v_Names)]] [.ag [.jk, .jk, .jk, .jk, .jk]] [.v (.s (.bool r))] := by
  unfold spec_JsonOk.f at h
  let eJson_i := rowsOf Json_i
  let eStr_c := rowsOf Str_c
  show AC Tryd.prog 91 [.ag [.s (.int .i64 a0v_Kind), .s (.int .i64 a0v_N), .s (.string a0v_S), .im false (eJson_i a0v_List_), .im false (eStr_c a0v_Names)]] _ _
  refine run3 Tryd.func91 (by rfl) (by rfl) (by cbv) ⟨by decide, rfl⟩ ?_
  intro ar cm bo sc sa sx ss sl bs sb ln sr ap up rp fr ge le lt nz mm ma sm fl al ci hL F hP hA hT hM hC
  refine Run.seq ?_
  refine Run.region hL hT [] (by cbv) ?_ ?_
  · exact hq0
  refine Run.seq ?_
  obtain ⟨r1, h_r1, h⟩ := bnd h
  refine Run.region hL hT [(1, .call [false, false] [.ag [.jk, .jk, .jk, .jk, .jk], .v (.jk)] [.v (.s (.int .i64 r1))])] (by cbv) ?_ ?_
  · exact (hq trivial (hq (hC (spec_l1Great_ac h_r1)) (hq trivial hq0)))
  refine Run.ret ?_
  cases h
  refine ⟨_, _, by cbv, ?_, ?_⟩
  · exact LLe.r
  · exact (ALe.v LLe.r ALe.nil)

theorem spec_l2Quote_ac {a0 : ByteArray} {r : ByteArray} (h : spec_l2Quote.f a0 = some r) : AC Tryd.prog 115 [.v (.s (.string a0))] [.v (.jk)] [.v (.s (.string r))] := by
  unfold spec_l2Quote.f at h
  let eu8_c := rowsOf u8_c
  show AC Tryd.prog 115 [.v (.s (.string a0))] _ _
  refine run3 Tryd.func115 (by rfl) (by rfl) (by cbv) ⟨by decide, rfl⟩ ?_
  intro ar cm bo sc sa sx ss sl bs sb ln sr ap up rp fr ge le lt nz mm ma sm fl al ci hL F hP hA hT hM hC
  refine Run.seq ?_
  refine Run.region hL hT [] (by cbv) ?_ ?_
  · exact hq0
  refine Run.seq ?_
  obtain ⟨l1, h_l1, h⟩ := bnd h
  refine Run.region hL hT [] (by cbv) ?_ ?_
  · exact hq0
  refine Run.row (rows := [[.s (.int .u8 34)]]) 4096 (eu8_c l1) (by cbv) (some_le (f := u8_c) h_l1 (RLe.cons rfl LLe.r RLe.nil)) ?_
  refine Run.seq ?_
  refine Run.seq ?_
  refine Run.region hL hT [] (by cbv) ?_ ?_
  · exact hq0
  refine Run.block ?_
  refine Run.loop2 (fun (z5 : List Int) (z6 : Int) => ⟨35, 100000, [(0, .t (.s (.string a0))), (3, .rf 1), (4, .t (.s (.int .i64 z6)))], [(1, .row 0 5 1 (eu8_c z5))]⟩) (x0 := l1) (x1 := 0) h (Weak.of _ [(1, 4096)] hA (by cbv) ?_) (fun _ _ => rfl) ?_
  · repeat (first | exact hq0 | refine hq (by first | exact True.intro | rfl) ?_)
  · intro k z5 z6 h
    rw [spec_l2Quote.l0] at h
    refine Run.seq ?_
    refine Run.seq ?_
    refine Run.region hL hT [] (by cbv) ?_ ?_
    · exact (hq trivial hq0)
    refine Run.cond (by cbv) (hq0) (fun c7 => ?_) (fun c7 => ?_)
    · have h := if_t c7 h
      refine Run.skip ?_
      refine Run.seq ?_
      refine Run.block ?_
      refine Run.seq ?_
      refine Run.seq ?_
      obtain ⟨u8, h_u8, h⟩ := bnd h
      obtain ⟨u9, h_u9, h⟩ := bnd h
      refine Run.region hL hT [] (by cbv) ?_ ?_
      · exact (hq (inS_0 h_u8) (hq (inS_1 h_u8) (hq trivial (hq (fun _ => hq0) (hq (fun _ => hq0) (hq (fun g12 => (hq g12 (hq g12 (hq (inS_0 (gd_t h_u9 g12)) (hq (inS_1 (gd_t h_u9 g12)) hq0))))) (hq (fun g13 => (hq g13 (hq trivial hq0))) (hq (fun _ => hq0) (hq (fun q15 => (hq (bo_m q15) hq0)) hq0)))))))))
      refine Run.cond (by cbv) (hq0) (fun c16 => ?_) (fun c16 => ?_)
      · have h := if_t c16 h
        obtain ⟨l17, h_l17, h⟩ := bnd h
        obtain ⟨l18, h_l18, h⟩ := bnd h
        refine Run.region hL hT [] (by cbv) ?_ ?_
        · exact (hq (app_mb (P := Tryd.prog) (f := u8_c) RLe.r (some_le (f := u8_c) h_l17 (RLe.cons rfl LLe.r RLe.nil)) h_l18) hq0)
        refine Run.row (rows := (ap (eu8_c z5) ([[.s (.int .u8 92)]]))) 108194 (eu8_c l18) (by cbv) (app_le (f := u8_c) RLe.r (some_le (f := u8_c) h_l17 (RLe.cons rfl LLe.r RLe.nil)) h_l18) ?_
        obtain ⟨u19, h_u19, h⟩ := bnd h
        obtain ⟨l20, h_l20, h⟩ := bnd h
        obtain ⟨l21, h_l21, h⟩ := bnd h
        refine Run.region hL hT [] (by cbv) ?_ ?_
        · exact (hq (inS_0 h_u19) (hq (inS_1 h_u19) (hq (app_mb (P := Tryd.prog) (f := u8_c) RLe.r (some_le (f := u8_c) h_l20 (RLe.cons rfl LLe.r RLe.nil)) h_l21) hq0)))
        refine Run.row (rows := (ap (eu8_c l18) ([[.s (.int .u8 (sx a0 z6))]]))) 112293 (eu8_c l21) (by cbv) (app_le (f := u8_c) RLe.r (some_le (f := u8_c) h_l20 (RLe.cons rfl LLe.r RLe.nil)) h_l21) ?_
        refine Run.region hL hT [] (by cbv) ?_ ?_
        · exact (hq trivial hq0)
        refine ⟨l21, (ar .add .i64 z6 1), h, Weak.of _ [(1, 112293)] hA (by cbv) ?_⟩
        repeat (first | exact hq0 | refine hq (by first | exact True.intro | rfl) ?_)
      · have h := if_f c16 h
        refine Run.skip ?_
        obtain ⟨u22, h_u22, h⟩ := bnd h
        obtain ⟨l23, h_l23, h⟩ := bnd h
        obtain ⟨l24, h_l24, h⟩ := bnd h
        refine Run.region hL hT [] (by cbv) ?_ ?_
        · exact (hq (inS_0 h_u22) (hq (inS_1 h_u22) (hq (app_mb (P := Tryd.prog) (f := u8_c) RLe.r (some_le (f := u8_c) h_l23 (RLe.cons rfl LLe.r RLe.nil)) h_l24) hq0)))
        refine Run.row (rows := (ap (eu8_c z5) ([[.s (.int .u8 (sx a0 z6))]]))) 108197 (eu8_c l24) (by cbv) (app_le (f := u8_c) RLe.r (some_le (f := u8_c) h_l23 (RLe.cons rfl LLe.r RLe.nil)) h_l24) ?_
        refine Run.region hL hT [] (by cbv) ?_ ?_
        · exact (hq trivial hq0)
        refine ⟨l24, (ar .add .i64 z6 1), h, Weak.of _ [(1, 108197)] hA (by cbv) ?_⟩
        repeat (first | exact hq0 | refine hq (by first | exact True.intro | rfl) ?_)
    · have h := if_f c7 h
      refine Run.exit ?_
      refine Run.seq ?_
      obtain ⟨l25, h_l25, h⟩ := bnd h
      obtain ⟨l26, h_l26, h⟩ := bnd h
      obtain ⟨s27, h_s27, h⟩ := bnd h
      refine Run.region hL hT [(3, .hd [104098] (.t (.s (.string s27))) [])] (by cbv) ?_ ?_
      · exact (hq (app_mb (P := Tryd.prog) (f := u8_c) RLe.r (some_le (f := u8_c) h_l25 (RLe.cons rfl LLe.r RLe.nil)) h_l26) (hq (hand_convL (ns := l26) hT (by rfl) (by rfl) (by rfl) (by rfl) (by rfl) (by rfl) (app_le (f := u8_c) RLe.r (some_le (f := u8_c) h_l25 (RLe.cons rfl LLe.r RLe.nil)) h_l26) h_s27) hq0))
      refine Run.row (rows := (ap (eu8_c z5) ([[.s (.int .u8 34)]]))) 104098 (eu8_c l26) (by cbv) (app_le (f := u8_c) RLe.r (some_le (f := u8_c) h_l25 (RLe.cons rfl LLe.r RLe.nil)) h_l26) ?_
      refine Run.ret ?_
      cases h
      refine ⟨_, _, by cbv, ?_, ?_⟩
      · exact LLe.r
      · exact (ALe.v LLe.r ALe.nil)

theorem spec_l2Digits_ac {a0 : Int} {r : ByteArray} (h : spec_l2Digits.f a0 = some r) : AC Tryd.prog 33 [.v (.s (.int .i64 a0))] [.v (.jk)] [.v (.s (.string r))] := by
  unfold spec_l2Digits.f at h
  let eu8_c := rowsOf u8_c
  show AC Tryd.prog 33 [.v (.s (.int .i64 a0))] _ _
  refine run3 Tryd.func33 (by rfl) (by rfl) (by cbv) ⟨by decide, rfl⟩ ?_
  intro ar cm bo sc sa sx ss sl bs sb ln sr ap up rp fr ge le lt nz mm ma sm fl al ci hL F hP hA hT hM hC
  refine Run.seq ?_
  refine Run.region hL hT [] (by cbv) ?_ ?_
  · exact hq0
  refine Run.seq ?_
  refine Run.seq ?_
  refine Run.region hL hT [] (by cbv) ?_ ?_
  · exact (hq trivial hq0)
  refine Run.cond (by cbv) (hq0) (fun c1 => ?_) (fun c1 => ?_)
  · have h := if_t c1 h
    refine Run.seq ?_
    refine Run.region hL hT [] (by cbv) ?_ ?_
    · exact hq0
    refine Run.ret ?_
    cases h
    refine ⟨_, _, by cbv, ?_, ?_⟩
    · exact LLe.r
    · exact (ALe.v LLe.r ALe.nil)
  · have h := if_f c1 h
    refine Run.skip ?_
    refine Run.seq ?_
    refine Run.region hL hT [] (by cbv) ?_ ?_
    · exact (hq trivial hq0)
    refine Run.seq ?_
    refine Run.region hL hT [] (by cbv) ?_ ?_
    · exact hq0
    obtain ⟨K4, h_K4, h⟩ := joinE h
    refine Run.join2 K4 (r := r) (fun (y2 : Bool) (y3 : ByteArray) => ⟨31, 100000, [(3, .t (.s (.bool y2))), (4, .t (.s (.string y3)))], []⟩) ?_ ?_
    · skip
      refine Run.block ?_
      refine Run.loop3 (fun (z8 : Int) (z9 : Bool) (z10 : ByteArray) => ⟨31, 100000, [(0, .t (.s (.int .i64 z8))), (3, .t (.s (.bool z9))), (4, .t (.s (.string z10)))], []⟩) (x0 := a0) (x1 := (cm .lss a0 0)) (x2 := (ByteArray.mk #[])) h (Weak.of _ [] hA (by cbv) ?_) (fun _ _ _ => rfl) ?_
      · repeat (first | exact hq0 | refine hq (by first | exact True.intro | rfl) ?_)
      · intro k z8 z9 z10 h
        rw [spec_l2Digits.l0] at h
        refine Run.seq ?_
        refine Run.seq ?_
        refine Run.region hL hT [] (by cbv) ?_ ?_
        · exact (hq trivial hq0)
        refine Run.cond (by cbv) (hq0) (fun c11 => ?_) (fun c11 => ?_)
        · have h := if_t c11 h
          refine Run.skip ?_
          refine Run.block ?_
          refine Run.seq ?_
          refine Run.region hL hT [] (by cbv) ?_ ?_
          · exact (hq trivial (hq (show Ls.nz 10 from (by decide : (10 : Int) ≠ 0)) hq0))
          refine Run.seq ?_
          refine Run.seq ?_
          refine Run.region hL hT [] (by cbv) ?_ ?_
          · exact (hq trivial hq0)
          refine Run.cond (by cbv) (hq0) (fun c12 => ?_) (fun c12 => ?_)
          · have h := if_t c12 h
            refine Run.region hL hT [] (by cbv) ?_ ?_
            · exact (hq trivial hq0)
            refine Run.seq ?_
            obtain ⟨l13, h_l13, h⟩ := bnd h
            obtain ⟨s14, h_s14, h⟩ := bnd h
            obtain ⟨u15, h_u15, h⟩ := bnd h
            refine Run.region hL hT [(4, .hd [116387] (.t (.s (.string s14))) [])] (by cbv) ?_ ?_
            · exact (hq trivial (hq (hand_conv (ns := [(IntKind.wrap .u8 (w64 (48 + (w64 (0 - (Int.tmod z8 10))))))]) hT (by rfl) (by rfl) (by rfl) (by rfl) (by rfl) (by rfl) (by rfl) (conv_lit h_l13 h_s14)) (hq (sm_t h_u15) hq0)))
            refine Run.row (rows := [[.s (.int .u8 (ar .or .u8 (ar .add .i64 48 (ar .sub .i64 0 (ar .rem .i64 z8 10))) 0))]]) 116387 (eu8_c l13) (by cbv) (some_le (f := u8_c) h_l13 (RLe.cons rfl LLe.r RLe.nil)) ?_
            refine Run.region hL hT [] (by cbv) ?_ ?_
            · exact (hq trivial (hq (show Ls.nz 10 from (by decide : (10 : Int) ≠ 0)) hq0))
            refine ⟨(ar .quo .i64 z8 10), z9, (sa s14 z10), h, Weak.of _ [] hA (by cbv) ?_⟩
            repeat (first | exact hq0 | refine hq (by first | exact True.intro | rfl) ?_)
          · have h := if_f c12 h
            refine Run.skip ?_
            refine Run.seq ?_
            obtain ⟨l16, h_l16, h⟩ := bnd h
            obtain ⟨s17, h_s17, h⟩ := bnd h
            obtain ⟨u18, h_u18, h⟩ := bnd h
            refine Run.region hL hT [(4, .hd [112291] (.t (.s (.string s17))) [])] (by cbv) ?_ ?_
            · exact (hq trivial (hq (hand_conv (ns := [(IntKind.wrap .u8 (w64 (48 + (Int.tmod z8 10))))]) hT (by rfl) (by rfl) (by rfl) (by rfl) (by rfl) (by rfl) (by rfl) (conv_lit h_l16 h_s17)) (hq (sm_t h_u18) hq0)))
            refine Run.row (rows := [[.s (.int .u8 (ar .or .u8 (ar .add .i64 48 (ar .rem .i64 z8 10)) 0))]]) 112291 (eu8_c l16) (by cbv) (some_le (f := u8_c) h_l16 (RLe.cons rfl LLe.r RLe.nil)) ?_
            refine Run.region hL hT [] (by cbv) ?_ ?_
            · exact (hq trivial (hq (show Ls.nz 10 from (by decide : (10 : Int) ≠ 0)) hq0))
            refine ⟨(ar .quo .i64 z8 10), z9, (sa s17 z10), h, Weak.of _ [] hA (by cbv) ?_⟩
            repeat (first | exact hq0 | refine hq (by first | exact True.intro | rfl) ?_)
        · have h := if_f c11 h
          refine Run.exit ?_
          refine ⟨z9, z10, h, Weak.of _ [] hA (by cbv) ?_⟩
          repeat (first | exact hq0 | refine hq (by first | exact True.intro | rfl) ?_)
    · intro y2 y3 h
      rw [h_K4] at h
      refine Run.seq ?_
      refine Run.seq ?_
      refine Run.region hL hT [] (by cbv) ?_ ?_
      · exact hq0
      refine Run.cond (by cbv) (hq0) (fun c19 => ?_) (fun c19 => ?_)
      · have h := if_t c19 h
        refine Run.seq ?_
        obtain ⟨u20, h_u20, h⟩ := bnd h
        refine Run.region hL hT [] (by cbv) ?_ ?_
        · exact (hq (sm_t h_u20) hq0)
        refine Run.ret ?_
        cases h
        refine ⟨_, _, by cbv, ?_, ?_⟩
        · exact LLe.r
        · exact (ALe.v LLe.r ALe.nil)
      · have h := if_f c19 h
        refine Run.skip ?_
        refine Run.seq ?_
        refine Run.region hL hT [] (by cbv) ?_ ?_
        · exact hq0
        refine Run.ret ?_
        cases h
        refine ⟨_, _, by cbv, ?_, ?_⟩
        · exact LLe.r
        · exact (ALe.v LLe.r ALe.nil)

theorem spec_l2Encode_acs (self : Json → Option ByteArray) (hself : ∀ {a0v_Kind : Int} {a0v_N : Int} {a0v_S : ByteArray} {a0v_List_ : List Json} {a0v_Names : List ByteArray} {r : ByteArray} (h : self (Json.mk a0v_Kind a0v_N a0v_S a0v_List_ a0v_Names) = some r), AC Tryd.prog 92 [.ag [.s (.int .i64 a0v_Kind), .s (.int .i64 a0v_N), .s (.string a0v_S), .im false (rowsOf Json_i a0v_List_), .im false (rowsOf Str_c a0v_Names)]] [.ag [.jk, .jk, .jk, .jk, .jk]] [.v (.s (.string r))]) {a0v_Kind : Int} {a0v_N : Int} {a0v_S : ByteArray} {a0v_List_ : List Json} {a0v_Names : List ByteArray} {r : ByteArray} (h : spec_l2Encode.b self (Json.mk a0v_Kind a0v_N a0v_S a0v_List_ a0v_Names) = some r) : AC Tryd.prog 92 [.ag [.s (.int .i64 a0v_Kind), .s (.int .i64 a0v_N), .s (.string a0v_S), .im false (rowsOf Json_i a0v_List_), .im false (rowsOf Str_c a0v_Names)]] [.ag [.jk, .jk, .jk, .jk, .jk]] [.v (.s (.string r))] := by
  unfold spec_l2Encode.b at h
  let eJson_i := rowsOf Json_i
  let eStr_c := rowsOf Str_c
  let lenI_Json := @lenI Json
  show AC Tryd.prog 92 [.ag [.s (.int .i64 a0v_Kind), .s (.int .i64 a0v_N), .s (.string a0v_S), .im false (eJson_i a0v_List_), .im false (eStr_c a0v_Names)]] _ _
  refine run3 Tryd.func92 (by rfl) (by rfl) (by cbv) ⟨by decide, rfl⟩ ?_
  intro ar cm bo sc sa sx ss sl bs sb ln sr ap up rp fr ge le lt nz mm ma sm fl al ci hL F hP hA hT hM hC
  refine Run.seq ?_
  refine Run.region hL hT [] (by cbv) ?_ ?_
  · exact hq0
  refine Run.seq ?_
  refine Run.seq ?_
  refine Run.region hL hT [] (by cbv) ?_ ?_
  · exact (hq trivial hq0)
  refine Run.block ?_
  refine Run.seq ?_
  refine Run.region hL hT [] (by cbv) ?_ ?_
  · exact (hq trivial hq0)
  refine Run.cond (by cbv) (hq0) (fun c1 => ?_) (fun c1 => ?_)
  · have h := if_t c1 h
    refine Run.seq ?_
    refine Run.region hL hT [] (by cbv) ?_ ?_
    · exact hq0
    refine Run.ret ?_
    cases h
    refine ⟨_, _, by cbv, ?_, ?_⟩
    · exact LLe.r
    · exact (ALe.v LLe.r ALe.nil)
  · have h := if_f c1 h
    refine Run.seq ?_
    refine Run.region hL hT [] (by cbv) ?_ ?_
    · exact (hq trivial hq0)
    refine Run.cond (by cbv) (hq0) (fun c2 => ?_) (fun c2 => ?_)
    · have h := if_t c2 h
      refine Run.seq ?_
      refine Run.seq ?_
      refine Run.region hL hT [] (by cbv) ?_ ?_
      · exact (hq trivial (hq trivial hq0))
      refine Run.cond (by cbv) (hq0) (fun c3 => ?_) (fun c3 => ?_)
      · have h := if_t c3 h
        refine Run.seq ?_
        refine Run.region hL hT [] (by cbv) ?_ ?_
        · exact hq0
        refine Run.ret ?_
        cases h
        refine ⟨_, _, by cbv, ?_, ?_⟩
        · exact LLe.r
        · exact (ALe.v LLe.r ALe.nil)
      · have h := if_f c3 h
        refine Run.skip ?_
        refine Run.seq ?_
        refine Run.region hL hT [] (by cbv) ?_ ?_
        · exact hq0
        refine Run.ret ?_
        cases h
        refine ⟨_, _, by cbv, ?_, ?_⟩
        · exact LLe.r
        · exact (ALe.v LLe.r ALe.nil)
    · have h := if_f c2 h
      refine Run.seq ?_
      refine Run.region hL hT [] (by cbv) ?_ ?_
      · exact (hq trivial hq0)
      refine Run.cond (by cbv) (hq0) (fun c4 => ?_) (fun c4 => ?_)
      · have h := if_t c4 h
        refine Run.seq ?_
        obtain ⟨r5, h_r5, h⟩ := bnd h
        refine Run.region hL hT [(2, .call [false] [.v (.jk)] [.v (.s (.string r5))])] (by cbv) ?_ ?_
        · exact (hq trivial (hq (hC (spec_l2Digits_ac h_r5)) hq0))
        refine Run.ret ?_
        cases h
        refine ⟨_, _, by cbv, ?_, ?_⟩
        · exact LLe.r
        · exact (ALe.v LLe.r ALe.nil)
      · have h := if_f c4 h
        refine Run.seq ?_
        refine Run.region hL hT [] (by cbv) ?_ ?_
        · exact (hq trivial hq0)
        refine Run.cond (by cbv) (hq0) (fun c6 => ?_) (fun c6 => ?_)
        · have h := if_t c6 h
          refine Run.seq ?_
          obtain ⟨r7, h_r7, h⟩ := bnd h
          refine Run.region hL hT [(2, .call [false] [.v (.jk)] [.v (.s (.string r7))])] (by cbv) ?_ ?_
          · exact (hq trivial (hq (hC (spec_l2Quote_ac h_r7)) hq0))
          refine Run.ret ?_
          cases h
          refine ⟨_, _, by cbv, ?_, ?_⟩
          · exact LLe.r
          · exact (ALe.v LLe.r ALe.nil)
        · have h := if_f c6 h
          refine Run.skip ?_
          refine Run.seq ?_
          refine Run.region hL hT [] (by cbv) ?_ ?_
          · exact hq0
          obtain ⟨K9, h_K9, h⟩ := joinE h
          refine Run.join1 K9 (r := r) (fun (y8 : ByteArray) => ⟨64, 100000, [(1, .pt 1 0 0), (3, .t (.s (.string y8)))], [(1, .box 48 [.t (.s (.int .i64 a0v_Kind)), .t (.s (.int .i64 a0v_N)), .t (.s (.string a0v_S)), .t (.im false (eJson_i a0v_List_)), .t (.im false (eStr_c a0v_Names))])]⟩) ?_ ?_
          · skip
            refine Run.seq ?_
            refine Run.region hL hT [] (by cbv) ?_ ?_
            · exact hq0
            refine Run.block ?_
            refine Run.loop2 (fun (z17 : ByteArray) (z18 : Int) => ⟨64, 100000, [(1, .pt 1 0 0), (3, .t (.s (.string z17))), (4, .t (.s (.int .i64 z18)))], [(1, .box 48 [.t (.s (.int .i64 a0v_Kind)), .t (.s (.int .i64 a0v_N)), .t (.s (.string a0v_S)), .t (.im false (eJson_i a0v_List_)), .t (.im false (eStr_c a0v_Names))])]⟩) (x0 := (ByteArray.mk #[])) (x1 := 0) h (Weak.of _ [(1, 0)] hA (by cbv) ?_) (fun _ _ => rfl) ?_
            · repeat (first | exact hq0 | refine hq (by first | exact True.intro | rfl) ?_)
            · intro k z17 z18 h
              rw [spec_l2Encode.l0] at h
              refine Run.seq ?_
              refine Run.seq ?_
              refine Run.region hL hT [] (by cbv) ?_ ?_
              · exact (hq trivial (hq trivial hq0))
              rw [show ln (eJson_i a0v_List_) = lenI_Json a0v_List_ from ln_eq Json_i _]
              refine Run.cond (by cbv) (hq0) (fun c19 => ?_) (fun c19 => ?_)
              · have h := if_t c19 h
                refine Run.skip ?_
                refine Run.seq ?_
                refine Run.block ?_
                obtain ⟨K21, h_K21, h⟩ := joinE h
                refine Run.join1 K21 (r := r) (fun (y20 : ByteArray) => ⟨64, 100000, [(1, .pt 1 0 0), (3, .t (.s (.string y20))), (4, .t (.s (.int .i64 z18)))], [(1, .box 48 [.t (.s (.int .i64 a0v_Kind)), .t (.s (.int .i64 a0v_N)), .t (.s (.string a0v_S)), .t (.im false (eJson_i a0v_List_)), .t (.im false (eStr_c a0v_Names))])]⟩) ?_ ?_
                · skip
                  refine Run.seq ?_
                  refine Run.region hL hT [] (by cbv) ?_ ?_
                  · exact (hq trivial hq0)
                  refine Run.cond (by cbv) (hq0) (fun c22 => ?_) (fun c22 => ?_)
                  · have h := if_t c22 h
                    obtain ⟨s23, h_s23, h⟩ := bnd h
                    refine Run.region hL hT [(1, .hd [] (.t (.s (.string s23))) [])] (by cbv) ?_ ?_
                    · exact (hq (hand_add h_s23) hq0)
                    refine ⟨s23, h, Weak.of _ [(1, 1)] hA (by cbv) ?_⟩
                    repeat (first | exact hq0 | refine hq (by first | exact True.intro | rfl) ?_)
                  · have h := if_f c22 h
                    refine Run.skip ?_
                    refine ⟨z17, h, Weak.of _ [(1, 1)] hA (by cbv) ?_⟩
                    repeat (first | exact hq0 | refine hq (by first | exact True.intro | rfl) ?_)
                · intro y20 h
                  rw [h_K21] at h
                  obtain ⟨K25, h_K25, h⟩ := joinE h
                  refine Run.join1 K25 (r := r) (fun (y24 : ByteArray) => ⟨64, 100000, [(1, .pt 1 0 0), (3, .t (.s (.string y24))), (4, .t (.s (.int .i64 z18)))], [(1, .box 48 [.t (.s (.int .i64 a0v_Kind)), .t (.s (.int .i64 a0v_N)), .t (.s (.string a0v_S)), .t (.im false (eJson_i a0v_List_)), .t (.im false (eStr_c a0v_Names))])]⟩) ?_ ?_
                  · skip
                    refine Run.seq ?_
                    refine Run.region hL hT [] (by cbv) ?_ ?_
                    · exact (hq trivial (hq trivial hq0))
                    refine Run.cond (by cbv) (hq0) (fun c26 => ?_) (fun c26 => ?_)
                    · have h := if_t c26 h
                      obtain ⟨x27, h_x27, h⟩ := bnd h
                      obtain ⟨r28, h_r28, h⟩ := bnd h
                      obtain ⟨s29, h_s29, h⟩ := bnd h
                      obtain ⟨s30, h_s30, h⟩ := bnd h
                      refine Run.region hL hT [(4, .el [.s (.string x27)]), (6, .call [false] [.v (.jk)] [.v (.s (.string r28))]), (7, .hd [] (.t (.s (.string s29))) []), (8, .hd [] (.t (.s (.string s30))) [])] (by cbv) ?_ ?_
                      · exact (hq trivial (hq (get_le h_x27) (hq (get_lt (f := Str_c) h_x27) (hq (get_ge (f := Str_c) h_x27) (hq (hC (spec_l2Quote_ac h_r28)) (hq (hand_add h_s29) (hq (hand_add h_s30) hq0)))))))
                      refine ⟨s30, h, Weak.of _ [(1, 1)] hA (by cbv) ?_⟩
                      repeat (first | exact hq0 | refine hq (by first | exact True.intro | rfl) ?_)
                    · have h := if_f c26 h
                      refine Run.skip ?_
                      refine ⟨y20, h, Weak.of _ [(1, 1)] hA (by cbv) ?_⟩
                      repeat (first | exact hq0 | refine hq (by first | exact True.intro | rfl) ?_)
                  · intro y24 h
                    rw [h_K25] at h
                    obtain ⟨⟨x31v_Kind, x31v_N, x31v_S, x31v_List_, x31v_Names⟩, h_x31, h⟩ := bnd h
                    obtain ⟨r32, h_r32, h⟩ := bnd h
                    obtain ⟨s33, h_s33, h⟩ := bnd h
                    refine Run.region hL hT [(4, .el [.s (.int .i64 x31v_Kind), .s (.int .i64 x31v_N), .s (.string x31v_S), .im false (eJson_i x31v_List_), .im false (eStr_c x31v_Names)]), (6, .call [false] [.ag [.jk, .jk, .jk, .jk, .jk]] [.v (.s (.string r32))]), (7, .hd [] (.t (.s (.string s33))) [])] (by cbv) ?_ ?_
                    · exact (hq trivial (hq (get_le h_x31) (hq (get_lt (f := Json_i) h_x31) (hq (get_geU Json_i_u h_x31) (hq (hC (hself h_r32)) (hq (hand_add h_s33) hq0))))))
                    refine Run.region hL hT [] (by cbv) ?_ ?_
                    · exact (hq trivial hq0)
                    refine ⟨s33, (ar .add .i64 z18 1), h, Weak.of _ [(1, 1)] hA (by cbv) ?_⟩
                    repeat (first | exact hq0 | refine hq (by first | exact True.intro | rfl) ?_)
              · have h := if_f c19 h
                refine Run.exit ?_
                refine ⟨z17, h, Weak.of _ [(1, 1)] hA (by cbv) ?_⟩
                repeat (first | exact hq0 | refine hq (by first | exact True.intro | rfl) ?_)
          · intro y8 h
            rw [h_K9] at h
            refine Run.seq ?_
            refine Run.seq ?_
            refine Run.region hL hT [] (by cbv) ?_ ?_
            · exact (hq trivial (hq trivial hq0))
            refine Run.cond (by cbv) (hq0) (fun c34 => ?_) (fun c34 => ?_)
            · have h := if_t c34 h
              refine Run.seq ?_
              obtain ⟨s35, h_s35, h⟩ := bnd h
              obtain ⟨s36, h_s36, h⟩ := bnd h
              refine Run.region hL hT [(1, .hd [] (.t (.s (.string s35))) []), (2, .hd [] (.t (.s (.string s36))) [])] (by cbv) ?_ ?_
              · exact (hq (hand_add h_s35) (hq (hand_add h_s36) hq0))
              refine Run.ret ?_
              cases h
              refine ⟨_, _, by cbv, ?_, ?_⟩
              · exact LLe.r
              · exact (ALe.v LLe.r ALe.nil)
            · have h := if_f c34 h
              refine Run.skip ?_
              refine Run.seq ?_
              obtain ⟨s37, h_s37, h⟩ := bnd h
              obtain ⟨s38, h_s38, h⟩ := bnd h
              refine Run.region hL hT [(1, .hd [] (.t (.s (.string s37))) []), (2, .hd [] (.t (.s (.string s38))) [])] (by cbv) ?_ ?_
              · exact (hq (hand_add h_s37) (hq (hand_add h_s38) hq0))
              refine Run.ret ?_
              cases h
              refine ⟨_, _, by cbv, ?_, ?_⟩
              · exact LLe.r
              · exact (ALe.v LLe.r ALe.nil)
theorem spec_l2Encode_acg : ∀ (k : Nat) {a0v_Kind : Int} {a0v_N : Int} {a0v_S : ByteArray} {a0v_List_ : List Json} {a0v_Names : List ByteArray} {r : ByteArray} (h : spec_l2Encode.g k (Json.mk a0v_Kind a0v_N a0v_S a0v_List_ a0v_Names) = some r), AC Tryd.prog 92 [.ag [.s (.int .i64 a0v_Kind), .s (.int .i64 a0v_N), .s (.string a0v_S), .im false (rowsOf Json_i a0v_List_), .im false (rowsOf Str_c a0v_Names)]] [.ag [.jk, .jk, .jk, .jk, .jk]] [.v (.s (.string r))]
  | 0 => fun h => by cases h
  | k + 1 => fun h => spec_l2Encode_acs (spec_l2Encode.g k) (spec_l2Encode_acg k) h
theorem spec_l2Encode_ac {a0v_Kind : Int} {a0v_N : Int} {a0v_S : ByteArray} {a0v_List_ : List Json} {a0v_Names : List ByteArray} {r : ByteArray} (h : spec_l2Encode.f (Json.mk a0v_Kind a0v_N a0v_S a0v_List_ a0v_Names) = some r) : AC Tryd.prog 92 [.ag [.s (.int .i64 a0v_Kind), .s (.int .i64 a0v_N), .s (.string a0v_S), .im false (rowsOf Json_i a0v_List_), .im false (rowsOf Str_c a0v_Names)]] [.ag [.jk, .jk, .jk, .jk, .jk]] [.v (.s (.string r))] := spec_l2Encode_acg 20 h

theorem spec_Encode_ac {a0v_Kind : Int} {a0v_N : Int} {a0v_S : ByteArray} {a0v_List_ : List Json} {a0v_Names : List ByteArray} {r : ByteArray} (h : spec_Encode.f (Json.mk a0v_Kind a0v_N a0v_S a0v_List_ a0v_Names) = some r) : AC Tryd.prog 51 [.ag [.s (.int .i64 a0v_Kind), .s (.int .i64 a0v_N), .s (.string a0v_S), .im false (rowsOf Json_i a0v_List_), .im false (rowsOf Str_c a0v_Names)]] [.ag [.jk, .jk, .jk, .jk, .jk]] [.v (.s (.string r))] := by
  unfold spec_Encode.f at h
  let eJson_i := rowsOf Json_i
  let eStr_c := rowsOf Str_c
  show AC Tryd.prog 51 [.ag [.s (.int .i64 a0v_Kind), .s (.int .i64 a0v_N), .s (.string a0v_S), .im false (eJson_i a0v_List_), .im false (eStr_c a0v_Names)]] _ _
  refine run3 Tryd.func51 (by rfl) (by rfl) (by cbv) ⟨by decide, rfl⟩ ?_
  intro ar cm bo sc sa sx ss sl bs sb ln sr ap up rp fr ge le lt nz mm ma sm fl al ci hL F hP hA hT hM hC
  refine Run.seq ?_
  refine Run.region hL hT [] (by cbv) ?_ ?_
  · exact hq0
  refine Run.seq ?_
  refine Run.seq ?_
  obtain ⟨r1, h_r1, h⟩ := bnd h
  refine Run.region hL hT [(1, .call [false] [.ag [.jk, .jk, .jk, .jk, .jk]] [.v (.s (.bool r1))])] (by cbv) ?_ ?_
  · exact (hq trivial (hq (hC (spec_JsonOk_ac h_r1)) hq0))
  refine Run.cond (by cbv) (hq0) (fun c2 => ?_) (fun c2 => ?_)
  · have h := if_t c2 h
    refine Run.seq ?_
    refine Run.region hL hT [] (by cbv) ?_ ?_
    · exact hq0
    refine Run.ret ?_
    cases h
    refine ⟨_, _, by cbv, ?_, ?_⟩
    · exact LLe.r
    · exact (ALe.v LLe.r ALe.nil)
  · have h := if_f c2 h
    refine Run.skip ?_
    refine Run.seq ?_
    obtain ⟨r3, h_r3, h⟩ := bnd h
    refine Run.region hL hT [(1, .call [false] [.ag [.jk, .jk, .jk, .jk, .jk]] [.v (.s (.string r3))])] (by cbv) ?_ ?_
    · exact (hq trivial (hq (hC (spec_l2Encode_ac h_r3)) hq0))
    refine Run.seq ?_
    refine Run.seq ?_
    refine Run.region hL hT [] (by cbv) ?_ ?_
    · exact (hq trivial hq0)
    refine Run.cond (by cbv) (hq0) (fun c4 => ?_) (fun c4 => ?_)
    · have h := if_t c4 h
      refine Run.seq ?_
      refine Run.region hL hT [] (by cbv) ?_ ?_
      · exact hq0
      refine Run.ret ?_
      cases h
      refine ⟨_, _, by cbv, ?_, ?_⟩
      · exact LLe.r
      · exact (ALe.v LLe.r ALe.nil)
    · have h := if_f c4 h
      refine Run.skip ?_
      refine Run.seq ?_
      refine Run.region hL hT [] (by cbv) ?_ ?_
      · exact hq0
      refine Run.ret ?_
      cases h
      refine ⟨_, _, by cbv, ?_, ?_⟩
      · exact LLe.r
      · exact (ALe.v LLe.r ALe.nil)

theorem spec_Decode_ac {a0 : ByteArray} {r : Json × Bool} (h : spec_Decode.f a0 = some r) : AC Tryd.prog 20 [.v (.s (.string a0))] [.v (.jk)] [.ag [.s (.int .i64 r.1.Kind), .s (.int .i64 r.1.N), .s (.string r.1.S), .ow 48 (rowsOf Json_o r.1.List_), .ow 9 (rowsOf Str_c r.1.Names)], .v (.s (.bool r.2))] := by
  unfold spec_Decode.f at h
  let eJson_o := rowsOf Json_o
  let eStr_c := rowsOf Str_c
  show AC Tryd.prog 20 [.v (.s (.string a0))] _ _
  refine run3 Tryd.func20 (by rfl) (by rfl) (by cbv) ⟨by decide, rfl⟩ ?_
  intro ar cm bo sc sa sx ss sl bs sb ln sr ap up rp fr ge le lt nz mm ma sm fl al ci hL F hP hA hT hM hC
  refine Run.seq ?_
  refine Run.region hL hT [] (by cbv) ?_ ?_
  · exact hq0
  refine Run.seq ?_
  refine Run.seq ?_
  refine Run.region hL hT [] (by cbv) ?_ ?_
  · exact (hq (fun _ => hq0) (hq (fun g2 => (hq g2 hq0)) (hq (fun g3 => (hq g3 (hq trivial hq0))) (hq (fun _ => hq0) (hq (fun q5 => (hq (bo_m q5) hq0)) hq0)))))
  refine Run.cond (by cbv) (hq0) (fun c6 => ?_) (fun c6 => ?_)
  · have h := if_t c6 h
    refine Run.seq ?_
    refine Run.region hL hT [] (by cbv) ?_ ?_
    · exact (hq trivial hq0)
    refine Run.ret ?_
    cases h
    refine ⟨_, _, by cbv, ?_, ?_⟩
    · exact LLe.r
    · exact (ALe.ag rfl (LLe.c (LLe.c (LLe.c (LLe.cons LLe.nilO (LLe.cons LLe.nilO LLe.nil))))) (ALe.v LLe.r ALe.nil))
  · have h := if_f c6 h
    refine Run.skip ?_
    refine Run.seq ?_
    refine Run.region hL hT [] (by cbv) ?_ ?_
    · exact hq0
    refine Run.seq ?_
    obtain ⟨⟨⟨r7v_1v_s, r7v_1v_at_, r7v_1v_ok, r7v_1v_left⟩, ⟨r7v_2v_Kind, r7v_2v_N, r7v_2v_S, r7v_2v_List_, r7v_2v_Names⟩⟩, h_r7, h⟩ := bnd h
    refine Run.region hL hT [(1, .call [true, false] [.v (.bx 84 [.s (.string r7v_1v_s), .s (.int .i64 r7v_1v_at_), .s (.bool r7v_1v_ok), .s (.int .i64 r7v_1v_left)]), .v (.jk)] [.ag [.s (.int .i64 r7v_2v_Kind), .s (.int .i64 r7v_2v_N), .s (.string r7v_2v_S), .ow 48 (eJson_o r7v_2v_List_), .ow 9 (eStr_c r7v_2v_Names)]])] (by cbv) ?_ ?_
    · exact (hq (hC (spec_l2Value_ac h_r7)) (hq trivial hq0))
    refine Run.seq ?_
    refine Run.seq ?_
    obtain ⟨r8, h_r8, h⟩ := bnd h
    refine Run.region hL hT [(16, .call [false] [.ag [.jk, .jk, .jk, .jk, .jk]] [.v (.s (.string r8))])] (by cbv) ?_ ?_
    · exact (hq trivial (hq (fun _ => hq0) (hq (fun g10 => (hq g10 hq0)) (hq (fun g11 => (hq g11 hq0)) (hq (fun g12 => (hq g12 (hq trivial hq0))) (hq (fun _ => hq0) (hq (fun g14 => (hq g14 hq0)) (hq (fun g15 => (hq g15 (hq g15 (hq trivial hq0)))) (hq (fun _ => hq0) (hq (fun q17 => (hq (bo_m q17) hq0)) (hq (fun g18 => (hq trivial hq0)) (hq (fun g19 => (hq g19 (hq (hC (AC.args (spec_Encode_ac (gd_t h_r8 g19)) (ALe.ag rfl (LLe.c (LLe.c (LLe.c (LLe.cons (LLe.im (RLe.eq (fr_row Json_o_z _))) (LLe.cons (LLe.im (RLe.eq (fr_row Str_c_z _))) LLe.nil))))) ALe.nil))) hq0))) (hq (fun _ => hq0) (hq (fun g21 => (hq g21 (hq g21 hq0))) (hq (fun _ => hq0) (hq (fun q23 => (hq (bo_m q23) hq0)) hq0))))))))))))))))
    refine Run.cond (by cbv) (hq0) (fun c24 => ?_) (fun c24 => ?_)
    · have h := if_t c24 h
      refine Run.seq ?_
      refine Run.region hL hT [] (by cbv) ?_ ?_
      · exact (hq trivial hq0)
      refine Run.ret ?_
      cases h
      refine ⟨_, _, by cbv, ?_, ?_⟩
      · exact LLe.r
      · exact (ALe.ag rfl (LLe.c (LLe.c (LLe.c (LLe.cons LLe.nilO (LLe.cons LLe.nilO LLe.nil))))) (ALe.v LLe.r ALe.nil))
    · have h := if_f c24 h
      refine Run.skip ?_
      refine Run.seq ?_
      refine Run.region hL hT [] (by cbv) ?_ ?_
      · exact (hq trivial (hq trivial hq0))
      refine Run.ret ?_
      cases h
      refine ⟨_, _, by cbv, ?_, ?_⟩
      · exact LLe.r
      · exact (ALe.ag rfl LLe.r (ALe.v LLe.r ALe.nil))

theorem internal_stringslite_HasPrefix_ac {a0 : ByteArray} {a1 : ByteArray} {r : Bool} (h : internal_stringslite_HasPrefix.f a0 a1 = some r) : AC Tryd.prog 117 [.v (.s (.string a0)), .v (.s (.string a1))] [.v (.jk), .v (.jk)] [.v (.s (.bool r))] := by
  unfold internal_stringslite_HasPrefix.f at h
  show AC Tryd.prog 117 [.v (.s (.string a0)), .v (.s (.string a1))] _ _
  refine run3 Tryd.func117 (by rfl) (by rfl) (by cbv) ⟨by decide, rfl⟩ ?_
  intro ar cm bo sc sa sx ss sl bs sb ln sr ap up rp fr ge le lt nz mm ma sm fl al ci hL F hP hA hT hM hC
  refine Run.seq ?_
  refine Run.region hL hT [] (by cbv) ?_ ?_
  · exact hq0
  refine Run.seq ?_
  obtain ⟨u1, h_u1, h⟩ := bnd h
  refine Run.region hL hT [] (by cbv) ?_ ?_
  · exact (hq trivial (hq (fun _ => hq0) (hq (fun _ => hq0) (hq (fun g4 => (hq g4 hq0)) (hq (fun g5 => (hq g5 (hq g5 (hq (cutS_0 (gd_t h_u1 g5)) (hq (cutS_1 (gd_t h_u1 g5)) (hq (cutS_2 (gd_t h_u1 g5)) hq0)))))) (hq (fun _ => hq0) (hq (fun g7 => (hq g7 (hq g7 hq0))) (hq (fun q8 => (hq q8 hq0)) (hq (fun _ => hq0) hq0)))))))))
  refine Run.ret ?_
  cases h
  refine ⟨_, _, by cbv, ?_, ?_⟩
  · exact LLe.r
  · exact (ALe.v LLe.r ALe.nil)

theorem internal_stringslite_CutPrefix_ac {a0 : ByteArray} {a1 : ByteArray} {r : ByteArray × Bool} (h : internal_stringslite_CutPrefix.f a0 a1 = some r) : AC Tryd.prog 132 [.v (.s (.string a0)), .v (.s (.string a1))] [.v (.jk), .v (.jk)] [.v (.s (.string r.1)), .v (.s (.bool r.2))] := by
  unfold internal_stringslite_CutPrefix.f at h
  show AC Tryd.prog 132 [.v (.s (.string a0)), .v (.s (.string a1))] _ _
  refine run3 Tryd.func132 (by rfl) (by rfl) (by cbv) ⟨by decide, rfl⟩ ?_
  intro ar cm bo sc sa sx ss sl bs sb ln sr ap up rp fr ge le lt nz mm ma sm fl al ci hL F hP hA hT hM hC
  refine Run.seq ?_
  refine Run.region hL hT [] (by cbv) ?_ ?_
  · exact hq0
  refine Run.seq ?_
  refine Run.seq ?_
  obtain ⟨r1, h_r1, h⟩ := bnd h
  refine Run.region hL hT [(2, .call [false, false] [.v (.jk), .v (.jk)] [.v (.s (.bool r1))])] (by cbv) ?_ ?_
  · exact (hq (hC (internal_stringslite_HasPrefix_ac h_r1)) hq0)
  refine Run.cond (by cbv) (hq0) (fun c2 => ?_) (fun c2 => ?_)
  · have h := if_t c2 h
    refine Run.seq ?_
    refine Run.region hL hT [] (by cbv) ?_ ?_
    · exact hq0
    refine Run.ret ?_
    cases h
    refine ⟨_, _, by cbv, ?_, ?_⟩
    · exact LLe.r
    · exact (ALe.v LLe.r (ALe.v LLe.r ALe.nil))
  · have h := if_f c2 h
    refine Run.skip ?_
    refine Run.seq ?_
    obtain ⟨u3, h_u3, h⟩ := bnd h
    refine Run.region hL hT [] (by cbv) ?_ ?_
    · exact (hq (cutS_0 h_u3) (hq (cutS_1 h_u3) (hq (cutS_2 h_u3) hq0)))
    refine Run.ret ?_
    cases h
    refine ⟨_, _, by cbv, ?_, ?_⟩
    · exact LLe.r
    · exact (ALe.v LLe.r (ALe.v LLe.r ALe.nil))

theorem strings_CutPrefix_ac {a0 : ByteArray} {a1 : ByteArray} {r : ByteArray × Bool} (h : strings_CutPrefix.f a0 a1 = some r) : AC Tryd.prog 116 [.v (.s (.string a0)), .v (.s (.string a1))] [.v (.jk), .v (.jk)] [.v (.s (.string r.1)), .v (.s (.bool r.2))] := by
  unfold strings_CutPrefix.f at h
  show AC Tryd.prog 116 [.v (.s (.string a0)), .v (.s (.string a1))] _ _
  refine run3 Tryd.func116 (by rfl) (by rfl) (by cbv) ⟨by decide, rfl⟩ ?_
  intro ar cm bo sc sa sx ss sl bs sb ln sr ap up rp fr ge le lt nz mm ma sm fl al ci hL F hP hA hT hM hC
  refine Run.seq ?_
  refine Run.region hL hT [] (by cbv) ?_ ?_
  · exact hq0
  refine Run.seq ?_
  obtain ⟨⟨r1v_1, r1v_2⟩, h_r1, h⟩ := bnd h
  refine Run.region hL hT [(2, .call [false, false] [.v (.jk), .v (.jk)] [.v (.s (.string r1v_1)), .v (.s (.bool r1v_2))])] (by cbv) ?_ ?_
  · exact (hq (hC (internal_stringslite_CutPrefix_ac h_r1)) hq0)
  refine Run.ret ?_
  cases h
  refine ⟨_, _, by cbv, ?_, ?_⟩
  · exact LLe.r
  · exact (ALe.v LLe.r (ALe.v LLe.r ALe.nil))

theorem impl_reader_take_ac {a0v_text : ByteArray} {a0v_bad : Bool} {a1 : ByteArray} {r : reader × Bool} (h : impl_reader_take.f (reader.mk a0v_text a0v_bad) a1 = some r) : AC Tryd.prog 93 [.v (.bx 89 [.s (.string a0v_text), .s (.bool a0v_bad)]), .v (.s (.string a1))] [.v (.bx 89 [.s (.string r.1.text), .s (.bool r.1.bad)]), .v (.jk)] [.v (.s (.bool r.2))] := by
  unfold impl_reader_take.f at h
  show AC Tryd.prog 93 [.v (.bx 89 [.s (.string a0v_text), .s (.bool a0v_bad)]), .v (.s (.string a1))] _ _
  refine run3 Tryd.func93 (by rfl) (by rfl) (by cbv) ⟨by decide, rfl⟩ ?_
  intro ar cm bo sc sa sx ss sl bs sb ln sr ap up rp fr ge le lt nz mm ma sm fl al ci hL F hP hA hT hM hC
  refine Run.seq ?_
  refine Run.region hL hT [] (by cbv) ?_ ?_
  · exact hq0
  refine Run.seq ?_
  obtain ⟨⟨r1v_1, r1v_2⟩, h_r1, h⟩ := bnd h
  refine Run.region hL hT [(5, .call [false, false] [.v (.jk), .v (.jk)] [.v (.s (.string r1v_1)), .v (.s (.bool r1v_2))])] (by cbv) ?_ ?_
  · exact (hq trivial (hq (hC (strings_CutPrefix_ac h_r1)) hq0))
  refine Run.seq ?_
  refine Run.region hL hT [] (by cbv) ?_ ?_
  · exact (hq trivial hq0)
  refine Run.seq ?_
  refine Run.region hL hT [] (by cbv) ?_ ?_
  · exact (hq (fun _ => hq0) (hq (fun g3 => (hq g3 hq0)) (hq (fun g4 => (hq g4 hq0)) (hq (fun g5 => (hq g5 (hq trivial hq0))) (hq (fun g6 => (hq g6 hq0)) (hq (fun q7 => (hq q7 hq0)) (hq (fun _ => hq0) hq0)))))))
  refine Run.ret ?_
  cases h
  refine ⟨_, _, by cbv, ?_, ?_⟩
  · exact LLe.r
  · exact (ALe.v LLe.r ALe.nil)

theorem strings_HasPrefix_ac {a0 : ByteArray} {a1 : ByteArray} {r : Bool} (h : strings_HasPrefix.f a0 a1 = some r) : AC Tryd.prog 94 [.v (.s (.string a0)), .v (.s (.string a1))] [.v (.jk), .v (.jk)] [.v (.s (.bool r))] := by
  unfold strings_HasPrefix.f at h
  show AC Tryd.prog 94 [.v (.s (.string a0)), .v (.s (.string a1))] _ _
  refine run3 Tryd.func94 (by rfl) (by rfl) (by cbv) ⟨by decide, rfl⟩ ?_
  intro ar cm bo sc sa sx ss sl bs sb ln sr ap up rp fr ge le lt nz mm ma sm fl al ci hL F hP hA hT hM hC
  refine Run.seq ?_
  refine Run.region hL hT [] (by cbv) ?_ ?_
  · exact hq0
  refine Run.seq ?_
  obtain ⟨r1, h_r1, h⟩ := bnd h
  refine Run.region hL hT [(2, .call [false, false] [.v (.jk), .v (.jk)] [.v (.s (.bool r1))])] (by cbv) ?_ ?_
  · exact (hq (hC (internal_stringslite_HasPrefix_ac h_r1)) hq0)
  refine Run.ret ?_
  cases h
  refine ⟨_, _, by cbv, ?_, ?_⟩
  · exact LLe.r
  · exact (ALe.v LLe.r ALe.nil)

theorem impl_reader_want_ac {a0v_text : ByteArray} {a0v_bad : Bool} {a1 : ByteArray} {r : reader} (h : impl_reader_want.f (reader.mk a0v_text a0v_bad) a1 = some r) : AC Tryd.prog 118 [.v (.bx 89 [.s (.string a0v_text), .s (.bool a0v_bad)]), .v (.s (.string a1))] [.v (.bx 89 [.s (.string r.text), .s (.bool r.bad)]), .v (.jk)] [] := by
  unfold impl_reader_want.f at h
  show AC Tryd.prog 118 [.v (.bx 89 [.s (.string a0v_text), .s (.bool a0v_bad)]), .v (.s (.string a1))] _ _
  refine run3 Tryd.func118 (by rfl) (by rfl) (by cbv) ⟨by decide, rfl⟩ ?_
  intro ar cm bo sc sa sx ss sl bs sb ln sr ap up rp fr ge le lt nz mm ma sm fl al ci hL F hP hA hT hM hC
  refine Run.seq ?_
  obtain ⟨⟨⟨r1v_1v_text, r1v_1v_bad⟩, r1v_2⟩, h_r1, h⟩ := bnd h
  refine Run.region hL hT [(2, .call [true, false] [.v (.bx 89 [.s (.string r1v_1v_text), .s (.bool r1v_1v_bad)]), .v (.jk)] [.v (.s (.bool r1v_2))])] (by cbv) ?_ ?_
  · exact (hq (hC (impl_reader_take_ac h_r1)) hq0)
  refine Run.cond (by cbv) (hq0) (fun c2 => ?_) (fun c2 => ?_)
  · have h := if_t c2 h
    refine Run.region hL hT [] (by cbv) ?_ ?_
    · exact (hq trivial hq0)
    cases h
    refine ⟨_, _, by cbv, ?_, ?_⟩
    · exact LLe.r
    · exact ALe.nil
  · have h := if_f c2 h
    refine Run.skip ?_
    cases h
    refine ⟨_, _, by cbv, ?_, ?_⟩
    · exact LLe.r
    · exact ALe.nil

theorem impl_reader_quoted_ac {a0v_text : ByteArray} {a0v_bad : Bool} {r : reader × ByteArray} (h : impl_reader_quoted.f (reader.mk a0v_text a0v_bad) = some r) : AC Tryd.prog 95 [.v (.bx 89 [.s (.string a0v_text), .s (.bool a0v_bad)])] [.v (.bx 89 [.s (.string r.1.text), .s (.bool r.1.bad)])] [.v (.s (.string r.2))] := by
  unfold impl_reader_quoted.f at h
  let eu8_c := rowsOf u8_c
  show AC Tryd.prog 95 [.v (.bx 89 [.s (.string a0v_text), .s (.bool a0v_bad)])] _ _
  refine run3 Tryd.func95 (by rfl) (by rfl) (by cbv) ⟨by decide, rfl⟩ ?_
  intro ar cm bo sc sa sx ss sl bs sb ln sr ap up rp fr ge le lt nz mm ma sm fl al ci hL F hP hA hT hM hC
  refine Run.seq ?_
  refine Run.region hL hT [] (by cbv) ?_ ?_
  · exact hq0
  refine Run.seq ?_
  obtain ⟨⟨r1v_text, r1v_bad⟩, h_r1, h⟩ := bnd h
  refine Run.region hL hT [(1, .call [true, false] [.v (.bx 89 [.s (.string r1v_text), .s (.bool r1v_bad)]), .v (.jk)] [])] (by cbv) ?_ ?_
  · exact (hq (hC (impl_reader_want_ac h_r1)) hq0)
  refine Run.seq ?_
  refine Run.region hL hT [] (by cbv) ?_ ?_
  · exact hq0
  refine Run.seq ?_
  refine Run.block ?_
  refine Run.loop3 (fun (z5 : ByteArray) (z6 : Bool) (z7 : List Int) => ⟨42, 100000, [(0, .pt 0 0 0), (3, .rf 1)], [(0, .box 89 [.t (.s (.string z5)), .t (.s (.bool z6))]), (1, .row 0 5 1 (eu8_c z7))]⟩) (x0 := r1v_text) (x1 := r1v_bad) (x2 := []) h (Weak.of _ [(0, 0), (1, 8193)] hA (by cbv) ?_) (fun _ _ _ => rfl) ?_
  · repeat (first | exact hq0 | refine hq (by first | exact True.intro | rfl) ?_)
  · intro k z5 z6 z7 h
    rw [impl_reader_quoted.l0] at h
    refine Run.seq ?_
    refine Run.seq ?_
    refine Run.region hL hT [] (by cbv) ?_ ?_
    · exact (hq trivial hq0)
    refine Run.cond (by cbv) (hq0) (fun c8 => ?_) (fun c8 => ?_)
    · have h := if_t c8 h
      refine Run.skip ?_
      refine Run.block ?_
      refine Run.seq ?_
      refine Run.seq ?_
      obtain ⟨⟨⟨r9v_1v_text, r9v_1v_bad⟩, r9v_2⟩, h_r9, h⟩ := bnd h
      refine Run.region hL hT [(1, .call [true, false] [.v (.bx 89 [.s (.string r9v_1v_text), .s (.bool r9v_1v_bad)]), .v (.jk)] [.v (.s (.bool r9v_2))])] (by cbv) ?_ ?_
      · exact (hq (hC (impl_reader_take_ac h_r9)) hq0)
      refine Run.cond (by cbv) (hq0) (fun c10 => ?_) (fun c10 => ?_)
      · have h := if_t c10 h
        refine Run.seq ?_
        obtain ⟨s11, h_s11, h⟩ := bnd h
        refine Run.region hL hT [(1, .hd [1] (.t (.s (.string s11))) [])] (by cbv) ?_ ?_
        · exact (hq (hand_conv (ns := z7) hT (by rfl) (by rfl) (by rfl) (by rfl) (by rfl) (by rfl) (by rfl) (conv_row h_s11)) hq0)
        refine Run.ret ?_
        cases h
        refine ⟨_, _, by cbv, ?_, ?_⟩
        · exact LLe.r
        · exact (ALe.v LLe.r ALe.nil)
      · have h := if_f c10 h
        refine Run.skip ?_
        refine Run.seq ?_
        obtain ⟨⟨⟨r12v_1v_text, r12v_1v_bad⟩, r12v_2⟩, h_r12, h⟩ := bnd h
        refine Run.region hL hT [(1, .call [true, false] [.v (.bx 89 [.s (.string r12v_1v_text), .s (.bool r12v_1v_bad)]), .v (.jk)] [.v (.s (.bool r12v_2))])] (by cbv) ?_ ?_
        · exact (hq (hC (impl_reader_take_ac h_r12)) hq0)
        refine Run.seq ?_
        refine Run.seq ?_
        refine Run.region hL hT [] (by cbv) ?_ ?_
        · exact (hq trivial hq0)
        refine Run.cond (by cbv) (hq0) (fun c13 => ?_) (fun c13 => ?_)
        · have h := if_t c13 h
          refine Run.seq ?_
          refine Run.region hL hT [] (by cbv) ?_ ?_
          · exact (hq trivial hq0)
          refine Run.exit ?_
          refine Run.seq ?_
          refine Run.region hL hT [] (by cbv) ?_ ?_
          · exact hq0
          refine Run.ret ?_
          cases h
          refine ⟨_, _, by cbv, ?_, ?_⟩
          · exact LLe.r
          · exact (ALe.v LLe.r ALe.nil)
        · have h := if_f c13 h
          refine Run.skip ?_
          refine Run.seq ?_
          obtain ⟨u14, h_u14, h⟩ := bnd h
          obtain ⟨l15, h_l15, h⟩ := bnd h
          obtain ⟨l16, h_l16, h⟩ := bnd h
          refine Run.region hL hT [] (by cbv) ?_ ?_
          · exact (hq trivial (hq (inS_0 h_u14) (hq (inS_1 h_u14) (hq (app_mb (P := Tryd.prog) (f := u8_c) RLe.r (some_le (f := u8_c) h_l15 (RLe.cons rfl LLe.r RLe.nil)) h_l16) hq0))))
          refine Run.row (rows := (ap (eu8_c z7) ([[.s (.int .u8 (sx r12v_1v_text 0))]]))) 116391 (eu8_c l16) (by cbv) (app_le (f := u8_c) RLe.r (some_le (f := u8_c) h_l15 (RLe.cons rfl LLe.r RLe.nil)) h_l16) ?_
          obtain ⟨u17, h_u17, h⟩ := bnd h
          refine Run.region hL hT [] (by cbv) ?_ ?_
          · exact (hq trivial (hq (cutS_0 h_u17) (hq (cutS_1 h_u17) (hq (cutS_2 h_u17) (hq trivial hq0)))))
          refine ⟨(ss r12v_1v_text 1 (sl r12v_1v_text)), r12v_1v_bad, l16, h, Weak.of _ [(0, 0), (1, 116391)] hA (by cbv) ?_⟩
          repeat (first | exact hq0 | refine hq (by first | exact True.intro | rfl) ?_)
    · have h := if_f c8 h
      refine Run.exit ?_
      refine Run.seq ?_
      refine Run.region hL hT [] (by cbv) ?_ ?_
      · exact hq0
      refine Run.ret ?_
      cases h
      refine ⟨_, _, by cbv, ?_, ?_⟩
      · exact LLe.r
      · exact (ALe.v LLe.r ALe.nil)

theorem impl_reader_parts_ac (self : reader → Int → Option (reader × Json)) (hself : ∀ {a0v_text : ByteArray} {a0v_bad : Bool} {a1 : Int} {r : reader × Json} (h : self (reader.mk a0v_text a0v_bad) a1 = some r), AC Tryd.prog 52 [.v (.bx 89 [.s (.string a0v_text), .s (.bool a0v_bad)]), .v (.s (.int .i64 a1))] [.v (.bx 89 [.s (.string r.1.text), .s (.bool r.1.bad)]), .v (.jk)] [.ag [.s (.int .i64 r.2.Kind), .s (.int .i64 r.2.N), .s (.string r.2.S), .ow 48 (rowsOf Json_o r.2.List_), .ow 9 (rowsOf Str_c r.2.Names)]]) {a0v_text : ByteArray} {a0v_bad : Bool} {a1 : Int} {a2 : ByteArray} {a3 : Int} {r : reader × Json} (h : impl_reader_parts.f self (reader.mk a0v_text a0v_bad) a1 a2 a3 = some r) : AC Tryd.prog 96 [.v (.bx 89 [.s (.string a0v_text), .s (.bool a0v_bad)]), .v (.s (.int .i64 a1)), .v (.s (.string a2)), .v (.s (.int .i64 a3))] [.v (.bx 89 [.s (.string r.1.text), .s (.bool r.1.bad)]), .v (.jk), .v (.jk), .v (.jk)] [.ag [.s (.int .i64 r.2.Kind), .s (.int .i64 r.2.N), .s (.string r.2.S), .ow 48 (rowsOf Json_o r.2.List_), .ow 9 (rowsOf Str_c r.2.Names)]] := by
  unfold impl_reader_parts.f at h
  let eJson_o := rowsOf Json_o
  let eStr_c := rowsOf Str_c
  show AC Tryd.prog 96 [.v (.bx 89 [.s (.string a0v_text), .s (.bool a0v_bad)]), .v (.s (.int .i64 a1)), .v (.s (.string a2)), .v (.s (.int .i64 a3))] _ _
  refine run3 Tryd.func96 (by rfl) (by rfl) (by cbv) ⟨by decide, rfl⟩ ?_
  intro ar cm bo sc sa sx ss sl bs sb ln sr ap up rp fr ge le lt nz mm ma sm fl al ci hL F hP hA hT hM hC
  refine Run.seq ?_
  refine Run.region hL hT [] (by cbv) ?_ ?_
  · exact hq0
  refine Run.seq ?_
  refine Run.region hL hT [] (by cbv) ?_ ?_
  · exact (hq trivial hq0)
  refine Run.seq ?_
  refine Run.seq ?_
  obtain ⟨⟨⟨r1v_1v_text, r1v_1v_bad⟩, r1v_2⟩, h_r1, h⟩ := bnd h
  refine Run.region hL hT [(2, .call [true, false] [.v (.bx 89 [.s (.string r1v_1v_text), .s (.bool r1v_1v_bad)]), .v (.jk)] [.v (.s (.bool r1v_2))])] (by cbv) ?_ ?_
  · exact (hq (hC (impl_reader_take_ac h_r1)) hq0)
  refine Run.cond (by cbv) (hq0) (fun c2 => ?_) (fun c2 => ?_)
  · have h := if_t c2 h
    refine Run.seq ?_
    refine Run.region hL hT [] (by cbv) ?_ ?_
    · exact (hq trivial (hq trivial hq0))
    refine Run.ret ?_
    cases h
    refine ⟨_, _, by cbv, ?_, ?_⟩
    · exact LLe.r
    · exact (ALe.ag rfl (LLe.c (LLe.c (LLe.c (LLe.cons LLe.nilO (LLe.cons LLe.nilO LLe.nil))))) ALe.nil)
  · have h := if_f c2 h
    refine Run.skip ?_
    obtain ⟨K7, h_K7, h⟩ := joinE h
    refine Run.join4 K7 (r := r) (fun (y3 : ByteArray) (y4 : Bool) (y5 : List Json) (y6 : List ByteArray) => ⟨55, 100000, [(0, .pt 0 0 0), (2, .t (.s (.string a2))), (8, .pt 1 0 0), (9, .pt 2 0 0)], [(0, .box 89 [.t (.s (.string y3)), .t (.s (.bool y4))]), (1, .box 48 [.t (.s (.int .i64 0)), .t (.s (.int .i64 0)), .t (.s (.string ByteArray.empty)), .t (.s (.slice none 0 0)), .t (.s (.slice none 0 0))]), (2, .box 48 [.t (.s (.int .i64 a1)), .t (.s (.int .i64 0)), .t (.s (.string ByteArray.empty)), .rf 3, .rf 4]), (3, .row 0 48 5 (eJson_o y5)), (4, .row 0 9 1 (eStr_c y6))]⟩) ?_ ?_
    · skip
      refine Run.seq ?_
      refine Run.region hL hT [] (by cbv) ?_ ?_
      · exact hq0
      refine Run.block ?_
      refine Run.loop5 (fun (z34 : ByteArray) (z35 : Bool) (z36 : List Json) (z37 : List ByteArray) (z38 : Bool) => ⟨55, 100000, [(0, .pt 0 0 0), (1, .t (.s (.int .i64 a1))), (2, .t (.s (.string a2))), (3, .t (.s (.int .i64 a3))), (8, .pt 1 0 0), (9, .pt 2 0 0), (10, .t (.s (.bool z38)))], [(0, .box 89 [.t (.s (.string z34)), .t (.s (.bool z35))]), (1, .box 48 [.t (.s (.int .i64 0)), .t (.s (.int .i64 0)), .t (.s (.string ByteArray.empty)), .t (.s (.slice none 0 0)), .t (.s (.slice none 0 0))]), (2, .box 48 [.t (.s (.int .i64 a1)), .t (.s (.int .i64 0)), .t (.s (.string ByteArray.empty)), .rf 3, .rf 4]), (3, .row 0 48 5 (eJson_o z36)), (4, .row 0 9 1 (eStr_c z37))]⟩) (x0 := r1v_1v_text) (x1 := r1v_1v_bad) (x2 := []) (x3 := []) (x4 := true) h ((Weak.nilB (l := [.t (.s (.int .i64 a1)), .t (.s (.int .i64 0)), .t (.s (.string ByteArray.empty))]) hT 4099 3 17385 48 rfl (by cbv) (by cbv) (by cbv)).trans ((Weak.nilB (l := [.t (.s (.int .i64 a1)), .t (.s (.int .i64 0)), .t (.s (.string ByteArray.empty)), .rf 17385]) hT 4099 4 17386 9 rfl (by cbv) (by cbv) (by cbv)).trans (Weak.of _ [(0, 0), (1, 1), (2, 4099), (3, 17385), (4, 17386)] hA (by cbv) ?_))) (fun _ _ _ _ _ => rfl) ?_
      · repeat (first | exact hq0 | refine hq (by first | exact True.intro | rfl) ?_)
      · intro k z34 z35 z36 z37 z38 h
        rw [impl_reader_parts.l0] at h
        refine Run.seq ?_
        refine Run.seq ?_
        refine Run.region hL hT [] (by cbv) ?_ ?_
        · exact (hq (fun _ => hq0) (hq (fun g40 => (hq g40 hq0)) (hq (fun g41 => (hq g41 hq0)) (hq (fun g42 => (hq g42 (hq trivial hq0))) (hq (fun g43 => (hq g43 hq0)) (hq (fun q44 => (hq q44 hq0)) (hq (fun _ => hq0) hq0)))))))
        refine Run.cond (by cbv) (hq0) (fun c46 => ?_) (fun c46 => ?_)
        · have h := if_t c46 h
          refine Run.skip ?_
          refine Run.seq ?_
          refine Run.block ?_
          obtain ⟨K50, h_K50, h⟩ := joinE h
          refine Run.join3 K50 (r := r) (fun (y47 : ByteArray) (y48 : Bool) (y49 : List ByteArray) => ⟨55, 100000, [(0, .pt 0 0 0), (1, .t (.s (.int .i64 a1))), (2, .t (.s (.string a2))), (3, .t (.s (.int .i64 a3))), (8, .pt 1 0 0), (9, .pt 2 0 0)], [(0, .box 89 [.t (.s (.string y47)), .t (.s (.bool y48))]), (1, .box 48 [.t (.s (.int .i64 0)), .t (.s (.int .i64 0)), .t (.s (.string ByteArray.empty)), .t (.s (.slice none 0 0)), .t (.s (.slice none 0 0))]), (2, .box 48 [.t (.s (.int .i64 a1)), .t (.s (.int .i64 0)), .t (.s (.string ByteArray.empty)), .rf 3, .rf 4]), (3, .row 0 48 5 (eJson_o z36)), (4, .row 0 9 1 (eStr_c y49))]⟩) ?_ ?_
          · skip
            refine Run.seq ?_
            refine Run.region hL hT [] (by cbv) ?_ ?_
            · exact (hq trivial hq0)
            refine Run.cond (by cbv) (hq0) (fun c51 => ?_) (fun c51 => ?_)
            · have h := if_t c51 h
              refine Run.seq ?_
              obtain ⟨⟨⟨r52v_1v_text, r52v_1v_bad⟩, r52v_2⟩, h_r52, h⟩ := bnd h
              refine Run.region hL hT [(1, .call [true] [.v (.bx 89 [.s (.string r52v_1v_text), .s (.bool r52v_1v_bad)])] [.v (.s (.string r52v_2))])] (by cbv) ?_ ?_
              · exact (hq (hC (impl_reader_quoted_ac h_r52)) hq0)
              refine Run.seq ?_
              obtain ⟨⟨r53v_text, r53v_bad⟩, h_r53, h⟩ := bnd h
              refine Run.region hL hT [(1, .call [true, false] [.v (.bx 89 [.s (.string r53v_text), .s (.bool r53v_bad)]), .v (.jk)] [])] (by cbv) ?_ ?_
              · exact (hq (hC (impl_reader_want_ac h_r53)) hq0)
              obtain ⟨l54, h_l54, h⟩ := bnd h
              obtain ⟨l55, h_l55, h⟩ := bnd h
              refine Run.region hL hT [] (by cbv) ?_ ?_
              · exact (hq trivial (hq (app_mb (P := Tryd.prog) (f := Str_c) RLe.r (some_le (f := Str_c) h_l54 (RLe.cons rfl LLe.r RLe.nil)) h_l55) (hq trivial hq0)))
              refine ⟨r53v_text, r53v_bad, l55, h, (Weak.row (rows := (ap (eStr_c z37) ([[.s (.string r52v_2)]]))) 116388 (eStr_c l55) (by cbv) (app_le (f := Str_c) RLe.r (some_le (f := Str_c) h_l54 (RLe.cons rfl LLe.r RLe.nil)) h_l55)).trans (Weak.of _ [(0, 0), (1, 1), (2, 2), (3, 3), (4, 116388)] hA (by cbv) ?_)⟩
              repeat (first | exact hq0 | refine hq (by first | exact True.intro | rfl) ?_)
            · have h := if_f c51 h
              refine Run.skip ?_
              refine ⟨z34, z35, z37, h, Weak.of _ [(0, 0), (1, 1), (2, 2), (3, 3), (4, 4)] hA (by cbv) ?_⟩
              repeat (first | exact hq0 | refine hq (by first | exact True.intro | rfl) ?_)
          · intro y47 y48 y49 h
            rw [h_K50] at h
            refine Run.seq ?_
            obtain ⟨⟨⟨r56v_1v_text, r56v_1v_bad⟩, ⟨r56v_2v_Kind, r56v_2v_N, r56v_2v_S, r56v_2v_List_, r56v_2v_Names⟩⟩, h_r56, h⟩ := bnd h
            refine Run.region hL hT [(3, .call [true, false] [.v (.bx 89 [.s (.string r56v_1v_text), .s (.bool r56v_1v_bad)]), .v (.jk)] [.ag [.s (.int .i64 r56v_2v_Kind), .s (.int .i64 r56v_2v_N), .s (.string r56v_2v_S), .ow 48 (eJson_o r56v_2v_List_), .ow 9 (eStr_c r56v_2v_Names)]])] (by cbv) ?_ ?_
            · exact (hq trivial (hq (hC (hself h_r56)) (hq trivial hq0)))
            obtain ⟨l57, h_l57, h⟩ := bnd h
            obtain ⟨l58, h_l58, h⟩ := bnd h
            refine Run.region hL hT [] (by cbv) ?_ ?_
            · exact (hq trivial (hq trivial (hq (app_mb (P := Tryd.prog) (f := Json_o) RLe.r (some_leU Json_o_u h_l57 (RLe.cons rfl LLe.r RLe.nil)) h_l58) (hq trivial hq0))))
            refine Run.row (rows := (ap (eJson_o z36) ([[.s (.int .i64 r56v_2v_Kind), .s (.int .i64 r56v_2v_N), .s (.string r56v_2v_S), .ow 48 (eJson_o r56v_2v_List_), .ow 9 (eStr_c r56v_2v_Names)]]))) 104100 (eJson_o l58) (by cbv) (app_le (f := Json_o) RLe.r (some_leU Json_o_u h_l57 (RLe.cons rfl LLe.r RLe.nil)) h_l58) ?_
            obtain ⟨⟨⟨r59v_1v_text, r59v_1v_bad⟩, r59v_2⟩, h_r59, h⟩ := bnd h
            refine Run.region hL hT [(1, .call [true, false] [.v (.bx 89 [.s (.string r59v_1v_text), .s (.bool r59v_1v_bad)]), .v (.jk)] [.v (.s (.bool r59v_2))])] (by cbv) ?_ ?_
            · exact (hq (hC (impl_reader_take_ac h_r59)) hq0)
            refine ⟨r59v_1v_text, r59v_1v_bad, l58, y49, r59v_2, h, Weak.of _ [(0, 0), (1, 1), (2, 2), (3, 104100), (4, 4)] hA (by cbv) ?_⟩
            repeat (first | exact hq0 | refine hq (by first | exact True.intro | rfl) ?_)
        · have h := if_f c46 h
          refine Run.exit ?_
          refine ⟨z34, z35, z36, z37, h, Weak.of _ [(0, 0), (1, 1), (2, 2), (3, 3), (4, 4)] hA (by cbv) ?_⟩
          repeat (first | exact hq0 | refine hq (by first | exact True.intro | rfl) ?_)
    · intro y3 y4 y5 y6 h
      rw [h_K7] at h
      refine Run.seq ?_
      obtain ⟨⟨r60v_text, r60v_bad⟩, h_r60, h⟩ := bnd h
      refine Run.region hL hT [(2, .call [true, false] [.v (.bx 89 [.s (.string r60v_text), .s (.bool r60v_bad)]), .v (.jk)] [])] (by cbv) ?_ ?_
      · exact (hq (hC (impl_reader_want_ac h_r60)) hq0)
      refine Run.seq ?_
      refine Run.region hL hT [] (by cbv) ?_ ?_
      · exact (hq trivial (hq trivial hq0))
      refine Run.ret ?_
      cases h
      refine ⟨_, _, by cbv, ?_, ?_⟩
      · exact LLe.r
      · exact (ALe.ag rfl LLe.r ALe.nil)

def laysAtoi_ren : Go.Shelf.Ren := ⟨fun | 172 => 113 | 244 => 128 | 245 => 129 | 247 => 143 | 279 => 144 | 280 => 145 | 281 => 146 | 282 => 147 | 287 => 157 | 316 => 158 | 171 => 76 | 205 => 159 | 321 => 162 | 322 => 163 | 243 => 107 | 246 => 121 | 283 => 134 | 284 => 135 | 285 => 136 | 286 => 137 | 129 => 151 | 317 => 150 | 318 => 152 | 319 => 153 | 320 => 154 | 337 => 160 | 338 => 161 | n => n, fun | 9 => 9 | 3 => 3 | 75 => 111 | 76 => 112 | 4 => 4 | 5 => 5 | 167 => 158 | 37 => 54 | 0 => 0 | 85 => 159 | 2 => 2 | 168 => 161 | 53 => 152 | 175 => 176 | 46 => 141 | 210 => 179 | 127 => 134 | 145 => 185 | 143 => 183 | 21 => 21 | 171 => 151 | 173 => 155 | 212 => 166 | 51 => 167 | 20 => 20 | 213 => 168 | 232 => 186 | 233 => 187 | 80 => 114 | n => n, fun | 15 => 4 | 16 => 5 | 17 => 1 | 18 => 6 | 19 => 7 | n => n⟩
theorem laysAtoi : Go.Proofs.LaysC.n172 Tryd.prog laysAtoi_ren := {
  mixed := by kernel_rfl
  f129 := Tryd.func151.trans (congrArg some (by kernel_rfl))
  f171 := Tryd.func76.trans (congrArg some (by kernel_rfl))
  f172 := Tryd.func113.trans (congrArg some (by kernel_rfl))
  f205 := Tryd.func159.trans (congrArg some (by kernel_rfl))
  f243 := Tryd.func107.trans (congrArg some (by kernel_rfl))
  f244 := Tryd.func128.trans (congrArg some (by kernel_rfl))
  f245 := Tryd.func129.trans (congrArg some (by kernel_rfl))
  f246 := Tryd.func121.trans (congrArg some (by kernel_rfl))
  f247 := Tryd.func143.trans (congrArg some (by kernel_rfl))
  f279 := Tryd.func144.trans (congrArg some (by kernel_rfl))
  f280 := Tryd.func145.trans (congrArg some (by kernel_rfl))
  f281 := Tryd.func146.trans (congrArg some (by kernel_rfl))
  f282 := Tryd.func147.trans (congrArg some (by kernel_rfl))
  f283 := Tryd.func134.trans (congrArg some (by kernel_rfl))
  f284 := Tryd.func135.trans (congrArg some (by kernel_rfl))
  f285 := Tryd.func136.trans (congrArg some (by kernel_rfl))
  f286 := Tryd.func137.trans (congrArg some (by kernel_rfl))
  f287 := Tryd.func157.trans (congrArg some (by kernel_rfl))
  f316 := Tryd.func158.trans (congrArg some (by kernel_rfl))
  f317 := Tryd.func150.trans (congrArg some (by kernel_rfl))
  f318 := Tryd.func152.trans (congrArg some (by kernel_rfl))
  f319 := Tryd.func153.trans (congrArg some (by kernel_rfl))
  f320 := Tryd.func154.trans (congrArg some (by kernel_rfl))
  f321 := Tryd.func162.trans (congrArg some (by kernel_rfl))
  f322 := Tryd.func163.trans (congrArg some (by kernel_rfl))
  f337 := Tryd.func160.trans (congrArg some (by kernel_rfl))
  f338 := Tryd.func161.trans (congrArg some (by kernel_rfl))
  t0 := Tryd.underlying0
  a0 := Tryd.isAgg0
  z0 := Tryd.sizeOf0
  v0 := Tryd.zeroValue0
  t2 := Tryd.underlying2
  a2 := Tryd.isAgg2
  z2 := Tryd.sizeOf2
  v2 := Tryd.zeroValue2
  t3 := Tryd.underlying3
  a3 := Tryd.isAgg3
  z3 := Tryd.sizeOf3
  v3 := Tryd.zeroValue3
  t4 := Tryd.underlying4
  a4 := Tryd.isAgg4
  z4 := Tryd.sizeOf4
  v4 := Tryd.zeroValue4
  t5 := Tryd.underlying5
  a5 := Tryd.isAgg5
  z5 := Tryd.sizeOf5
  v5 := Tryd.zeroValue5
  t9 := Tryd.underlying9
  a9 := Tryd.isAgg9
  z9 := Tryd.sizeOf9
  v9 := Tryd.zeroValue9
  t20 := Tryd.underlying20
  a20 := Tryd.isAgg20
  z20 := Tryd.sizeOf20
  v20 := Tryd.zeroValue20
  t21 := Tryd.underlying21
  a21 := Tryd.isAgg21
  z21 := Tryd.sizeOf21
  v21 := Tryd.zeroValue21
  t37 := Tryd.underlying54
  a37 := Tryd.isAgg54
  z37 := Tryd.sizeOf54
  v37 := Tryd.zeroValue54
  t46 := Tryd.underlying141
  a46 := Tryd.isAgg141
  z46 := Tryd.sizeOf141
  v46 := Tryd.zeroValue141
  t51 := Tryd.underlying167
  a51 := Tryd.isAgg167
  z51 := Tryd.sizeOf167
  v51 := Tryd.zeroValue167
  t53 := Tryd.underlying152
  a53 := Tryd.isAgg152
  z53 := Tryd.sizeOf152
  v53 := Tryd.zeroValue152
  t75 := Tryd.underlying111
  a75 := Tryd.isAgg111
  z75 := Tryd.sizeOf111
  v75 := Tryd.zeroValue111
  t76 := Tryd.underlying112
  a76 := Tryd.isAgg112
  z76 := Tryd.sizeOf112
  v76 := Tryd.zeroValue112
  t85 := Tryd.underlying159
  a85 := Tryd.isAgg159
  z85 := Tryd.sizeOf159
  v85 := Tryd.zeroValue159
  t127 := Tryd.underlying134
  a127 := Tryd.isAgg134
  z127 := Tryd.sizeOf134
  v127 := Tryd.zeroValue134
  t143 := Tryd.underlying183
  a143 := Tryd.isAgg183
  z143 := Tryd.sizeOf183
  v143 := Tryd.zeroValue183
  t145 := Tryd.underlying185
  a145 := Tryd.isAgg185
  z145 := Tryd.sizeOf185
  v145 := Tryd.zeroValue185
  t167 := Tryd.underlying158
  a167 := Tryd.isAgg158
  z167 := Tryd.sizeOf158
  v167 := Tryd.zeroValue158
  t168 := Tryd.underlying161
  a168 := Tryd.isAgg161
  z168 := Tryd.sizeOf161
  v168 := Tryd.zeroValue161
  t171 := Tryd.underlying151
  a171 := Tryd.isAgg151
  z171 := Tryd.sizeOf151
  v171 := Tryd.zeroValue151
  t173 := Tryd.underlying155
  a173 := Tryd.isAgg155
  z173 := Tryd.sizeOf155
  v173 := Tryd.zeroValue155
  t175 := Tryd.underlying176
  a175 := Tryd.isAgg176
  z175 := Tryd.sizeOf176
  v175 := Tryd.zeroValue176
  t210 := Tryd.underlying179
  a210 := Tryd.isAgg179
  z210 := Tryd.sizeOf179
  v210 := Tryd.zeroValue179
  t212 := Tryd.underlying166
  a212 := Tryd.isAgg166
  z212 := Tryd.sizeOf166
  v212 := Tryd.zeroValue166
  t213 := Tryd.underlying168
  a213 := Tryd.isAgg168
  z213 := Tryd.sizeOf168
  t232 := Tryd.underlying186
  a232 := Tryd.isAgg186
  z232 := Tryd.sizeOf186
  v232 := Tryd.zeroValue186
  t233 := Tryd.underlying187
  a233 := Tryd.isAgg187
  z233 := Tryd.sizeOf187
  v233 := Tryd.zeroValue187
  g15 := by kernel_rfl
  g16 := by kernel_rfl
  g17 := by kernel_rfl
  g18 := by kernel_rfl
  g19 := by kernel_rfl
  t80 := Tryd.underlying114
  a80 := Tryd.isAgg114
  z80 := Tryd.sizeOf114
  v80 := Tryd.zeroValue114
  i0 := by kernel_rfl
  i2 := by kernel_rfl
  i3 := by kernel_rfl
  i4 := by kernel_rfl
  i5 := by kernel_rfl
  i9 := by kernel_rfl
  i20 := by kernel_rfl
  i21 := by kernel_rfl
  i37 := by kernel_rfl
  i46 := by kernel_rfl
  i51 := by kernel_rfl
  i53 := by kernel_rfl
  i75 := by kernel_rfl
  i76 := by kernel_rfl
  i80 := by kernel_rfl
  i85 := by kernel_rfl
  i127 := by kernel_rfl
  i143 := by kernel_rfl
  i145 := by kernel_rfl
  i167 := by kernel_rfl
  i168 := by kernel_rfl
  i171 := by kernel_rfl
  i173 := by kernel_rfl
  i175 := by kernel_rfl
  i210 := by kernel_rfl
  i212 := by kernel_rfl
  i232 := by kernel_rfl
  i233 := by kernel_rfl
  m15 := by kernel_rfl
  m16 := by kernel_rfl
  m17 := by kernel_rfl
  m18 := by kernel_rfl
  m19 := by kernel_rfl
  c0 := by kernel_rfl
  c2 := by kernel_rfl
  c3 := by kernel_rfl
  c4 := by kernel_rfl
  c5 := by kernel_rfl
  c9 := by kernel_rfl
  c20 := by kernel_rfl
  c21 := by kernel_rfl
  c37 := by kernel_rfl
  c46 := by kernel_rfl
  c51 := by kernel_rfl
  c53 := by kernel_rfl
  c75 := by kernel_rfl
  c76 := by kernel_rfl
  c80 := by kernel_rfl
  c85 := by kernel_rfl
  c127 := by kernel_rfl
  c143 := by kernel_rfl
  c145 := by kernel_rfl
  c167 := by kernel_rfl
  c168 := by kernel_rfl
  c171 := by kernel_rfl
  c173 := by kernel_rfl
  c175 := by kernel_rfl
  c210 := by kernel_rfl
  c212 := by kernel_rfl
  c213 := by kernel_rfl
  c232 := by kernel_rfl
  c233 := by kernel_rfl }
theorem strconv_Atoi_ac1 {a0 : ByteArray} {v : Int} {b : Bool} (h : strconv_Atoi.f a0 = some (v, b)) (hk : b = true) : AC Tryd.prog 113 [.v (.s (.string a0))] [.v .jk] [.v (.s (.int .i64 v)), .v (.s .nilIface)] :=
  AC.of_atoi1 (ty := laysAtoi_ren.t 5) ⟨_, Tryd.func113, by rfl, by rfl⟩ (fun s h1 v h2 w => Go.Proofs.Any.strconv_Atoi_ok laysAtoi s h1 v h2 w) h hk
theorem strconv_Atoi_ac0 {a0 : ByteArray} {v : Int} {b : Bool} (h : strconv_Atoi.f a0 = some (v, b)) (hk : b = false) : AC Tryd.prog 113 [.v (.s (.string a0))] [.v .jk] [.v (.s (.int .i64 v)), .v .er] :=
  AC.of_atoi0 (ty := laysAtoi_ren.t 168) (g15 := 4) (g16 := 5) ⟨_, Tryd.func113, by rfl, by rfl⟩ (by kernel_rfl) (by kernel_rfl)
    (fun s h1 h2 ev w h3 h4 => (Go.Proofs.Any.strconv_Atoi_syntax laysAtoi s h1 (by revert h2; generalize Lib.atoiAll s.data.toList = r; intro q; cases r <;> first | rfl | exact absurd rfl q.1 | exact absurd rfl (q.2 _)) ev w h3 h4).mono fun e w' ⟨N, a, _, _, d⟩ => ⟨N, a, d⟩)
    (fun s h1 h2 ev w h3 h4 => (Go.Proofs.Any.strconv_Atoi_range laysAtoi s h1 h2 ev w h3 h4).mono fun e w' ⟨N, a, _, _, d⟩ => ⟨N, a, d⟩) h hk

theorem impl_within_ac {a0 : Int} {a1 : Int} {a2 : Int} {r : Bool} (h : impl_within.f a0 a1 a2 = some r) : AC Tryd.prog 63 [.v (.s (.int .i64 a0)), .v (.s (.int .i64 a1)), .v (.s (.int .i64 a2))] [.v (.jk), .v (.jk), .v (.jk)] [.v (.s (.bool r))] := by
  unfold impl_within.f at h
  show AC Tryd.prog 63 [.v (.s (.int .i64 a0)), .v (.s (.int .i64 a1)), .v (.s (.int .i64 a2))] _ _
  refine run3 Tryd.func63 (by rfl) (by rfl) (by cbv) ⟨by decide, rfl⟩ ?_
  intro ar cm bo sc sa sx ss sl bs sb ln sr ap up rp fr ge le lt nz mm ma sm fl al ci hL F hP hA hT hM hC
  refine Run.seq ?_
  refine Run.region hL hT [] (by cbv) ?_ ?_
  · exact hq0
  refine Run.seq ?_
  refine Run.region hL hT [] (by cbv) ?_ ?_
  · exact (hq trivial (hq (fun _ => hq0) (hq (fun _ => hq0) (hq (fun g3 => (hq g3 (hq g3 (hq trivial hq0)))) (hq (fun q4 => (hq q4 hq0)) (hq (fun _ => hq0) hq0))))))
  refine Run.ret ?_
  cases h
  refine ⟨_, _, by cbv, ?_, ?_⟩
  · exact LLe.r
  · exact (ALe.v LLe.r ALe.nil)

theorem impl_reader_number_ac {a0v_text : ByteArray} {a0v_bad : Bool} {r : reader × Json} (h : impl_reader_number.f (reader.mk a0v_text a0v_bad) = some r) : AC Tryd.prog 97 [.v (.bx 89 [.s (.string a0v_text), .s (.bool a0v_bad)])] [.v (.bx 89 [.s (.string r.1.text), .s (.bool r.1.bad)])] [.ag [.s (.int .i64 r.2.Kind), .s (.int .i64 r.2.N), .s (.string r.2.S), .ow 48 (rowsOf Json_o r.2.List_), .ow 9 (rowsOf Str_c r.2.Names)]] := by
  unfold impl_reader_number.f at h
  show AC Tryd.prog 97 [.v (.bx 89 [.s (.string a0v_text), .s (.bool a0v_bad)])] _ _
  refine run3 Tryd.func97 (by rfl) (by rfl) (by cbv) ⟨by decide, rfl⟩ ?_
  intro ar cm bo sc sa sx ss sl bs sb ln sr ap up rp fr ge le lt nz mm ma sm fl al ci hL F hP hA hT hM hC
  refine Run.seq ?_
  refine Run.region hL hT [] (by cbv) ?_ ?_
  · exact hq0
  refine Run.seq ?_
  refine Run.region hL hT [] (by cbv) ?_ ?_
  · exact hq0
  obtain ⟨K2, h_K2, h⟩ := joinE h
  refine Run.join1 K2 (r := r) (fun (y1 : Int) => ⟨63, 100000, [(0, .pt 0 0 0), (2, .pt 1 0 0), (3, .t (.s (.int .i64 y1)))], [(0, .box 89 [.t (.s (.string a0v_text)), .t (.s (.bool a0v_bad))]), (1, .box 48 [.t (.s (.int .i64 0)), .t (.s (.int .i64 0)), .t (.s (.string ByteArray.empty)), .t (.s (.slice none 0 0)), .t (.s (.slice none 0 0))])]⟩) ?_ ?_
  · skip
    refine Run.block ?_
    refine Run.loop1 (fun (z9 : Int) => ⟨63, 100000, [(0, .pt 0 0 0), (2, .pt 1 0 0), (3, .t (.s (.int .i64 z9)))], [(0, .box 89 [.t (.s (.string a0v_text)), .t (.s (.bool a0v_bad))]), (1, .box 48 [.t (.s (.int .i64 0)), .t (.s (.int .i64 0)), .t (.s (.string ByteArray.empty)), .t (.s (.slice none 0 0)), .t (.s (.slice none 0 0))])]⟩) (x0 := 0) h (Weak.of _ [(0, 0), (1, 1)] hA (by cbv) ?_) (fun _ => rfl) ?_
    · repeat (first | exact hq0 | refine hq (by first | exact True.intro | rfl) ?_)
    · intro k z9 h
      rw [impl_reader_number.l0] at h
      refine Run.seq ?_
      refine Run.seq ?_
      obtain ⟨u10, h_u10, h⟩ := bnd h
      obtain ⟨r11, h_r11, h⟩ := bnd h
      obtain ⟨u12, h_u12, h⟩ := bnd h
      refine Run.region hL hT [(15, .call [false, false, false] [.v (.jk), .v (.jk), .v (.jk)] [.v (.s (.bool r11))])] (by cbv) ?_ ?_
      · exact (hq trivial (hq trivial (hq (fun _ => hq0) (hq (fun g14 => (hq g14 hq0)) (hq (fun g15 => (hq g15 hq0)) (hq (fun g16 => (hq g16 (hq trivial hq0))) (hq (fun _ => hq0) (hq (fun g18 => (hq g18 (hq g18 (hq (inS_0 (gd_t h_u10 g18)) (hq (inS_1 (gd_t h_u10 g18)) hq0))))) (hq (fun g19 => (hq g19 hq0)) (hq (fun g20 => (hq g20 (hq (hC (impl_within_ac (gd_t h_r11 g20))) hq0))) (hq (fun g21 => (hq g21 hq0)) (hq (fun _ => hq0) (hq (fun g23 => (hq g23 (hq trivial hq0))) (hq (fun g24 => (hq g24 hq0)) (hq (fun _ => hq0) (hq (fun g26 => (hq g26 hq0)) (hq (fun g27 => (hq g27 hq0)) (hq (fun g28 => (hq g28 (hq trivial hq0))) (hq (fun g29 => (hq g29 (hq (inS_0 (gd_t h_u12 g29)) (hq (inS_1 (gd_t h_u12 g29)) hq0)))) (hq (fun g30 => (hq g30 (hq trivial hq0))) (hq (fun g31 => (hq g31 (hq (fun q32 => (hq (bo_a g31 q32) hq0)) (hq (fun _ => hq0) hq0)))) (hq (fun g34 => (hq g34 (hq (fun _ => hq0) (hq (fun q36 => (hq (bo_a g34 (bo_m q36)) hq0)) hq0)))) (hq (fun q37 => (hq q37 hq0)) (hq (fun _ => hq0) hq0))))))))))))))))))))))))
      refine Run.cond (by cbv) (hq0) (fun c39 => ?_) (fun c39 => ?_)
      · have h := if_t c39 h
        refine Run.skip ?_
        refine Run.block ?_
        refine Run.region hL hT [] (by cbv) ?_ ?_
        · exact (hq trivial hq0)
        refine ⟨(ar .add .i64 z9 1), h, Weak.of _ [(0, 0), (1, 1)] hA (by cbv) ?_⟩
        repeat (first | exact hq0 | refine hq (by first | exact True.intro | rfl) ?_)
      · have h := if_f c39 h
        refine Run.exit ?_
        refine ⟨z9, h, Weak.of _ [(0, 0), (1, 1)] hA (by cbv) ?_⟩
        repeat (first | exact hq0 | refine hq (by first | exact True.intro | rfl) ?_)
  · intro y1 h
    rw [h_K2] at h
    refine Run.seq ?_
    obtain ⟨u40, h_u40, h⟩ := bnd h
    obtain ⟨⟨r41v_1, r41v_2⟩, h_r41, h⟩ := bnd h
    by_cases hk42 : r41v_2 = true
    · have h := if_t hk42 h
      refine Run.region hL hT [(6, .call [false] [.v (.jk)] [.v (.s (.int .i64 r41v_1)), .v (.s .nilIface)])] (by cbv) ?_ ?_
      · exact (hq trivial (hq (cutS_0 h_u40) (hq (cutS_1 h_u40) (hq (cutS_2 h_u40) (hq (hC (strconv_Atoi_ac1 h_r41 hk42)) hq0)))))
      refine Run.seq ?_
      refine Run.seq ?_
      refine Run.region hL hT [] (by cbv) ?_ ?_
      · exact hq0
      refine Run.cond (by cbv) (hq0) (fun c43 => ?_) (fun c43 => ?_)
      · cases c43
      · have h := if_f c43 h
        refine Run.skip ?_
        refine Run.seq ?_
        obtain ⟨u44, h_u44, h⟩ := bnd h
        refine Run.region hL hT [] (by cbv) ?_ ?_
        · exact (hq trivial (hq (cutS_0 h_u44) (hq (cutS_1 h_u44) (hq (cutS_2 h_u44) (hq trivial hq0)))))
        refine Run.seq ?_
        refine Run.region hL hT [] (by cbv) ?_ ?_
        · exact (hq trivial hq0)
        refine Run.ret ?_
        cases h
        refine ⟨_, _, by cbv, ?_, ?_⟩
        · exact LLe.r
        · exact (ALe.ag rfl (LLe.c (LLe.c (LLe.c (LLe.cons LLe.nilO (LLe.cons LLe.nilO LLe.nil))))) ALe.nil)
    · rw [Bool.not_eq_true] at hk42
      have h := if_f hk42 h
      refine Run.region hL hT [(6, .call [false] [.v (.jk)] [.v (.s (.int .i64 r41v_1)), .v (.er)])] (by cbv) ?_ ?_
      · exact (hq trivial (hq (cutS_0 h_u40) (hq (cutS_1 h_u40) (hq (cutS_2 h_u40) (hq (hC (strconv_Atoi_ac0 h_r41 hk42)) hq0)))))
      refine Run.seq ?_
      refine Run.seq ?_
      refine Run.region hL hT [] (by cbv) ?_ ?_
      · exact hq0
      refine Run.cond (by cbv) (hq0) (fun c45 => ?_) (fun c45 => ?_)
      · have h := if_t c45 h
        refine Run.region hL hT [] (by cbv) ?_ ?_
        · exact (hq trivial hq0)
        refine Run.seq ?_
        obtain ⟨u46, h_u46, h⟩ := bnd h
        refine Run.region hL hT [] (by cbv) ?_ ?_
        · exact (hq trivial (hq (cutS_0 h_u46) (hq (cutS_1 h_u46) (hq (cutS_2 h_u46) (hq trivial hq0)))))
        refine Run.seq ?_
        refine Run.region hL hT [] (by cbv) ?_ ?_
        · exact (hq trivial hq0)
        refine Run.ret ?_
        cases h
        refine ⟨_, _, by cbv, ?_, ?_⟩
        · exact LLe.r
        · exact (ALe.ag rfl (LLe.c (LLe.c (LLe.c (LLe.cons LLe.nilO (LLe.cons LLe.nilO LLe.nil))))) ALe.nil)
      · cases c45

theorem impl_reader_value_acs (self : reader → Int → Option (reader × Json)) (hself : ∀ {a0v_text : ByteArray} {a0v_bad : Bool} {a1 : Int} {r : reader × Json} (h : self (reader.mk a0v_text a0v_bad) a1 = some r), AC Tryd.prog 52 [.v (.bx 89 [.s (.string a0v_text), .s (.bool a0v_bad)]), .v (.s (.int .i64 a1))] [.v (.bx 89 [.s (.string r.1.text), .s (.bool r.1.bad)]), .v (.jk)] [.ag [.s (.int .i64 r.2.Kind), .s (.int .i64 r.2.N), .s (.string r.2.S), .ow 48 (rowsOf Json_o r.2.List_), .ow 9 (rowsOf Str_c r.2.Names)]]) {a0v_text : ByteArray} {a0v_bad : Bool} {a1 : Int} {r : reader × Json} (h : impl_reader_value.b self (reader.mk a0v_text a0v_bad) a1 = some r) : AC Tryd.prog 52 [.v (.bx 89 [.s (.string a0v_text), .s (.bool a0v_bad)]), .v (.s (.int .i64 a1))] [.v (.bx 89 [.s (.string r.1.text), .s (.bool r.1.bad)]), .v (.jk)] [.ag [.s (.int .i64 r.2.Kind), .s (.int .i64 r.2.N), .s (.string r.2.S), .ow 48 (rowsOf Json_o r.2.List_), .ow 9 (rowsOf Str_c r.2.Names)]] := by
  unfold impl_reader_value.b at h
  let eJson_o := rowsOf Json_o
  let eStr_c := rowsOf Str_c
  show AC Tryd.prog 52 [.v (.bx 89 [.s (.string a0v_text), .s (.bool a0v_bad)]), .v (.s (.int .i64 a1))] _ _
  refine run3 Tryd.func52 (by rfl) (by rfl) (by cbv) ⟨by decide, rfl⟩ ?_
  intro ar cm bo sc sa sx ss sl bs sb ln sr ap up rp fr ge le lt nz mm ma sm fl al ci hL F hP hA hT hM hC
  refine Run.seq ?_
  refine Run.region hL hT [] (by cbv) ?_ ?_
  · exact hq0
  refine Run.seq ?_
  refine Run.seq ?_
  refine Run.region hL hT [] (by cbv) ?_ ?_
  · exact (hq trivial (hq (fun _ => hq0) (hq (fun g2 => (hq g2 hq0)) (hq (fun g3 => (hq g3 hq0)) (hq (fun g4 => (hq g4 (hq trivial hq0))) (hq (fun _ => hq0) (hq (fun q6 => (hq (bo_m q6) hq0)) hq0)))))))
  refine Run.cond (by cbv) (hq0) (fun c7 => ?_) (fun c7 => ?_)
  · have h := if_t c7 h
    refine Run.seq ?_
    refine Run.region hL hT [] (by cbv) ?_ ?_
    · exact (hq trivial hq0)
    refine Run.seq ?_
    refine Run.region hL hT [] (by cbv) ?_ ?_
    · exact (hq trivial hq0)
    refine Run.ret ?_
    cases h
    refine ⟨_, _, by cbv, ?_, ?_⟩
    · exact LLe.r
    · exact (ALe.ag rfl (LLe.c (LLe.c (LLe.c (LLe.cons LLe.nilO (LLe.cons LLe.nilO LLe.nil))))) ALe.nil)
  · have h := if_f c7 h
    refine Run.skip ?_
    refine Run.seq ?_
    refine Run.block ?_
    refine Run.seq ?_
    obtain ⟨⟨⟨r8v_1v_text, r8v_1v_bad⟩, r8v_2⟩, h_r8, h⟩ := bnd h
    refine Run.region hL hT [(1, .call [true, false] [.v (.bx 89 [.s (.string r8v_1v_text), .s (.bool r8v_1v_bad)]), .v (.jk)] [.v (.s (.bool r8v_2))])] (by cbv) ?_ ?_
    · exact (hq (hC (impl_reader_take_ac h_r8)) hq0)
    refine Run.cond (by cbv) (hq0) (fun c9 => ?_) (fun c9 => ?_)
    · have h := if_t c9 h
      refine Run.seq ?_
      refine Run.region hL hT [] (by cbv) ?_ ?_
      · exact (hq trivial hq0)
      refine Run.ret ?_
      cases h
      refine ⟨_, _, by cbv, ?_, ?_⟩
      · exact LLe.r
      · exact (ALe.ag rfl (LLe.c (LLe.c (LLe.c (LLe.cons LLe.nilO (LLe.cons LLe.nilO LLe.nil))))) ALe.nil)
    · have h := if_f c9 h
      refine Run.seq ?_
      obtain ⟨⟨⟨r10v_1v_text, r10v_1v_bad⟩, r10v_2⟩, h_r10, h⟩ := bnd h
      refine Run.region hL hT [(1, .call [true, false] [.v (.bx 89 [.s (.string r10v_1v_text), .s (.bool r10v_1v_bad)]), .v (.jk)] [.v (.s (.bool r10v_2))])] (by cbv) ?_ ?_
      · exact (hq (hC (impl_reader_take_ac h_r10)) hq0)
      refine Run.cond (by cbv) (hq0) (fun c11 => ?_) (fun c11 => ?_)
      · have h := if_t c11 h
        refine Run.seq ?_
        refine Run.region hL hT [] (by cbv) ?_ ?_
        · exact (hq trivial hq0)
        refine Run.ret ?_
        cases h
        refine ⟨_, _, by cbv, ?_, ?_⟩
        · exact LLe.r
        · exact (ALe.ag rfl (LLe.c (LLe.c (LLe.c (LLe.cons LLe.nilO (LLe.cons LLe.nilO LLe.nil))))) ALe.nil)
      · have h := if_f c11 h
        refine Run.seq ?_
        obtain ⟨⟨⟨r12v_1v_text, r12v_1v_bad⟩, r12v_2⟩, h_r12, h⟩ := bnd h
        refine Run.region hL hT [(1, .call [true, false] [.v (.bx 89 [.s (.string r12v_1v_text), .s (.bool r12v_1v_bad)]), .v (.jk)] [.v (.s (.bool r12v_2))])] (by cbv) ?_ ?_
        · exact (hq (hC (impl_reader_take_ac h_r12)) hq0)
        refine Run.cond (by cbv) (hq0) (fun c13 => ?_) (fun c13 => ?_)
        · have h := if_t c13 h
          refine Run.seq ?_
          refine Run.region hL hT [] (by cbv) ?_ ?_
          · exact (hq trivial hq0)
          refine Run.ret ?_
          cases h
          refine ⟨_, _, by cbv, ?_, ?_⟩
          · exact LLe.r
          · exact (ALe.ag rfl (LLe.c (LLe.c (LLe.c (LLe.cons LLe.nilO (LLe.cons LLe.nilO LLe.nil))))) ALe.nil)
        · have h := if_f c13 h
          refine Run.seq ?_
          obtain ⟨r14, h_r14, h⟩ := bnd h
          refine Run.region hL hT [(4, .call [false, false] [.v (.jk), .v (.jk)] [.v (.s (.bool r14))])] (by cbv) ?_ ?_
          · exact (hq trivial (hq (hC (strings_HasPrefix_ac h_r14)) hq0))
          refine Run.cond (by cbv) (hq0) (fun c15 => ?_) (fun c15 => ?_)
          · have h := if_t c15 h
            refine Run.seq ?_
            obtain ⟨⟨⟨r16v_1v_text, r16v_1v_bad⟩, r16v_2⟩, h_r16, h⟩ := bnd h
            refine Run.region hL hT [(1, .call [true] [.v (.bx 89 [.s (.string r16v_1v_text), .s (.bool r16v_1v_bad)])] [.v (.s (.string r16v_2))])] (by cbv) ?_ ?_
            · exact (hq (hC (impl_reader_quoted_ac h_r16)) hq0)
            refine Run.seq ?_
            refine Run.region hL hT [] (by cbv) ?_ ?_
            · exact (hq trivial hq0)
            refine Run.ret ?_
            cases h
            refine ⟨_, _, by cbv, ?_, ?_⟩
            · exact LLe.r
            · exact (ALe.ag rfl (LLe.c (LLe.c (LLe.c (LLe.cons LLe.nilO (LLe.cons LLe.nilO LLe.nil))))) ALe.nil)
          · have h := if_f c15 h
            refine Run.seq ?_
            obtain ⟨⟨⟨r17v_1v_text, r17v_1v_bad⟩, r17v_2⟩, h_r17, h⟩ := bnd h
            refine Run.region hL hT [(1, .call [true, false] [.v (.bx 89 [.s (.string r17v_1v_text), .s (.bool r17v_1v_bad)]), .v (.jk)] [.v (.s (.bool r17v_2))])] (by cbv) ?_ ?_
            · exact (hq (hC (impl_reader_take_ac h_r17)) hq0)
            refine Run.cond (by cbv) (hq0) (fun c18 => ?_) (fun c18 => ?_)
            · have h := if_t c18 h
              refine Run.seq ?_
              obtain ⟨⟨⟨r19v_1v_text, r19v_1v_bad⟩, ⟨r19v_2v_Kind, r19v_2v_N, r19v_2v_S, r19v_2v_List_, r19v_2v_Names⟩⟩, h_r19, h⟩ := bnd h
              refine Run.region hL hT [(2, .call [true, false, false, false] [.v (.bx 89 [.s (.string r19v_1v_text), .s (.bool r19v_1v_bad)]), .v (.jk), .v (.jk), .v (.jk)] [.ag [.s (.int .i64 r19v_2v_Kind), .s (.int .i64 r19v_2v_N), .s (.string r19v_2v_S), .ow 48 (eJson_o r19v_2v_List_), .ow 9 (eStr_c r19v_2v_Names)]])] (by cbv) ?_ ?_
              · exact (hq (hC (impl_reader_parts_ac self hself h_r19)) (hq trivial hq0))
              refine Run.ret ?_
              cases h
              refine ⟨_, _, by cbv, ?_, ?_⟩
              · exact LLe.r
              · exact (ALe.ag rfl LLe.r ALe.nil)
            · have h := if_f c18 h
              refine Run.seq ?_
              obtain ⟨⟨⟨r20v_1v_text, r20v_1v_bad⟩, r20v_2⟩, h_r20, h⟩ := bnd h
              refine Run.region hL hT [(1, .call [true, false] [.v (.bx 89 [.s (.string r20v_1v_text), .s (.bool r20v_1v_bad)]), .v (.jk)] [.v (.s (.bool r20v_2))])] (by cbv) ?_ ?_
              · exact (hq (hC (impl_reader_take_ac h_r20)) hq0)
              refine Run.cond (by cbv) (hq0) (fun c21 => ?_) (fun c21 => ?_)
              · have h := if_t c21 h
                refine Run.seq ?_
                obtain ⟨⟨⟨r22v_1v_text, r22v_1v_bad⟩, ⟨r22v_2v_Kind, r22v_2v_N, r22v_2v_S, r22v_2v_List_, r22v_2v_Names⟩⟩, h_r22, h⟩ := bnd h
                refine Run.region hL hT [(2, .call [true, false, false, false] [.v (.bx 89 [.s (.string r22v_1v_text), .s (.bool r22v_1v_bad)]), .v (.jk), .v (.jk), .v (.jk)] [.ag [.s (.int .i64 r22v_2v_Kind), .s (.int .i64 r22v_2v_N), .s (.string r22v_2v_S), .ow 48 (eJson_o r22v_2v_List_), .ow 9 (eStr_c r22v_2v_Names)]])] (by cbv) ?_ ?_
                · exact (hq (hC (impl_reader_parts_ac self hself h_r22)) (hq trivial hq0))
                refine Run.ret ?_
                cases h
                refine ⟨_, _, by cbv, ?_, ?_⟩
                · exact LLe.r
                · exact (ALe.ag rfl LLe.r ALe.nil)
              · have h := if_f c21 h
                refine Run.skip ?_
                refine Run.seq ?_
                obtain ⟨⟨⟨r23v_1v_text, r23v_1v_bad⟩, ⟨r23v_2v_Kind, r23v_2v_N, r23v_2v_S, r23v_2v_List_, r23v_2v_Names⟩⟩, h_r23, h⟩ := bnd h
                refine Run.region hL hT [(1, .call [true] [.v (.bx 89 [.s (.string r23v_1v_text), .s (.bool r23v_1v_bad)])] [.ag [.s (.int .i64 r23v_2v_Kind), .s (.int .i64 r23v_2v_N), .s (.string r23v_2v_S), .ow 48 (eJson_o r23v_2v_List_), .ow 9 (eStr_c r23v_2v_Names)]])] (by cbv) ?_ ?_
                · exact (hq (hC (impl_reader_number_ac h_r23)) (hq trivial hq0))
                refine Run.ret ?_
                cases h
                refine ⟨_, _, by cbv, ?_, ?_⟩
                · exact LLe.r
                · exact (ALe.ag rfl LLe.r ALe.nil)
theorem impl_reader_value_acg : ∀ (k : Nat) {a0v_text : ByteArray} {a0v_bad : Bool} {a1 : Int} {r : reader × Json} (h : impl_reader_value.g k (reader.mk a0v_text a0v_bad) a1 = some r), AC Tryd.prog 52 [.v (.bx 89 [.s (.string a0v_text), .s (.bool a0v_bad)]), .v (.s (.int .i64 a1))] [.v (.bx 89 [.s (.string r.1.text), .s (.bool r.1.bad)]), .v (.jk)] [.ag [.s (.int .i64 r.2.Kind), .s (.int .i64 r.2.N), .s (.string r.2.S), .ow 48 (rowsOf Json_o r.2.List_), .ow 9 (rowsOf Str_c r.2.Names)]]
  | 0 => fun h => by cases h
  | k + 1 => fun h => impl_reader_value_acs (impl_reader_value.g k) (impl_reader_value_acg k) h
theorem impl_reader_value_ac {a0v_text : ByteArray} {a0v_bad : Bool} {a1 : Int} {r : reader × Json} (h : impl_reader_value.f (reader.mk a0v_text a0v_bad) a1 = some r) : AC Tryd.prog 52 [.v (.bx 89 [.s (.string a0v_text), .s (.bool a0v_bad)]), .v (.s (.int .i64 a1))] [.v (.bx 89 [.s (.string r.1.text), .s (.bool r.1.bad)]), .v (.jk)] [.ag [.s (.int .i64 r.2.Kind), .s (.int .i64 r.2.N), .s (.string r.2.S), .ow 48 (rowsOf Json_o r.2.List_), .ow 9 (rowsOf Str_c r.2.Names)]] := impl_reader_value_acg 20 h

theorem impl_textOk_ac {a0 : ByteArray} {r : Bool} (h : impl_textOk.f a0 = some r) : AC Tryd.prog 148 [.v (.s (.string a0))] [.v (.jk)] [.v (.s (.bool r))] := by
  unfold impl_textOk.f at h
  show AC Tryd.prog 148 [.v (.s (.string a0))] _ _
  refine run3 Tryd.func148 (by rfl) (by rfl) (by cbv) ⟨by decide, rfl⟩ ?_
  intro ar cm bo sc sa sx ss sl bs sb ln sr ap up rp fr ge le lt nz mm ma sm fl al ci hL F hP hA hT hM hC
  refine Run.seq ?_
  refine Run.region hL hT [] (by cbv) ?_ ?_
  · exact hq0
  refine Run.seq ?_
  refine Run.seq ?_
  refine Run.region hL hT [] (by cbv) ?_ ?_
  · exact hq0
  refine Run.block ?_
  refine Run.loop2 (fun (z4 : Int) (z5 : Int) => ⟨19, 100000, [(0, .t (.s (.string a0))), (5, .t (.s (.int .i64 z4))), (6, .t (.s (.int .i64 z5)))], []⟩) (x0 := (sl a0)) (x1 := 0) h (Weak.of _ [] hA (by cbv) ?_) (fun _ _ => rfl) ?_
  · repeat (first | exact hq0 | refine hq (by first | exact True.intro | rfl) ?_)
  · intro k z4 z5 h
    rw [impl_textOk.l0] at h
    refine Run.seq ?_
    refine Run.region hL hT [] (by cbv) ?_ ?_
    · exact (hq trivial hq0)
    refine Run.seq ?_
    refine Run.cond (by cbv) (hq0) (fun c6 => ?_) (fun c6 => ?_)
    · have h := if_t c6 h
      refine Run.skip ?_
      refine Run.seq ?_
      refine Run.block ?_
      refine Run.seq ?_
      refine Run.region hL hT [] (by cbv) ?_ ?_
      · exact hq0
      refine Run.seq ?_
      obtain ⟨u7, h_u7, h⟩ := bnd h
      obtain ⟨r8, h_r8, h⟩ := bnd h
      refine Run.region hL hT [(4, .call [false, false, false] [.v (.jk), .v (.jk), .v (.jk)] [.v (.s (.bool r8))])] (by cbv) ?_ ?_
      · exact (hq (inS_0 h_u7) (hq (inS_1 h_u7) (hq (hC (impl_within_ac h_r8)) hq0)))
      refine Run.cond (by cbv) (hq0) (fun c9 => ?_) (fun c9 => ?_)
      · have h := if_t c9 h
        refine Run.seq ?_
        refine Run.region hL hT [] (by cbv) ?_ ?_
        · exact hq0
        refine Run.ret ?_
        cases h
        refine ⟨_, _, by cbv, ?_, ?_⟩
        · exact LLe.r
        · exact (ALe.v LLe.r ALe.nil)
      · have h := if_f c9 h
        refine Run.skip ?_
        refine Run.region hL hT [] (by cbv) ?_ ?_
        · exact (hq trivial hq0)
        refine ⟨z4, (ar .add .i64 z5 1), h, Weak.of _ [] hA (by cbv) ?_⟩
        repeat (first | exact hq0 | refine hq (by first | exact True.intro | rfl) ?_)
    · have h := if_f c6 h
      refine Run.exit ?_
      refine Run.seq ?_
      refine Run.region hL hT [] (by cbv) ?_ ?_
      · exact (hq trivial hq0)
      refine Run.ret ?_
      cases h
      refine ⟨_, _, by cbv, ?_, ?_⟩
      · exact LLe.r
      · exact (ALe.v LLe.r ALe.nil)

theorem impl_namesOk_ac {a0 : List ByteArray} {r : Bool} (h : impl_namesOk.f a0 = some r) : AC Tryd.prog 149 [.v (.im false (rowsOf Str_c a0))] [.v (.jk)] [.v (.s (.bool r))] := by
  unfold impl_namesOk.f at h
  let eStr_c := rowsOf Str_c
  let lenI_Str := @lenI ByteArray
  show AC Tryd.prog 149 [.v (.im false (eStr_c a0))] _ _
  refine run3 Tryd.func149 (by rfl) (by rfl) (by cbv) ⟨by decide, rfl⟩ ?_
  intro ar cm bo sc sa sx ss sl bs sb ln sr ap up rp fr ge le lt nz mm ma sm fl al ci hL F hP hA hT hM hC
  refine Run.seq ?_
  refine Run.region hL hT [] (by cbv) ?_ ?_
  · exact hq0
  refine Run.seq ?_
  refine Run.seq ?_
  refine Run.region hL hT [] (by cbv) ?_ ?_
  · exact hq0
  rw [show ln (eStr_c a0) = lenI_Str a0 from ln_eq Str_c _]
  refine Run.block ?_
  refine Run.loop1 (fun (z5 : Int) => ⟨29, 100000, [(0, .t (.im false (eStr_c a0))), (5, .t (.im false (eStr_c a0))), (6, .t (.s (.int .i64 (lenI_Str a0)))), (7, .t (.s (.int .i64 z5)))], []⟩) (x0 := 0) h (Weak.of _ [] hA (by cbv) ?_) (fun _ => rfl) ?_
  · repeat (first | exact hq0 | refine hq (by first | exact True.intro | rfl) ?_)
  · intro k z5 h
    rw [impl_namesOk.l0] at h
    refine Run.seq ?_
    refine Run.region hL hT [] (by cbv) ?_ ?_
    · exact (hq trivial hq0)
    refine Run.seq ?_
    refine Run.cond (by cbv) (hq0) (fun c6 => ?_) (fun c6 => ?_)
    · have h := if_t c6 h
      refine Run.skip ?_
      refine Run.seq ?_
      refine Run.block ?_
      refine Run.seq ?_
      obtain ⟨x7, h_x7, h⟩ := bnd h
      refine Run.region hL hT [(1, .el [.s (.string x7)])] (by cbv) ?_ ?_
      · exact (hq (get_le h_x7) (hq (get_lt (f := Str_c) h_x7) (hq (get_ge (f := Str_c) h_x7) hq0)))
      refine Run.seq ?_
      obtain ⟨r8, h_r8, h⟩ := bnd h
      obtain ⟨x9, h_x9, h⟩ := bnd h
      refine Run.region hL hT [(1, .call [false] [.v (.jk)] [.v (.s (.bool r8))]), (10, .el [.s (.string x9)])] (by cbv) ?_ ?_
      · exact (hq (hC (impl_textOk_ac h_r8)) (hq (fun _ => hq0) (hq (fun g11 => (hq g11 (hq trivial hq0))) (hq (fun g12 => (hq g12 hq0)) (hq (fun _ => hq0) (hq (fun _ => hq0) (hq (fun g15 => (hq g15 (hq trivial hq0))) (hq (fun g16 => (hq g16 (hq g16 (hq (get_le (gd_t h_x9 g16)) (hq (get_lt (f := Str_c) (gd_t h_x9 g16)) (hq (get_ge (f := Str_c) (gd_t h_x9 g16)) hq0)))))) (hq (fun g17 => (hq g17 hq0)) (hq (fun _ => hq0) (hq (fun g19 => (hq g19 (hq g19 hq0))) (hq (fun g20 => (hq g20 (hq (fun q21 => (hq (bo_a g20 q21) hq0)) (hq (fun _ => hq0) hq0)))) (hq (fun _ => hq0) (hq (fun q24 => (hq (bo_m q24) hq0)) hq0))))))))))))))
      refine Run.cond (by cbv) (hq0) (fun c25 => ?_) (fun c25 => ?_)
      · have h := if_t c25 h
        refine Run.seq ?_
        refine Run.region hL hT [] (by cbv) ?_ ?_
        · exact hq0
        refine Run.ret ?_
        cases h
        refine ⟨_, _, by cbv, ?_, ?_⟩
        · exact LLe.r
        · exact (ALe.v LLe.r ALe.nil)
      · have h := if_f c25 h
        refine Run.skip ?_
        refine Run.region hL hT [] (by cbv) ?_ ?_
        · exact (hq trivial hq0)
        refine ⟨(ar .add .i64 z5 1), h, Weak.of _ [] hA (by cbv) ?_⟩
        repeat (first | exact hq0 | refine hq (by first | exact True.intro | rfl) ?_)
    · have h := if_f c6 h
      refine Run.exit ?_
      refine Run.seq ?_
      refine Run.region hL hT [] (by cbv) ?_ ?_
      · exact hq0
      refine Run.ret ?_
      cases h
      refine ⟨_, _, by cbv, ?_, ?_⟩
      · exact LLe.r
      · exact (ALe.v LLe.r ALe.nil)

theorem impl_isNum_ac {a0 : Int} {r : Bool} (h : impl_isNum.f a0 = some r) : AC Tryd.prog 64 [.v (.s (.int .i64 a0))] [.v (.jk)] [.v (.s (.bool r))] := by
  unfold impl_isNum.f at h
  show AC Tryd.prog 64 [.v (.s (.int .i64 a0))] _ _
  refine run3 Tryd.func64 (by rfl) (by rfl) (by cbv) ⟨by decide, rfl⟩ ?_
  intro ar cm bo sc sa sx ss sl bs sb ln sr ap up rp fr ge le lt nz mm ma sm fl al ci hL F hP hA hT hM hC
  refine Run.seq ?_
  refine Run.region hL hT [] (by cbv) ?_ ?_
  · exact hq0
  refine Run.seq ?_
  obtain ⟨r1, h_r1, h⟩ := bnd h
  refine Run.region hL hT [(1, .call [false, false, false] [.v (.jk), .v (.jk), .v (.jk)] [.v (.s (.bool r1))])] (by cbv) ?_ ?_
  · exact (hq (hC (impl_within_ac h_r1)) hq0)
  refine Run.ret ?_
  cases h
  refine ⟨_, _, by cbv, ?_, ?_⟩
  · exact LLe.r
  · exact (ALe.v LLe.r ALe.nil)

theorem impl_ownOk_ac {a0v_Kind : Int} {a0v_N : Int} {a0v_S : ByteArray} {a0v_List_ : List Json} {a0v_Names : List ByteArray} {r : Bool} (h : impl_ownOk.f (Json.mk a0v_Kind a0v_N a0v_S a0v_List_ a0v_Names) = some r) : AC Tryd.prog 133 [.ag [.s (.int .i64 a0v_Kind), .s (.int .i64 a0v_N), .s (.string a0v_S), .im false (rowsOf Json_i a0v_List_), .im false (rowsOf Str_c a0v_Names)]] [.ag [.jk, .jk, .jk, .jk, .jk]] [.v (.s (.bool r))] := by
  unfold impl_ownOk.f at h
  let eJson_i := rowsOf Json_i
  let eStr_c := rowsOf Str_c
  let lenI_Json := @lenI Json
  let lenI_Str := @lenI ByteArray
  show AC Tryd.prog 133 [.ag [.s (.int .i64 a0v_Kind), .s (.int .i64 a0v_N), .s (.string a0v_S), .im false (eJson_i a0v_List_), .im false (eStr_c a0v_Names)]] _ _
  refine run3 Tryd.func133 (by rfl) (by rfl) (by cbv) ⟨by decide, rfl⟩ ?_
  intro ar cm bo sc sa sx ss sl bs sb ln sr ap up rp fr ge le lt nz mm ma sm fl al ci hL F hP hA hT hM hC
  refine Run.seq ?_
  refine Run.region hL hT [] (by cbv) ?_ ?_
  · exact hq0
  refine Run.seq ?_
  refine Run.seq ?_
  refine Run.region hL hT [] (by cbv) ?_ ?_
  · exact (hq trivial (hq trivial (hq (fun _ => hq0) (hq (fun g2 => (by have g2C := g2; rw [show ln (eJson_i a0v_List_) = lenI_Json a0v_List_ from ln_eq Json_i _] at g2C; exact (hq g2 (hq trivial hq0)))) (hq (fun g3 => (by have g3C := g3; rw [show ln (eJson_i a0v_List_) = lenI_Json a0v_List_ from ln_eq Json_i _] at g3C; exact (hq g3 (hq trivial hq0)))) (hq (fun q4 => (by have q4C := q4; rw [show ln (eJson_i a0v_List_) = lenI_Json a0v_List_ from ln_eq Json_i _] at q4C; exact (hq q4 hq0))) (hq (fun _ => hq0) (hq (fun _ => hq0) (hq (fun g7 => (by have g7C := g7; rw [show ln (eJson_i a0v_List_) = lenI_Json a0v_List_ from ln_eq Json_i _] at g7C; exact (hq g7 (hq trivial hq0)))) (hq (fun g8 => (by have g8C := g8; rw [show ln (eJson_i a0v_List_) = lenI_Json a0v_List_ from ln_eq Json_i _] at g8C; exact (hq g8 (hq trivial hq0)))) (hq (fun q9 => (by have q9C := q9; rw [show ln (eJson_i a0v_List_) = lenI_Json a0v_List_ from ln_eq Json_i _] at q9C; exact (hq q9 hq0))) (hq (fun _ => hq0) (hq (fun _ => hq0) (hq (fun g12 => (by have g12C := g12; rw [show ln (eJson_i a0v_List_) = lenI_Json a0v_List_ from ln_eq Json_i _] at g12C; exact (hq g12 (hq trivial hq0)))) (hq (fun g13 => (by have g13C := g13; rw [show ln (eJson_i a0v_List_) = lenI_Json a0v_List_ from ln_eq Json_i _] at g13C; exact (hq g13 hq0))) (hq (fun g14 => (by have g14C := g14; rw [show ln (eJson_i a0v_List_) = lenI_Json a0v_List_ from ln_eq Json_i _] at g14C; exact (hq g14 (hq trivial hq0)))) (hq (fun g15 => (by have g15C := g15; rw [show ln (eJson_i a0v_List_) = lenI_Json a0v_List_ from ln_eq Json_i _] at g15C; exact (hq g15 hq0))) (hq (fun _ => hq0) (hq (fun g17 => (by have g17C := g17; rw [show ln (eJson_i a0v_List_) = lenI_Json a0v_List_ from ln_eq Json_i _, show ln (eStr_c a0v_Names) = lenI_Str a0v_Names from ln_eq Str_c _] at g17C; exact (hq g17 (hq trivial hq0)))) (hq (fun g18 => (by have g18C := g18; rw [show ln (eJson_i a0v_List_) = lenI_Json a0v_List_ from ln_eq Json_i _, show ln (eStr_c a0v_Names) = lenI_Str a0v_Names from ln_eq Str_c _] at g18C; exact (hq g18 (hq trivial hq0)))) (hq (fun g19 => (by have g19C := g19; rw [show ln (eJson_i a0v_List_) = lenI_Json a0v_List_ from ln_eq Json_i _] at g19C; exact (hq g19 (hq (fun q20 => (by have q20C := q20; rw [show ln (eStr_c a0v_Names) = lenI_Str a0v_Names from ln_eq Str_c _] at q20C; exact (hq (bo_a g19 q20) hq0))) (hq (fun _ => hq0) hq0))))) (hq (fun _ => hq0) (hq (fun q23 => (by have q23C := q23; rw [show ln (eJson_i a0v_List_) = lenI_Json a0v_List_ from ln_eq Json_i _] at q23C; exact (hq (bo_m q23) hq0))) hq0)))))))))))))))))))))))
  rw [show ln (eJson_i a0v_List_) = lenI_Json a0v_List_ from ln_eq Json_i _]
  rw [show ln (eStr_c a0v_Names) = lenI_Str a0v_Names from ln_eq Str_c _]
  refine Run.cond (by cbv) (hq0) (fun c24 => ?_) (fun c24 => ?_)
  · have h := if_t c24 h
    refine Run.seq ?_
    refine Run.region hL hT [] (by cbv) ?_ ?_
    · exact hq0
    refine Run.ret ?_
    cases h
    refine ⟨_, _, by cbv, ?_, ?_⟩
    · exact LLe.r
    · exact (ALe.v LLe.r ALe.nil)
  · have h := if_f c24 h
    refine Run.skip ?_
    refine Run.seq ?_
    refine Run.seq ?_
    refine Run.region hL hT [] (by cbv) ?_ ?_
    · exact (hq trivial (hq trivial (hq (fun _ => hq0) (hq (fun g26 => (hq g26 (hq trivial hq0))) (hq (fun g27 => (hq g27 (hq trivial hq0))) (hq (fun q28 => (hq q28 hq0)) (hq (fun _ => hq0) (hq (fun _ => hq0) (hq (fun g31 => (hq g31 (hq trivial hq0))) (hq (fun g32 => (hq g32 (hq trivial hq0))) (hq (fun q33 => (hq q33 hq0)) (hq (fun _ => hq0) (hq (fun _ => hq0) (hq (fun g36 => (hq g36 (hq trivial hq0))) (hq (fun g37 => (hq g37 hq0)) (hq (fun g38 => (hq g38 hq0)) (hq (fun _ => hq0) (hq (fun g40 => (hq g40 (hq trivial hq0))) (hq (fun g41 => (hq g41 (hq trivial hq0))) (hq (fun g42 => (hq g42 (hq (fun q43 => (hq (bo_a g42 q43) hq0)) (hq (fun _ => hq0) hq0)))) (hq (fun _ => hq0) (hq (fun q46 => (hq (bo_m q46) hq0)) hq0))))))))))))))))))))))
    refine Run.cond (by cbv) (hq0) (fun c47 => ?_) (fun c47 => ?_)
    · have h := if_t c47 h
      refine Run.seq ?_
      refine Run.region hL hT [] (by cbv) ?_ ?_
      · exact hq0
      refine Run.ret ?_
      cases h
      refine ⟨_, _, by cbv, ?_, ?_⟩
      · exact LLe.r
      · exact (ALe.v LLe.r ALe.nil)
    · have h := if_f c47 h
      refine Run.skip ?_
      refine Run.seq ?_
      refine Run.seq ?_
      refine Run.region hL hT [] (by cbv) ?_ ?_
      · exact (hq trivial hq0)
      refine Run.block ?_
      refine Run.seq ?_
      refine Run.region hL hT [] (by cbv) ?_ ?_
      · exact (hq trivial hq0)
      refine Run.cond (by cbv) (hq0) (fun c48 => ?_) (fun c48 => ?_)
      · have h := if_t c48 h
        refine Run.seq ?_
        obtain ⟨r49, h_r49, h⟩ := bnd h
        refine Run.region hL hT [(2, .call [false, false, false] [.v (.jk), .v (.jk), .v (.jk)] [.v (.s (.bool r49))])] (by cbv) ?_ ?_
        · exact (hq trivial (hq (hC (impl_within_ac h_r49)) hq0))
        refine Run.ret ?_
        cases h
        refine ⟨_, _, by cbv, ?_, ?_⟩
        · exact LLe.r
        · exact (ALe.v LLe.r ALe.nil)
      · have h := if_f c48 h
        refine Run.seq ?_
        refine Run.region hL hT [] (by cbv) ?_ ?_
        · exact (hq trivial hq0)
        refine Run.cond (by cbv) (hq0) (fun c50 => ?_) (fun c50 => ?_)
        · have h := if_t c50 h
          refine Run.seq ?_
          obtain ⟨r51, h_r51, h⟩ := bnd h
          refine Run.region hL hT [(2, .call [false] [.v (.jk)] [.v (.s (.bool r51))])] (by cbv) ?_ ?_
          · exact (hq trivial (hq (hC (impl_isNum_ac h_r51)) hq0))
          refine Run.ret ?_
          cases h
          refine ⟨_, _, by cbv, ?_, ?_⟩
          · exact LLe.r
          · exact (ALe.v LLe.r ALe.nil)
        · have h := if_f c50 h
          refine Run.seq ?_
          refine Run.region hL hT [] (by cbv) ?_ ?_
          · exact (hq trivial hq0)
          refine Run.cond (by cbv) (hq0) (fun c52 => ?_) (fun c52 => ?_)
          · have h := if_t c52 h
            refine Run.seq ?_
            obtain ⟨r53, h_r53, h⟩ := bnd h
            refine Run.region hL hT [(2, .call [false] [.v (.jk)] [.v (.s (.bool r53))])] (by cbv) ?_ ?_
            · exact (hq trivial (hq (hC (impl_textOk_ac h_r53)) hq0))
            refine Run.ret ?_
            cases h
            refine ⟨_, _, by cbv, ?_, ?_⟩
            · exact LLe.r
            · exact (ALe.v LLe.r ALe.nil)
          · have h := if_f c52 h
            refine Run.seq ?_
            refine Run.region hL hT [] (by cbv) ?_ ?_
            · exact (hq trivial hq0)
            refine Run.cond (by cbv) (hq0) (fun c54 => ?_) (fun c54 => ?_)
            · have h := if_t c54 h
              refine Run.seq ?_
              obtain ⟨r55, h_r55, h⟩ := bnd h
              refine Run.region hL hT [(10, .call [false] [.v (.jk)] [.v (.s (.bool r55))])] (by cbv) ?_ ?_
              · exact (hq trivial (hq trivial (hq trivial (hq (fun _ => hq0) (hq (fun g57 => (by have g57C := g57; rw [show ln (eJson_i a0v_List_) = lenI_Json a0v_List_ from ln_eq Json_i _, show ln (eStr_c a0v_Names) = lenI_Str a0v_Names from ln_eq Str_c _] at g57C; exact (hq g57 (hq trivial hq0)))) (hq (fun g58 => (by have g58C := g58; rw [show ln (eJson_i a0v_List_) = lenI_Json a0v_List_ from ln_eq Json_i _, show ln (eStr_c a0v_Names) = lenI_Str a0v_Names from ln_eq Str_c _] at g58C; exact (hq g58 (hq (hC (impl_namesOk_ac (gd_t h_r55 g58C))) hq0)))) (hq (fun q59 => (by have q59C := q59; rw [show ln (eJson_i a0v_List_) = lenI_Json a0v_List_ from ln_eq Json_i _, show ln (eStr_c a0v_Names) = lenI_Str a0v_Names from ln_eq Str_c _] at q59C; exact (hq q59 hq0))) (hq (fun _ => hq0) hq0))))))))
              rw [show ln (eJson_i a0v_List_) = lenI_Json a0v_List_ from ln_eq Json_i _]
              rw [show ln (eStr_c a0v_Names) = lenI_Str a0v_Names from ln_eq Str_c _]
              refine Run.ret ?_
              cases h
              refine ⟨_, _, by cbv, ?_, ?_⟩
              · exact LLe.r
              · exact (ALe.v LLe.r ALe.nil)
            · have h := if_f c54 h
              refine Run.skip ?_
              refine Run.seq ?_
              refine Run.region hL hT [] (by cbv) ?_ ?_
              · exact (hq trivial (hq trivial (hq (fun _ => hq0) (hq (fun g62 => (hq g62 (hq trivial hq0))) (hq (fun g63 => (hq g63 (hq trivial hq0))) (hq (fun _ => hq0) (hq (fun q65 => (hq (bo_m q65) hq0)) hq0)))))))
              refine Run.ret ?_
              cases h
              refine ⟨_, _, by cbv, ?_, ?_⟩
              · exact LLe.r
              · exact (ALe.v LLe.r ALe.nil)

theorem impl_sizeIn_acs (self : Json → Int → Option Int) (hself : ∀ {a0v_Kind : Int} {a0v_N : Int} {a0v_S : ByteArray} {a0v_List_ : List Json} {a0v_Names : List ByteArray} {a1 : Int} {r : Int} (h : self (Json.mk a0v_Kind a0v_N a0v_S a0v_List_ a0v_Names) a1 = some r), AC Tryd.prog 119 [.ag [.s (.int .i64 a0v_Kind), .s (.int .i64 a0v_N), .s (.string a0v_S), .im false (rowsOf Json_i a0v_List_), .im false (rowsOf Str_c a0v_Names)], .v (.s (.int .i64 a1))] [.ag [.jk, .jk, .jk, .jk, .jk], .v (.jk)] [.v (.s (.int .i64 r))]) {a0v_Kind : Int} {a0v_N : Int} {a0v_S : ByteArray} {a0v_List_ : List Json} {a0v_Names : List ByteArray} {a1 : Int} {r : Int} (h : impl_sizeIn.b self (Json.mk a0v_Kind a0v_N a0v_S a0v_List_ a0v_Names) a1 = some r) : AC Tryd.prog 119 [.ag [.s (.int .i64 a0v_Kind), .s (.int .i64 a0v_N), .s (.string a0v_S), .im false (rowsOf Json_i a0v_List_), .im false (rowsOf Str_c a0v_Names)], .v (.s (.int .i64 a1))] [.ag [.jk, .jk, .jk, .jk, .jk], .v (.jk)] [.v (.s (.int .i64 r))] := by
  unfold impl_sizeIn.b at h
  let eJson_i := rowsOf Json_i
  let eStr_c := rowsOf Str_c
  let lenI_Json := @lenI Json
  show AC Tryd.prog 119 [.ag [.s (.int .i64 a0v_Kind), .s (.int .i64 a0v_N), .s (.string a0v_S), .im false (eJson_i a0v_List_), .im false (eStr_c a0v_Names)], .v (.s (.int .i64 a1))] _ _
  refine run3 Tryd.func119 (by rfl) (by rfl) (by cbv) ⟨by decide, rfl⟩ ?_
  intro ar cm bo sc sa sx ss sl bs sb ln sr ap up rp fr ge le lt nz mm ma sm fl al ci hL F hP hA hT hM hC
  refine Run.seq ?_
  refine Run.region hL hT [] (by cbv) ?_ ?_
  · exact hq0
  refine Run.seq ?_
  refine Run.seq ?_
  obtain ⟨r1, h_r1, h⟩ := bnd h
  refine Run.region hL hT [(4, .call [false] [.ag [.jk, .jk, .jk, .jk, .jk]] [.v (.s (.bool r1))])] (by cbv) ?_ ?_
  · exact (hq trivial (hq (fun g2 => (hq trivial hq0)) (hq (fun g3 => (hq g3 (hq (hC (impl_ownOk_ac (gd_t h_r1 g3))) hq0))) (hq (fun g4 => (hq g4 hq0)) (hq (fun _ => hq0) (hq (fun q6 => (hq (bo_m q6) hq0)) hq0))))))
  refine Run.cond (by cbv) (hq0) (fun c7 => ?_) (fun c7 => ?_)
  · have h := if_t c7 h
    refine Run.seq ?_
    refine Run.region hL hT [] (by cbv) ?_ ?_
    · exact hq0
    refine Run.ret ?_
    cases h
    refine ⟨_, _, by cbv, ?_, ?_⟩
    · exact LLe.r
    · exact (ALe.v LLe.r ALe.nil)
  · have h := if_f c7 h
    refine Run.skip ?_
    refine Run.seq ?_
    refine Run.region hL hT [] (by cbv) ?_ ?_
    · exact hq0
    refine Run.seq ?_
    refine Run.seq ?_
    refine Run.region hL hT [] (by cbv) ?_ ?_
    · exact (hq trivial hq0)
    rw [show ln (eJson_i a0v_List_) = lenI_Json a0v_List_ from ln_eq Json_i _]
    refine Run.block ?_
    refine Run.loop2 (fun (z13 : Int) (z14 : Int) => ⟨32, 100000, [(1, .t (.s (.int .i64 a1))), (5, .t (.s (.int .i64 z13))), (16, .t (.im false (eJson_i a0v_List_))), (17, .t (.s (.int .i64 (lenI_Json a0v_List_)))), (18, .t (.s (.int .i64 z14)))], []⟩) (x0 := 1) (x1 := 0) h (Weak.of _ [] hA (by cbv) ?_) (fun _ _ => rfl) ?_
    · repeat (first | exact hq0 | refine hq (by first | exact True.intro | rfl) ?_)
    · intro k z13 z14 h
      rw [impl_sizeIn.l0] at h
      refine Run.seq ?_
      refine Run.region hL hT [] (by cbv) ?_ ?_
      · exact (hq trivial hq0)
      refine Run.seq ?_
      refine Run.cond (by cbv) (hq0) (fun c15 => ?_) (fun c15 => ?_)
      · have h := if_t c15 h
        refine Run.skip ?_
        refine Run.seq ?_
        refine Run.block ?_
        refine Run.seq ?_
        obtain ⟨⟨x16v_Kind, x16v_N, x16v_S, x16v_List_, x16v_Names⟩, h_x16, h⟩ := bnd h
        refine Run.region hL hT [(0, .el [.s (.int .i64 x16v_Kind), .s (.int .i64 x16v_N), .s (.string x16v_S), .im false (eJson_i x16v_List_), .im false (eStr_c x16v_Names)])] (by cbv) ?_ ?_
        · exact (hq (get_le h_x16) (hq (get_lt (f := Json_i) h_x16) (hq (get_geU Json_i_u h_x16) (hq trivial hq0))))
        refine Run.seq ?_
        obtain ⟨r17, h_r17, h⟩ := bnd h
        refine Run.region hL hT [(4, .call [false, false] [.ag [.jk, .jk, .jk, .jk, .jk], .v (.jk)] [.v (.s (.int .i64 r17))])] (by cbv) ?_ ?_
        · exact (hq trivial (hq trivial (hq (hC (hself h_r17)) (hq trivial hq0))))
        refine Run.seq ?_
        refine Run.region hL hT [] (by cbv) ?_ ?_
        · exact (hq trivial hq0)
        refine Run.cond (by cbv) (hq0) (fun c18 => ?_) (fun c18 => ?_)
        · have h := if_t c18 h
          refine Run.seq ?_
          refine Run.region hL hT [] (by cbv) ?_ ?_
          · exact hq0
          refine Run.ret ?_
          cases h
          refine ⟨_, _, by cbv, ?_, ?_⟩
          · exact LLe.r
          · exact (ALe.v LLe.r ALe.nil)
        · have h := if_f c18 h
          refine Run.skip ?_
          refine Run.region hL hT [] (by cbv) ?_ ?_
          · exact (hq trivial hq0)
          refine ⟨(ar .add .i64 z13 r17), (ar .add .i64 z14 1), h, Weak.of _ [] hA (by cbv) ?_⟩
          repeat (first | exact hq0 | refine hq (by first | exact True.intro | rfl) ?_)
      · have h := if_f c15 h
        refine Run.exit ?_
        refine Run.seq ?_
        refine Run.region hL hT [] (by cbv) ?_ ?_
        · exact hq0
        refine Run.ret ?_
        cases h
        refine ⟨_, _, by cbv, ?_, ?_⟩
        · exact LLe.r
        · exact (ALe.v LLe.r ALe.nil)
theorem impl_sizeIn_acg : ∀ (k : Nat) {a0v_Kind : Int} {a0v_N : Int} {a0v_S : ByteArray} {a0v_List_ : List Json} {a0v_Names : List ByteArray} {a1 : Int} {r : Int} (h : impl_sizeIn.g k (Json.mk a0v_Kind a0v_N a0v_S a0v_List_ a0v_Names) a1 = some r), AC Tryd.prog 119 [.ag [.s (.int .i64 a0v_Kind), .s (.int .i64 a0v_N), .s (.string a0v_S), .im false (rowsOf Json_i a0v_List_), .im false (rowsOf Str_c a0v_Names)], .v (.s (.int .i64 a1))] [.ag [.jk, .jk, .jk, .jk, .jk], .v (.jk)] [.v (.s (.int .i64 r))]
  | 0 => fun h => by cases h
  | k + 1 => fun h => impl_sizeIn_acs (impl_sizeIn.g k) (impl_sizeIn_acg k) h
theorem impl_sizeIn_ac {a0v_Kind : Int} {a0v_N : Int} {a0v_S : ByteArray} {a0v_List_ : List Json} {a0v_Names : List ByteArray} {a1 : Int} {r : Int} (h : impl_sizeIn.f (Json.mk a0v_Kind a0v_N a0v_S a0v_List_ a0v_Names) a1 = some r) : AC Tryd.prog 119 [.ag [.s (.int .i64 a0v_Kind), .s (.int .i64 a0v_N), .s (.string a0v_S), .im false (rowsOf Json_i a0v_List_), .im false (rowsOf Str_c a0v_Names)], .v (.s (.int .i64 a1))] [.ag [.jk, .jk, .jk, .jk, .jk], .v (.jk)] [.v (.s (.int .i64 r))] := impl_sizeIn_acg 20 h

theorem impl_JsonOk_ac {a0v_Kind : Int} {a0v_N : Int} {a0v_S : ByteArray} {a0v_List_ : List Json} {a0v_Names : List ByteArray} {r : Bool} (h : impl_JsonOk.f (Json.mk a0v_Kind a0v_N a0v_S a0v_List_ a0v_Names) = some r) : AC Tryd.prog 98 [.ag [.s (.int .i64 a0v_Kind), .s (.int .i64 a0v_N), .s (.string a0v_S), .im false (rowsOf Json_i a0v_List_), .im false (rowsOf Str_c a0v_Names)]] [.ag [.jk, .jk, .jk, .jk, .jk]] [.v (.s (.bool r))] := by
  unfold impl_JsonOk.f at h
  let eJson_i := rowsOf Json_i
  let eStr_c := rowsOf Str_c
  show AC Tryd.prog 98 [.ag [.s (.int .i64 a0v_Kind), .s (.int .i64 a0v_N), .s (.string a0v_S), .im false (eJson_i a0v_List_), .im false (eStr_c a0v_Names)]] _ _
  refine run3 Tryd.func98 (by rfl) (by rfl) (by cbv) ⟨by decide, rfl⟩ ?_
  intro ar cm bo sc sa sx ss sl bs sb ln sr ap up rp fr ge le lt nz mm ma sm fl al ci hL F hP hA hT hM hC
  refine Run.seq ?_
  refine Run.region hL hT [] (by cbv) ?_ ?_
  · exact hq0
  refine Run.seq ?_
  obtain ⟨r1, h_r1, h⟩ := bnd h
  refine Run.region hL hT [(1, .call [false, false] [.ag [.jk, .jk, .jk, .jk, .jk], .v (.jk)] [.v (.s (.int .i64 r1))])] (by cbv) ?_ ?_
  · exact (hq trivial (hq (hC (impl_sizeIn_ac h_r1)) (hq trivial hq0)))
  refine Run.ret ?_
  cases h
  refine ⟨_, _, by cbv, ?_, ?_⟩
  · exact LLe.r
  · exact (ALe.v LLe.r ALe.nil)

theorem impl_quoted_ac {a0 : ByteArray} {r : ByteArray} (h : impl_quoted.f a0 = some r) : AC Tryd.prog 120 [.v (.s (.string a0))] [.v (.jk)] [.v (.s (.string r))] := by
  unfold impl_quoted.f at h
  let eu8_c := rowsOf u8_c
  show AC Tryd.prog 120 [.v (.s (.string a0))] _ _
  refine run3 Tryd.func120 (by rfl) (by rfl) (by cbv) ⟨by decide, rfl⟩ ?_
  intro ar cm bo sc sa sx ss sl bs sb ln sr ap up rp fr ge le lt nz mm ma sm fl al ci hL F hP hA hT hM hC
  refine Run.seq ?_
  refine Run.region hL hT [] (by cbv) ?_ ?_
  · exact hq0
  refine Run.seq ?_
  obtain ⟨l1, h_l1, h⟩ := bnd h
  refine Run.region hL hT [] (by cbv) ?_ ?_
  · exact hq0
  refine Run.row (rows := [[.s (.int .u8 34)]]) 4096 (eu8_c l1) (by cbv) (some_le (f := u8_c) h_l1 (RLe.cons rfl LLe.r RLe.nil)) ?_
  refine Run.seq ?_
  refine Run.seq ?_
  refine Run.region hL hT [] (by cbv) ?_ ?_
  · exact hq0
  refine Run.block ?_
  refine Run.loop3 (fun (z6 : List Int) (z7 : Int) (z8 : Int) => ⟨35, 100000, [(0, .t (.s (.string a0))), (3, .rf 1), (7, .t (.s (.int .i64 z7))), (8, .t (.s (.int .i64 z8)))], [(1, .row 0 5 1 (eu8_c z6))]⟩) (x0 := l1) (x1 := (sl a0)) (x2 := 0) h (Weak.of _ [(1, 4096)] hA (by cbv) ?_) (fun _ _ _ => rfl) ?_
  · repeat (first | exact hq0 | refine hq (by first | exact True.intro | rfl) ?_)
  · intro k z6 z7 z8 h
    rw [impl_quoted.l0] at h
    refine Run.seq ?_
    refine Run.region hL hT [] (by cbv) ?_ ?_
    · exact (hq trivial hq0)
    refine Run.seq ?_
    refine Run.cond (by cbv) (hq0) (fun c9 => ?_) (fun c9 => ?_)
    · have h := if_t c9 h
      refine Run.skip ?_
      refine Run.seq ?_
      refine Run.block ?_
      refine Run.seq ?_
      refine Run.region hL hT [] (by cbv) ?_ ?_
      · exact hq0
      refine Run.seq ?_
      refine Run.seq ?_
      obtain ⟨u10, h_u10, h⟩ := bnd h
      obtain ⟨u11, h_u11, h⟩ := bnd h
      refine Run.region hL hT [] (by cbv) ?_ ?_
      · exact (hq (inS_0 h_u10) (hq (inS_1 h_u10) (hq trivial (hq (fun _ => hq0) (hq (fun _ => hq0) (hq (fun g14 => (hq g14 (hq g14 (hq (inS_0 (gd_t h_u11 g14)) (hq (inS_1 (gd_t h_u11 g14)) hq0))))) (hq (fun g15 => (hq g15 (hq trivial hq0))) (hq (fun _ => hq0) (hq (fun q17 => (hq (bo_m q17) hq0)) hq0)))))))))
      refine Run.cond (by cbv) (hq0) (fun c18 => ?_) (fun c18 => ?_)
      · have h := if_t c18 h
        obtain ⟨l19, h_l19, h⟩ := bnd h
        obtain ⟨l20, h_l20, h⟩ := bnd h
        refine Run.region hL hT [] (by cbv) ?_ ?_
        · exact (hq (app_mb (P := Tryd.prog) (f := u8_c) RLe.r (some_le (f := u8_c) h_l19 (RLe.cons rfl LLe.r RLe.nil)) h_l20) hq0)
        refine Run.row (rows := (ap (eu8_c z6) ([[.s (.int .u8 92)]]))) 112290 (eu8_c l20) (by cbv) (app_le (f := u8_c) RLe.r (some_le (f := u8_c) h_l19 (RLe.cons rfl LLe.r RLe.nil)) h_l20) ?_
        obtain ⟨u21, h_u21, h⟩ := bnd h
        obtain ⟨l22, h_l22, h⟩ := bnd h
        obtain ⟨l23, h_l23, h⟩ := bnd h
        refine Run.region hL hT [] (by cbv) ?_ ?_
        · exact (hq (inS_0 h_u21) (hq (inS_1 h_u21) (hq (app_mb (P := Tryd.prog) (f := u8_c) RLe.r (some_le (f := u8_c) h_l22 (RLe.cons rfl LLe.r RLe.nil)) h_l23) hq0)))
        refine Run.row (rows := (ap (eu8_c l20) ([[.s (.int .u8 (sx a0 z8))]]))) 116389 (eu8_c l23) (by cbv) (app_le (f := u8_c) RLe.r (some_le (f := u8_c) h_l22 (RLe.cons rfl LLe.r RLe.nil)) h_l23) ?_
        refine Run.region hL hT [] (by cbv) ?_ ?_
        · exact (hq trivial hq0)
        refine ⟨l23, z7, (ar .add .i64 z8 1), h, Weak.of _ [(1, 116389)] hA (by cbv) ?_⟩
        repeat (first | exact hq0 | refine hq (by first | exact True.intro | rfl) ?_)
      · have h := if_f c18 h
        refine Run.skip ?_
        obtain ⟨u24, h_u24, h⟩ := bnd h
        obtain ⟨l25, h_l25, h⟩ := bnd h
        obtain ⟨l26, h_l26, h⟩ := bnd h
        refine Run.region hL hT [] (by cbv) ?_ ?_
        · exact (hq (inS_0 h_u24) (hq (inS_1 h_u24) (hq (app_mb (P := Tryd.prog) (f := u8_c) RLe.r (some_le (f := u8_c) h_l25 (RLe.cons rfl LLe.r RLe.nil)) h_l26) hq0)))
        refine Run.row (rows := (ap (eu8_c z6) ([[.s (.int .u8 (sx a0 z8))]]))) 112293 (eu8_c l26) (by cbv) (app_le (f := u8_c) RLe.r (some_le (f := u8_c) h_l25 (RLe.cons rfl LLe.r RLe.nil)) h_l26) ?_
        refine Run.region hL hT [] (by cbv) ?_ ?_
        · exact (hq trivial hq0)
        refine ⟨l26, z7, (ar .add .i64 z8 1), h, Weak.of _ [(1, 112293)] hA (by cbv) ?_⟩
        repeat (first | exact hq0 | refine hq (by first | exact True.intro | rfl) ?_)
    · have h := if_f c9 h
      refine Run.exit ?_
      refine Run.seq ?_
      obtain ⟨l27, h_l27, h⟩ := bnd h
      obtain ⟨l28, h_l28, h⟩ := bnd h
      obtain ⟨s29, h_s29, h⟩ := bnd h
      refine Run.region hL hT [(3, .hd [104098] (.t (.s (.string s29))) [])] (by cbv) ?_ ?_
      · exact (hq (app_mb (P := Tryd.prog) (f := u8_c) RLe.r (some_le (f := u8_c) h_l27 (RLe.cons rfl LLe.r RLe.nil)) h_l28) (hq (hand_convL (ns := l28) hT (by rfl) (by rfl) (by rfl) (by rfl) (by rfl) (by rfl) (app_le (f := u8_c) RLe.r (some_le (f := u8_c) h_l27 (RLe.cons rfl LLe.r RLe.nil)) h_l28) h_s29) hq0))
      refine Run.row (rows := (ap (eu8_c z6) ([[.s (.int .u8 34)]]))) 104098 (eu8_c l28) (by cbv) (app_le (f := u8_c) RLe.r (some_le (f := u8_c) h_l27 (RLe.cons rfl LLe.r RLe.nil)) h_l28) ?_
      refine Run.ret ?_
      cases h
      refine ⟨_, _, by cbv, ?_, ?_⟩
      · exact LLe.r
      · exact (ALe.v LLe.r ALe.nil)

def laysJoin_ren : Go.Shelf.Ren := ⟨fun | 156 => 38 | 165 => 77 | 166 => 78 | 169 => 79 | 240 => 108 | 241 => 109 | 276 => 122 | 277 => 123 | n => n, fun | 31 => 46 | 9 => 9 | 3 => 3 | 4 => 4 | 0 => 0 | 20 => 20 | 72 => 108 | 76 => 112 | 70 => 106 | 37 => 54 | 75 => 111 | 127 => 134 | 164 => 143 | 5 => 5 | 80 => 114 | n => n, fun | n => n⟩
theorem laysJoin : Go.Proofs.Lays.n156 Tryd.prog laysJoin_ren := {
  mixed := by kernel_rfl
  f156 := Tryd.func38.trans (congrArg some (by kernel_rfl))
  f165 := Tryd.func77.trans (congrArg some (by kernel_rfl))
  f166 := Tryd.func78.trans (congrArg some (by kernel_rfl))
  f169 := Tryd.func79.trans (congrArg some (by kernel_rfl))
  f240 := Tryd.func108.trans (congrArg some (by kernel_rfl))
  f241 := Tryd.func109.trans (congrArg some (by kernel_rfl))
  f276 := Tryd.func122.trans (congrArg some (by kernel_rfl))
  f277 := Tryd.func123.trans (congrArg some (by kernel_rfl))
  t0 := Tryd.underlying0
  a0 := Tryd.isAgg0
  z0 := Tryd.sizeOf0
  v0 := Tryd.zeroValue0
  t3 := Tryd.underlying3
  a3 := Tryd.isAgg3
  z3 := Tryd.sizeOf3
  v3 := Tryd.zeroValue3
  t4 := Tryd.underlying4
  a4 := Tryd.isAgg4
  z4 := Tryd.sizeOf4
  v4 := Tryd.zeroValue4
  t9 := Tryd.underlying9
  a9 := Tryd.isAgg9
  z9 := Tryd.sizeOf9
  v9 := Tryd.zeroValue9
  t20 := Tryd.underlying20
  a20 := Tryd.isAgg20
  z20 := Tryd.sizeOf20
  v20 := Tryd.zeroValue20
  t31 := Tryd.underlying46
  a31 := Tryd.isAgg46
  z31 := Tryd.sizeOf46
  v31 := Tryd.zeroValue46
  t37 := Tryd.underlying54
  a37 := Tryd.isAgg54
  z37 := Tryd.sizeOf54
  v37 := Tryd.zeroValue54
  t70 := Tryd.underlying106
  a70 := Tryd.isAgg106
  z70 := Tryd.sizeOf106
  v70 := Tryd.zeroValue106
  t72 := Tryd.underlying108
  a72 := Tryd.isAgg108
  z72 := Tryd.sizeOf108
  v72 := Tryd.zeroValue108
  t75 := Tryd.underlying111
  a75 := Tryd.isAgg111
  z75 := Tryd.sizeOf111
  v75 := Tryd.zeroValue111
  t76 := Tryd.underlying112
  a76 := Tryd.isAgg112
  z76 := Tryd.sizeOf112
  v76 := Tryd.zeroValue112
  t127 := Tryd.underlying134
  a127 := Tryd.isAgg134
  z127 := Tryd.sizeOf134
  v127 := Tryd.zeroValue134
  t164 := Tryd.underlying143
  a164 := Tryd.isAgg143
  z164 := Tryd.sizeOf143
  v164 := Tryd.zeroValue143 }
theorem joinExtra : Builder.Extra Tryd.prog laysJoin_ren := { sizeBuilder := by kernel_rfl, liesBuilder := by kernel_rfl, t5 := Tryd.underlying5, a5 := Tryd.isAgg5, z5 := Tryd.sizeOf5, v5 := Tryd.zeroValue5, infoByte := by kernel_rfl, cellsByte := by kernel_rfl, sizeByte := by kernel_rfl, neB5 := by decide }
theorem strings_Join_ac {a0 : List ByteArray} {a1 r : ByteArray} (h : strings_Join.f a0 a1 = some r) : AC Tryd.prog 38 [.v (.im false (rowsOf Str_c a0)), .v (.s (.string a1))] [.v .jk, .v .jk] [.v (.s (.string r))] := AC.of_join (fun _ => rfl) ⟨_, Tryd.func38, by rfl, by rfl⟩ (fun a c sep w => Go.Proofs.Any.strings_Join_none laysJoin joinExtra a c sep w) (fun bk o c xs sep w h1 h2 h3 h4 h5 => Go.Proofs.Any.strings_Join laysJoin joinExtra bk o c xs sep w h1 h2 h3 h4 h5) h

def laysItoa_ren : Go.Shelf.Ren := ⟨fun | 171 => 76 | 243 => 107 | 246 => 121 | 283 => 134 | 284 => 135 | 285 => 136 | 286 => 137 | 129 => 151 | 317 => 150 | 318 => 152 | 319 => 153 | 320 => 154 | 337 => 160 | 338 => 161 | n => n, fun | 3 => 3 | 9 => 9 | 2 => 2 | 4 => 4 | 171 => 151 | 0 => 0 | 53 => 152 | 37 => 54 | 5 => 5 | 173 => 155 | 212 => 166 | 51 => 167 | 20 => 20 | 213 => 168 | 46 => 141 | 232 => 186 | 233 => 187 | n => n, fun | 17 => 1 | 18 => 6 | 19 => 7 | n => n⟩
theorem laysItoa : Go.Proofs.LaysM.n171 Tryd.prog laysItoa_ren := {
  mixed := by kernel_rfl
  f129 := Tryd.func151.trans (congrArg some (by kernel_rfl))
  f171 := Tryd.func76.trans (congrArg some (by kernel_rfl))
  f243 := Tryd.func107.trans (congrArg some (by kernel_rfl))
  f246 := Tryd.func121.trans (congrArg some (by kernel_rfl))
  f283 := Tryd.func134.trans (congrArg some (by kernel_rfl))
  f284 := Tryd.func135.trans (congrArg some (by kernel_rfl))
  f285 := Tryd.func136.trans (congrArg some (by kernel_rfl))
  f286 := Tryd.func137.trans (congrArg some (by kernel_rfl))
  f317 := Tryd.func150.trans (congrArg some (by kernel_rfl))
  f318 := Tryd.func152.trans (congrArg some (by kernel_rfl))
  f319 := Tryd.func153.trans (congrArg some (by kernel_rfl))
  f320 := Tryd.func154.trans (congrArg some (by kernel_rfl))
  f337 := Tryd.func160.trans (congrArg some (by kernel_rfl))
  f338 := Tryd.func161.trans (congrArg some (by kernel_rfl))
  t0 := Tryd.underlying0
  a0 := Tryd.isAgg0
  z0 := Tryd.sizeOf0
  v0 := Tryd.zeroValue0
  t2 := Tryd.underlying2
  a2 := Tryd.isAgg2
  z2 := Tryd.sizeOf2
  v2 := Tryd.zeroValue2
  t3 := Tryd.underlying3
  a3 := Tryd.isAgg3
  z3 := Tryd.sizeOf3
  v3 := Tryd.zeroValue3
  t4 := Tryd.underlying4
  a4 := Tryd.isAgg4
  z4 := Tryd.sizeOf4
  v4 := Tryd.zeroValue4
  t5 := Tryd.underlying5
  a5 := Tryd.isAgg5
  z5 := Tryd.sizeOf5
  v5 := Tryd.zeroValue5
  t9 := Tryd.underlying9
  a9 := Tryd.isAgg9
  z9 := Tryd.sizeOf9
  v9 := Tryd.zeroValue9
  t20 := Tryd.underlying20
  a20 := Tryd.isAgg20
  z20 := Tryd.sizeOf20
  v20 := Tryd.zeroValue20
  t37 := Tryd.underlying54
  a37 := Tryd.isAgg54
  z37 := Tryd.sizeOf54
  v37 := Tryd.zeroValue54
  t46 := Tryd.underlying141
  a46 := Tryd.isAgg141
  z46 := Tryd.sizeOf141
  v46 := Tryd.zeroValue141
  t51 := Tryd.underlying167
  a51 := Tryd.isAgg167
  z51 := Tryd.sizeOf167
  v51 := Tryd.zeroValue167
  t53 := Tryd.underlying152
  a53 := Tryd.isAgg152
  z53 := Tryd.sizeOf152
  v53 := Tryd.zeroValue152
  t171 := Tryd.underlying151
  a171 := Tryd.isAgg151
  z171 := Tryd.sizeOf151
  v171 := Tryd.zeroValue151
  t173 := Tryd.underlying155
  a173 := Tryd.isAgg155
  z173 := Tryd.sizeOf155
  v173 := Tryd.zeroValue155
  t212 := Tryd.underlying166
  a212 := Tryd.isAgg166
  z212 := Tryd.sizeOf166
  v212 := Tryd.zeroValue166
  t213 := Tryd.underlying168
  a213 := Tryd.isAgg168
  z213 := Tryd.sizeOf168
  t232 := Tryd.underlying186
  a232 := Tryd.isAgg186
  z232 := Tryd.sizeOf186
  v232 := Tryd.zeroValue186
  t233 := Tryd.underlying187
  a233 := Tryd.isAgg187
  z233 := Tryd.sizeOf187
  v233 := Tryd.zeroValue187
  g17 := by kernel_rfl
  g18 := by kernel_rfl
  g19 := by kernel_rfl
  i0 := by kernel_rfl
  i2 := by kernel_rfl
  i3 := by kernel_rfl
  i4 := by kernel_rfl
  i5 := by kernel_rfl
  i9 := by kernel_rfl
  i20 := by kernel_rfl
  i37 := by kernel_rfl
  i46 := by kernel_rfl
  i51 := by kernel_rfl
  i53 := by kernel_rfl
  i171 := by kernel_rfl
  i173 := by kernel_rfl
  i212 := by kernel_rfl
  i232 := by kernel_rfl
  i233 := by kernel_rfl
  m17 := by kernel_rfl
  m18 := by kernel_rfl
  m19 := by kernel_rfl }
theorem strconv_Itoa_ac {a0 : Int} {r : ByteArray} (h : strconv_Itoa.f a0 = some r) : AC Tryd.prog 76 [.v (.s (.int .i64 a0))] [.v .jk] [.v (.s (.string r))] := AC.of_itoa ⟨_, Tryd.func76, by rfl, by rfl⟩ (g := 1) (by kernel_rfl) (fun n h0 h1 w htab => Go.Proofs.Any.strconv_Itoa laysItoa n h0 h1 w htab) h

theorem impl_written_acs (self : Json → Option ByteArray) (hself : ∀ {a0v_Kind : Int} {a0v_N : Int} {a0v_S : ByteArray} {a0v_List_ : List Json} {a0v_Names : List ByteArray} {r : ByteArray} (h : self (Json.mk a0v_Kind a0v_N a0v_S a0v_List_ a0v_Names) = some r), AC Tryd.prog 99 [.ag [.s (.int .i64 a0v_Kind), .s (.int .i64 a0v_N), .s (.string a0v_S), .im false (rowsOf Json_i a0v_List_), .im false (rowsOf Str_c a0v_Names)]] [.ag [.jk, .jk, .jk, .jk, .jk]] [.v (.s (.string r))]) {a0v_Kind : Int} {a0v_N : Int} {a0v_S : ByteArray} {a0v_List_ : List Json} {a0v_Names : List ByteArray} {r : ByteArray} (h : impl_written.b self (Json.mk a0v_Kind a0v_N a0v_S a0v_List_ a0v_Names) = some r) : AC Tryd.prog 99 [.ag [.s (.int .i64 a0v_Kind), .s (.int .i64 a0v_N), .s (.string a0v_S), .im false (rowsOf Json_i a0v_List_), .im false (rowsOf Str_c a0v_Names)]] [.ag [.jk, .jk, .jk, .jk, .jk]] [.v (.s (.string r))] := by
  unfold impl_written.b at h
  let eJson_i := rowsOf Json_i
  let eStr_c := rowsOf Str_c
  let lenI_Json := @lenI Json
  show AC Tryd.prog 99 [.ag [.s (.int .i64 a0v_Kind), .s (.int .i64 a0v_N), .s (.string a0v_S), .im false (eJson_i a0v_List_), .im false (eStr_c a0v_Names)]] _ _
  refine run3 Tryd.func99 (by rfl) (by rfl) (by cbv) ⟨by decide, rfl⟩ ?_
  intro ar cm bo sc sa sx ss sl bs sb ln sr ap up rp fr ge le lt nz mm ma sm fl al ci hL F hP hA hT hM hC
  refine Run.seq ?_
  refine Run.region hL hT [] (by cbv) ?_ ?_
  · exact hq0
  refine Run.seq ?_
  refine Run.region hL hT [] (by cbv) ?_ ?_
  · exact hq0
  obtain ⟨K2, h_K2, h⟩ := joinE h
  refine Run.join1 K2 (r := r) (fun (y1 : List ByteArray) => ⟨66, 100000, [(1, .pt 1 0 0), (3, .rf 2)], [(1, .box 48 [.t (.s (.int .i64 a0v_Kind)), .t (.s (.int .i64 a0v_N)), .t (.s (.string a0v_S)), .t (.im false (eJson_i a0v_List_)), .t (.im false (eStr_c a0v_Names))]), (2, .row 0 9 1 (eStr_c y1))]⟩) ?_ ?_
  · skip
    refine Run.seq ?_
    refine Run.region hL hT [] (by cbv) ?_ ?_
    · exact (hq trivial hq0)
    rw [show ln (eJson_i a0v_List_) = lenI_Json a0v_List_ from ln_eq Json_i _]
    refine Run.block ?_
    refine Run.loop2 (fun (z12 : List ByteArray) (z13 : Int) => ⟨66, 100000, [(1, .pt 1 0 0), (3, .rf 2), (9, .t (.im false (eJson_i a0v_List_))), (10, .t (.s (.int .i64 (lenI_Json a0v_List_)))), (11, .t (.s (.int .i64 z13)))], [(1, .box 48 [.t (.s (.int .i64 a0v_Kind)), .t (.s (.int .i64 a0v_N)), .t (.s (.string a0v_S)), .t (.im false (eJson_i a0v_List_)), .t (.im false (eStr_c a0v_Names))]), (2, .row 0 9 1 (eStr_c z12))]⟩) (x0 := []) (x1 := 0) h (Weak.of _ [(1, 0), (2, 4096)] hA (by cbv) ?_) (fun _ _ => rfl) ?_
    · repeat (first | exact hq0 | refine hq (by first | exact True.intro | rfl) ?_)
    · intro k z12 z13 h
      rw [impl_written.l0] at h
      refine Run.seq ?_
      refine Run.region hL hT [] (by cbv) ?_ ?_
      · exact (hq trivial hq0)
      refine Run.seq ?_
      refine Run.cond (by cbv) (hq0) (fun c14 => ?_) (fun c14 => ?_)
      · have h := if_t c14 h
        refine Run.skip ?_
        refine Run.seq ?_
        refine Run.block ?_
        refine Run.seq ?_
        obtain ⟨⟨x15v_Kind, x15v_N, x15v_S, x15v_List_, x15v_Names⟩, h_x15, h⟩ := bnd h
        refine Run.region hL hT [(1, .el [.s (.int .i64 x15v_Kind), .s (.int .i64 x15v_N), .s (.string x15v_S), .im false (eJson_i x15v_List_), .im false (eStr_c x15v_Names)])] (by cbv) ?_ ?_
        · exact (hq (get_le h_x15) (hq (get_lt (f := Json_i) h_x15) (hq (get_geU Json_i_u h_x15) (hq trivial hq0))))
        refine Run.seq ?_
        obtain ⟨r16, h_r16, h⟩ := bnd h
        refine Run.region hL hT [(1, .call [false] [.ag [.jk, .jk, .jk, .jk, .jk]] [.v (.s (.string r16))])] (by cbv) ?_ ?_
        · exact (hq trivial (hq (hC (hself h_r16)) hq0))
        refine Run.seq ?_
        refine Run.seq ?_
        refine Run.region hL hT [] (by cbv) ?_ ?_
        · exact (hq trivial (hq trivial hq0))
        refine Run.cond (by cbv) (hq0) (fun c17 => ?_) (fun c17 => ?_)
        · have h := if_t c17 h
          obtain ⟨x18, h_x18, h⟩ := bnd h
          obtain ⟨r19, h_r19, h⟩ := bnd h
          obtain ⟨s20, h_s20, h⟩ := bnd h
          obtain ⟨s21, h_s21, h⟩ := bnd h
          refine Run.region hL hT [(3, .el [.s (.string x18)]), (5, .call [false] [.v (.jk)] [.v (.s (.string r19))]), (6, .hd [] (.t (.s (.string s20))) []), (8, .hd [] (.t (.s (.string s21))) [])] (by cbv) ?_ ?_
          · exact (hq trivial (hq (get_le h_x18) (hq (get_lt (f := Str_c) h_x18) (hq (get_ge (f := Str_c) h_x18) (hq (hC (impl_quoted_ac h_r19)) (hq (hand_add h_s20) (hq (hand_add h_s21) hq0)))))))
          obtain ⟨l22, h_l22, h⟩ := bnd h
          obtain ⟨l23, h_l23, h⟩ := bnd h
          refine Run.region hL hT [] (by cbv) ?_ ?_
          · exact (hq (app_mb (P := Tryd.prog) (f := Str_c) RLe.r (some_le (f := Str_c) h_l22 (RLe.cons rfl LLe.r RLe.nil)) h_l23) hq0)
          refine Run.row (rows := (ap (eStr_c z12) ([[.s (.string s21)]]))) 120483 (eStr_c l23) (by cbv) (app_le (f := Str_c) RLe.r (some_le (f := Str_c) h_l22 (RLe.cons rfl LLe.r RLe.nil)) h_l23) ?_
          refine Run.region hL hT [] (by cbv) ?_ ?_
          · exact (hq trivial hq0)
          refine ⟨l23, (ar .add .i64 z13 1), h, Weak.of _ [(1, 1), (2, 120483)] hA (by cbv) ?_⟩
          repeat (first | exact hq0 | refine hq (by first | exact True.intro | rfl) ?_)
        · have h := if_f c17 h
          refine Run.skip ?_
          obtain ⟨l24, h_l24, h⟩ := bnd h
          obtain ⟨l25, h_l25, h⟩ := bnd h
          refine Run.region hL hT [] (by cbv) ?_ ?_
          · exact (hq (app_mb (P := Tryd.prog) (f := Str_c) RLe.r (some_le (f := Str_c) h_l24 (RLe.cons rfl LLe.r RLe.nil)) h_l25) hq0)
          refine Run.row (rows := (ap (eStr_c z12) ([[.s (.string r16)]]))) 116387 (eStr_c l25) (by cbv) (app_le (f := Str_c) RLe.r (some_le (f := Str_c) h_l24 (RLe.cons rfl LLe.r RLe.nil)) h_l25) ?_
          refine Run.region hL hT [] (by cbv) ?_ ?_
          · exact (hq trivial hq0)
          refine ⟨l25, (ar .add .i64 z13 1), h, Weak.of _ [(1, 1), (2, 116387)] hA (by cbv) ?_⟩
          repeat (first | exact hq0 | refine hq (by first | exact True.intro | rfl) ?_)
      · have h := if_f c14 h
        refine Run.exit ?_
        refine ⟨z12, h, Weak.of _ [(1, 1), (2, 2)] hA (by cbv) ?_⟩
        repeat (first | exact hq0 | refine hq (by first | exact True.intro | rfl) ?_)
  · intro y1 h
    rw [h_K2] at h
    refine Run.seq ?_
    refine Run.seq ?_
    refine Run.region hL hT [] (by cbv) ?_ ?_
    · exact (hq trivial hq0)
    refine Run.block ?_
    refine Run.seq ?_
    refine Run.region hL hT [] (by cbv) ?_ ?_
    · exact (hq trivial hq0)
    refine Run.cond (by cbv) (hq0) (fun c26 => ?_) (fun c26 => ?_)
    · have h := if_t c26 h
      refine Run.seq ?_
      refine Run.region hL hT [] (by cbv) ?_ ?_
      · exact hq0
      refine Run.ret ?_
      cases h
      refine ⟨_, _, by cbv, ?_, ?_⟩
      · exact LLe.r
      · exact (ALe.v LLe.r ALe.nil)
    · have h := if_f c26 h
      refine Run.seq ?_
      refine Run.region hL hT [] (by cbv) ?_ ?_
      · exact (hq trivial hq0)
      refine Run.cond (by cbv) (hq0) (fun c27 => ?_) (fun c27 => ?_)
      · have h := if_t c27 h
        refine Run.seq ?_
        obtain ⟨l28, h_l28, h⟩ := bnd h
        obtain ⟨x29, h_x29, h⟩ := bnd h
        refine Run.region hL hT [(4, .el [.s (.string x29)])] (by cbv) ?_ ?_
        · exact (hq trivial (hq (get_le h_x29) (hq (lit_lt (f := Str_c) h_l28 h_x29) (hq (get_le h_x29) (hq (lit_lt (f := Str_c) h_l28 h_x29) (hq (lit_ge (f := Str_c) h_l28 h_x29) hq0))))))
        refine Run.row (rows := [[.s (.string (ByteArray.mk #[102, 97, 108, 115, 101]))], [.s (.string (ByteArray.mk #[116, 114, 117, 101]))]]) 112288 (eStr_c l28) (by cbv) (some_le (f := Str_c) h_l28 (RLe.cons rfl LLe.r (RLe.cons rfl LLe.r RLe.nil))) ?_
        refine Run.ret ?_
        cases h
        refine ⟨_, _, by cbv, ?_, ?_⟩
        · exact LLe.r
        · exact (ALe.v LLe.r ALe.nil)
      · have h := if_f c27 h
        refine Run.seq ?_
        refine Run.region hL hT [] (by cbv) ?_ ?_
        · exact (hq trivial hq0)
        refine Run.cond (by cbv) (hq0) (fun c30 => ?_) (fun c30 => ?_)
        · have h := if_t c30 h
          refine Run.seq ?_
          obtain ⟨r31, h_r31, h⟩ := bnd h
          refine Run.region hL hT [(2, .call [false] [.v (.jk)] [.v (.s (.string r31))])] (by cbv) ?_ ?_
          · exact (hq trivial (hq (hC (strconv_Itoa_ac h_r31)) hq0))
          refine Run.ret ?_
          cases h
          refine ⟨_, _, by cbv, ?_, ?_⟩
          · exact LLe.r
          · exact (ALe.v LLe.r ALe.nil)
        · have h := if_f c30 h
          refine Run.seq ?_
          refine Run.region hL hT [] (by cbv) ?_ ?_
          · exact (hq trivial hq0)
          refine Run.cond (by cbv) (hq0) (fun c32 => ?_) (fun c32 => ?_)
          · have h := if_t c32 h
            refine Run.seq ?_
            obtain ⟨r33, h_r33, h⟩ := bnd h
            refine Run.region hL hT [(2, .call [false] [.v (.jk)] [.v (.s (.string r33))])] (by cbv) ?_ ?_
            · exact (hq trivial (hq (hC (impl_quoted_ac h_r33)) hq0))
            refine Run.ret ?_
            cases h
            refine ⟨_, _, by cbv, ?_, ?_⟩
            · exact LLe.r
            · exact (ALe.v LLe.r ALe.nil)
          · have h := if_f c32 h
            refine Run.seq ?_
            refine Run.region hL hT [] (by cbv) ?_ ?_
            · exact (hq trivial hq0)
            refine Run.cond (by cbv) (hq0) (fun c34 => ?_) (fun c34 => ?_)
            · have h := if_t c34 h
              refine Run.seq ?_
              obtain ⟨r35, h_r35, h⟩ := bnd h
              obtain ⟨s36, h_s36, h⟩ := bnd h
              obtain ⟨s37, h_s37, h⟩ := bnd h
              refine Run.region hL hT [(1, .call [false, false] [.v (.jk), .v (.jk)] [.v (.s (.string r35))]), (2, .hd [] (.t (.s (.string s36))) []), (3, .hd [] (.t (.s (.string s37))) [])] (by cbv) ?_ ?_
              · exact (hq (hC (AC.args (strings_Join_ac h_r35) (ALe.v (LLe.im (RLe.eq (fr_row Str_c_z _))) (ALe.v LLe.r ALe.nil)))) (hq (hand_add h_s36) (hq (hand_add h_s37) hq0)))
              refine Run.ret ?_
              cases h
              refine ⟨_, _, by cbv, ?_, ?_⟩
              · exact LLe.r
              · exact (ALe.v LLe.r ALe.nil)
            · have h := if_f c34 h
              refine Run.skip ?_
              refine Run.seq ?_
              obtain ⟨r38, h_r38, h⟩ := bnd h
              obtain ⟨s39, h_s39, h⟩ := bnd h
              obtain ⟨s40, h_s40, h⟩ := bnd h
              refine Run.region hL hT [(1, .call [false, false] [.v (.jk), .v (.jk)] [.v (.s (.string r38))]), (2, .hd [] (.t (.s (.string s39))) []), (3, .hd [] (.t (.s (.string s40))) [])] (by cbv) ?_ ?_
              · exact (hq (hC (AC.args (strings_Join_ac h_r38) (ALe.v (LLe.im (RLe.eq (fr_row Str_c_z _))) (ALe.v LLe.r ALe.nil)))) (hq (hand_add h_s39) (hq (hand_add h_s40) hq0)))
              refine Run.ret ?_
              cases h
              refine ⟨_, _, by cbv, ?_, ?_⟩
              · exact LLe.r
              · exact (ALe.v LLe.r ALe.nil)
theorem impl_written_acg : ∀ (k : Nat) {a0v_Kind : Int} {a0v_N : Int} {a0v_S : ByteArray} {a0v_List_ : List Json} {a0v_Names : List ByteArray} {r : ByteArray} (h : impl_written.g k (Json.mk a0v_Kind a0v_N a0v_S a0v_List_ a0v_Names) = some r), AC Tryd.prog 99 [.ag [.s (.int .i64 a0v_Kind), .s (.int .i64 a0v_N), .s (.string a0v_S), .im false (rowsOf Json_i a0v_List_), .im false (rowsOf Str_c a0v_Names)]] [.ag [.jk, .jk, .jk, .jk, .jk]] [.v (.s (.string r))]
  | 0 => fun h => by cases h
  | k + 1 => fun h => impl_written_acs (impl_written.g k) (impl_written_acg k) h
theorem impl_written_ac {a0v_Kind : Int} {a0v_N : Int} {a0v_S : ByteArray} {a0v_List_ : List Json} {a0v_Names : List ByteArray} {r : ByteArray} (h : impl_written.f (Json.mk a0v_Kind a0v_N a0v_S a0v_List_ a0v_Names) = some r) : AC Tryd.prog 99 [.ag [.s (.int .i64 a0v_Kind), .s (.int .i64 a0v_N), .s (.string a0v_S), .im false (rowsOf Json_i a0v_List_), .im false (rowsOf Str_c a0v_Names)]] [.ag [.jk, .jk, .jk, .jk, .jk]] [.v (.s (.string r))] := impl_written_acg 20 h

theorem impl_Encode_ac {a0v_Kind : Int} {a0v_N : Int} {a0v_S : ByteArray} {a0v_List_ : List Json} {a0v_Names : List ByteArray} {r : ByteArray} (h : impl_Encode.f (Json.mk a0v_Kind a0v_N a0v_S a0v_List_ a0v_Names) = some r) : AC Tryd.prog 53 [.ag [.s (.int .i64 a0v_Kind), .s (.int .i64 a0v_N), .s (.string a0v_S), .im false (rowsOf Json_i a0v_List_), .im false (rowsOf Str_c a0v_Names)]] [.ag [.jk, .jk, .jk, .jk, .jk]] [.v (.s (.string r))] := by
  unfold impl_Encode.f at h
  let eJson_i := rowsOf Json_i
  let eStr_c := rowsOf Str_c
  show AC Tryd.prog 53 [.ag [.s (.int .i64 a0v_Kind), .s (.int .i64 a0v_N), .s (.string a0v_S), .im false (eJson_i a0v_List_), .im false (eStr_c a0v_Names)]] _ _
  refine run3 Tryd.func53 (by rfl) (by rfl) (by cbv) ⟨by decide, rfl⟩ ?_
  intro ar cm bo sc sa sx ss sl bs sb ln sr ap up rp fr ge le lt nz mm ma sm fl al ci hL F hP hA hT hM hC
  refine Run.seq ?_
  refine Run.region hL hT [] (by cbv) ?_ ?_
  · exact hq0
  refine Run.seq ?_
  refine Run.seq ?_
  obtain ⟨r1, h_r1, h⟩ := bnd h
  refine Run.region hL hT [(1, .call [false] [.ag [.jk, .jk, .jk, .jk, .jk]] [.v (.s (.bool r1))])] (by cbv) ?_ ?_
  · exact (hq trivial (hq (hC (impl_JsonOk_ac h_r1)) hq0))
  refine Run.cond (by cbv) (hq0) (fun c2 => ?_) (fun c2 => ?_)
  · have h := if_t c2 h
    refine Run.seq ?_
    refine Run.region hL hT [] (by cbv) ?_ ?_
    · exact hq0
    refine Run.ret ?_
    cases h
    refine ⟨_, _, by cbv, ?_, ?_⟩
    · exact LLe.r
    · exact (ALe.v LLe.r ALe.nil)
  · have h := if_f c2 h
    refine Run.skip ?_
    refine Run.seq ?_
    obtain ⟨r3, h_r3, h⟩ := bnd h
    refine Run.region hL hT [(1, .call [false] [.ag [.jk, .jk, .jk, .jk, .jk]] [.v (.s (.string r3))])] (by cbv) ?_ ?_
    · exact (hq trivial (hq (hC (impl_written_ac h_r3)) hq0))
    refine Run.seq ?_
    refine Run.seq ?_
    refine Run.region hL hT [] (by cbv) ?_ ?_
    · exact (hq trivial hq0)
    refine Run.cond (by cbv) (hq0) (fun c4 => ?_) (fun c4 => ?_)
    · have h := if_t c4 h
      refine Run.seq ?_
      refine Run.region hL hT [] (by cbv) ?_ ?_
      · exact hq0
      refine Run.ret ?_
      cases h
      refine ⟨_, _, by cbv, ?_, ?_⟩
      · exact LLe.r
      · exact (ALe.v LLe.r ALe.nil)
    · have h := if_f c4 h
      refine Run.skip ?_
      refine Run.seq ?_
      refine Run.region hL hT [] (by cbv) ?_ ?_
      · exact hq0
      refine Run.ret ?_
      cases h
      refine ⟨_, _, by cbv, ?_, ?_⟩
      · exact LLe.r
      · exact (ALe.v LLe.r ALe.nil)

theorem impl_Decode_ac {a0 : ByteArray} {r : Json × Bool} (h : impl_Decode.f a0 = some r) : AC Tryd.prog 21 [.v (.s (.string a0))] [.v (.jk)] [.ag [.s (.int .i64 r.1.Kind), .s (.int .i64 r.1.N), .s (.string r.1.S), .ow 48 (rowsOf Json_o r.1.List_), .ow 9 (rowsOf Str_c r.1.Names)], .v (.s (.bool r.2))] := by
  unfold impl_Decode.f at h
  let eJson_o := rowsOf Json_o
  let eStr_c := rowsOf Str_c
  show AC Tryd.prog 21 [.v (.s (.string a0))] _ _
  refine run3 Tryd.func21 (by rfl) (by rfl) (by cbv) ⟨by decide, rfl⟩ ?_
  intro ar cm bo sc sa sx ss sl bs sb ln sr ap up rp fr ge le lt nz mm ma sm fl al ci hL F hP hA hT hM hC
  refine Run.seq ?_
  refine Run.region hL hT [] (by cbv) ?_ ?_
  · exact hq0
  refine Run.seq ?_
  refine Run.seq ?_
  refine Run.region hL hT [] (by cbv) ?_ ?_
  · exact (hq trivial hq0)
  refine Run.cond (by cbv) (hq0) (fun c1 => ?_) (fun c1 => ?_)
  · have h := if_t c1 h
    refine Run.seq ?_
    refine Run.region hL hT [] (by cbv) ?_ ?_
    · exact (hq trivial hq0)
    refine Run.ret ?_
    cases h
    refine ⟨_, _, by cbv, ?_, ?_⟩
    · exact LLe.r
    · exact (ALe.ag rfl (LLe.c (LLe.c (LLe.c (LLe.cons LLe.nilO (LLe.cons LLe.nilO LLe.nil))))) (ALe.v LLe.r ALe.nil))
  · have h := if_f c1 h
    refine Run.skip ?_
    refine Run.seq ?_
    refine Run.region hL hT [] (by cbv) ?_ ?_
    · exact hq0
    refine Run.seq ?_
    obtain ⟨⟨⟨r2v_1v_text, r2v_1v_bad⟩, ⟨r2v_2v_Kind, r2v_2v_N, r2v_2v_S, r2v_2v_List_, r2v_2v_Names⟩⟩, h_r2, h⟩ := bnd h
    refine Run.region hL hT [(1, .call [true, false] [.v (.bx 89 [.s (.string r2v_1v_text), .s (.bool r2v_1v_bad)]), .v (.jk)] [.ag [.s (.int .i64 r2v_2v_Kind), .s (.int .i64 r2v_2v_N), .s (.string r2v_2v_S), .ow 48 (eJson_o r2v_2v_List_), .ow 9 (eStr_c r2v_2v_Names)]])] (by cbv) ?_ ?_
    · exact (hq (hC (impl_reader_value_ac h_r2)) (hq trivial hq0))
    refine Run.seq ?_
    refine Run.seq ?_
    obtain ⟨r3, h_r3, h⟩ := bnd h
    refine Run.region hL hT [(6, .call [false] [.ag [.jk, .jk, .jk, .jk, .jk]] [.v (.s (.string r3))])] (by cbv) ?_ ?_
    · exact (hq trivial (hq (fun g4 => (hq trivial hq0)) (hq (fun g5 => (hq g5 (hq (hC (AC.args (impl_Encode_ac (gd_t h_r3 g5)) (ALe.ag rfl (LLe.c (LLe.c (LLe.c (LLe.cons (LLe.im (RLe.eq (fr_row Json_o_z _))) (LLe.cons (LLe.im (RLe.eq (fr_row Str_c_z _))) LLe.nil))))) ALe.nil))) hq0))) (hq (fun _ => hq0) (hq (fun g7 => (hq g7 (hq g7 hq0))) (hq (fun _ => hq0) (hq (fun q9 => (hq (bo_m q9) hq0)) hq0)))))))
    refine Run.cond (by cbv) (hq0) (fun c10 => ?_) (fun c10 => ?_)
    · have h := if_t c10 h
      refine Run.seq ?_
      refine Run.region hL hT [] (by cbv) ?_ ?_
      · exact (hq trivial hq0)
      refine Run.ret ?_
      cases h
      refine ⟨_, _, by cbv, ?_, ?_⟩
      · exact LLe.r
      · exact (ALe.ag rfl (LLe.c (LLe.c (LLe.c (LLe.cons LLe.nilO (LLe.cons LLe.nilO LLe.nil))))) (ALe.v LLe.r ALe.nil))
    · have h := if_f c10 h
      refine Run.skip ?_
      refine Run.seq ?_
      refine Run.region hL hT [] (by cbv) ?_ ?_
      · exact (hq trivial (hq trivial hq0))
      refine Run.ret ?_
      cases h
      refine ⟨_, _, by cbv, ?_, ?_⟩
      · exact LLe.r
      · exact (ALe.ag rfl LLe.r (ALe.v LLe.r ALe.nil))

theorem laws_eqJsonS_ac (self : Json → Json → Option Bool) (hself : ∀ {a0v_Kind : Int} {a0v_N : Int} {a0v_S : ByteArray} {a0v_List_ : List Json} {a0v_Names : List ByteArray} {a1v_Kind : Int} {a1v_N : Int} {a1v_S : ByteArray} {a1v_List_ : List Json} {a1v_Names : List ByteArray} {r : Bool} (h : self (Json.mk a0v_Kind a0v_N a0v_S a0v_List_ a0v_Names) (Json.mk a1v_Kind a1v_N a1v_S a1v_List_ a1v_Names) = some r), AC Tryd.prog 22 [.ag [.s (.int .i64 a0v_Kind), .s (.int .i64 a0v_N), .s (.string a0v_S), .im false (rowsOf Json_i a0v_List_), .im false (rowsOf Str_c a0v_Names)], .ag [.s (.int .i64 a1v_Kind), .s (.int .i64 a1v_N), .s (.string a1v_S), .im false (rowsOf Json_i a1v_List_), .im false (rowsOf Str_c a1v_Names)]] [.ag [.jk, .jk, .jk, .jk, .jk], .ag [.jk, .jk, .jk, .jk, .jk]] [.v (.s (.bool r))]) {a0 : List Json} {a1 : List Json} {r : Bool} (h : laws_eqJsonS.f self a0 a1 = some r) : AC Tryd.prog 54 [.v (.im false (rowsOf Json_i a0)), .v (.im false (rowsOf Json_i a1))] [.v (.jk), .v (.jk)] [.v (.s (.bool r))] := by
  unfold laws_eqJsonS.f at h
  let eJson_i := rowsOf Json_i
  let eStr_c := rowsOf Str_c
  let lenI_Json := @lenI Json
  show AC Tryd.prog 54 [.v (.im false (eJson_i a0)), .v (.im false (eJson_i a1))] _ _
  refine run3 Tryd.func54 (by rfl) (by rfl) (by cbv) ⟨by decide, rfl⟩ ?_
  intro ar cm bo sc sa sx ss sl bs sb ln sr ap up rp fr ge le lt nz mm ma sm fl al ci hL F hP hA hT hM hC
  refine Run.seq ?_
  refine Run.region hL hT [] (by cbv) ?_ ?_
  · exact hq0
  refine Run.seq ?_
  refine Run.seq ?_
  refine Run.region hL hT [] (by cbv) ?_ ?_
  · exact (hq trivial hq0)
  rw [show ln (eJson_i a0) = lenI_Json a0 from ln_eq Json_i _]
  rw [show ln (eJson_i a1) = lenI_Json a1 from ln_eq Json_i _]
  refine Run.cond (by cbv) (hq0) (fun c1 => ?_) (fun c1 => ?_)
  · have h := if_t c1 h
    refine Run.seq ?_
    refine Run.region hL hT [] (by cbv) ?_ ?_
    · exact hq0
    refine Run.ret ?_
    cases h
    refine ⟨_, _, by cbv, ?_, ?_⟩
    · exact LLe.r
    · exact (ALe.v LLe.r ALe.nil)
  · have h := if_f c1 h
    refine Run.skip ?_
    refine Run.seq ?_
    refine Run.seq ?_
    refine Run.region hL hT [] (by cbv) ?_ ?_
    · exact hq0
    refine Run.block ?_
    refine Run.loop1 (fun (z5 : Int) => ⟨27, 100000, [(0, .t (.im false (eJson_i a0))), (1, .t (.im false (eJson_i a1))), (5, .t (.s (.int .i64 z5)))], []⟩) (x0 := 0) h (Weak.of _ [] hA (by cbv) ?_) (fun _ => rfl) ?_
    · repeat (first | exact hq0 | refine hq (by first | exact True.intro | rfl) ?_)
    · intro k z5 h
      rw [laws_eqJsonS.l0] at h
      refine Run.seq ?_
      refine Run.seq ?_
      refine Run.region hL hT [] (by cbv) ?_ ?_
      · exact (hq trivial hq0)
      rw [show ln (eJson_i a0) = lenI_Json a0 from ln_eq Json_i _]
      refine Run.cond (by cbv) (hq0) (fun c6 => ?_) (fun c6 => ?_)
      · have h := if_t c6 h
        refine Run.skip ?_
        refine Run.seq ?_
        refine Run.block ?_
        refine Run.seq ?_
        obtain ⟨⟨x7v_Kind, x7v_N, x7v_S, x7v_List_, x7v_Names⟩, h_x7, h⟩ := bnd h
        obtain ⟨⟨x8v_Kind, x8v_N, x8v_S, x8v_List_, x8v_Names⟩, h_x8, h⟩ := bnd h
        obtain ⟨r9, h_r9, h⟩ := bnd h
        refine Run.draw hL hT hM [(2, .el [.s (.int .i64 x7v_Kind), .s (.int .i64 x7v_N), .s (.string x7v_S), .im false (eJson_i x7v_List_), .im false (eStr_c x7v_Names)]), (6, .el [.s (.int .i64 x8v_Kind), .s (.int .i64 x8v_N), .s (.string x8v_S), .im false (eJson_i x8v_List_), .im false (eStr_c x8v_Names)]), (8, .call [false, false] [.ag [.jk, .jk, .jk, .jk, .jk], .ag [.jk, .jk, .jk, .jk, .jk]] [.v (.s (.bool r9))])] (by cbv) (collect_cons (by cbv) (by cbv) (collect_cons (by cbv) (by cbv) (collect_cons (by cbv) (by cbv) (collect_cons (by cbv) (by cbv) (collect_cons (by cbv) (by cbv) (collect_cons (by cbv) (by cbv) (collect_cons (by cbv) (by cbv) (collect_cons (by cbv) (by cbv) (collect_cons (by cbv) (by cbv) (collect_cons (by cbv) (by cbv) collect_nil)))))))))) (by cbv) (by cbv) (by cbv) ?_ ?_
        · exact (hq (get_le h_x7) (hq (get_lt (f := Json_i) h_x7) (hq (get_geU Json_i_u h_x7) (hq (get_le h_x8) (hq (get_lt (f := Json_i) h_x8) (hq (get_geU Json_i_u h_x8) (hq (hC (hself h_r9)) hq0)))))))
        refine Run.cond (by cbv) (hq0) (fun c10 => ?_) (fun c10 => ?_)
        · have h := if_t c10 h
          refine Run.seq ?_
          refine Run.region hL hT [] (by cbv) ?_ ?_
          · exact hq0
          refine Run.ret ?_
          cases h
          refine ⟨_, _, by cbv, ?_, ?_⟩
          · exact LLe.r
          · exact (ALe.v LLe.r ALe.nil)
        · have h := if_f c10 h
          refine Run.skip ?_
          refine Run.region hL hT [] (by cbv) ?_ ?_
          · exact (hq trivial hq0)
          refine ⟨(ar .add .i64 z5 1), h, Weak.of _ [] hA (by cbv) ?_⟩
          repeat (first | exact hq0 | refine hq (by first | exact True.intro | rfl) ?_)
      · have h := if_f c6 h
        refine Run.exit ?_
        refine Run.seq ?_
        refine Run.region hL hT [] (by cbv) ?_ ?_
        · exact hq0
        refine Run.ret ?_
        cases h
        refine ⟨_, _, by cbv, ?_, ?_⟩
        · exact LLe.r
        · exact (ALe.v LLe.r ALe.nil)

theorem laws_eqStringS_ac {a0 : List ByteArray} {a1 : List ByteArray} {r : Bool} (h : laws_eqStringS.f a0 a1 = some r) : AC Tryd.prog 55 [.v (.im false (rowsOf Str_c a0)), .v (.im false (rowsOf Str_c a1))] [.v (.jk), .v (.jk)] [.v (.s (.bool r))] := by
  unfold laws_eqStringS.f at h
  let eStr_c := rowsOf Str_c
  let lenI_Str := @lenI ByteArray
  show AC Tryd.prog 55 [.v (.im false (eStr_c a0)), .v (.im false (eStr_c a1))] _ _
  refine run3 Tryd.func55 (by rfl) (by rfl) (by cbv) ⟨by decide, rfl⟩ ?_
  intro ar cm bo sc sa sx ss sl bs sb ln sr ap up rp fr ge le lt nz mm ma sm fl al ci hL F hP hA hT hM hC
  refine Run.seq ?_
  refine Run.region hL hT [] (by cbv) ?_ ?_
  · exact hq0
  refine Run.seq ?_
  refine Run.seq ?_
  refine Run.region hL hT [] (by cbv) ?_ ?_
  · exact (hq trivial hq0)
  rw [show ln (eStr_c a0) = lenI_Str a0 from ln_eq Str_c _]
  rw [show ln (eStr_c a1) = lenI_Str a1 from ln_eq Str_c _]
  refine Run.cond (by cbv) (hq0) (fun c1 => ?_) (fun c1 => ?_)
  · have h := if_t c1 h
    refine Run.seq ?_
    refine Run.region hL hT [] (by cbv) ?_ ?_
    · exact hq0
    refine Run.ret ?_
    cases h
    refine ⟨_, _, by cbv, ?_, ?_⟩
    · exact LLe.r
    · exact (ALe.v LLe.r ALe.nil)
  · have h := if_f c1 h
    refine Run.skip ?_
    refine Run.seq ?_
    refine Run.seq ?_
    refine Run.region hL hT [] (by cbv) ?_ ?_
    · exact hq0
    refine Run.block ?_
    refine Run.loop1 (fun (z5 : Int) => ⟨26, 100000, [(0, .t (.im false (eStr_c a0))), (1, .t (.im false (eStr_c a1))), (5, .t (.s (.int .i64 z5)))], []⟩) (x0 := 0) h (Weak.of _ [] hA (by cbv) ?_) (fun _ => rfl) ?_
    · repeat (first | exact hq0 | refine hq (by first | exact True.intro | rfl) ?_)
    · intro k z5 h
      rw [laws_eqStringS.l0] at h
      refine Run.seq ?_
      refine Run.seq ?_
      refine Run.region hL hT [] (by cbv) ?_ ?_
      · exact (hq trivial hq0)
      rw [show ln (eStr_c a0) = lenI_Str a0 from ln_eq Str_c _]
      refine Run.cond (by cbv) (hq0) (fun c6 => ?_) (fun c6 => ?_)
      · have h := if_t c6 h
        refine Run.skip ?_
        refine Run.seq ?_
        refine Run.block ?_
        refine Run.seq ?_
        obtain ⟨x7, h_x7, h⟩ := bnd h
        obtain ⟨x8, h_x8, h⟩ := bnd h
        refine Run.draw hL hT hM [(2, .el [.s (.string x7)]), (6, .el [.s (.string x8)])] (by cbv) (collect_cons (by cbv) (by cbv) (collect_cons (by cbv) (by cbv) (collect_cons (by cbv) (by cbv) (collect_cons (by cbv) (by cbv) (collect_cons (by cbv) (by cbv) (collect_cons (by cbv) (by cbv) (collect_cons (by cbv) (by cbv) (collect_cons (by cbv) (by cbv) (collect_cons (by cbv) (by cbv) collect_nil))))))))) (by cbv) (by cbv) (by cbv) ?_ ?_
        · exact (hq (get_le h_x7) (hq (get_lt (f := Str_c) h_x7) (hq (get_ge (f := Str_c) h_x7) (hq (get_le h_x8) (hq (get_lt (f := Str_c) h_x8) (hq (get_ge (f := Str_c) h_x8) hq0))))))
        refine Run.cond (by cbv) (hq0) (fun c9 => ?_) (fun c9 => ?_)
        · have h := if_t c9 h
          refine Run.seq ?_
          refine Run.region hL hT [] (by cbv) ?_ ?_
          · exact hq0
          refine Run.ret ?_
          cases h
          refine ⟨_, _, by cbv, ?_, ?_⟩
          · exact LLe.r
          · exact (ALe.v LLe.r ALe.nil)
        · have h := if_f c9 h
          refine Run.skip ?_
          refine Run.region hL hT [] (by cbv) ?_ ?_
          · exact (hq trivial hq0)
          refine ⟨(ar .add .i64 z5 1), h, Weak.of _ [] hA (by cbv) ?_⟩
          repeat (first | exact hq0 | refine hq (by first | exact True.intro | rfl) ?_)
      · have h := if_f c6 h
        refine Run.exit ?_
        refine Run.seq ?_
        refine Run.region hL hT [] (by cbv) ?_ ?_
        · exact hq0
        refine Run.ret ?_
        cases h
        refine ⟨_, _, by cbv, ?_, ?_⟩
        · exact LLe.r
        · exact (ALe.v LLe.r ALe.nil)

theorem laws_eqJson_acs (self : Json → Json → Option Bool) (hself : ∀ {a0v_Kind : Int} {a0v_N : Int} {a0v_S : ByteArray} {a0v_List_ : List Json} {a0v_Names : List ByteArray} {a1v_Kind : Int} {a1v_N : Int} {a1v_S : ByteArray} {a1v_List_ : List Json} {a1v_Names : List ByteArray} {r : Bool} (h : self (Json.mk a0v_Kind a0v_N a0v_S a0v_List_ a0v_Names) (Json.mk a1v_Kind a1v_N a1v_S a1v_List_ a1v_Names) = some r), AC Tryd.prog 22 [.ag [.s (.int .i64 a0v_Kind), .s (.int .i64 a0v_N), .s (.string a0v_S), .im false (rowsOf Json_i a0v_List_), .im false (rowsOf Str_c a0v_Names)], .ag [.s (.int .i64 a1v_Kind), .s (.int .i64 a1v_N), .s (.string a1v_S), .im false (rowsOf Json_i a1v_List_), .im false (rowsOf Str_c a1v_Names)]] [.ag [.jk, .jk, .jk, .jk, .jk], .ag [.jk, .jk, .jk, .jk, .jk]] [.v (.s (.bool r))]) {a0v_Kind : Int} {a0v_N : Int} {a0v_S : ByteArray} {a0v_List_ : List Json} {a0v_Names : List ByteArray} {a1v_Kind : Int} {a1v_N : Int} {a1v_S : ByteArray} {a1v_List_ : List Json} {a1v_Names : List ByteArray} {r : Bool} (h : laws_eqJson.b self (Json.mk a0v_Kind a0v_N a0v_S a0v_List_ a0v_Names) (Json.mk a1v_Kind a1v_N a1v_S a1v_List_ a1v_Names) = some r) : AC Tryd.prog 22 [.ag [.s (.int .i64 a0v_Kind), .s (.int .i64 a0v_N), .s (.string a0v_S), .im false (rowsOf Json_i a0v_List_), .im false (rowsOf Str_c a0v_Names)], .ag [.s (.int .i64 a1v_Kind), .s (.int .i64 a1v_N), .s (.string a1v_S), .im false (rowsOf Json_i a1v_List_), .im false (rowsOf Str_c a1v_Names)]] [.ag [.jk, .jk, .jk, .jk, .jk], .ag [.jk, .jk, .jk, .jk, .jk]] [.v (.s (.bool r))] := by
  unfold laws_eqJson.b at h
  let eJson_i := rowsOf Json_i
  let eStr_c := rowsOf Str_c
  show AC Tryd.prog 22 [.ag [.s (.int .i64 a0v_Kind), .s (.int .i64 a0v_N), .s (.string a0v_S), .im false (eJson_i a0v_List_), .im false (eStr_c a0v_Names)], .ag [.s (.int .i64 a1v_Kind), .s (.int .i64 a1v_N), .s (.string a1v_S), .im false (eJson_i a1v_List_), .im false (eStr_c a1v_Names)]] _ _
  refine run3 Tryd.func22 (by rfl) (by rfl) (by cbv) ⟨by decide, rfl⟩ ?_
  intro ar cm bo sc sa sx ss sl bs sb ln sr ap up rp fr ge le lt nz mm ma sm fl al ci hL F hP hA hT hM hC
  refine Run.seq ?_
  refine Run.region hL hT [] (by cbv) ?_ ?_
  · exact hq0
  refine Run.seq ?_
  refine Run.seq ?_
  refine Run.region hL hT [] (by cbv) ?_ ?_
  · exact (hq trivial (hq trivial (hq trivial hq0)))
  refine Run.cond (by cbv) (hq0) (fun c1 => ?_) (fun c1 => ?_)
  · have h := if_t c1 h
    refine Run.seq ?_
    refine Run.region hL hT [] (by cbv) ?_ ?_
    · exact hq0
    refine Run.ret ?_
    cases h
    refine ⟨_, _, by cbv, ?_, ?_⟩
    · exact LLe.r
    · exact (ALe.v LLe.r ALe.nil)
  · have h := if_f c1 h
    refine Run.skip ?_
    refine Run.seq ?_
    refine Run.seq ?_
    refine Run.region hL hT [] (by cbv) ?_ ?_
    · exact (hq trivial (hq trivial (hq trivial hq0)))
    refine Run.cond (by cbv) (hq0) (fun c2 => ?_) (fun c2 => ?_)
    · have h := if_t c2 h
      refine Run.seq ?_
      refine Run.region hL hT [] (by cbv) ?_ ?_
      · exact hq0
      refine Run.ret ?_
      cases h
      refine ⟨_, _, by cbv, ?_, ?_⟩
      · exact LLe.r
      · exact (ALe.v LLe.r ALe.nil)
    · have h := if_f c2 h
      refine Run.skip ?_
      refine Run.seq ?_
      refine Run.seq ?_
      refine Run.region hL hT [] (by cbv) ?_ ?_
      · exact (hq trivial (hq trivial hq0))
      refine Run.cond (by cbv) (hq0) (fun c3 => ?_) (fun c3 => ?_)
      · have h := if_t c3 h
        refine Run.seq ?_
        refine Run.region hL hT [] (by cbv) ?_ ?_
        · exact hq0
        refine Run.ret ?_
        cases h
        refine ⟨_, _, by cbv, ?_, ?_⟩
        · exact LLe.r
        · exact (ALe.v LLe.r ALe.nil)
      · have h := if_f c3 h
        refine Run.skip ?_
        refine Run.seq ?_
        refine Run.seq ?_
        obtain ⟨r4, h_r4, h⟩ := bnd h
        refine Run.region hL hT [(4, .call [false, false] [.v (.jk), .v (.jk)] [.v (.s (.bool r4))])] (by cbv) ?_ ?_
        · exact (hq trivial (hq trivial (hq (hC (laws_eqJsonS_ac self hself h_r4)) hq0)))
        refine Run.cond (by cbv) (hq0) (fun c5 => ?_) (fun c5 => ?_)
        · have h := if_t c5 h
          refine Run.seq ?_
          refine Run.region hL hT [] (by cbv) ?_ ?_
          · exact hq0
          refine Run.ret ?_
          cases h
          refine ⟨_, _, by cbv, ?_, ?_⟩
          · exact LLe.r
          · exact (ALe.v LLe.r ALe.nil)
        · have h := if_f c5 h
          refine Run.skip ?_
          refine Run.seq ?_
          refine Run.seq ?_
          obtain ⟨r6, h_r6, h⟩ := bnd h
          refine Run.region hL hT [(4, .call [false, false] [.v (.jk), .v (.jk)] [.v (.s (.bool r6))])] (by cbv) ?_ ?_
          · exact (hq trivial (hq trivial (hq (hC (laws_eqStringS_ac h_r6)) hq0)))
          refine Run.cond (by cbv) (hq0) (fun c7 => ?_) (fun c7 => ?_)
          · have h := if_t c7 h
            refine Run.seq ?_
            refine Run.region hL hT [] (by cbv) ?_ ?_
            · exact hq0
            refine Run.ret ?_
            cases h
            refine ⟨_, _, by cbv, ?_, ?_⟩
            · exact LLe.r
            · exact (ALe.v LLe.r ALe.nil)
          · have h := if_f c7 h
            refine Run.skip ?_
            refine Run.seq ?_
            refine Run.region hL hT [] (by cbv) ?_ ?_
            · exact hq0
            refine Run.ret ?_
            cases h
            refine ⟨_, _, by cbv, ?_, ?_⟩
            · exact LLe.r
            · exact (ALe.v LLe.r ALe.nil)
theorem laws_eqJson_acg : ∀ (k : Nat) {a0v_Kind : Int} {a0v_N : Int} {a0v_S : ByteArray} {a0v_List_ : List Json} {a0v_Names : List ByteArray} {a1v_Kind : Int} {a1v_N : Int} {a1v_S : ByteArray} {a1v_List_ : List Json} {a1v_Names : List ByteArray} {r : Bool} (h : laws_eqJson.g k (Json.mk a0v_Kind a0v_N a0v_S a0v_List_ a0v_Names) (Json.mk a1v_Kind a1v_N a1v_S a1v_List_ a1v_Names) = some r), AC Tryd.prog 22 [.ag [.s (.int .i64 a0v_Kind), .s (.int .i64 a0v_N), .s (.string a0v_S), .im false (rowsOf Json_i a0v_List_), .im false (rowsOf Str_c a0v_Names)], .ag [.s (.int .i64 a1v_Kind), .s (.int .i64 a1v_N), .s (.string a1v_S), .im false (rowsOf Json_i a1v_List_), .im false (rowsOf Str_c a1v_Names)]] [.ag [.jk, .jk, .jk, .jk, .jk], .ag [.jk, .jk, .jk, .jk, .jk]] [.v (.s (.bool r))]
  | 0 => fun h => by cases h
  | k + 1 => fun h => laws_eqJson_acs (laws_eqJson.g k) (laws_eqJson_acg k) h
theorem laws_eqJson_ac {a0v_Kind : Int} {a0v_N : Int} {a0v_S : ByteArray} {a0v_List_ : List Json} {a0v_Names : List ByteArray} {a1v_Kind : Int} {a1v_N : Int} {a1v_S : ByteArray} {a1v_List_ : List Json} {a1v_Names : List ByteArray} {r : Bool} (h : laws_eqJson.f (Json.mk a0v_Kind a0v_N a0v_S a0v_List_ a0v_Names) (Json.mk a1v_Kind a1v_N a1v_S a1v_List_ a1v_Names) = some r) : AC Tryd.prog 22 [.ag [.s (.int .i64 a0v_Kind), .s (.int .i64 a0v_N), .s (.string a0v_S), .im false (rowsOf Json_i a0v_List_), .im false (rowsOf Str_c a0v_Names)], .ag [.s (.int .i64 a1v_Kind), .s (.int .i64 a1v_N), .s (.string a1v_S), .im false (rowsOf Json_i a1v_List_), .im false (rowsOf Str_c a1v_Names)]] [.ag [.jk, .jk, .jk, .jk, .jk], .ag [.jk, .jk, .jk, .jk, .jk]] [.v (.s (.bool r))] := laws_eqJson_acg 1000 h

theorem laws_markText_ac {a0 : Int} {r : ByteArray} (h : laws_markText.f a0 = some r) : AC Tryd.prog 100 [.v (.s (.int .i64 a0))] [.v (.jk)] [.v (.s (.string r))] := by
  unfold laws_markText.f at h
  let eu8_c := rowsOf u8_c
  show AC Tryd.prog 100 [.v (.s (.int .i64 a0))] _ _
  refine run3 Tryd.func100 (by rfl) (by rfl) (by cbv) ⟨by decide, rfl⟩ ?_
  intro ar cm bo sc sa sx ss sl bs sb ln sr ap up rp fr ge le lt nz mm ma sm fl al ci hL F hP hA hT hM hC
  refine Run.seq ?_
  refine Run.region hL hT [] (by cbv) ?_ ?_
  · exact hq0
  refine Run.seq ?_
  refine Run.seq ?_
  refine Run.region hL hT [] (by cbv) ?_ ?_
  · exact (hq trivial hq0)
  refine Run.cond (by cbv) (hq0) (fun c1 => ?_) (fun c1 => ?_)
  · have h := if_t c1 h
    refine Run.seq ?_
    refine Run.region hL hT [] (by cbv) ?_ ?_
    · exact hq0
    refine Run.ret ?_
    cases h
    refine ⟨_, _, by cbv, ?_, ?_⟩
    · exact LLe.r
    · exact (ALe.v LLe.r ALe.nil)
  · have h := if_f c1 h
    refine Run.skip ?_
    refine Run.seq ?_
    refine Run.region hL hT [] (by cbv) ?_ ?_
    · exact hq0
    refine Run.seq ?_
    refine Run.block ?_
    refine Run.loop2 (fun (z4 : Int) (z5 : ByteArray) => ⟨20, 100000, [(0, .t (.s (.int .i64 z4))), (3, .t (.s (.string z5)))], []⟩) (x0 := a0) (x1 := (ByteArray.mk #[])) h (Weak.of _ [] hA (by cbv) ?_) (fun _ _ => rfl) ?_
    · repeat (first | exact hq0 | refine hq (by first | exact True.intro | rfl) ?_)
    · intro k z4 z5 h
      rw [laws_markText.l0] at h
      refine Run.seq ?_
      refine Run.seq ?_
      refine Run.region hL hT [] (by cbv) ?_ ?_
      · exact (hq trivial hq0)
      refine Run.cond (by cbv) (hq0) (fun c6 => ?_) (fun c6 => ?_)
      · have h := if_t c6 h
        refine Run.skip ?_
        refine Run.block ?_
        refine Run.seq ?_
        obtain ⟨l7, h_l7, h⟩ := bnd h
        obtain ⟨s8, h_s8, h⟩ := bnd h
        obtain ⟨u9, h_u9, h⟩ := bnd h
        refine Run.region hL hT [(5, .hd [104100] (.t (.s (.string s8))) [])] (by cbv) ?_ ?_
        · exact (hq trivial (hq (show Ls.nz 10 from (by decide : (10 : Int) ≠ 0)) (hq trivial (hq (hand_conv (ns := [(IntKind.wrap .u8 (w64 (48 + (Int.tmod z4 10))))]) hT (by rfl) (by rfl) (by rfl) (by rfl) (by rfl) (by rfl) (by rfl) (conv_lit h_l7 h_s8)) (hq (sm_t h_u9) hq0)))))
        refine Run.row (rows := [[.s (.int .u8 (ar .or .u8 (ar .add .i64 48 (ar .rem .i64 z4 10)) 0))]]) 104100 (eu8_c l7) (by cbv) (some_le (f := u8_c) h_l7 (RLe.cons rfl LLe.r RLe.nil)) ?_
        refine Run.region hL hT [] (by cbv) ?_ ?_
        · exact (hq trivial (hq (show Ls.nz 10 from (by decide : (10 : Int) ≠ 0)) hq0))
        refine ⟨(ar .quo .i64 z4 10), (sa s8 z5), h, Weak.of _ [] hA (by cbv) ?_⟩
        repeat (first | exact hq0 | refine hq (by first | exact True.intro | rfl) ?_)
      · have h := if_f c6 h
        refine Run.exit ?_
        refine Run.seq ?_
        obtain ⟨u10, h_u10, h⟩ := bnd h
        refine Run.region hL hT [] (by cbv) ?_ ?_
        · exact (hq (sm_t h_u10) hq0)
        refine Run.ret ?_
        cases h
        refine ⟨_, _, by cbv, ?_, ?_⟩
        · exact LLe.r
        · exact (ALe.v LLe.r ALe.nil)

theorem laws_markStringS_ac {a0 : List ByteArray} {a1 : Int} {r : (List ByteArray) × Int} (h : laws_markStringS.f a0 a1 = some r) : AC Tryd.prog 57 [.v (.ow 9 (rowsOf Str_c a0)), .v (.s (.int .i64 a1))] [.v (.ow 9 (rowsOf Str_c r.1)), .v (.jk)] [.v (.s (.int .i64 r.2))] := by
  unfold laws_markStringS.f at h
  let eStr_c := rowsOf Str_c
  let lenI_Str := @lenI ByteArray
  show AC Tryd.prog 57 [.v (.ow 9 (eStr_c a0)), .v (.s (.int .i64 a1))] _ _
  refine run3 Tryd.func57 (by rfl) (by rfl) (by cbv) ⟨by decide, rfl⟩ ?_
  intro ar cm bo sc sa sx ss sl bs sb ln sr ap up rp fr ge le lt nz mm ma sm fl al ci hL F hP hA hT hM hC
  refine Run.seq ?_
  refine Run.region hL hT [] (by cbv) ?_ ?_
  · exact hq0
  refine Run.seq ?_
  refine Run.seq ?_
  refine Run.region hL hT [] (by cbv) ?_ ?_
  · exact hq0
  refine Run.block ?_
  refine Run.loop3 (fun (z4 : List ByteArray) (z5 : Int) (z6 : Int) => ⟨20, 100000, [(0, .rf 0), (1, .t (.s (.int .i64 z5))), (5, .t (.s (.int .i64 z6)))], [(0, .row 0 9 1 (eStr_c z4))]⟩) (x0 := a0) (x1 := a1) (x2 := 0) h (Weak.of _ [(0, 0)] hA (by cbv) ?_) (fun _ _ _ => rfl) ?_
  · repeat (first | exact hq0 | refine hq (by first | exact True.intro | rfl) ?_)
  · intro k z4 z5 z6 h
    rw [laws_markStringS.l0] at h
    refine Run.seq ?_
    refine Run.seq ?_
    refine Run.region hL hT [] (by cbv) ?_ ?_
    · exact (hq trivial hq0)
    rw [show ln (eStr_c z4) = lenI_Str z4 from ln_eq Str_c _]
    refine Run.cond (by cbv) (hq0) (fun c7 => ?_) (fun c7 => ?_)
    · have h := if_t c7 h
      refine Run.skip ?_
      refine Run.seq ?_
      refine Run.block ?_
      refine Run.seq ?_
      obtain ⟨r8, h_r8, h⟩ := bnd h
      obtain ⟨x9, h_x9, h⟩ := bnd h
      obtain ⟨l10, h_l10, h⟩ := bnd h
      refine Run.region hL hT [(3, .call [false] [.v (.jk)] [.v (.s (.string r8))])] (by cbv) ?_ ?_
      · exact (hq (hC (laws_markText_ac h_r8)) (hq (get_le h_x9) (hq (get_lt (f := Str_c) h_x9) (hq (get_le h_x9) (hq (get_lt (f := Str_c) h_x9) hq0)))))
      refine Run.row (rows := (up (eStr_c z4) z6 0 [.s (.string r8)])) 0 (eStr_c l10) (by cbv) (sto_le (f := Str_c) h_x9 h_l10 rfl LLe.r) ?_
      refine Run.region hL hT [] (by cbv) ?_ ?_
      · exact (hq trivial hq0)
      refine Run.region hL hT [] (by cbv) ?_ ?_
      · exact (hq trivial hq0)
      refine ⟨l10, (ar .add .i64 z5 1), (ar .add .i64 z6 1), h, Weak.of _ [(0, 0)] hA (by cbv) ?_⟩
      repeat (first | exact hq0 | refine hq (by first | exact True.intro | rfl) ?_)
    · have h := if_f c7 h
      refine Run.exit ?_
      refine Run.seq ?_
      refine Run.region hL hT [] (by cbv) ?_ ?_
      · exact hq0
      refine Run.ret ?_
      cases h
      refine ⟨_, _, by cbv, ?_, ?_⟩
      · exact LLe.r
      · exact (ALe.v LLe.r ALe.nil)

theorem laws_markJsonS_acs (self : (List Json) → Int → Option ((List Json) × Int)) (hself : ∀ {a0 : List Json} {a1 : Int} {r : (List Json) × Int} (h : self a0 a1 = some r), AC Tryd.prog 56 [.v (.ow 48 (rowsOf Json_o a0)), .v (.s (.int .i64 a1))] [.v (.ow 48 (rowsOf Json_o r.1)), .v (.jk)] [.v (.s (.int .i64 r.2))]) {a0 : List Json} {a1 : Int} {r : (List Json) × Int} (h : laws_markJsonS.b self a0 a1 = some r) : AC Tryd.prog 56 [.v (.ow 48 (rowsOf Json_o a0)), .v (.s (.int .i64 a1))] [.v (.ow 48 (rowsOf Json_o r.1)), .v (.jk)] [.v (.s (.int .i64 r.2))] := by
  unfold laws_markJsonS.b at h
  let eJson_o := rowsOf Json_o
  let eStr_c := rowsOf Str_c
  let lenI_Json := @lenI Json
  show AC Tryd.prog 56 [.v (.ow 48 (eJson_o a0)), .v (.s (.int .i64 a1))] _ _
  refine run3 Tryd.func56 (by rfl) (by rfl) (by cbv) ⟨by decide, rfl⟩ ?_
  intro ar cm bo sc sa sx ss sl bs sb ln sr ap up rp fr ge le lt nz mm ma sm fl al ci hL F hP hA hT hM hC
  refine Run.seq ?_
  refine Run.region hL hT [] (by cbv) ?_ ?_
  · exact hq0
  refine Run.seq ?_
  refine Run.seq ?_
  refine Run.region hL hT [] (by cbv) ?_ ?_
  · exact hq0
  refine Run.block ?_
  refine Run.loop3 (fun (z4 : List Json) (z5 : Int) (z6 : Int) => ⟨49, 100000, [(0, .rf 0), (1, .t (.s (.int .i64 z5))), (5, .t (.s (.int .i64 z6)))], [(0, .row 0 48 5 (eJson_o z4))]⟩) (x0 := a0) (x1 := a1) (x2 := 0) h (Weak.of _ [(0, 0)] hA (by cbv) ?_) (fun _ _ _ => rfl) ?_
  · repeat (first | exact hq0 | refine hq (by first | exact True.intro | rfl) ?_)
  · intro k z4 z5 z6 h
    rw [laws_markJsonS.l0] at h
    refine Run.seq ?_
    refine Run.seq ?_
    refine Run.region hL hT [] (by cbv) ?_ ?_
    · exact (hq trivial hq0)
    rw [show ln (eJson_o z4) = lenI_Json z4 from ln_eq Json_o _]
    refine Run.cond (by cbv) (hq0) (fun c7 => ?_) (fun c7 => ?_)
    · have h := if_t c7 h
      refine Run.skip ?_
      refine Run.seq ?_
      refine Run.block ?_
      refine Run.seq ?_
      obtain ⟨⟨x8v_Kind, x8v_N, x8v_S, x8v_List_, x8v_Names⟩, h_x8, h⟩ := bnd h
      obtain ⟨l9, h_l9, h⟩ := bnd h
      refine Run.region hL hT [] (by cbv) ?_ ?_
      · exact (hq (get_le h_x8) (hq (get_lt (f := Json_o) h_x8) (hq (get_le h_x8) (hq (get_lt (f := Json_o) h_x8) hq0))))
      refine Run.row (rows := (up (eJson_o z4) z6 0 [.s (.int .i64 z5)])) 0 (eJson_o l9) (by cbv) (sto_leU Json_o_u h_x8 h_l9 rfl LLe.r) ?_
      refine Run.seq ?_
      refine Run.region hL hT [] (by cbv) ?_ ?_
      · exact (hq trivial hq0)
      refine Run.seq ?_
      obtain ⟨⟨x10v_Kind, x10v_N, x10v_S, x10v_List_, x10v_Names⟩, h_x10, h⟩ := bnd h
      obtain ⟨l11, h_l11, h⟩ := bnd h
      refine Run.region hL hT [] (by cbv) ?_ ?_
      · exact (hq (get_le h_x10) (hq (get_lt (f := Json_o) h_x10) (hq (get_le h_x10) (hq (get_lt (f := Json_o) h_x10) hq0))))
      refine Run.row (rows := (up (eJson_o l9) z6 1 [.s (.int .i64 (ar .add .i64 z5 1))])) 0 (eJson_o l11) (by cbv) (sto_leU Json_o_u h_x10 h_l11 rfl LLe.r) ?_
      refine Run.seq ?_
      refine Run.region hL hT [] (by cbv) ?_ ?_
      · exact (hq trivial hq0)
      refine Run.seq ?_
      obtain ⟨r12, h_r12, h⟩ := bnd h
      obtain ⟨⟨x13v_Kind, x13v_N, x13v_S, x13v_List_, x13v_Names⟩, h_x13, h⟩ := bnd h
      obtain ⟨l14, h_l14, h⟩ := bnd h
      refine Run.region hL hT [(3, .call [false] [.v (.jk)] [.v (.s (.string r12))])] (by cbv) ?_ ?_
      · exact (hq (hC (laws_markText_ac h_r12)) (hq (get_le h_x13) (hq (get_lt (f := Json_o) h_x13) (hq (get_le h_x13) (hq (get_lt (f := Json_o) h_x13) hq0)))))
      refine Run.row (rows := (up (eJson_o l11) z6 2 [.s (.string r12)])) 0 (eJson_o l14) (by cbv) (sto_leU Json_o_u h_x13 h_l14 rfl LLe.r) ?_
      refine Run.seq ?_
      refine Run.region hL hT [] (by cbv) ?_ ?_
      · exact (hq trivial hq0)
      refine Run.seq ?_
      obtain ⟨⟨x15v_Kind, x15v_N, x15v_S, x15v_List_, x15v_Names⟩, h_x15, h⟩ := bnd h
      obtain ⟨⟨r16v_1, r16v_2⟩, h_r16, h⟩ := bnd h
      refine Run.weak ?_ (Weak.take (rows := eJson_o l14) (e2 := 48) (r2 := eJson_o x15v_List_) hT 0 z6 3 131672 1131672 (by cbv) (by cbv) (by cbv) (get_le' h_x15) (get_lt' Json_o h_x15) ((congrArg (fun q => q[3]?) (get_geU Json_o_u h_x15)).trans rfl) rfl (up (eJson_o l14) z6 3 [.jk]) rfl)
      refine Run.region hL hT [(4, .lk [.s (.int .i64 x15v_Kind), .s (.int .i64 x15v_N), .s (.string x15v_S), .jk, .ow 9 (eStr_c x15v_Names)] [(3, 1131672)]), (6, .call [true, false] [.v (.ow 48 (eJson_o r16v_1)), .v (.jk)] [.v (.s (.int .i64 r16v_2))])] (by cbv) ?_ ?_
      · exact (hq (get_le h_x15) (hq (up_lt Json_o h_x15) (hq trivial (hq (get_le h_x15) (hq (up_lt Json_o h_x15) (hq (up_geU Json_o_u h_x15) (hq (hC (hself h_r16)) hq0)))))))
      obtain ⟨l17, h_l17, h⟩ := bnd h
      refine Run.weak ?_ (Weak.back (rows := (up (eJson_o l14) z6 3 [.jk])) (r2 := eJson_o r16v_1) 0 z6 3 131672 1131672 (by cbv) (by cbv) (by cbv) (by cbv) (get_le' h_x15) (up_lt Json_o h_x15) ((congrArg (fun q => q[3]?) (up_atU Json_o_u h_x15)).trans rfl) (up (up (eJson_o l14) z6 3 [.jk]) z6 3 [.ow 48 (eJson_o r16v_1)]) rfl)
      refine Run.weak ?_ (Weak.row (rows := (up (up (eJson_o l14) z6 3 [.jk]) z6 3 [.ow 48 (eJson_o r16v_1)])) 0 (eJson_o l17) (by cbv) (hole_leU Json_o_u h_x15 h_l17 (ltn (Json_oU_n _) (by decide)) rfl LLe.r))
      obtain ⟨⟨x18v_Kind, x18v_N, x18v_S, x18v_List_, x18v_Names⟩, h_x18, h⟩ := bnd h
      obtain ⟨⟨r19v_1, r19v_2⟩, h_r19, h⟩ := bnd h
      refine Run.weak ?_ (Weak.take (rows := eJson_o l17) (e2 := 9) (r2 := eStr_c x18v_Names) hT 0 z6 4 135768 1135768 (by cbv) (by cbv) (by cbv) (get_le' h_x18) (get_lt' Json_o h_x18) ((congrArg (fun q => q[4]?) (get_geU Json_o_u h_x18)).trans rfl) rfl (up (eJson_o l17) z6 4 [.jk]) rfl)
      refine Run.region hL hT [(4, .lk [.s (.int .i64 x18v_Kind), .s (.int .i64 x18v_N), .s (.string x18v_S), .ow 48 (eJson_o x18v_List_), .jk] [(4, 1135768)]), (6, .call [true, false] [.v (.ow 9 (eStr_c r19v_1)), .v (.jk)] [.v (.s (.int .i64 r19v_2))])] (by cbv) ?_ ?_
      · exact (hq (get_le h_x18) (hq (up_lt Json_o h_x18) (hq trivial (hq (get_le h_x18) (hq (up_lt Json_o h_x18) (hq (up_geU Json_o_u h_x18) (hq (hC (laws_markStringS_ac h_r19)) hq0)))))))
      obtain ⟨l20, h_l20, h⟩ := bnd h
      refine Run.weak ?_ (Weak.back (rows := (up (eJson_o l17) z6 4 [.jk])) (r2 := eStr_c r19v_1) 0 z6 4 135768 1135768 (by cbv) (by cbv) (by cbv) (by cbv) (get_le' h_x18) (up_lt Json_o h_x18) ((congrArg (fun q => q[4]?) (up_atU Json_o_u h_x18)).trans rfl) (up (up (eJson_o l17) z6 4 [.jk]) z6 4 [.ow 9 (eStr_c r19v_1)]) rfl)
      refine Run.weak ?_ (Weak.row (rows := (up (up (eJson_o l17) z6 4 [.jk]) z6 4 [.ow 9 (eStr_c r19v_1)])) 0 (eJson_o l20) (by cbv) (hole_leU Json_o_u h_x18 h_l20 (ltn (Json_oU_n _) (by decide)) rfl LLe.r))
      refine Run.region hL hT [] (by cbv) ?_ ?_
      · exact (hq trivial hq0)
      refine ⟨l20, r19v_2, (ar .add .i64 z6 1), h, Weak.of _ [(0, 0)] hA (by cbv) ?_⟩
      repeat (first | exact hq0 | refine hq (by first | exact True.intro | rfl) ?_)
    · have h := if_f c7 h
      refine Run.exit ?_
      refine Run.seq ?_
      refine Run.region hL hT [] (by cbv) ?_ ?_
      · exact hq0
      refine Run.ret ?_
      cases h
      refine ⟨_, _, by cbv, ?_, ?_⟩
      · exact LLe.r
      · exact (ALe.v LLe.r ALe.nil)
theorem laws_markJsonS_acg : ∀ (k : Nat) {a0 : List Json} {a1 : Int} {r : (List Json) × Int} (h : laws_markJsonS.g k a0 a1 = some r), AC Tryd.prog 56 [.v (.ow 48 (rowsOf Json_o a0)), .v (.s (.int .i64 a1))] [.v (.ow 48 (rowsOf Json_o r.1)), .v (.jk)] [.v (.s (.int .i64 r.2))]
  | 0 => fun h => by cases h
  | k + 1 => fun h => laws_markJsonS_acs (laws_markJsonS.g k) (laws_markJsonS_acg k) h
theorem laws_markJsonS_ac {a0 : List Json} {a1 : Int} {r : (List Json) × Int} (h : laws_markJsonS.f a0 a1 = some r) : AC Tryd.prog 56 [.v (.ow 48 (rowsOf Json_o a0)), .v (.s (.int .i64 a1))] [.v (.ow 48 (rowsOf Json_o r.1)), .v (.jk)] [.v (.s (.int .i64 r.2))] := laws_markJsonS_acg 1000 h

theorem laws_markJson_ac {a0v_Kind : Int} {a0v_N : Int} {a0v_S : ByteArray} {a0v_List_ : List Json} {a0v_Names : List ByteArray} {a1 : Int} {r : Json × Int} (h : laws_markJson.f (Json.mk a0v_Kind a0v_N a0v_S a0v_List_ a0v_Names) a1 = some r) : AC Tryd.prog 23 [.ag [.s (.int .i64 a0v_Kind), .s (.int .i64 a0v_N), .s (.string a0v_S), .ow 48 (rowsOf Json_o a0v_List_), .ow 9 (rowsOf Str_c a0v_Names)], .v (.s (.int .i64 a1))] [.ag [.jk, .jk, .jk, .ow 48 (rowsOf Json_o r.1.List_), .ow 9 (rowsOf Str_c r.1.Names)], .v (.jk)] [.v (.s (.int .i64 r.2))] := by
  unfold laws_markJson.f at h
  let eJson_o := rowsOf Json_o
  let eStr_c := rowsOf Str_c
  show AC Tryd.prog 23 [.ag [.s (.int .i64 a0v_Kind), .s (.int .i64 a0v_N), .s (.string a0v_S), .ow 48 (eJson_o a0v_List_), .ow 9 (eStr_c a0v_Names)], .v (.s (.int .i64 a1))] _ _
  refine run3 Tryd.func23 (by rfl) (by rfl) (by cbv) ⟨by decide, rfl⟩ ?_
  intro ar cm bo sc sa sx ss sl bs sb ln sr ap up rp fr ge le lt nz mm ma sm fl al ci hL F hP hA hT hM hC
  refine Run.seq ?_
  refine Run.region hL hT [] (by cbv) ?_ ?_
  · exact hq0
  refine Run.seq ?_
  obtain ⟨⟨r1v_1, r1v_2⟩, h_r1, h⟩ := bnd h
  refine Run.region hL hT [(3, .call [true, false] [.v (.ow 48 (eJson_o r1v_1)), .v (.jk)] [.v (.s (.int .i64 r1v_2))])] (by cbv) ?_ ?_
  · exact (hq trivial (hq (hC (laws_markJsonS_ac h_r1)) hq0))
  refine Run.seq ?_
  obtain ⟨⟨r2v_1, r2v_2⟩, h_r2, h⟩ := bnd h
  refine Run.region hL hT [(3, .call [true, false] [.v (.ow 9 (eStr_c r2v_1)), .v (.jk)] [.v (.s (.int .i64 r2v_2))])] (by cbv) ?_ ?_
  · exact (hq trivial (hq (hC (laws_markStringS_ac h_r2)) hq0))
  refine Run.seq ?_
  refine Run.region hL hT [] (by cbv) ?_ ?_
  · exact hq0
  refine Run.ret ?_
  cases h
  refine ⟨_, _, by cbv, ?_, ?_⟩
  · exact LLe.r
  · exact (ALe.v LLe.r ALe.nil)


end Go.Proofs.YtcpekllcbimpmaaDoor.L
