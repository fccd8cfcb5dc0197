import Derived.Test.YtbiihoddghjcjaaProg
import Derived.Test.YtbiihoddghjcjaaSl27
import Derived.KernelRfl
namespace Go.Proofs.Ytbiihoddghjcjaa.L
open Go Go.Proofs
set_option linter.unusedSimpArgs false
set_option linter.unusedVariables false
def tab : List (Nat × Ty) := [(3, Ty.mk false 1 8 0 [] [Value.int IntKind.i64 0] (some IntKind.i64) false false false false none),
  (4, Ty.mk false 1 1 0 [] [Value.bool false] none true false false false none),
  (22, Ty.mk false 1 24 92 [] [Value.slice none 0 0] none false false true false none),
  (23, Ty.mk false 1 24 3 [] [Value.slice none 0 0] none false false true false none),
  (25, Ty.mk true 9 104 0 [(0, 1), (1, 1), (2, 1), (3, 1), (4, 1), (5, 1), (6, 1), (7, 1), (8, 1)] [Value.int IntKind.i64 0, Value.slice none 0 0, Value.int IntKind.i64 0, Value.bool false, Value.int IntKind.i64 0, Value.slice none 0 0, Value.bool false, Value.int IntKind.i64 0, Value.int IntKind.i64 0] none false false false false none),
  (28, Ty.mk false 1 24 77 [] [Value.slice none 0 0] none false false true false none),
  (30, Ty.mk true 9 104 0 [(0, 1), (1, 1), (2, 1), (3, 1), (4, 1), (5, 1), (6, 1), (7, 1), (8, 1)] [Value.int IntKind.i64 0, Value.slice none 0 0, Value.int IntKind.i64 0, Value.bool false, Value.int IntKind.i64 0, Value.slice none 0 0, Value.bool false, Value.int IntKind.i64 0, Value.int IntKind.i64 0] none false false false false none),
  (77, Ty.mk true 3 24 0 [(0, 1), (1, 1), (2, 1)] [Value.int IntKind.i64 0, Value.int IntKind.i64 0, Value.int IntKind.i64 0] none false false false false (some [IntKind.i64, IntKind.i64, IntKind.i64])),
  (92, Ty.mk true 3 24 0 [(0, 1), (1, 1), (2, 1)] [Value.int IntKind.i64 0, Value.int IntKind.i64 0, Value.int IntKind.i64 0] none false false false false none)]
theorem tab_ok : TabOk Try.prog tab := TabOk.of (l := [(3, false), (4, false), (22, false), (23, false), (25, false), (28, false), (30, false), (77, true), (92, false)]) (by kernel_rfl)
theorem mixed : Try.prog.follows .mixedOrders = true := by rfl

abbrev C3 := Int × Int × Int
def c3 (x : C3) : List T := [.s (.int .i64 x.1), .s (.int .i64 x.2.1), .s (.int .i64 x.2.2)]
def conds (l : List C3) : Rws := rowsOf c3 l
theorem conds_len (l : List C3) : (conds l).length = l.length := rowsOf_len _ _
theorem conds_row (l : List C3) : ∀ r ∈ conds l, r.length = 3 := rowsOf_row (n := 3) (fun _ => rfl) l
theorem conds_at {l : List C3} {i : Nat} {x : C3} (h : l[i]? = some x) : (conds l).getD i [] = [.s (.int .i64 x.1), .s (.int .i64 x.2.1), .s (.int .i64 x.2.2)] := rowsOf_at h

set_option maxRecDepth 8000 in
theorem eqIntS_ac (l m : List Int) (hl : l.length ≤ 9223372036854775807) (hm : m.length ≤ 9223372036854775807) (k k' : Bool) : AC Try.prog 46 [.v (.im k (ints l)), .v (.im k' (ints m))] [.v .jk, .v .jk] [.v (.s (.bool (decide (l = m))))] := by
  refine intro_L fun ar cm bo sc sa sx ss sl bs sb ln sr ap up rp fr ge le lt nz mm ma sm fl al hL => ?_
  obtain ⟨il, hil⟩ : ∃ gx_, gx_ = ints l := ⟨_, rfl⟩
  obtain ⟨im, him⟩ : ∃ gx_, gx_ = ints m := ⟨_, rfl⟩
  obtain ⟨res, hres⟩ : ∃ gx_, gx_ = decide (l = m) := ⟨_, rfl⟩
  rw [← hil, ← him, ← hres]
  obtain ⟨c, hc⟩ : ∃ c : Nat → Int, ∀ n, c n = (n : Int) := ⟨_, fun _ => rfl⟩
  refine AC.of_run tab_ok Try.func46 (by rfl) (by rfl) (by cbv) ⟨by decide, rfl⟩ fun F hP hA => ?_
  have hT : TabOk F.P tab := hP ▸ tab_ok
  have hM : F.P.follows .mixedOrders = true := hP ▸ mixed
  have hC : ∀ {f a o r}, AC Try.prog f a o r → AC F.P f a o r := fun h => hP ▸ h
  have hll : ln il = l.length := by rw [hil, hL.ln_, ints_len]
  have hlm : ln im = m.length := by rw [him, hL.ln_, ints_len]
  refine Run.seq ?_
  refine Run.region hL.hL hT [] (by cbv) ?_ ?_
  · first | trivial | (simp only [AllP, allPs, List.cons_append, List.nil_append, List.append_nil, true_and, and_true]; done) | (simp only [AllP, allPs, List.cons_append, List.nil_append, hL.le_, hL.lt_, hL.ge_, hL.ln_, hL.mm_, hc, Int.toNat_natCast, true_and, and_true, *]; first | done | omega)
  refine Run.seq ?_
  refine Run.seq ?_
  refine Run.region hL.hL hT [] (by cbv) ?_ ?_
  · first | trivial | (simp only [AllP, allPs, List.cons_append, List.nil_append, List.append_nil, true_and, and_true]; done) | (simp only [AllP, allPs, List.cons_append, List.nil_append, hL.le_, hL.lt_, hL.ge_, hL.ln_, hL.mm_, hc, Int.toNat_natCast, true_and, and_true, *]; first | done | omega)
  refine Run.cond (by cbv) ?_ (fun ht10 => ?_) (fun ht10 => ?_)
  · simp only [AllP]
  · skip
    rw [hL.neq, hll, hlm, decide_eq_true_eq] at ht10
    have hr : res = false := by rw [hres, decide_eq_false_iff_not]; rintro rfl; exact ht10 rfl
    refine Run.seq ?_
    refine Run.region hL.hL hT [] (by cbv) ?_ ?_
    · first | trivial | (simp only [AllP, allPs, List.cons_append, List.nil_append, List.append_nil, true_and, and_true]; done) | (simp only [AllP, allPs, List.cons_append, List.nil_append, hL.le_, hL.lt_, hL.ge_, hL.ln_, hL.mm_, hc, Int.toNat_natCast, true_and, and_true, *]; first | done | omega)
    refine Run.ret ?_
    refine Eq.trans (b := some _) (by cbv) ?_
    rw [hr]; rfl
  · skip
    rw [hL.neq, hll, hlm, decide_eq_false_iff_not] at ht10
    refine Run.skip ?_
    refine Run.seq ?_
    refine Run.seq ?_
    refine Run.region hL.hL hT [] (by cbv) ?_ ?_
    · first | trivial | (simp only [AllP, allPs, List.cons_append, List.nil_append, List.append_nil, true_and, and_true]; done) | (simp only [AllP, allPs, List.cons_append, List.nil_append, hL.le_, hL.lt_, hL.ge_, hL.ln_, hL.mm_, hc, Int.toNat_natCast, true_and, and_true, *]; first | done | omega)
    refine Run.block ?_
    refine Run.loop (α := Nat) (fun i => ⟨26, 100000, [(0, .t (.im k il)), (1, .t (.im k' im)), (5, .t (.s (.int .i64 (c i))))], []⟩) (fun i => i ≤ l.length ∧ l.take i = m.take i) (fun i => l.length - i) (0) ?_ ?_ ?_
    · refine Weak.of _ [] hA (by cbv) ?_
      simp only [AllP, hc, Int.natCast_zero, and_self]
    · exact ⟨Nat.zero_le _, rfl⟩
    · intro i ⟨hi, hp⟩
      refine Run.seq ?_
      refine Run.seq ?_
      refine Run.region hL.hL hT [] (by cbv) ?_ ?_
      · first | trivial | (simp only [AllP, allPs, List.cons_append, List.nil_append, List.append_nil, true_and, and_true]; done) | (simp only [AllP, allPs, List.cons_append, List.nil_append, hL.le_, hL.lt_, hL.ge_, hL.ln_, hL.mm_, hc, Int.toNat_natCast, true_and, and_true, *]; first | done | omega)
      refine Run.cond (by cbv) ?_ (fun ht14 => ?_) (fun ht14 => ?_)
      · simp only [AllP]
      · skip
        rw [hL.lss, hc, hll, decide_eq_true_eq] at ht14
        obtain ⟨x, hx⟩ := at_some (l := l) (i := i) (by omega)
        obtain ⟨y, hy⟩ := at_some (l := m) (i := i) (by omega)
        have hgx : il.getD i [] = [.s (.int .i64 x)] := by rw [hil, ints_at hx]
        have hgy : im.getD i [] = [.s (.int .i64 y)] := by rw [him, ints_at hy]
        refine Run.skip ?_
        refine Run.seq ?_
        refine Run.block ?_
        refine Run.seq ?_
        refine Run.draw hL.hL hT hM [(2, .el [.s (.int .i64 x)]), (6, .el [.s (.int .i64 y)])] (by cbv) (by cbv) (by cbv) (by cbv) (by cbv) ?_ ?_
        · simp only [AllP, allPs, List.cons_append, List.nil_append, hL.le_, hL.lt_, hL.ge_, hc, hll, hlm, hgx, hgy, Int.toNat_natCast, true_and, and_true]
          omega
        refine Run.cond (by cbv) ?_ (fun ht25 => ?_) (fun ht25 => ?_)
        · simp only [AllP]
        · skip
          rw [hL.neq, decide_eq_true_eq] at ht25
          have hr : res = false := by
            rw [hres, decide_eq_false_iff_not]
            rintro rfl
            rw [hx] at hy
            exact ht25 (Option.some.inj hy)
          refine Run.seq ?_
          refine Run.region hL.hL hT [] (by cbv) ?_ ?_
          · first | trivial | (simp only [AllP, allPs, List.cons_append, List.nil_append, List.append_nil, true_and, and_true]; done) | (simp only [AllP, allPs, List.cons_append, List.nil_append, hL.le_, hL.lt_, hL.ge_, hL.ln_, hL.mm_, hc, Int.toNat_natCast, true_and, and_true, *]; first | done | omega)
          refine Run.ret ?_
          refine Eq.trans (b := some _) (by cbv) ?_
          rw [hr]; rfl
        · skip
          rw [hL.neq, decide_eq_false_iff_not] at ht25
          have hxy : x = y := by omega
          refine Run.skip ?_
          refine Run.region hL.hL hT [] (by cbv) ?_ ?_
          · first | trivial | (simp only [AllP, allPs, List.cons_append, List.nil_append, List.append_nil, true_and, and_true]; done) | (simp only [AllP, allPs, List.cons_append, List.nil_append, hL.le_, hL.lt_, hL.ge_, hL.ln_, hL.mm_, hc, Int.toNat_natCast, true_and, and_true, *]; first | done | omega)
          refine ⟨i + 1, by omega, by refine ⟨by omega, ?_⟩; rw [List.take_add_one, List.take_add_one, hp, hx, hy, hxy], Weak.of _ [] hA (by cbv) ?_⟩
          simp only [AllP, hc, hL.add, true_and, and_true]
          rw [wrap64 (by omega)]; rfl
      · skip
        rw [hL.lss, hc, hll, decide_eq_false_iff_not] at ht14
        refine Run.exit ?_
        refine Run.seq ?_
        refine Run.region hL.hL hT [] (by cbv) ?_ ?_
        · first | trivial | (simp only [AllP, allPs, List.cons_append, List.nil_append, List.append_nil, true_and, and_true]; done) | (simp only [AllP, allPs, List.cons_append, List.nil_append, hL.le_, hL.lt_, hL.ge_, hL.ln_, hL.mm_, hc, Int.toNat_natCast, true_and, and_true, *]; first | done | omega)
        refine Run.ret ?_
        refine Eq.trans (b := some _) (by cbv) ?_
        have hr : res = true := by
          rw [hres, decide_eq_true_eq]
          have e1 : l.take i = l := List.take_of_length_le (by omega)
          have e2 : m.take i = m := List.take_of_length_le (by omega)
          rw [← e1, ← e2, hp]
        rw [hr]; rfl

set_option maxRecDepth 8000 in
theorem toCond_ac (p q r : Int) : AC Try.prog 64 [.ag [.s (.int .i64 p), .s (.int .i64 q), .s (.int .i64 r)]] [.ag [.jk, .jk, .jk]] [.ag [.s (.int .i64 p), .s (.int .i64 q), .s (.int .i64 r)]] := by
  refine intro_L fun ar cm bo sc sa sx ss sl bs sb ln sr ap up rp fr ge le lt nz mm ma sm fl al hL => ?_
  obtain ⟨c, hc⟩ : ∃ c : Nat → Int, ∀ n, c n = (n : Int) := ⟨_, fun _ => rfl⟩
  refine AC.of_run tab_ok Try.func64 (by rfl) (by rfl) (by cbv) ⟨by decide, rfl⟩ fun F hP hA => ?_
  have hT : TabOk F.P tab := hP ▸ tab_ok
  have hM : F.P.follows .mixedOrders = true := hP ▸ mixed
  have hC : ∀ {f a o r}, AC Try.prog f a o r → AC F.P f a o r := fun h => hP ▸ h
  refine Run.seq ?_
  refine Run.region hL.hL hT [] (by cbv) ?_ ?_
  · first | trivial | (simp only [AllP, allPs, List.cons_append, List.nil_append, List.append_nil, true_and, and_true]; done) | (simp only [AllP, allPs, List.cons_append, List.nil_append, hL.le_, hL.lt_, hL.ge_, hL.ln_, hL.mm_, hc, Int.toNat_natCast, true_and, and_true, *]; first | done | omega)
  refine Run.seq ?_
  refine Run.region hL.hL hT [] (by cbv) ?_ ?_
  · first | trivial | (simp only [AllP, allPs, List.cons_append, List.nil_append, List.append_nil, true_and, and_true]; done) | (simp only [AllP, allPs, List.cons_append, List.nil_append, hL.le_, hL.lt_, hL.ge_, hL.ln_, hL.mm_, hc, Int.toNat_natCast, true_and, and_true, *]; first | done | omega)
  refine Run.seq ?_
  refine Run.region hL.hL hT [] (by cbv) ?_ ?_
  · first | trivial | (simp only [AllP, allPs, List.cons_append, List.nil_append, List.append_nil, true_and, and_true]; done) | (simp only [AllP, allPs, List.cons_append, List.nil_append, hL.le_, hL.lt_, hL.ge_, hL.ln_, hL.mm_, hc, Int.toNat_natCast, true_and, and_true, *]; first | done | omega)
  refine Run.seq ?_
  refine Run.region hL.hL hT [] (by cbv) ?_ ?_
  · first | trivial | (simp only [AllP, allPs, List.cons_append, List.nil_append, List.append_nil, true_and, and_true]; done) | (simp only [AllP, allPs, List.cons_append, List.nil_append, hL.le_, hL.lt_, hL.ge_, hL.ln_, hL.mm_, hc, Int.toNat_natCast, true_and, and_true, *]; first | done | omega)
  refine Run.seq ?_
  refine Run.region hL.hL hT [] (by cbv) ?_ ?_
  · first | trivial | (simp only [AllP, allPs, List.cons_append, List.nil_append, List.append_nil, true_and, and_true]; done) | (simp only [AllP, allPs, List.cons_append, List.nil_append, hL.le_, hL.lt_, hL.ge_, hL.ln_, hL.mm_, hc, Int.toNat_natCast, true_and, and_true, *]; first | done | omega)
  refine Run.seq ?_
  refine Run.region hL.hL hT [] (by cbv) ?_ ?_
  · first | trivial | (simp only [AllP, allPs, List.cons_append, List.nil_append, List.append_nil, true_and, and_true]; done) | (simp only [AllP, allPs, List.cons_append, List.nil_append, hL.le_, hL.lt_, hL.ge_, hL.ln_, hL.mm_, hc, Int.toNat_natCast, true_and, and_true, *]; first | done | omega)
  refine Run.ret ?_
  refine Eq.trans (b := some _) (by cbv) ?_
  rfl

set_option maxRecDepth 8000 in
theorem eqCond_ac (p q r x y z : Int) : AC Try.prog 65 [.ag [.s (.int .i64 p), .s (.int .i64 q), .s (.int .i64 r)], .ag [.s (.int .i64 x), .s (.int .i64 y), .s (.int .i64 z)]] [.ag [.jk, .jk, .jk], .ag [.jk, .jk, .jk]] [.v (.s (.bool (decide (p = x ∧ q = y ∧ r = z))))] := by
  refine intro_L fun ar cm bo sc sa sx ss sl bs sb ln sr ap up rp fr ge le lt nz mm ma sm fl al hL => ?_
  obtain ⟨res, hres⟩ : ∃ gx_, gx_ = decide (p = x ∧ q = y ∧ r = z) := ⟨_, rfl⟩
  rw [← hres]
  obtain ⟨c, hc⟩ : ∃ c : Nat → Int, ∀ n, c n = (n : Int) := ⟨_, fun _ => rfl⟩
  refine AC.of_run tab_ok Try.func65 (by rfl) (by rfl) (by cbv) ⟨by decide, rfl⟩ fun F hP hA => ?_
  have hT : TabOk F.P tab := hP ▸ tab_ok
  have hM : F.P.follows .mixedOrders = true := hP ▸ mixed
  have hC : ∀ {f a o r}, AC Try.prog f a o r → AC F.P f a o r := fun h => hP ▸ h
  refine Run.seq ?_
  refine Run.region hL.hL hT [] (by cbv) ?_ ?_
  · first | trivial | (simp only [AllP, allPs, List.cons_append, List.nil_append, List.append_nil, true_and, and_true]; done) | (simp only [AllP, allPs, List.cons_append, List.nil_append, hL.le_, hL.lt_, hL.ge_, hL.ln_, hL.mm_, hc, Int.toNat_natCast, true_and, and_true, *]; first | done | omega)
  refine Run.seq ?_
  refine Run.seq ?_
  refine Run.region hL.hL hT [] (by cbv) ?_ ?_
  · first | trivial | (simp only [AllP, allPs, List.cons_append, List.nil_append, List.append_nil, true_and, and_true]; done) | (simp only [AllP, allPs, List.cons_append, List.nil_append, hL.le_, hL.lt_, hL.ge_, hL.ln_, hL.mm_, hc, Int.toNat_natCast, true_and, and_true, *]; first | done | omega)
  refine Run.cond (by cbv) ?_ (fun ht9 => ?_) (fun ht9 => ?_)
  · simp only [AllP]
  · skip
    rw [hL.neq, decide_eq_true_eq] at ht9
    refine Run.seq ?_
    refine Run.region hL.hL hT [] (by cbv) ?_ ?_
    · first | trivial | (simp only [AllP, allPs, List.cons_append, List.nil_append, List.append_nil, true_and, and_true]; done) | (simp only [AllP, allPs, List.cons_append, List.nil_append, hL.le_, hL.lt_, hL.ge_, hL.ln_, hL.mm_, hc, Int.toNat_natCast, true_and, and_true, *]; first | done | omega)
    refine Run.ret ?_
    refine Eq.trans (b := some _) (by cbv) ?_
    have hr : res = false := by rw [hres, decide_eq_false_iff_not]; omega
    rw [hr]; rfl
  · skip
    rw [hL.neq, decide_eq_false_iff_not] at ht9
    refine Run.skip ?_
    refine Run.seq ?_
    refine Run.seq ?_
    refine Run.region hL.hL hT [] (by cbv) ?_ ?_
    · first | trivial | (simp only [AllP, allPs, List.cons_append, List.nil_append, List.append_nil, true_and, and_true]; done) | (simp only [AllP, allPs, List.cons_append, List.nil_append, hL.le_, hL.lt_, hL.ge_, hL.ln_, hL.mm_, hc, Int.toNat_natCast, true_and, and_true, *]; first | done | omega)
    refine Run.cond (by cbv) ?_ (fun ht14 => ?_) (fun ht14 => ?_)
    · simp only [AllP]
    · skip
      rw [hL.neq, decide_eq_true_eq] at ht14
      refine Run.seq ?_
      refine Run.region hL.hL hT [] (by cbv) ?_ ?_
      · first | trivial | (simp only [AllP, allPs, List.cons_append, List.nil_append, List.append_nil, true_and, and_true]; done) | (simp only [AllP, allPs, List.cons_append, List.nil_append, hL.le_, hL.lt_, hL.ge_, hL.ln_, hL.mm_, hc, Int.toNat_natCast, true_and, and_true, *]; first | done | omega)
      refine Run.ret ?_
      refine Eq.trans (b := some _) (by cbv) ?_
      have hr : res = false := by rw [hres, decide_eq_false_iff_not]; omega
      rw [hr]; rfl
    · skip
      rw [hL.neq, decide_eq_false_iff_not] at ht14
      refine Run.skip ?_
      refine Run.seq ?_
      refine Run.seq ?_
      refine Run.region hL.hL hT [] (by cbv) ?_ ?_
      · first | trivial | (simp only [AllP, allPs, List.cons_append, List.nil_append, List.append_nil, true_and, and_true]; done) | (simp only [AllP, allPs, List.cons_append, List.nil_append, hL.le_, hL.lt_, hL.ge_, hL.ln_, hL.mm_, hc, Int.toNat_natCast, true_and, and_true, *]; first | done | omega)
      refine Run.cond (by cbv) ?_ (fun ht19 => ?_) (fun ht19 => ?_)
      · simp only [AllP]
      · skip
        rw [hL.neq, decide_eq_true_eq] at ht19
        refine Run.seq ?_
        refine Run.region hL.hL hT [] (by cbv) ?_ ?_
        · first | trivial | (simp only [AllP, allPs, List.cons_append, List.nil_append, List.append_nil, true_and, and_true]; done) | (simp only [AllP, allPs, List.cons_append, List.nil_append, hL.le_, hL.lt_, hL.ge_, hL.ln_, hL.mm_, hc, Int.toNat_natCast, true_and, and_true, *]; first | done | omega)
        refine Run.ret ?_
        refine Eq.trans (b := some _) (by cbv) ?_
        have hr : res = false := by rw [hres, decide_eq_false_iff_not]; omega
        rw [hr]; rfl
      · skip
        rw [hL.neq, decide_eq_false_iff_not] at ht19
        refine Run.skip ?_
        refine Run.seq ?_
        refine Run.region hL.hL hT [] (by cbv) ?_ ?_
        · first | trivial | (simp only [AllP, allPs, List.cons_append, List.nil_append, List.append_nil, true_and, and_true]; done) | (simp only [AllP, allPs, List.cons_append, List.nil_append, hL.le_, hL.lt_, hL.ge_, hL.ln_, hL.mm_, hc, Int.toNat_natCast, true_and, and_true, *]; first | done | omega)
        refine Run.ret ?_
        refine Eq.trans (b := some _) (by cbv) ?_
        have hr : res = true := by rw [hres, decide_eq_true_eq]; omega
        rw [hr]; rfl

set_option maxRecDepth 8000 in
theorem szIntS_ac (l : List Int) (hl : l.length ≤ 9223372036854775807) (k : Bool) (n : Int) (hn : n ≤ 1048576 ∧ -1 ≤ n) : AC Try.prog 38 [.v (.im k (ints l)), .v (.s (.int .i64 n))] [.v .jk, .v .jk] [.v (.s (.int .i64 (if n - l.length < 0 then -1 else n - l.length)))] := by
  refine intro_L fun ar cm bo sc sa sx ss sl bs sb ln sr ap up rp fr ge le lt nz mm ma sm fl al hL => ?_
  obtain ⟨il, hil⟩ : ∃ gx_, gx_ = ints l := ⟨_, rfl⟩
  obtain ⟨res, hres⟩ : ∃ gx_, gx_ = if n - l.length < 0 then -1 else n - (l.length : Int) := ⟨_, rfl⟩
  rw [← hil, ← hres]
  obtain ⟨c, hc⟩ : ∃ c : Nat → Int, ∀ n, c n = (n : Int) := ⟨_, fun _ => rfl⟩
  refine AC.of_run tab_ok Try.func38 (by rfl) (by rfl) (by cbv) ⟨by decide, rfl⟩ fun F hP hA => ?_
  have hT : TabOk F.P tab := hP ▸ tab_ok
  have hM : F.P.follows .mixedOrders = true := hP ▸ mixed
  have hC : ∀ {f a o r}, AC Try.prog f a o r → AC F.P f a o r := fun h => hP ▸ h
  have hln : ln il = l.length := by rw [hil, hL.ln_, ints_len]
  have hw : ar .sub .i64 n (ln il) = n - l.length := by rw [hL.sub, hln, wrap64 (by omega)]
  refine Run.seq ?_
  refine Run.region hL.hL hT [] (by cbv) ?_ ?_
  · first | trivial | (simp only [AllP, allPs, List.cons_append, List.nil_append, List.append_nil, true_and, and_true]; done) | (simp only [AllP, allPs, List.cons_append, List.nil_append, hL.le_, hL.lt_, hL.ge_, hL.ln_, hL.mm_, hc, Int.toNat_natCast, true_and, and_true, *]; first | done | omega)
  refine Run.seq ?_
  refine Run.region hL.hL hT [] (by cbv) ?_ ?_
  · simp only [AllP, and_self]
  refine Run.seq ?_
  refine Run.seq ?_
  refine Run.region hL.hL hT [] (by cbv) ?_ ?_
  · simp only [AllP, and_self]
  refine Run.cond (by cbv) ?_ (fun ht10 => ?_) (fun ht10 => ?_)
  · simp only [AllP]
  · skip
    rw [hw, hL.lss, decide_eq_true_eq] at ht10
    refine Run.seq ?_
    refine Run.region hL.hL hT [] (by cbv) ?_ ?_
    · first | trivial | (simp only [AllP, allPs, List.cons_append, List.nil_append, List.append_nil, true_and, and_true]; done) | (simp only [AllP, allPs, List.cons_append, List.nil_append, hL.le_, hL.lt_, hL.ge_, hL.ln_, hL.mm_, hc, Int.toNat_natCast, true_and, and_true, *]; first | done | omega)
    refine Run.ret ?_
    refine Eq.trans (b := some _) (by cbv) ?_
    rw [hres, if_pos ht10]; rfl
  · skip
    rw [hw, hL.lss, decide_eq_false_iff_not] at ht10
    refine Run.skip ?_
    refine Run.seq ?_
    refine Run.region hL.hL hT [] (by cbv) ?_ ?_
    · first | trivial | (simp only [AllP, allPs, List.cons_append, List.nil_append, List.append_nil, true_and, and_true]; done) | (simp only [AllP, allPs, List.cons_append, List.nil_append, hL.le_, hL.lt_, hL.ge_, hL.ln_, hL.mm_, hc, Int.toNat_natCast, true_and, and_true, *]; first | done | omega)
    refine Run.ret ?_
    refine Eq.trans (b := some _) (by cbv) ?_
    rw [hres, if_neg ht10, hw]; rfl

set_option maxRecDepth 8000 in
theorem szCondS_ac (l : List C3) (hl : l.length ≤ 9223372036854775807) (k : Bool) (n : Int) (hn : n ≤ 1048576 ∧ -1 ≤ n) : AC Try.prog 37 [.v (.im k (conds l)), .v (.s (.int .i64 n))] [.v .jk, .v .jk] [.v (.s (.int .i64 (if n - l.length < 0 then -1 else n - l.length)))] := by
  refine intro_L fun ar cm bo sc sa sx ss sl bs sb ln sr ap up rp fr ge le lt nz mm ma sm fl al hL => ?_
  obtain ⟨il, hil⟩ : ∃ gx_, gx_ = conds l := ⟨_, rfl⟩
  obtain ⟨res, hres⟩ : ∃ gx_, gx_ = if n - l.length < 0 then -1 else n - (l.length : Int) := ⟨_, rfl⟩
  rw [← hil, ← hres]
  obtain ⟨c, hc⟩ : ∃ c : Nat → Int, ∀ n, c n = (n : Int) := ⟨_, fun _ => rfl⟩
  refine AC.of_run tab_ok Try.func37 (by rfl) (by rfl) (by cbv) ⟨by decide, rfl⟩ fun F hP hA => ?_
  have hT : TabOk F.P tab := hP ▸ tab_ok
  have hM : F.P.follows .mixedOrders = true := hP ▸ mixed
  have hC : ∀ {f a o r}, AC Try.prog f a o r → AC F.P f a o r := fun h => hP ▸ h
  have hln : ln il = l.length := by rw [hil, hL.ln_, conds_len]
  have hw : ar .sub .i64 n (ln il) = n - l.length := by rw [hL.sub, hln, wrap64 (by omega)]
  refine Run.seq ?_
  refine Run.region hL.hL hT [] (by cbv) ?_ ?_
  · first | trivial | (simp only [AllP, allPs, List.cons_append, List.nil_append, List.append_nil, true_and, and_true]; done) | (simp only [AllP, allPs, List.cons_append, List.nil_append, hL.le_, hL.lt_, hL.ge_, hL.ln_, hL.mm_, hc, Int.toNat_natCast, true_and, and_true, *]; first | done | omega)
  refine Run.seq ?_
  refine Run.region hL.hL hT [] (by cbv) ?_ ?_
  · simp only [AllP, and_self]
  refine Run.seq ?_
  refine Run.seq ?_
  refine Run.region hL.hL hT [] (by cbv) ?_ ?_
  · simp only [AllP, and_self]
  refine Run.cond (by cbv) ?_ (fun ht10 => ?_) (fun ht10 => ?_)
  · simp only [AllP]
  · skip
    rw [hw, hL.lss, decide_eq_true_eq] at ht10
    refine Run.seq ?_
    refine Run.region hL.hL hT [] (by cbv) ?_ ?_
    · first | trivial | (simp only [AllP, allPs, List.cons_append, List.nil_append, List.append_nil, true_and, and_true]; done) | (simp only [AllP, allPs, List.cons_append, List.nil_append, hL.le_, hL.lt_, hL.ge_, hL.ln_, hL.mm_, hc, Int.toNat_natCast, true_and, and_true, *]; first | done | omega)
    refine Run.ret ?_
    refine Eq.trans (b := some _) (by cbv) ?_
    rw [hres, if_pos ht10]; rfl
  · skip
    rw [hw, hL.lss, decide_eq_false_iff_not] at ht10
    refine Run.skip ?_
    refine Run.seq ?_
    refine Run.region hL.hL hT [] (by cbv) ?_ ?_
    · first | trivial | (simp only [AllP, allPs, List.cons_append, List.nil_append, List.append_nil, true_and, and_true]; done) | (simp only [AllP, allPs, List.cons_append, List.nil_append, hL.le_, hL.lt_, hL.ge_, hL.ln_, hL.mm_, hc, Int.toNat_natCast, true_and, and_true, *]; first | done | omega)
    refine Run.ret ?_
    refine Eq.trans (b := some _) (by cbv) ?_
    rw [hres, if_neg ht10, hw]; rfl

set_option maxRecDepth 8000 in
theorem toIntS_ac (l : List Int) (hl : l.length ≤ 1048576) (k : Bool) : AC Try.prog 42 [.v (.im k (ints l))] [.v .jk] [.v (.ow 3 (ints l))] := by
  refine intro_L fun ar cm bo sc sa sx ss sl bs sb ln sr ap up rp fr ge le lt nz mm ma sm fl al hL => ?_
  obtain ⟨il, hil⟩ : ∃ gx_, gx_ = ints l := ⟨_, rfl⟩
  obtain ⟨fi, hfi⟩ : ∃ gx_, gx_ = filled il (List.replicate l.length [.s (.int .i64 0)]) := ⟨_, rfl⟩
  rw [← hil]
  obtain ⟨c, hc⟩ : ∃ c : Nat → Int, ∀ n, c n = (n : Int) := ⟨_, fun _ => rfl⟩
  refine AC.of_run tab_ok Try.func42 (by rfl) (by rfl) (by cbv) ⟨by decide, rfl⟩ fun F hP hA => ?_
  have hT : TabOk F.P tab := hP ▸ tab_ok
  have hM : F.P.follows .mixedOrders = true := hP ▸ mixed
  have hC : ∀ {f a o r}, AC Try.prog f a o r → AC F.P f a o r := fun h => hP ▸ h
  have hll : il.length = l.length := by rw [hil, ints_len]
  have hln : ln il = l.length := by rw [hL.ln_, hll]
  have hfl : ∀ i, (fi i).length = l.length := fun i => by rw [hfi, filled_len (by simp [hll])]; simp
  refine Run.seq ?_
  refine Run.region hL.hL hT [] (by cbv) ?_ ?_
  · first | trivial | (simp only [AllP, allPs, List.cons_append, List.nil_append, List.append_nil, true_and, and_true]; done) | (simp only [AllP, allPs, List.cons_append, List.nil_append, hL.le_, hL.lt_, hL.ge_, hL.ln_, hL.mm_, hc, Int.toNat_natCast, true_and, and_true, *]; first | done | omega)
  refine Run.seq ?_
  refine Run.region hL.hL hT [] (by cbv) ?_ ?_
  · simp only [AllP, hL.le_, hL.mm_, hln, true_and, and_true]
    omega
  refine Run.seq ?_
  refine Run.seq ?_
  refine Run.region hL.hL hT [] (by cbv) ?_ ?_
  · first | trivial | (simp only [AllP, allPs, List.cons_append, List.nil_append, List.append_nil, true_and, and_true]; done) | (simp only [AllP, allPs, List.cons_append, List.nil_append, hL.le_, hL.lt_, hL.ge_, hL.ln_, hL.mm_, hc, Int.toNat_natCast, true_and, and_true, *]; first | done | omega)
  refine Run.block ?_
  refine Run.loop (α := Nat) (fun i => ⟨22, 100000, [(0, .t (.im k il)), (3, .rf 1), (4, .t (.s (.int .i64 (c i))))], [(1, .row 0 3 1 (fi i))]⟩) (fun i => i ≤ l.length) (fun i => l.length - i) (0) ?_ ?_ ?_
  · refine Weak.of _ [(1, 4098)] hA (by cbv) ?_
    simp only [AllP, hc, hfi, filled_zero, hL.rp_, hln, Int.toNat_natCast, Int.natCast_zero, and_self]
  · exact Nat.zero_le _
  · intro i hi
    refine Run.seq ?_
    refine Run.seq ?_
    refine Run.region hL.hL hT [] (by cbv) ?_ ?_
    · first | trivial | (simp only [AllP, allPs, List.cons_append, List.nil_append, List.append_nil, true_and, and_true]; done) | (simp only [AllP, allPs, List.cons_append, List.nil_append, hL.le_, hL.lt_, hL.ge_, hL.ln_, hL.mm_, hc, Int.toNat_natCast, true_and, and_true, *]; first | done | omega)
    refine Run.cond (by cbv) ?_ (fun ht11 => ?_) (fun ht11 => ?_)
    · simp only [AllP]
    · skip
      rw [hL.lss, decide_eq_true_eq, hc, hln] at ht11
      obtain ⟨x, hx⟩ := at_some (l := l) (i := i) (by omega)
      have hge : il.getD i [] = [.s (.int .i64 x)] := by rw [hil, ints_at hx]
      refine Run.skip ?_
      refine Run.seq ?_
      refine Run.block ?_
      refine Run.region hL.hL hT [(4, .el [.s (.int .i64 x)])] (by cbv) ?_ ?_
      · simp only [AllP, hL.le_, hL.lt_, hL.ge_, hL.ln_, hc, hll, hfl, Int.toNat_natCast, hge, true_and, and_true]
        omega
      refine Run.region hL.hL hT [] (by cbv) ?_ ?_
      · first | trivial | (simp only [AllP, allPs, List.cons_append, List.nil_append, List.append_nil, true_and, and_true]; done) | (simp only [AllP, allPs, List.cons_append, List.nil_append, hL.le_, hL.lt_, hL.ge_, hL.ln_, hL.mm_, hc, Int.toNat_natCast, true_and, and_true, *]; first | done | omega)
      refine ⟨i + 1, by omega, by omega, Weak.of _ [(1, 1)] hA (by cbv) ?_⟩
      simp only [AllP, hc, hL.add, true_and, and_true]
      refine ⟨?_, ?_⟩
      · rw [wrap64 (by omega)]; rfl
      · rw [hL.up_, Int.toNat_natCast, hfi, filled_up (n := 1) (by rw [hil]; exact ints_row l) (rep_row rfl) (by simp [hll]) (by simp; omega) hge rfl]
    · skip
      rw [hL.lss, decide_eq_false_iff_not, hc, hln] at ht11
      refine Run.exit ?_
      refine Run.seq ?_
      refine Run.region hL.hL hT [] (by cbv) ?_ ?_
      · first | trivial | (simp only [AllP, allPs, List.cons_append, List.nil_append, List.append_nil, true_and, and_true]; done) | (simp only [AllP, allPs, List.cons_append, List.nil_append, hL.le_, hL.lt_, hL.ge_, hL.ln_, hL.mm_, hc, Int.toNat_natCast, true_and, and_true, *]; first | done | omega)
      refine Run.ret ?_
      refine Eq.trans (b := some _) (by cbv) ?_
      rw [hfi, filled_all (by simp [hll]) (by simp; omega)]
      rfl

set_option maxRecDepth 8000 in
theorem toCondS_ac (l : List C3) (hl : l.length ≤ 1048576) (k : Bool) : AC Try.prog 41 [.v (.im k (conds l))] [.v .jk] [.v (.ow 77 (conds l))] := by
  refine intro_L fun ar cm bo sc sa sx ss sl bs sb ln sr ap up rp fr ge le lt nz mm ma sm fl al hL => ?_
  obtain ⟨il, hil⟩ : ∃ gx_, gx_ = conds l := ⟨_, rfl⟩
  obtain ⟨fi, hfi⟩ : ∃ gx_, gx_ = filled il (List.replicate l.length [.s (.int .i64 0), .s (.int .i64 0), .s (.int .i64 0)]) := ⟨_, rfl⟩
  rw [← hil]
  obtain ⟨c, hc⟩ : ∃ c : Nat → Int, ∀ n, c n = (n : Int) := ⟨_, fun _ => rfl⟩
  refine AC.of_run tab_ok Try.func41 (by rfl) (by rfl) (by cbv) ⟨by decide, rfl⟩ fun F hP hA => ?_
  have hT : TabOk F.P tab := hP ▸ tab_ok
  have hM : F.P.follows .mixedOrders = true := hP ▸ mixed
  have hC : ∀ {f a o r}, AC Try.prog f a o r → AC F.P f a o r := fun h => hP ▸ h
  have hll : il.length = l.length := by rw [hil, conds_len]
  have hln : ln il = l.length := by rw [hL.ln_, hll]
  have hfl : ∀ i, (fi i).length = l.length := fun i => by rw [hfi, filled_len (by simp [hll])]; simp
  refine Run.seq ?_
  refine Run.region hL.hL hT [] (by cbv) ?_ ?_
  · first | trivial | (simp only [AllP, allPs, List.cons_append, List.nil_append, List.append_nil, true_and, and_true]; done) | (simp only [AllP, allPs, List.cons_append, List.nil_append, hL.le_, hL.lt_, hL.ge_, hL.ln_, hL.mm_, hc, Int.toNat_natCast, true_and, and_true, *]; first | done | omega)
  refine Run.seq ?_
  refine Run.region hL.hL hT [] (by cbv) ?_ ?_
  · simp only [AllP, hL.le_, hL.mm_, hln, true_and, and_true]
    omega
  refine Run.seq ?_
  refine Run.seq ?_
  refine Run.region hL.hL hT [] (by cbv) ?_ ?_
  · first | trivial | (simp only [AllP, allPs, List.cons_append, List.nil_append, List.append_nil, true_and, and_true]; done) | (simp only [AllP, allPs, List.cons_append, List.nil_append, hL.le_, hL.lt_, hL.ge_, hL.ln_, hL.mm_, hc, Int.toNat_natCast, true_and, and_true, *]; first | done | omega)
  refine Run.block ?_
  refine Run.loop (α := Nat) (fun i => ⟨23, 100000, [(0, .t (.im k il)), (3, .rf 1), (4, .t (.s (.int .i64 (c i))))], [(1, .row 0 77 3 (fi i))]⟩) (fun i => i ≤ l.length) (fun i => l.length - i) (0) ?_ ?_ ?_
  · refine Weak.of _ [(1, 4098)] hA (by cbv) ?_
    simp only [AllP, hc, hfi, filled_zero, hL.rp_, hln, Int.toNat_natCast, Int.natCast_zero, and_self]
  · exact Nat.zero_le _
  · intro i hi
    refine Run.seq ?_
    refine Run.seq ?_
    refine Run.region hL.hL hT [] (by cbv) ?_ ?_
    · first | trivial | (simp only [AllP, allPs, List.cons_append, List.nil_append, List.append_nil, true_and, and_true]; done) | (simp only [AllP, allPs, List.cons_append, List.nil_append, hL.le_, hL.lt_, hL.ge_, hL.ln_, hL.mm_, hc, Int.toNat_natCast, true_and, and_true, *]; first | done | omega)
    refine Run.cond (by cbv) ?_ (fun ht11 => ?_) (fun ht11 => ?_)
    · simp only [AllP]
    · skip
      rw [hL.lss, decide_eq_true_eq, hc, hln] at ht11
      obtain ⟨⟨x, y, z⟩, hx⟩ := at_some (l := l) (i := i) (by omega)
      have hge : il.getD i [] = [.s (.int .i64 x), .s (.int .i64 y), .s (.int .i64 z)] := by rw [hil, conds_at hx]
      refine Run.skip ?_
      refine Run.seq ?_
      refine Run.block ?_
      refine Run.region hL.hL hT [(4, .el [.s (.int .i64 x), .s (.int .i64 y), .s (.int .i64 z)]), (6, .call [false] [.ag [.jk, .jk, .jk]] [.ag [.s (.int .i64 x), .s (.int .i64 y), .s (.int .i64 z)]])] (by cbv) ?_ ?_
      · simp only [AllP, hL.le_, hL.lt_, hL.ge_, hL.ln_, hc, hll, hfl, Int.toNat_natCast, hge, true_and, and_true]
        refine ⟨by omega, by omega, hC (toCond_ac x y z), by omega, by omega, by omega, by omega⟩
      refine Run.region hL.hL hT [] (by cbv) ?_ ?_
      · first | trivial | (simp only [AllP, allPs, List.cons_append, List.nil_append, List.append_nil, true_and, and_true]; done) | (simp only [AllP, allPs, List.cons_append, List.nil_append, hL.le_, hL.lt_, hL.ge_, hL.ln_, hL.mm_, hc, Int.toNat_natCast, true_and, and_true, *]; first | done | omega)
      refine ⟨i + 1, by omega, by omega, Weak.of _ [(1, 1)] hA (by cbv) ?_⟩
      simp only [AllP, hc, hL.add, true_and, and_true]
      refine ⟨?_, ?_⟩
      · rw [wrap64 (by omega)]; rfl
      · rw [hL.up_, Int.toNat_natCast, hfi, filled_up (n := 3) (by rw [hil]; exact conds_row l) (rep_row rfl) (by simp [hll]) (by simp; omega) hge rfl]
    · skip
      rw [hL.lss, decide_eq_false_iff_not, hc, hln] at ht11
      refine Run.exit ?_
      refine Run.seq ?_
      refine Run.region hL.hL hT [] (by cbv) ?_ ?_
      · first | trivial | (simp only [AllP, allPs, List.cons_append, List.nil_append, List.append_nil, true_and, and_true]; done) | (simp only [AllP, allPs, List.cons_append, List.nil_append, hL.le_, hL.lt_, hL.ge_, hL.ln_, hL.mm_, hc, Int.toNat_natCast, true_and, and_true, *]; first | done | omega)
      refine Run.ret ?_
      refine Eq.trans (b := some _) (by cbv) ?_
      rw [hfi, filled_all (by simp [hll]) (by simp; omega)]
      rfl

set_option maxRecDepth 8000 in
theorem szQuery_ac (q0 : Int) (q1 : List C3) (q2 : Int) (q3 : Bool) (q4 : Int) (q5 : List Int) (q6 : Bool) (q7 q8 : Int) (kq1 kq5 : Bool) (n : Int) (h1 : q1.length ≤ 9223372036854775807) (h5 : q5.length ≤ 9223372036854775807) (hn : n ≤ 1048576 ∧ -1 ≤ n) : AC Try.prog 9 [.ag [.s (.int .i64 q0), .im kq1 (conds q1), .s (.int .i64 q2), .s (.bool q3), .s (.int .i64 q4), .im kq5 (ints q5), .s (.bool q6), .s (.int .i64 q7), .s (.int .i64 q8)], .v (.s (.int .i64 n))] [.ag [.jk, .jk, .jk, .jk, .jk, .jk, .jk, .jk, .jk], .v .jk] [.v (.s (.int .i64 (if n - q1.length < 0 then -1 else if n - q1.length - q5.length < 0 then -1 else n - q1.length - q5.length)))] := by
  refine intro_L fun ar cm bo sc sa sx ss sl bs sb ln sr ap up rp fr ge le lt nz mm ma sm fl al hL => ?_
  obtain ⟨i1, hi1⟩ : ∃ gx_, gx_ = conds q1 := ⟨_, rfl⟩
  obtain ⟨i5, hi5⟩ : ∃ gx_, gx_ = ints q5 := ⟨_, rfl⟩
  obtain ⟨res, hres⟩ : ∃ gx_, gx_ = if n - q1.length < 0 then -1 else if n - q1.length - q5.length < 0 then -1 else n - (q1.length : Int) - q5.length := ⟨_, rfl⟩
  obtain ⟨r1, hr1⟩ : ∃ gx_, gx_ = if n - q1.length < 0 then -1 else n - (q1.length : Int) := ⟨_, rfl⟩
  obtain ⟨r2, hr2⟩ : ∃ gx_, gx_ = if r1 - q5.length < 0 then -1 else r1 - (q5.length : Int) := ⟨_, rfl⟩
  rw [← hi1, ← hi5, ← hres]
  obtain ⟨c, hc⟩ : ∃ c : Nat → Int, ∀ n, c n = (n : Int) := ⟨_, fun _ => rfl⟩
  refine AC.of_run tab_ok Try.func9 (by rfl) (by rfl) (by cbv) ⟨by decide, rfl⟩ fun F hP hA => ?_
  have hT : TabOk F.P tab := hP ▸ tab_ok
  have hM : F.P.follows .mixedOrders = true := hP ▸ mixed
  have hC : ∀ {f a o r}, AC Try.prog f a o r → AC F.P f a o r := fun h => hP ▸ h
  have hb1 : r1 ≤ 1048576 ∧ -1 ≤ r1 := by rw [hr1]; split <;> omega
  refine Run.seq ?_
  refine Run.region hL.hL hT [] (by cbv) ?_ ?_
  · first | trivial | (simp only [AllP, allPs, List.cons_append, List.nil_append, List.append_nil, true_and, and_true]; done) | (simp only [AllP, allPs, List.cons_append, List.nil_append, hL.le_, hL.lt_, hL.ge_, hL.ln_, hL.mm_, hc, Int.toNat_natCast, true_and, and_true, *]; first | done | omega)
  refine Run.seq ?_
  refine Run.region hL.hL hT [(3, .call [false, false] [.v .jk, .v .jk] [.v (.s (.int .i64 r1))])] (by cbv) ?_ ?_
  · simp only [AllP, allPs, List.cons_append, List.nil_append, true_and, and_true]
    refine hC ?_
    rw [hi1, hr1]
    exact szCondS_ac q1 h1 false n hn
  refine Run.seq ?_
  refine Run.seq ?_
  refine Run.region hL.hL hT [] (by cbv) ?_ ?_
  · simp only [AllP, and_self]
  refine Run.cond (by cbv) ?_ (fun ht10 => ?_) (fun ht10 => ?_)
  · simp only [AllP]
  · skip
    rw [hL.lss, decide_eq_true_eq] at ht10
    refine Run.seq ?_
    refine Run.region hL.hL hT [] (by cbv) ?_ ?_
    · first | trivial | (simp only [AllP, allPs, List.cons_append, List.nil_append, List.append_nil, true_and, and_true]; done) | (simp only [AllP, allPs, List.cons_append, List.nil_append, hL.le_, hL.lt_, hL.ge_, hL.ln_, hL.mm_, hc, Int.toNat_natCast, true_and, and_true, *]; first | done | omega)
    refine Run.ret ?_
    refine Eq.trans (b := some _) (by cbv) ?_
    have hr : res = -1 := by rw [hres]; split at hr1 <;> omega
    rw [hr]; rfl
  · skip
    rw [hL.lss, decide_eq_false_iff_not] at ht10
    refine Run.skip ?_
    refine Run.seq ?_
    refine Run.region hL.hL hT [(3, .call [false, false] [.v .jk, .v .jk] [.v (.s (.int .i64 r2))])] (by cbv) ?_ ?_
    · simp only [AllP, allPs, List.cons_append, List.nil_append, true_and, and_true]
      refine hC ?_
      rw [hi5, hr2]
      exact szIntS_ac q5 h5 false r1 hb1
    refine Run.seq ?_
    refine Run.seq ?_
    refine Run.region hL.hL hT [] (by cbv) ?_ ?_
    · simp only [AllP, and_self]
    refine Run.cond (by cbv) ?_ (fun ht16 => ?_) (fun ht16 => ?_)
    · simp only [AllP]
    · skip
      rw [hL.lss, decide_eq_true_eq] at ht16
      refine Run.seq ?_
      refine Run.region hL.hL hT [] (by cbv) ?_ ?_
      · first | trivial | (simp only [AllP, allPs, List.cons_append, List.nil_append, List.append_nil, true_and, and_true]; done) | (simp only [AllP, allPs, List.cons_append, List.nil_append, hL.le_, hL.lt_, hL.ge_, hL.ln_, hL.mm_, hc, Int.toNat_natCast, true_and, and_true, *]; first | done | omega)
      refine Run.ret ?_
      refine Eq.trans (b := some _) (by cbv) ?_
      have hr : res = -1 := by rw [hres]; split at hr1 <;> split at hr2 <;> omega
      rw [hr]; rfl
    · skip
      rw [hL.lss, decide_eq_false_iff_not] at ht16
      refine Run.skip ?_
      refine Run.seq ?_
      refine Run.region hL.hL hT [] (by cbv) ?_ ?_
      · first | trivial | (simp only [AllP, allPs, List.cons_append, List.nil_append, List.append_nil, true_and, and_true]; done) | (simp only [AllP, allPs, List.cons_append, List.nil_append, hL.le_, hL.lt_, hL.ge_, hL.ln_, hL.mm_, hc, Int.toNat_natCast, true_and, and_true, *]; first | done | omega)
      refine Run.ret ?_
      refine Eq.trans (b := some _) (by cbv) ?_
      have hr : res = r2 := by rw [hres]; split at hr1 <;> split at hr2 <;> omega
      rw [hr]; rfl

set_option maxRecDepth 8000 in
theorem toQuery_ac (q0 : Int) (q1 : List C3) (q2 : Int) (q3 : Bool) (q4 : Int) (q5 : List Int) (q6 : Bool) (q7 q8 : Int) (kq1 kq5 : Bool) (h1 : q1.length ≤ 1048576) (h5 : q5.length ≤ 1048576) : AC Try.prog 11 [.ag [.s (.int .i64 q0), .im kq1 (conds q1), .s (.int .i64 q2), .s (.bool q3), .s (.int .i64 q4), .im kq5 (ints q5), .s (.bool q6), .s (.int .i64 q7), .s (.int .i64 q8)]] [.ag [.jk, .jk, .jk, .jk, .jk, .jk, .jk, .jk, .jk]] [.ag [.s (.int .i64 q0), .ow 77 (conds q1), .s (.int .i64 q2), .s (.bool q3), .s (.int .i64 q4), .ow 3 (ints q5), .s (.bool q6), .s (.int .i64 q7), .s (.int .i64 q8)]] := by
  refine intro_L fun ar cm bo sc sa sx ss sl bs sb ln sr ap up rp fr ge le lt nz mm ma sm fl al hL => ?_
  obtain ⟨i1, hi1⟩ : ∃ gx_, gx_ = conds q1 := ⟨_, rfl⟩
  obtain ⟨i5, hi5⟩ : ∃ gx_, gx_ = ints q5 := ⟨_, rfl⟩
  rw [← hi1, ← hi5]
  obtain ⟨c, hc⟩ : ∃ c : Nat → Int, ∀ n, c n = (n : Int) := ⟨_, fun _ => rfl⟩
  refine AC.of_run tab_ok Try.func11 (by rfl) (by rfl) (by cbv) ⟨by decide, rfl⟩ fun F hP hA => ?_
  have hT : TabOk F.P tab := hP ▸ tab_ok
  have hM : F.P.follows .mixedOrders = true := hP ▸ mixed
  have hC : ∀ {f a o r}, AC Try.prog f a o r → AC F.P f a o r := fun h => hP ▸ h
  refine Run.seq ?_
  refine Run.region hL.hL hT [] (by cbv) ?_ ?_
  · first | trivial | (simp only [AllP, allPs, List.cons_append, List.nil_append, List.append_nil, true_and, and_true]; done) | (simp only [AllP, allPs, List.cons_append, List.nil_append, hL.le_, hL.lt_, hL.ge_, hL.ln_, hL.mm_, hc, Int.toNat_natCast, true_and, and_true, *]; first | done | omega)
  refine Run.seq ?_
  refine Run.region hL.hL hT [] (by cbv) ?_ ?_
  · first | trivial | (simp only [AllP, allPs, List.cons_append, List.nil_append, List.append_nil, true_and, and_true]; done) | (simp only [AllP, allPs, List.cons_append, List.nil_append, hL.le_, hL.lt_, hL.ge_, hL.ln_, hL.mm_, hc, Int.toNat_natCast, true_and, and_true, *]; first | done | omega)
  refine Run.seq ?_
  refine Run.region hL.hL hT [] (by cbv) ?_ ?_
  · first | trivial | (simp only [AllP, allPs, List.cons_append, List.nil_append, List.append_nil, true_and, and_true]; done) | (simp only [AllP, allPs, List.cons_append, List.nil_append, hL.le_, hL.lt_, hL.ge_, hL.ln_, hL.mm_, hc, Int.toNat_natCast, true_and, and_true, *]; first | done | omega)
  refine Run.seq ?_
  refine Run.region hL.hL hT [(2, .call [false] [.v .jk] [.v (.ow 77 i1)])] (by cbv) ?_ ?_
  · simp only [AllP, allPs, List.cons_append, List.nil_append, true_and, and_true]
    refine hC ?_
    rw [hi1]
    exact toCondS_ac q1 h1 false
  refine Run.seq ?_
  refine Run.region hL.hL hT [] (by cbv) ?_ ?_
  · first | trivial | (simp only [AllP, allPs, List.cons_append, List.nil_append, List.append_nil, true_and, and_true]; done) | (simp only [AllP, allPs, List.cons_append, List.nil_append, hL.le_, hL.lt_, hL.ge_, hL.ln_, hL.mm_, hc, Int.toNat_natCast, true_and, and_true, *]; first | done | omega)
  refine Run.seq ?_
  refine Run.region hL.hL hT [] (by cbv) ?_ ?_
  · first | trivial | (simp only [AllP, allPs, List.cons_append, List.nil_append, List.append_nil, true_and, and_true]; done) | (simp only [AllP, allPs, List.cons_append, List.nil_append, hL.le_, hL.lt_, hL.ge_, hL.ln_, hL.mm_, hc, Int.toNat_natCast, true_and, and_true, *]; first | done | omega)
  refine Run.seq ?_
  refine Run.region hL.hL hT [] (by cbv) ?_ ?_
  · first | trivial | (simp only [AllP, allPs, List.cons_append, List.nil_append, List.append_nil, true_and, and_true]; done) | (simp only [AllP, allPs, List.cons_append, List.nil_append, hL.le_, hL.lt_, hL.ge_, hL.ln_, hL.mm_, hc, Int.toNat_natCast, true_and, and_true, *]; first | done | omega)
  refine Run.seq ?_
  refine Run.region hL.hL hT [(2, .call [false] [.v .jk] [.v (.ow 3 i5)])] (by cbv) ?_ ?_
  · simp only [AllP, allPs, List.cons_append, List.nil_append, true_and, and_true]
    refine hC ?_
    rw [hi5]
    exact toIntS_ac q5 h5 false
  refine Run.seq ?_
  refine Run.region hL.hL hT [] (by cbv) ?_ ?_
  · first | trivial | (simp only [AllP, allPs, List.cons_append, List.nil_append, List.append_nil, true_and, and_true]; done) | (simp only [AllP, allPs, List.cons_append, List.nil_append, hL.le_, hL.lt_, hL.ge_, hL.ln_, hL.mm_, hc, Int.toNat_natCast, true_and, and_true, *]; first | done | omega)
  refine Run.seq ?_
  refine Run.region hL.hL hT [] (by cbv) ?_ ?_
  · first | trivial | (simp only [AllP, allPs, List.cons_append, List.nil_append, List.append_nil, true_and, and_true]; done) | (simp only [AllP, allPs, List.cons_append, List.nil_append, hL.le_, hL.lt_, hL.ge_, hL.ln_, hL.mm_, hc, Int.toNat_natCast, true_and, and_true, *]; first | done | omega)
  refine Run.seq ?_
  refine Run.region hL.hL hT [] (by cbv) ?_ ?_
  · first | trivial | (simp only [AllP, allPs, List.cons_append, List.nil_append, List.append_nil, true_and, and_true]; done) | (simp only [AllP, allPs, List.cons_append, List.nil_append, hL.le_, hL.lt_, hL.ge_, hL.ln_, hL.mm_, hc, Int.toNat_natCast, true_and, and_true, *]; first | done | omega)
  refine Run.seq ?_
  refine Run.region hL.hL hT [] (by cbv) ?_ ?_
  · first | trivial | (simp only [AllP, allPs, List.cons_append, List.nil_append, List.append_nil, true_and, and_true]; done) | (simp only [AllP, allPs, List.cons_append, List.nil_append, hL.le_, hL.lt_, hL.ge_, hL.ln_, hL.mm_, hc, Int.toNat_natCast, true_and, and_true, *]; first | done | omega)
  refine Run.ret ?_
  refine Eq.trans (b := some _) (by cbv) ?_
  rfl

set_option maxRecDepth 8000 in
theorem eqCondS_ac (l m : List C3) (hl : l.length ≤ 9223372036854775807) (hm : m.length ≤ 9223372036854775807) (k k' : Bool) : AC Try.prog 45 [.v (.im k (conds l)), .v (.im k' (conds m))] [.v .jk, .v .jk] [.v (.s (.bool (decide (l = m))))] := by
  refine intro_L fun ar cm bo sc sa sx ss sl bs sb ln sr ap up rp fr ge le lt nz mm ma sm fl al hL => ?_
  obtain ⟨il, hil⟩ : ∃ gx_, gx_ = conds l := ⟨_, rfl⟩
  obtain ⟨im, him⟩ : ∃ gx_, gx_ = conds m := ⟨_, rfl⟩
  obtain ⟨res, hres⟩ : ∃ gx_, gx_ = decide (l = m) := ⟨_, rfl⟩
  rw [← hil, ← him, ← hres]
  obtain ⟨c, hc⟩ : ∃ c : Nat → Int, ∀ n, c n = (n : Int) := ⟨_, fun _ => rfl⟩
  refine AC.of_run tab_ok Try.func45 (by rfl) (by rfl) (by cbv) ⟨by decide, rfl⟩ fun F hP hA => ?_
  have hT : TabOk F.P tab := hP ▸ tab_ok
  have hM : F.P.follows .mixedOrders = true := hP ▸ mixed
  have hC : ∀ {f a o r}, AC Try.prog f a o r → AC F.P f a o r := fun h => hP ▸ h
  have hll : ln il = l.length := by rw [hil, hL.ln_, conds_len]
  have hlm : ln im = m.length := by rw [him, hL.ln_, conds_len]
  refine Run.seq ?_
  refine Run.region hL.hL hT [] (by cbv) ?_ ?_
  · first | trivial | (simp only [AllP, allPs, List.cons_append, List.nil_append, List.append_nil, true_and, and_true]; done) | (simp only [AllP, allPs, List.cons_append, List.nil_append, hL.le_, hL.lt_, hL.ge_, hL.ln_, hL.mm_, hc, Int.toNat_natCast, true_and, and_true, *]; first | done | omega)
  refine Run.seq ?_
  refine Run.seq ?_
  refine Run.region hL.hL hT [] (by cbv) ?_ ?_
  · first | trivial | (simp only [AllP, allPs, List.cons_append, List.nil_append, List.append_nil, true_and, and_true]; done) | (simp only [AllP, allPs, List.cons_append, List.nil_append, hL.le_, hL.lt_, hL.ge_, hL.ln_, hL.mm_, hc, Int.toNat_natCast, true_and, and_true, *]; first | done | omega)
  refine Run.cond (by cbv) ?_ (fun ht10 => ?_) (fun ht10 => ?_)
  · simp only [AllP]
  · skip
    rw [hL.neq, hll, hlm, decide_eq_true_eq] at ht10
    have hr : res = false := by rw [hres, decide_eq_false_iff_not]; rintro rfl; exact ht10 rfl
    refine Run.seq ?_
    refine Run.region hL.hL hT [] (by cbv) ?_ ?_
    · first | trivial | (simp only [AllP, allPs, List.cons_append, List.nil_append, List.append_nil, true_and, and_true]; done) | (simp only [AllP, allPs, List.cons_append, List.nil_append, hL.le_, hL.lt_, hL.ge_, hL.ln_, hL.mm_, hc, Int.toNat_natCast, true_and, and_true, *]; first | done | omega)
    refine Run.ret ?_
    refine Eq.trans (b := some _) (by cbv) ?_
    rw [hr]; rfl
  · skip
    rw [hL.neq, hll, hlm, decide_eq_false_iff_not] at ht10
    refine Run.skip ?_
    refine Run.seq ?_
    refine Run.seq ?_
    refine Run.region hL.hL hT [] (by cbv) ?_ ?_
    · first | trivial | (simp only [AllP, allPs, List.cons_append, List.nil_append, List.append_nil, true_and, and_true]; done) | (simp only [AllP, allPs, List.cons_append, List.nil_append, hL.le_, hL.lt_, hL.ge_, hL.ln_, hL.mm_, hc, Int.toNat_natCast, true_and, and_true, *]; first | done | omega)
    refine Run.block ?_
    refine Run.loop (α := Nat) (fun i => ⟨27, 100000, [(0, .t (.im k il)), (1, .t (.im k' im)), (5, .t (.s (.int .i64 (c i))))], []⟩) (fun i => i ≤ l.length ∧ l.take i = m.take i) (fun i => l.length - i) (0) ?_ ?_ ?_
    · refine Weak.of _ [] hA (by cbv) ?_
      simp only [AllP, hc, Int.natCast_zero, and_self]
    · exact ⟨Nat.zero_le _, rfl⟩
    · intro i ⟨hi, hp⟩
      refine Run.seq ?_
      refine Run.seq ?_
      refine Run.region hL.hL hT [] (by cbv) ?_ ?_
      · first | trivial | (simp only [AllP, allPs, List.cons_append, List.nil_append, List.append_nil, true_and, and_true]; done) | (simp only [AllP, allPs, List.cons_append, List.nil_append, hL.le_, hL.lt_, hL.ge_, hL.ln_, hL.mm_, hc, Int.toNat_natCast, true_and, and_true, *]; first | done | omega)
      refine Run.cond (by cbv) ?_ (fun ht14 => ?_) (fun ht14 => ?_)
      · simp only [AllP]
      · skip
        rw [hL.lss, hc, hll, decide_eq_true_eq] at ht14
        obtain ⟨⟨x, y, z⟩, hx⟩ := at_some (l := l) (i := i) (by omega)
        obtain ⟨⟨u, v, w⟩, hy⟩ := at_some (l := m) (i := i) (by omega)
        have hgx : il.getD i [] = [.s (.int .i64 x), .s (.int .i64 y), .s (.int .i64 z)] := by rw [hil, conds_at hx]
        have hgy : im.getD i [] = [.s (.int .i64 u), .s (.int .i64 v), .s (.int .i64 w)] := by rw [him, conds_at hy]
        obtain ⟨d, hd⟩ : ∃ d, d = decide (x = u ∧ y = v ∧ z = w) := ⟨_, rfl⟩
        refine Run.skip ?_
        refine Run.seq ?_
        refine Run.block ?_
        refine Run.seq ?_
        refine Run.draw hL.hL hT hM [(2, .el [.s (.int .i64 x), .s (.int .i64 y), .s (.int .i64 z)]), (6, .el [.s (.int .i64 u), .s (.int .i64 v), .s (.int .i64 w)]), (8, .call [false, false] [.ag [.jk, .jk, .jk], .ag [.jk, .jk, .jk]] [.v (.s (.bool d))])] (by cbv) (by cbv) (by cbv) (by cbv) (by cbv) ?_ ?_
        · simp only [AllP, allPs, List.cons_append, List.nil_append, hL.le_, hL.lt_, hL.ge_, hc, hll, hlm, hgx, hgy, Int.toNat_natCast, true_and, and_true]
          refine ⟨by omega, by omega, by omega, by omega, hC ?_⟩
          rw [hd]
          exact eqCond_ac x y z u v w
        refine Run.cond (by cbv) ?_ (fun ht26 => ?_) (fun ht26 => ?_)
        · simp only [AllP]
        · skip
          rw [hL.bo_] at ht26
          have hr : res = false := by
            rw [hres, decide_eq_false_iff_not]
            rintro rfl
            rw [hx] at hy
            have e := Option.some.inj hy
            simp only [Prod.mk.injEq] at e
            simp [hd, e] at ht26
          refine Run.seq ?_
          refine Run.region hL.hL hT [] (by cbv) ?_ ?_
          · first | trivial | (simp only [AllP, allPs, List.cons_append, List.nil_append, List.append_nil, true_and, and_true]; done) | (simp only [AllP, allPs, List.cons_append, List.nil_append, hL.le_, hL.lt_, hL.ge_, hL.ln_, hL.mm_, hc, Int.toNat_natCast, true_and, and_true, *]; first | done | omega)
          refine Run.ret ?_
          refine Eq.trans (b := some _) (by cbv) ?_
          rw [hr]; rfl
        · skip
          rw [hL.bo_] at ht26
          have hxy : x = u ∧ y = v ∧ z = w := by
            cases hdd : d with
            | false => simp [hdd] at ht26
            | true => rw [hd] at hdd; simpa using hdd
          refine Run.skip ?_
          refine Run.region hL.hL hT [] (by cbv) ?_ ?_
          · first | trivial | (simp only [AllP, allPs, List.cons_append, List.nil_append, List.append_nil, true_and, and_true]; done) | (simp only [AllP, allPs, List.cons_append, List.nil_append, hL.le_, hL.lt_, hL.ge_, hL.ln_, hL.mm_, hc, Int.toNat_natCast, true_and, and_true, *]; first | done | omega)
          refine ⟨i + 1, by omega, by refine ⟨by omega, ?_⟩; rw [List.take_add_one, List.take_add_one, hp, hx, hy, hxy.1, hxy.2.1, hxy.2.2], Weak.of _ [] hA (by cbv) ?_⟩
          simp only [AllP, hc, hL.add, true_and, and_true]
          rw [wrap64 (by omega)]; rfl
      · skip
        rw [hL.lss, hc, hll, decide_eq_false_iff_not] at ht14
        refine Run.exit ?_
        refine Run.seq ?_
        refine Run.region hL.hL hT [] (by cbv) ?_ ?_
        · first | trivial | (simp only [AllP, allPs, List.cons_append, List.nil_append, List.append_nil, true_and, and_true]; done) | (simp only [AllP, allPs, List.cons_append, List.nil_append, hL.le_, hL.lt_, hL.ge_, hL.ln_, hL.mm_, hc, Int.toNat_natCast, true_and, and_true, *]; first | done | omega)
        refine Run.ret ?_
        refine Eq.trans (b := some _) (by cbv) ?_
        have hr : res = true := by
          rw [hres, decide_eq_true_eq]
          have e1 : l.take i = l := List.take_of_length_le (by omega)
          have e2 : m.take i = m := List.take_of_length_le (by omega)
          rw [← e1, ← e2, hp]
        rw [hr]; rfl

set_option maxRecDepth 8000 in
theorem l9Ints_ac (l m : List Int) (hl : l.length ≤ 9223372036854775807) (hm : m.length ≤ 9223372036854775807) (k k' : Bool) : AC Try.prog 40 [.v (.im k (ints l)), .v (.im k' (ints m))] [.v .jk, .v .jk] [.v (.s (.bool (decide (l = m))))] := by
  refine intro_L fun ar cm bo sc sa sx ss sl bs sb ln sr ap up rp fr ge le lt nz mm ma sm fl al hL => ?_
  obtain ⟨il, hil⟩ : ∃ gx_, gx_ = ints l := ⟨_, rfl⟩
  obtain ⟨im, him⟩ : ∃ gx_, gx_ = ints m := ⟨_, rfl⟩
  obtain ⟨res, hres⟩ : ∃ gx_, gx_ = decide (l = m) := ⟨_, rfl⟩
  rw [← hil, ← him, ← hres]
  obtain ⟨c, hc⟩ : ∃ c : Nat → Int, ∀ n, c n = (n : Int) := ⟨_, fun _ => rfl⟩
  refine AC.of_run tab_ok Try.func40 (by rfl) (by rfl) (by cbv) ⟨by decide, rfl⟩ fun F hP hA => ?_
  have hT : TabOk F.P tab := hP ▸ tab_ok
  have hM : F.P.follows .mixedOrders = true := hP ▸ mixed
  have hC : ∀ {f a o r}, AC Try.prog f a o r → AC F.P f a o r := fun h => hP ▸ h
  have hll : ln il = l.length := by rw [hil, hL.ln_, ints_len]
  have hlm : ln im = m.length := by rw [him, hL.ln_, ints_len]
  refine Run.seq ?_
  refine Run.region hL.hL hT [] (by cbv) ?_ ?_
  · first | trivial | (simp only [AllP, allPs, List.cons_append, List.nil_append, List.append_nil, true_and, and_true]; done) | (simp only [AllP, allPs, List.cons_append, List.nil_append, hL.le_, hL.lt_, hL.ge_, hL.ln_, hL.mm_, hc, Int.toNat_natCast, true_and, and_true, *]; first | done | omega)
  refine Run.seq ?_
  refine Run.seq ?_
  refine Run.region hL.hL hT [] (by cbv) ?_ ?_
  · first | trivial | (simp only [AllP, allPs, List.cons_append, List.nil_append, List.append_nil, true_and, and_true]; done) | (simp only [AllP, allPs, List.cons_append, List.nil_append, hL.le_, hL.lt_, hL.ge_, hL.ln_, hL.mm_, hc, Int.toNat_natCast, true_and, and_true, *]; first | done | omega)
  refine Run.block ?_
  refine Run.loop (α := Nat) (fun i => ⟨32, 100000, [(0, .t (.im k il)), (1, .t (.im k' im)), (5, .t (.s (.int .i64 (c i))))], []⟩) (fun i => i ≤ l.length ∧ i ≤ m.length ∧ l.take i = m.take i) (fun i => l.length - i) (0) ?_ ?_ ?_
  · refine Weak.of _ [] hA (by cbv) ?_
    simp only [AllP, hc, Int.natCast_zero, and_self]
  · exact ⟨Nat.zero_le _, Nat.zero_le _, rfl⟩
  · intro i ⟨hi, hj, hp⟩
    refine Run.seq ?_
    refine Run.seq ?_
    refine Run.region hL.hL hT [] (by cbv) ?_ ?_
    · simp +contextual [AllP]
    refine Run.cond (by cbv) ?_ (fun ht15 => ?_) (fun ht15 => ?_)
    · simp only [AllP]
    · skip
      simp only [hL.bo_, hL.lss, hc, hll, hlm] at ht15
      have hij : i < l.length ∧ i < m.length := by
        by_cases h1 : (i : Int) < l.length <;> by_cases h2 : (i : Int) < m.length <;> simp [h1, h2] at ht15
        omega
      obtain ⟨x, hx⟩ := at_some (l := l) (i := i) (by omega)
      obtain ⟨y, hy⟩ := at_some (l := m) (i := i) (by omega)
      have hgx : il.getD i [] = [.s (.int .i64 x)] := by rw [hil, ints_at hx]
      have hgy : im.getD i [] = [.s (.int .i64 y)] := by rw [him, ints_at hy]
      refine Run.skip ?_
      refine Run.seq ?_
      refine Run.block ?_
      refine Run.seq ?_
      refine Run.draw hL.hL hT hM [(2, .el [.s (.int .i64 x)]), (6, .el [.s (.int .i64 y)])] (by cbv) (by cbv) (by cbv) (by cbv) (by cbv) ?_ ?_
      · simp only [AllP, allPs, List.cons_append, List.nil_append, hL.le_, hL.lt_, hL.ge_, hc, hll, hlm, hgx, hgy, Int.toNat_natCast, true_and, and_true]
        omega
      refine Run.cond (by cbv) ?_ (fun ht26 => ?_) (fun ht26 => ?_)
      · simp only [AllP]
      · skip
        rw [hL.neq, decide_eq_true_eq] at ht26
        have hr : res = false := by
          rw [hres, decide_eq_false_iff_not]
          rintro rfl
          rw [hx] at hy
          exact ht26 (Option.some.inj hy)
        refine Run.seq ?_
        refine Run.region hL.hL hT [] (by cbv) ?_ ?_
        · first | trivial | (simp only [AllP, allPs, List.cons_append, List.nil_append, List.append_nil, true_and, and_true]; done) | (simp only [AllP, allPs, List.cons_append, List.nil_append, hL.le_, hL.lt_, hL.ge_, hL.ln_, hL.mm_, hc, Int.toNat_natCast, true_and, and_true, *]; first | done | omega)
        refine Run.ret ?_
        refine Eq.trans (b := some _) (by cbv) ?_
        rw [hr]; rfl
      · skip
        rw [hL.neq, decide_eq_false_iff_not] at ht26
        have hxy : x = y := by omega
        refine Run.skip ?_
        refine Run.region hL.hL hT [] (by cbv) ?_ ?_
        · first | trivial | (simp only [AllP, allPs, List.cons_append, List.nil_append, List.append_nil, true_and, and_true]; done) | (simp only [AllP, allPs, List.cons_append, List.nil_append, hL.le_, hL.lt_, hL.ge_, hL.ln_, hL.mm_, hc, Int.toNat_natCast, true_and, and_true, *]; first | done | omega)
        refine ⟨i + 1, by omega, by refine ⟨by omega, by omega, ?_⟩; rw [List.take_add_one, List.take_add_one, hp, hx, hy, hxy], Weak.of _ [] hA (by cbv) ?_⟩
        simp only [AllP, hc, hL.add, true_and, and_true]
        rw [wrap64 (by omega)]; rfl
    · skip
      simp only [hL.bo_, hL.lss, hc, hll, hlm] at ht15
      have hij : i = l.length ∨ i = m.length := by
        by_cases h1 : (i : Int) < l.length <;> by_cases h2 : (i : Int) < m.length <;> simp [h1, h2] at ht15 <;> omega
      refine Run.exit ?_
      refine Run.seq ?_
      refine Run.region hL.hL hT [] (by cbv) ?_ ?_
      · first | trivial | (simp only [AllP, allPs, List.cons_append, List.nil_append, List.append_nil, true_and, and_true]; done) | (simp only [AllP, allPs, List.cons_append, List.nil_append, hL.le_, hL.lt_, hL.ge_, hL.ln_, hL.mm_, hc, Int.toNat_natCast, true_and, and_true, *]; first | done | omega)
      refine Run.ret ?_
      refine Eq.trans (b := some _) (by cbv) ?_
      have hr : cm .eql (ln il) (ln im) = res := by
        rw [hL.eql, hll, hlm, hres]
        refine decide_eq_decide.2 ⟨fun e => ?_, fun e => by rw [e]⟩
        have e1 : l.take i = l := List.take_of_length_le (by omega)
        have e2 : m.take i = m := List.take_of_length_le (by omega)
        rw [← e1, ← e2, hp]
      rw [hr]; rfl

set_option maxRecDepth 8000 in
theorem l9Conds_ac (l m : List C3) (hl : l.length ≤ 9223372036854775807) (hm : m.length ≤ 9223372036854775807) (k k' : Bool) : AC Try.prog 39 [.v (.im k (conds l)), .v (.im k' (conds m))] [.v .jk, .v .jk] [.v (.s (.bool (decide (l = m))))] := by
  refine intro_L fun ar cm bo sc sa sx ss sl bs sb ln sr ap up rp fr ge le lt nz mm ma sm fl al hL => ?_
  obtain ⟨il, hil⟩ : ∃ gx_, gx_ = conds l := ⟨_, rfl⟩
  obtain ⟨im, him⟩ : ∃ gx_, gx_ = conds m := ⟨_, rfl⟩
  obtain ⟨res, hres⟩ : ∃ gx_, gx_ = decide (l = m) := ⟨_, rfl⟩
  rw [← hil, ← him, ← hres]
  obtain ⟨c, hc⟩ : ∃ c : Nat → Int, ∀ n, c n = (n : Int) := ⟨_, fun _ => rfl⟩
  refine AC.of_run tab_ok Try.func39 (by rfl) (by rfl) (by cbv) ⟨by decide, rfl⟩ fun F hP hA => ?_
  have hT : TabOk F.P tab := hP ▸ tab_ok
  have hM : F.P.follows .mixedOrders = true := hP ▸ mixed
  have hC : ∀ {f a o r}, AC Try.prog f a o r → AC F.P f a o r := fun h => hP ▸ h
  have hll : ln il = l.length := by rw [hil, hL.ln_, conds_len]
  have hlm : ln im = m.length := by rw [him, hL.ln_, conds_len]
  refine Run.seq ?_
  refine Run.region hL.hL hT [] (by cbv) ?_ ?_
  · first | trivial | (simp only [AllP, allPs, List.cons_append, List.nil_append, List.append_nil, true_and, and_true]; done) | (simp only [AllP, allPs, List.cons_append, List.nil_append, hL.le_, hL.lt_, hL.ge_, hL.ln_, hL.mm_, hc, Int.toNat_natCast, true_and, and_true, *]; first | done | omega)
  refine Run.seq ?_
  refine Run.seq ?_
  refine Run.region hL.hL hT [] (by cbv) ?_ ?_
  · first | trivial | (simp only [AllP, allPs, List.cons_append, List.nil_append, List.append_nil, true_and, and_true]; done) | (simp only [AllP, allPs, List.cons_append, List.nil_append, hL.le_, hL.lt_, hL.ge_, hL.ln_, hL.mm_, hc, Int.toNat_natCast, true_and, and_true, *]; first | done | omega)
  refine Run.block ?_
  refine Run.loop (α := Nat) (fun i => ⟨32, 100000, [(0, .t (.im k il)), (1, .t (.im k' im)), (5, .t (.s (.int .i64 (c i))))], []⟩) (fun i => i ≤ l.length ∧ i ≤ m.length ∧ l.take i = m.take i) (fun i => l.length - i) (0) ?_ ?_ ?_
  · refine Weak.of _ [] hA (by cbv) ?_
    simp only [AllP, hc, Int.natCast_zero, and_self]
  · exact ⟨Nat.zero_le _, Nat.zero_le _, rfl⟩
  · intro i ⟨hi, hj, hp⟩
    refine Run.seq ?_
    refine Run.seq ?_
    refine Run.region hL.hL hT [] (by cbv) ?_ ?_
    · simp +contextual [AllP]
    refine Run.cond (by cbv) ?_ (fun ht15 => ?_) (fun ht15 => ?_)
    · simp only [AllP]
    · skip
      simp only [hL.bo_, hL.lss, hc, hll, hlm] at ht15
      have hij : i < l.length ∧ i < m.length := by
        by_cases h1 : (i : Int) < l.length <;> by_cases h2 : (i : Int) < m.length <;> simp [h1, h2] at ht15
        omega
      obtain ⟨⟨x, y, z⟩, hx⟩ := at_some (l := l) (i := i) (by omega)
      obtain ⟨⟨u, v, w⟩, hy⟩ := at_some (l := m) (i := i) (by omega)
      have hgx : il.getD i [] = [.s (.int .i64 x), .s (.int .i64 y), .s (.int .i64 z)] := by rw [hil, conds_at hx]
      have hgy : im.getD i [] = [.s (.int .i64 u), .s (.int .i64 v), .s (.int .i64 w)] := by rw [him, conds_at hy]
      refine Run.skip ?_
      refine Run.seq ?_
      refine Run.block ?_
      refine Run.seq ?_
      refine Run.draw hL.hL hT hM [(2, .el [.s (.int .i64 x), .s (.int .i64 y), .s (.int .i64 z)]), (6, .el [.s (.int .i64 u), .s (.int .i64 v), .s (.int .i64 w)])] (by cbv) (by cbv) (by cbv) (by cbv) (by cbv) ?_ ?_
      · simp only [AllP, allPs, List.cons_append, List.nil_append, hL.le_, hL.lt_, hL.ge_, hc, hll, hlm, hgx, hgy, Int.toNat_natCast, true_and, and_true]
        omega
      refine Run.cond (by cbv) ?_ (fun ht26 => ?_) (fun ht26 => ?_)
      · simp only [AllP]
      · skip
        simp only [hL.bo_, hL.eql] at ht26
        have hr : res = false := by
          rw [hres, decide_eq_false_iff_not]
          rintro rfl
          rw [hx] at hy
          have e := Option.some.inj hy
          simp only [Prod.mk.injEq] at e
          simp [e] at ht26
        refine Run.seq ?_
        refine Run.region hL.hL hT [] (by cbv) ?_ ?_
        · first | trivial | (simp only [AllP, allPs, List.cons_append, List.nil_append, List.append_nil, true_and, and_true]; done) | (simp only [AllP, allPs, List.cons_append, List.nil_append, hL.le_, hL.lt_, hL.ge_, hL.ln_, hL.mm_, hc, Int.toNat_natCast, true_and, and_true, *]; first | done | omega)
        refine Run.ret ?_
        refine Eq.trans (b := some _) (by cbv) ?_
        rw [hr]; rfl
      · skip
        simp only [hL.bo_, hL.eql] at ht26
        have hxy : x = u ∧ y = v ∧ z = w := by
          by_cases e1 : x = u <;> by_cases e2 : y = v <;> by_cases e3 : z = w <;> simp [e1, e2, e3] at ht26 ⊢
        refine Run.skip ?_
        refine Run.region hL.hL hT [] (by cbv) ?_ ?_
        · first | trivial | (simp only [AllP, allPs, List.cons_append, List.nil_append, List.append_nil, true_and, and_true]; done) | (simp only [AllP, allPs, List.cons_append, List.nil_append, hL.le_, hL.lt_, hL.ge_, hL.ln_, hL.mm_, hc, Int.toNat_natCast, true_and, and_true, *]; first | done | omega)
        refine ⟨i + 1, by omega, by refine ⟨by omega, by omega, ?_⟩; rw [List.take_add_one, List.take_add_one, hp, hx, hy, hxy.1, hxy.2.1, hxy.2.2], Weak.of _ [] hA (by cbv) ?_⟩
        simp only [AllP, hc, hL.add, true_and, and_true]
        rw [wrap64 (by omega)]; rfl
    · skip
      simp only [hL.bo_, hL.lss, hc, hll, hlm] at ht15
      have hij : i = l.length ∨ i = m.length := by
        by_cases h1 : (i : Int) < l.length <;> by_cases h2 : (i : Int) < m.length <;> simp [h1, h2] at ht15 <;> omega
      refine Run.exit ?_
      refine Run.seq ?_
      refine Run.region hL.hL hT [] (by cbv) ?_ ?_
      · first | trivial | (simp only [AllP, allPs, List.cons_append, List.nil_append, List.append_nil, true_and, and_true]; done) | (simp only [AllP, allPs, List.cons_append, List.nil_append, hL.le_, hL.lt_, hL.ge_, hL.ln_, hL.mm_, hc, Int.toNat_natCast, true_and, and_true, *]; first | done | omega)
      refine Run.ret ?_
      refine Eq.trans (b := some _) (by cbv) ?_
      have hr : cm .eql (ln il) (ln im) = res := by
        rw [hL.eql, hll, hlm, hres]
        refine decide_eq_decide.2 ⟨fun e => ?_, fun e => by rw [e]⟩
        have e1 : l.take i = l := List.take_of_length_le (by omega)
        have e2 : m.take i = m := List.take_of_length_le (by omega)
        rw [← e1, ← e2, hp]
      rw [hr]; rfl

set_option maxRecDepth 8000 in
theorem eqQuery_ac (p0 : Int) (p1 : List C3) (p2 : Int) (p3 : Bool) (p4 : Int) (p5 : List Int) (p6 : Bool) (p7 p8 : Int) (kp1 kp5 : Bool) (q0 : Int) (q1 : List C3) (q2 : Int) (q3 : Bool) (q4 : Int) (q5 : List Int) (q6 : Bool) (q7 q8 : Int) (kq1 kq5 : Bool) (hp1 : p1.length ≤ 9223372036854775807) (hp5 : p5.length ≤ 9223372036854775807) (hq1 : q1.length ≤ 9223372036854775807) (hq5 : q5.length ≤ 9223372036854775807) : AC Try.prog 13 [.ag [.s (.int .i64 p0), .im kp1 (conds p1), .s (.int .i64 p2), .s (.bool p3), .s (.int .i64 p4), .im kp5 (ints p5), .s (.bool p6), .s (.int .i64 p7), .s (.int .i64 p8)], .ag [.s (.int .i64 q0), .im kq1 (conds q1), .s (.int .i64 q2), .s (.bool q3), .s (.int .i64 q4), .im kq5 (ints q5), .s (.bool q6), .s (.int .i64 q7), .s (.int .i64 q8)]] [.ag [.jk, .jk, .jk, .jk, .jk, .jk, .jk, .jk, .jk], .ag [.jk, .jk, .jk, .jk, .jk, .jk, .jk, .jk, .jk]] [.v (.s (.bool (decide (p0 = q0 ∧ p1 = q1 ∧ p2 = q2 ∧ p3 = q3 ∧ p4 = q4 ∧ p5 = q5 ∧ p6 = q6 ∧ p7 = q7 ∧ p8 = q8))))] := by
  refine intro_L fun ar cm bo sc sa sx ss sl bs sb ln sr ap up rp fr ge le lt nz mm ma sm fl al hL => ?_
  obtain ⟨ip1, hip1⟩ : ∃ gx_, gx_ = conds p1 := ⟨_, rfl⟩
  obtain ⟨ip5, hip5⟩ : ∃ gx_, gx_ = ints p5 := ⟨_, rfl⟩
  obtain ⟨iq1, hiq1⟩ : ∃ gx_, gx_ = conds q1 := ⟨_, rfl⟩
  obtain ⟨iq5, hiq5⟩ : ∃ gx_, gx_ = ints q5 := ⟨_, rfl⟩
  obtain ⟨res, hres⟩ : ∃ gx_, gx_ = decide (p0 = q0 ∧ p1 = q1 ∧ p2 = q2 ∧ p3 = q3 ∧ p4 = q4 ∧ p5 = q5 ∧ p6 = q6 ∧ p7 = q7 ∧ p8 = q8) := ⟨_, rfl⟩
  obtain ⟨d1, hd1⟩ : ∃ gx_, gx_ = decide (p1 = q1) := ⟨_, rfl⟩
  obtain ⟨d5, hd5⟩ : ∃ gx_, gx_ = decide (p5 = q5) := ⟨_, rfl⟩
  rw [← hip1, ← hip5, ← hiq1, ← hiq5, ← hres]
  obtain ⟨c, hc⟩ : ∃ c : Nat → Int, ∀ n, c n = (n : Int) := ⟨_, fun _ => rfl⟩
  refine AC.of_run tab_ok Try.func13 (by rfl) (by rfl) (by cbv) ⟨by decide, rfl⟩ fun F hP hA => ?_
  have hT : TabOk F.P tab := hP ▸ tab_ok
  have hM : F.P.follows .mixedOrders = true := hP ▸ mixed
  have hC : ∀ {f a o r}, AC Try.prog f a o r → AC F.P f a o r := fun h => hP ▸ h
  refine Run.seq ?_
  refine Run.region hL.hL hT [] (by cbv) ?_ ?_
  · first | trivial | (simp only [AllP, allPs, List.cons_append, List.nil_append, List.append_nil, true_and, and_true]; done) | (simp only [AllP, allPs, List.cons_append, List.nil_append, hL.le_, hL.lt_, hL.ge_, hL.ln_, hL.mm_, hc, Int.toNat_natCast, true_and, and_true, *]; first | done | omega)
  refine Run.seq ?_
  refine Run.seq ?_
  refine Run.region hL.hL hT [] (by cbv) ?_ ?_
  · first | trivial | (simp only [AllP, allPs, List.cons_append, List.nil_append, List.append_nil, true_and, and_true]; done) | (simp only [AllP, allPs, List.cons_append, List.nil_append, hL.le_, hL.lt_, hL.ge_, hL.ln_, hL.mm_, hc, Int.toNat_natCast, true_and, and_true, *]; first | done | omega)
  refine Run.cond (by cbv) ?_ (fun ht9 => ?_) (fun ht9 => ?_)
  · simp only [AllP]
  · skip
    simp only [hL.neq, hL.eql, hL.bo_, decide_eq_true_eq, ne_eq] at ht9
    refine Run.seq ?_
    refine Run.region hL.hL hT [] (by cbv) ?_ ?_
    · first | trivial | (simp only [AllP, allPs, List.cons_append, List.nil_append, List.append_nil, true_and, and_true]; done) | (simp only [AllP, allPs, List.cons_append, List.nil_append, hL.le_, hL.lt_, hL.ge_, hL.ln_, hL.mm_, hc, Int.toNat_natCast, true_and, and_true, *]; first | done | omega)
    refine Run.ret ?_
    refine Eq.trans (b := some _) (by cbv) ?_
    have hr : res = false := by
      rw [hres, decide_eq_false_iff_not]
      clear hL hC hA hM hT
      cases p3 <;> cases q3 <;> cases p6 <;> cases q6 <;> simp_all
    rw [hr]; rfl
  · skip
    simp only [hL.neq, hL.eql, hL.bo_, decide_eq_false_iff_not, ne_eq] at ht9
    refine Run.skip ?_
    refine Run.seq ?_
    refine Run.seq ?_
    refine Run.region hL.hL hT [(4, .call [false, false] [.v .jk, .v .jk] [.v (.s (.bool d1))])] (by cbv) ?_ ?_
    · simp only [AllP, allPs, List.cons_append, List.nil_append, true_and, and_true]
      refine hC ?_
      rw [hip1, hiq1, hd1]
      exact eqCondS_ac p1 q1 hp1 hq1 false false
    refine Run.cond (by cbv) ?_ (fun ht15 => ?_) (fun ht15 => ?_)
    · simp only [AllP]
    · skip
      simp only [hL.neq, hL.eql, hL.bo_, decide_eq_true_eq, ne_eq] at ht15
      refine Run.seq ?_
      refine Run.region hL.hL hT [] (by cbv) ?_ ?_
      · first | trivial | (simp only [AllP, allPs, List.cons_append, List.nil_append, List.append_nil, true_and, and_true]; done) | (simp only [AllP, allPs, List.cons_append, List.nil_append, hL.le_, hL.lt_, hL.ge_, hL.ln_, hL.mm_, hc, Int.toNat_natCast, true_and, and_true, *]; first | done | omega)
      refine Run.ret ?_
      refine Eq.trans (b := some _) (by cbv) ?_
      have hr : res = false := by
        rw [hres, decide_eq_false_iff_not]
        clear hL hC hA hM hT
        cases p3 <;> cases q3 <;> cases p6 <;> cases q6 <;> simp_all
      rw [hr]; rfl
    · skip
      simp only [hL.neq, hL.eql, hL.bo_, decide_eq_false_iff_not, ne_eq] at ht15
      refine Run.skip ?_
      refine Run.seq ?_
      refine Run.seq ?_
      refine Run.region hL.hL hT [] (by cbv) ?_ ?_
      · first | trivial | (simp only [AllP, allPs, List.cons_append, List.nil_append, List.append_nil, true_and, and_true]; done) | (simp only [AllP, allPs, List.cons_append, List.nil_append, hL.le_, hL.lt_, hL.ge_, hL.ln_, hL.mm_, hc, Int.toNat_natCast, true_and, and_true, *]; first | done | omega)
      refine Run.cond (by cbv) ?_ (fun ht20 => ?_) (fun ht20 => ?_)
      · simp only [AllP]
      · skip
        simp only [hL.neq, hL.eql, hL.bo_, decide_eq_true_eq, ne_eq] at ht20
        refine Run.seq ?_
        refine Run.region hL.hL hT [] (by cbv) ?_ ?_
        · first | trivial | (simp only [AllP, allPs, List.cons_append, List.nil_append, List.append_nil, true_and, and_true]; done) | (simp only [AllP, allPs, List.cons_append, List.nil_append, hL.le_, hL.lt_, hL.ge_, hL.ln_, hL.mm_, hc, Int.toNat_natCast, true_and, and_true, *]; first | done | omega)
        refine Run.ret ?_
        refine Eq.trans (b := some _) (by cbv) ?_
        have hr : res = false := by
          rw [hres, decide_eq_false_iff_not]
          clear hL hC hA hM hT
          cases p3 <;> cases q3 <;> cases p6 <;> cases q6 <;> simp_all
        rw [hr]; rfl
      · skip
        simp only [hL.neq, hL.eql, hL.bo_, decide_eq_false_iff_not, ne_eq] at ht20
        refine Run.skip ?_
        refine Run.seq ?_
        refine Run.seq ?_
        refine Run.region hL.hL hT [] (by cbv) ?_ ?_
        · first | trivial | (simp only [AllP, allPs, List.cons_append, List.nil_append, List.append_nil, true_and, and_true]; done) | (simp only [AllP, allPs, List.cons_append, List.nil_append, hL.le_, hL.lt_, hL.ge_, hL.ln_, hL.mm_, hc, Int.toNat_natCast, true_and, and_true, *]; first | done | omega)
        refine Run.cond (by cbv) ?_ (fun ht25 => ?_) (fun ht25 => ?_)
        · simp only [AllP]
        · skip
          simp only [hL.neq, hL.eql, hL.bo_, decide_eq_true_eq, ne_eq] at ht25
          refine Run.seq ?_
          refine Run.region hL.hL hT [] (by cbv) ?_ ?_
          · first | trivial | (simp only [AllP, allPs, List.cons_append, List.nil_append, List.append_nil, true_and, and_true]; done) | (simp only [AllP, allPs, List.cons_append, List.nil_append, hL.le_, hL.lt_, hL.ge_, hL.ln_, hL.mm_, hc, Int.toNat_natCast, true_and, and_true, *]; first | done | omega)
          refine Run.ret ?_
          refine Eq.trans (b := some _) (by cbv) ?_
          have hr : res = false := by
            rw [hres, decide_eq_false_iff_not]
            clear hL hC hA hM hT
            cases p3 <;> cases q3 <;> cases p6 <;> cases q6 <;> simp_all
          rw [hr]; rfl
        · skip
          simp only [hL.neq, hL.eql, hL.bo_, decide_eq_false_iff_not, ne_eq] at ht25
          refine Run.skip ?_
          refine Run.seq ?_
          refine Run.seq ?_
          refine Run.region hL.hL hT [] (by cbv) ?_ ?_
          · first | trivial | (simp only [AllP, allPs, List.cons_append, List.nil_append, List.append_nil, true_and, and_true]; done) | (simp only [AllP, allPs, List.cons_append, List.nil_append, hL.le_, hL.lt_, hL.ge_, hL.ln_, hL.mm_, hc, Int.toNat_natCast, true_and, and_true, *]; first | done | omega)
          refine Run.cond (by cbv) ?_ (fun ht30 => ?_) (fun ht30 => ?_)
          · simp only [AllP]
          · skip
            simp only [hL.neq, hL.eql, hL.bo_, decide_eq_true_eq, ne_eq] at ht30
            refine Run.seq ?_
            refine Run.region hL.hL hT [] (by cbv) ?_ ?_
            · first | trivial | (simp only [AllP, allPs, List.cons_append, List.nil_append, List.append_nil, true_and, and_true]; done) | (simp only [AllP, allPs, List.cons_append, List.nil_append, hL.le_, hL.lt_, hL.ge_, hL.ln_, hL.mm_, hc, Int.toNat_natCast, true_and, and_true, *]; first | done | omega)
            refine Run.ret ?_
            refine Eq.trans (b := some _) (by cbv) ?_
            have hr : res = false := by
              rw [hres, decide_eq_false_iff_not]
              clear hL hC hA hM hT
              cases p3 <;> cases q3 <;> cases p6 <;> cases q6 <;> simp_all
            rw [hr]; rfl
          · skip
            simp only [hL.neq, hL.eql, hL.bo_, decide_eq_false_iff_not, ne_eq] at ht30
            refine Run.skip ?_
            refine Run.seq ?_
            refine Run.seq ?_
            refine Run.region hL.hL hT [(4, .call [false, false] [.v .jk, .v .jk] [.v (.s (.bool d5))])] (by cbv) ?_ ?_
            · simp only [AllP, allPs, List.cons_append, List.nil_append, true_and, and_true]
              refine hC ?_
              rw [hip5, hiq5, hd5]
              exact eqIntS_ac p5 q5 hp5 hq5 false false
            refine Run.cond (by cbv) ?_ (fun ht36 => ?_) (fun ht36 => ?_)
            · simp only [AllP]
            · skip
              simp only [hL.neq, hL.eql, hL.bo_, decide_eq_true_eq, ne_eq] at ht36
              refine Run.seq ?_
              refine Run.region hL.hL hT [] (by cbv) ?_ ?_
              · first | trivial | (simp only [AllP, allPs, List.cons_append, List.nil_append, List.append_nil, true_and, and_true]; done) | (simp only [AllP, allPs, List.cons_append, List.nil_append, hL.le_, hL.lt_, hL.ge_, hL.ln_, hL.mm_, hc, Int.toNat_natCast, true_and, and_true, *]; first | done | omega)
              refine Run.ret ?_
              refine Eq.trans (b := some _) (by cbv) ?_
              have hr : res = false := by
                rw [hres, decide_eq_false_iff_not]
                clear hL hC hA hM hT
                cases p3 <;> cases q3 <;> cases p6 <;> cases q6 <;> simp_all
              rw [hr]; rfl
            · skip
              simp only [hL.neq, hL.eql, hL.bo_, decide_eq_false_iff_not, ne_eq] at ht36
              refine Run.skip ?_
              refine Run.seq ?_
              refine Run.seq ?_
              refine Run.region hL.hL hT [] (by cbv) ?_ ?_
              · first | trivial | (simp only [AllP, allPs, List.cons_append, List.nil_append, List.append_nil, true_and, and_true]; done) | (simp only [AllP, allPs, List.cons_append, List.nil_append, hL.le_, hL.lt_, hL.ge_, hL.ln_, hL.mm_, hc, Int.toNat_natCast, true_and, and_true, *]; first | done | omega)
              refine Run.cond (by cbv) ?_ (fun ht41 => ?_) (fun ht41 => ?_)
              · simp only [AllP]
              · skip
                simp only [hL.neq, hL.eql, hL.bo_, decide_eq_true_eq, ne_eq] at ht41
                refine Run.seq ?_
                refine Run.region hL.hL hT [] (by cbv) ?_ ?_
                · first | trivial | (simp only [AllP, allPs, List.cons_append, List.nil_append, List.append_nil, true_and, and_true]; done) | (simp only [AllP, allPs, List.cons_append, List.nil_append, hL.le_, hL.lt_, hL.ge_, hL.ln_, hL.mm_, hc, Int.toNat_natCast, true_and, and_true, *]; first | done | omega)
                refine Run.ret ?_
                refine Eq.trans (b := some _) (by cbv) ?_
                have hr : res = false := by
                  rw [hres, decide_eq_false_iff_not]
                  clear hL hC hA hM hT
                  cases p3 <;> cases q3 <;> cases p6 <;> cases q6 <;> simp_all
                rw [hr]; rfl
              · skip
                simp only [hL.neq, hL.eql, hL.bo_, decide_eq_false_iff_not, ne_eq] at ht41
                refine Run.skip ?_
                refine Run.seq ?_
                refine Run.seq ?_
                refine Run.region hL.hL hT [] (by cbv) ?_ ?_
                · first | trivial | (simp only [AllP, allPs, List.cons_append, List.nil_append, List.append_nil, true_and, and_true]; done) | (simp only [AllP, allPs, List.cons_append, List.nil_append, hL.le_, hL.lt_, hL.ge_, hL.ln_, hL.mm_, hc, Int.toNat_natCast, true_and, and_true, *]; first | done | omega)
                refine Run.cond (by cbv) ?_ (fun ht46 => ?_) (fun ht46 => ?_)
                · simp only [AllP]
                · skip
                  simp only [hL.neq, hL.eql, hL.bo_, decide_eq_true_eq, ne_eq] at ht46
                  refine Run.seq ?_
                  refine Run.region hL.hL hT [] (by cbv) ?_ ?_
                  · first | trivial | (simp only [AllP, allPs, List.cons_append, List.nil_append, List.append_nil, true_and, and_true]; done) | (simp only [AllP, allPs, List.cons_append, List.nil_append, hL.le_, hL.lt_, hL.ge_, hL.ln_, hL.mm_, hc, Int.toNat_natCast, true_and, and_true, *]; first | done | omega)
                  refine Run.ret ?_
                  refine Eq.trans (b := some _) (by cbv) ?_
                  have hr : res = false := by
                    rw [hres, decide_eq_false_iff_not]
                    clear hL hC hA hM hT
                    cases p3 <;> cases q3 <;> cases p6 <;> cases q6 <;> simp_all
                  rw [hr]; rfl
                · skip
                  simp only [hL.neq, hL.eql, hL.bo_, decide_eq_false_iff_not, ne_eq] at ht46
                  refine Run.skip ?_
                  refine Run.seq ?_
                  refine Run.seq ?_
                  refine Run.region hL.hL hT [] (by cbv) ?_ ?_
                  · first | trivial | (simp only [AllP, allPs, List.cons_append, List.nil_append, List.append_nil, true_and, and_true]; done) | (simp only [AllP, allPs, List.cons_append, List.nil_append, hL.le_, hL.lt_, hL.ge_, hL.ln_, hL.mm_, hc, Int.toNat_natCast, true_and, and_true, *]; first | done | omega)
                  refine Run.cond (by cbv) ?_ (fun ht51 => ?_) (fun ht51 => ?_)
                  · simp only [AllP]
                  · skip
                    simp only [hL.neq, hL.eql, hL.bo_, decide_eq_true_eq, ne_eq] at ht51
                    refine Run.seq ?_
                    refine Run.region hL.hL hT [] (by cbv) ?_ ?_
                    · first | trivial | (simp only [AllP, allPs, List.cons_append, List.nil_append, List.append_nil, true_and, and_true]; done) | (simp only [AllP, allPs, List.cons_append, List.nil_append, hL.le_, hL.lt_, hL.ge_, hL.ln_, hL.mm_, hc, Int.toNat_natCast, true_and, and_true, *]; first | done | omega)
                    refine Run.ret ?_
                    refine Eq.trans (b := some _) (by cbv) ?_
                    have hr : res = false := by
                      rw [hres, decide_eq_false_iff_not]
                      clear hL hC hA hM hT
                      cases p3 <;> cases q3 <;> cases p6 <;> cases q6 <;> simp_all
                    rw [hr]; rfl
                  · skip
                    simp only [hL.neq, hL.eql, hL.bo_, decide_eq_false_iff_not, ne_eq] at ht51
                    refine Run.skip ?_
                    refine Run.seq ?_
                    refine Run.region hL.hL hT [] (by cbv) ?_ ?_
                    · first | trivial | (simp only [AllP, allPs, List.cons_append, List.nil_append, List.append_nil, true_and, and_true]; done) | (simp only [AllP, allPs, List.cons_append, List.nil_append, hL.le_, hL.lt_, hL.ge_, hL.ln_, hL.mm_, hc, Int.toNat_natCast, true_and, and_true, *]; first | done | omega)
                    refine Run.ret ?_
                    refine Eq.trans (b := some _) (by cbv) ?_
                    have hr : res = true := by
                      rw [hres, decide_eq_true_eq]
                      clear hL hC hA hM hT
                      cases p3 <;> cases q3 <;> cases p6 <;> cases q6 <;> simp_all
                    rw [hr]; rfl

set_option maxRecDepth 8000 in
theorem specQuerySame_ac (p0 : Int) (p1 : List C3) (p2 : Int) (p3 : Bool) (p4 : Int) (p5 : List Int) (p6 : Bool) (p7 p8 : Int) (kp1 kp5 : Bool) (q0 : Int) (q1 : List C3) (q2 : Int) (q3 : Bool) (q4 : Int) (q5 : List Int) (q6 : Bool) (q7 q8 : Int) (kq1 kq5 : Bool) (hp1 : p1.length ≤ 9223372036854775807) (hp5 : p5.length ≤ 9223372036854775807) (hq1 : q1.length ≤ 9223372036854775807) (hq5 : q5.length ≤ 9223372036854775807) : AC Try.prog 10 [.ag [.s (.int .i64 p0), .im kp1 (conds p1), .s (.int .i64 p2), .s (.bool p3), .s (.int .i64 p4), .im kp5 (ints p5), .s (.bool p6), .s (.int .i64 p7), .s (.int .i64 p8)], .ag [.s (.int .i64 q0), .im kq1 (conds q1), .s (.int .i64 q2), .s (.bool q3), .s (.int .i64 q4), .im kq5 (ints q5), .s (.bool q6), .s (.int .i64 q7), .s (.int .i64 q8)]] [.ag [.jk, .jk, .jk, .jk, .jk, .jk, .jk, .jk, .jk], .ag [.jk, .jk, .jk, .jk, .jk, .jk, .jk, .jk, .jk]] [.v (.s (.bool (decide (p0 = q0 ∧ p1 = q1 ∧ p2 = q2 ∧ p3 = q3 ∧ p4 = q4 ∧ p5 = q5 ∧ p6 = q6 ∧ p7 = q7 ∧ p8 = q8))))] := by
  refine intro_L fun ar cm bo sc sa sx ss sl bs sb ln sr ap up rp fr ge le lt nz mm ma sm fl al hL => ?_
  obtain ⟨ip1, hip1⟩ : ∃ gx_, gx_ = conds p1 := ⟨_, rfl⟩
  obtain ⟨ip5, hip5⟩ : ∃ gx_, gx_ = ints p5 := ⟨_, rfl⟩
  obtain ⟨iq1, hiq1⟩ : ∃ gx_, gx_ = conds q1 := ⟨_, rfl⟩
  obtain ⟨iq5, hiq5⟩ : ∃ gx_, gx_ = ints q5 := ⟨_, rfl⟩
  obtain ⟨res, hres⟩ : ∃ gx_, gx_ = decide (p0 = q0 ∧ p1 = q1 ∧ p2 = q2 ∧ p3 = q3 ∧ p4 = q4 ∧ p5 = q5 ∧ p6 = q6 ∧ p7 = q7 ∧ p8 = q8) := ⟨_, rfl⟩
  obtain ⟨d1, hd1⟩ : ∃ gx_, gx_ = decide (p1 = q1) := ⟨_, rfl⟩
  obtain ⟨d5, hd5⟩ : ∃ gx_, gx_ = decide (p5 = q5) := ⟨_, rfl⟩
  rw [← hip1, ← hip5, ← hiq1, ← hiq5, ← hres]
  obtain ⟨c, hc⟩ : ∃ c : Nat → Int, ∀ n, c n = (n : Int) := ⟨_, fun _ => rfl⟩
  refine AC.of_run tab_ok Try.func10 (by rfl) (by rfl) (by cbv) ⟨by decide, rfl⟩ fun F hP hA => ?_
  have hT : TabOk F.P tab := hP ▸ tab_ok
  have hM : F.P.follows .mixedOrders = true := hP ▸ mixed
  have hC : ∀ {f a o r}, AC Try.prog f a o r → AC F.P f a o r := fun h => hP ▸ h
  refine Run.seq ?_
  refine Run.region hL.hL hT [] (by cbv) ?_ ?_
  · first | trivial | (simp only [AllP, allPs, List.cons_append, List.nil_append, List.append_nil, true_and, and_true]; done) | (simp only [AllP, allPs, List.cons_append, List.nil_append, hL.le_, hL.lt_, hL.ge_, hL.ln_, hL.mm_, hc, Int.toNat_natCast, true_and, and_true, *]; first | done | omega)
  refine Run.seq ?_
  refine Run.region hL.hL hT [(10, .call [false, false] [.v .jk, .v .jk] [.v (.s (.bool d1))]), (38, .call [false, false] [.v .jk, .v .jk] [.v (.s (.bool d5))])] (by cbv) ?_ ?_
  · have a1 := hC (l9Conds_ac p1 q1 hp1 hq1 false false)
    have a5 := hC (l9Ints_ac p5 q5 hp5 hq5 false false)
    rw [← hip1, ← hiq1, ← hd1] at a1
    rw [← hip5, ← hiq5, ← hd5] at a5
    simp +contextual only [AllP, and_self, and_true, true_and, implies_true]
    exact ⟨fun _ => a1, fun _ => a5⟩
  refine Run.ret ?_
  refine Eq.trans (b := some _) (by cbv) ?_
  refine congrArg (fun b => some (_, [A.v (T.s (Value.bool b))])) ?_
  rw [hres, hd1, hd5]
  simp only [hL.bo_, hL.eql]
  clear hL hC hA hM hT
  refine Bool.eq_iff_iff.2 ?_
  cases p3 <;> cases q3 <;> cases p6 <;> cases q6 <;> simp [and_assoc]

set_option maxRecDepth 8000 in
theorem seqInt_ac (l m : List Int) (hl : l.length ≤ 9223372036854775807) (hm : m.length ≤ 9223372036854775807) (k k' : Bool) : AC Try.prog 44 [.v (.im k (ints l)), .v (.im k' (ints m))] [.v .jk, .v .jk] [.v (.s (.bool (decide (l = m))))] := by
  refine intro_L fun ar cm bo sc sa sx ss sl bs sb ln sr ap up rp fr ge le lt nz mm ma sm fl al hL => ?_
  obtain ⟨il, hil⟩ : ∃ gx_, gx_ = ints l := ⟨_, rfl⟩
  obtain ⟨im, him⟩ : ∃ gx_, gx_ = ints m := ⟨_, rfl⟩
  obtain ⟨res, hres⟩ : ∃ gx_, gx_ = decide (l = m) := ⟨_, rfl⟩
  rw [← hil, ← him, ← hres]
  obtain ⟨c, hc⟩ : ∃ c : Nat → Int, ∀ n, c n = (n : Int) := ⟨_, fun _ => rfl⟩
  refine AC.of_run tab_ok Try.func44 (by rfl) (by rfl) (by cbv) ⟨by decide, rfl⟩ fun F hP hA => ?_
  have hT : TabOk F.P tab := hP ▸ tab_ok
  have hM : F.P.follows .mixedOrders = true := hP ▸ mixed
  have hC : ∀ {f a o r}, AC Try.prog f a o r → AC F.P f a o r := fun h => hP ▸ h
  have hll : ln il = l.length := by rw [hil, hL.ln_, ints_len]
  have hlm : ln im = m.length := by rw [him, hL.ln_, ints_len]
  refine Run.seq ?_
  refine Run.region hL.hL hT [] (by cbv) ?_ ?_
  · first | trivial | (simp only [AllP, allPs, List.cons_append, List.nil_append, List.append_nil, true_and, and_true]; done) | (simp only [AllP, allPs, List.cons_append, List.nil_append, hL.le_, hL.lt_, hL.ge_, hL.ln_, hL.mm_, hc, Int.toNat_natCast, true_and, and_true, *]; first | done | omega)
  refine Run.seq ?_
  refine Run.seq ?_
  refine Run.region hL.hL hT [] (by cbv) ?_ ?_
  · first | trivial | (simp only [AllP, allPs, List.cons_append, List.nil_append, List.append_nil, true_and, and_true]; done) | (simp only [AllP, allPs, List.cons_append, List.nil_append, hL.le_, hL.lt_, hL.ge_, hL.ln_, hL.mm_, hc, Int.toNat_natCast, true_and, and_true, *]; first | done | omega)
  refine Run.cond (by cbv) ?_ (fun ht10 => ?_) (fun ht10 => ?_)
  · simp only [AllP]
  · skip
    rw [hL.neq, hll, hlm, decide_eq_true_eq] at ht10
    have hr : res = false := by rw [hres, decide_eq_false_iff_not]; rintro rfl; exact ht10 rfl
    refine Run.seq ?_
    refine Run.region hL.hL hT [] (by cbv) ?_ ?_
    · first | trivial | (simp only [AllP, allPs, List.cons_append, List.nil_append, List.append_nil, true_and, and_true]; done) | (simp only [AllP, allPs, List.cons_append, List.nil_append, hL.le_, hL.lt_, hL.ge_, hL.ln_, hL.mm_, hc, Int.toNat_natCast, true_and, and_true, *]; first | done | omega)
    refine Run.ret ?_
    refine Eq.trans (b := some _) (by cbv) ?_
    rw [hr]; rfl
  · skip
    rw [hL.neq, hll, hlm, decide_eq_false_iff_not] at ht10
    refine Run.skip ?_
    refine Run.seq ?_
    refine Run.seq ?_
    refine Run.region hL.hL hT [] (by cbv) ?_ ?_
    · first | trivial | (simp only [AllP, allPs, List.cons_append, List.nil_append, List.append_nil, true_and, and_true]; done) | (simp only [AllP, allPs, List.cons_append, List.nil_append, hL.le_, hL.lt_, hL.ge_, hL.ln_, hL.mm_, hc, Int.toNat_natCast, true_and, and_true, *]; first | done | omega)
    refine Run.block ?_
    refine Run.loop (α := Nat) (fun i => ⟨26, 100000, [(0, .t (.im k il)), (1, .t (.im k' im)), (12, .t (.s (.int .i64 (c l.length)))), (13, .t (.s (.int .i64 (c i))))], []⟩) (fun i => i ≤ l.length ∧ l.take i = m.take i) (fun i => l.length - i) (0) ?_ ?_ ?_
    · refine Weak.of _ [] hA (by cbv) ?_
      simp only [AllP, hc, hll, Int.natCast_zero, and_self]
    · exact ⟨Nat.zero_le _, rfl⟩
    · intro i ⟨hi, hp⟩
      refine Run.seq ?_
      refine Run.region hL.hL hT [] (by cbv) ?_ ?_
      · first | trivial | (simp only [AllP, allPs, List.cons_append, List.nil_append, List.append_nil, true_and, and_true]; done) | (simp only [AllP, allPs, List.cons_append, List.nil_append, hL.le_, hL.lt_, hL.ge_, hL.ln_, hL.mm_, hc, Int.toNat_natCast, true_and, and_true, *]; first | done | omega)
      refine Run.seq ?_
      refine Run.cond (by cbv) ?_ (fun ht14 => ?_) (fun ht14 => ?_)
      · simp only [AllP]
      · skip
        rw [hL.lss, hc, hc, decide_eq_true_eq] at ht14
        obtain ⟨x, hx⟩ := at_some (l := l) (i := i) (by omega)
        obtain ⟨y, hy⟩ := at_some (l := m) (i := i) (by omega)
        have hgx : il.getD i [] = [.s (.int .i64 x)] := by rw [hil, ints_at hx]
        have hgy : im.getD i [] = [.s (.int .i64 y)] := by rw [him, ints_at hy]
        refine Run.skip ?_
        refine Run.seq ?_
        refine Run.block ?_
        refine Run.seq ?_
        refine Run.region hL.hL hT [] (by cbv) ?_ ?_
        · first | trivial | (simp only [AllP, allPs, List.cons_append, List.nil_append, List.append_nil, true_and, and_true]; done) | (simp only [AllP, allPs, List.cons_append, List.nil_append, hL.le_, hL.lt_, hL.ge_, hL.ln_, hL.mm_, hc, Int.toNat_natCast, true_and, and_true, *]; first | done | omega)
        refine Run.seq ?_
        refine Run.draw hL.hL hT hM [(2, .el [.s (.int .i64 x)]), (6, .el [.s (.int .i64 y)])] (by cbv) (by cbv) (by cbv) (by cbv) (by cbv) ?_ ?_
        · simp only [AllP, allPs, List.cons_append, List.nil_append, hL.le_, hL.lt_, hL.ge_, hc, hll, hlm, hgx, hgy, Int.toNat_natCast, true_and, and_true]
          omega
        refine Run.cond (by cbv) ?_ (fun ht24 => ?_) (fun ht24 => ?_)
        · simp only [AllP]
        · skip
          rw [hL.neq, decide_eq_true_eq] at ht24
          have hr : res = false := by
            rw [hres, decide_eq_false_iff_not]
            rintro rfl
            rw [hx] at hy
            exact ht24 (Option.some.inj hy)
          refine Run.seq ?_
          refine Run.region hL.hL hT [] (by cbv) ?_ ?_
          · first | trivial | (simp only [AllP, allPs, List.cons_append, List.nil_append, List.append_nil, true_and, and_true]; done) | (simp only [AllP, allPs, List.cons_append, List.nil_append, hL.le_, hL.lt_, hL.ge_, hL.ln_, hL.mm_, hc, Int.toNat_natCast, true_and, and_true, *]; first | done | omega)
          refine Run.ret ?_
          refine Eq.trans (b := some _) (by cbv) ?_
          rw [hr]; rfl
        · skip
          rw [hL.neq, decide_eq_false_iff_not] at ht24
          have hxy : x = y := by omega
          refine Run.skip ?_
          refine Run.region hL.hL hT [] (by cbv) ?_ ?_
          · first | trivial | (simp only [AllP, allPs, List.cons_append, List.nil_append, List.append_nil, true_and, and_true]; done) | (simp only [AllP, allPs, List.cons_append, List.nil_append, hL.le_, hL.lt_, hL.ge_, hL.ln_, hL.mm_, hc, Int.toNat_natCast, true_and, and_true, *]; first | done | omega)
          refine ⟨i + 1, by omega, by refine ⟨by omega, ?_⟩; rw [List.take_add_one, List.take_add_one, hp, hx, hy, hxy], Weak.of _ [] hA (by cbv) ?_⟩
          simp only [AllP, hc, hL.add, true_and, and_true]
          rw [wrap64 (by omega)]; rfl
      · skip
        rw [hL.lss, hc, hc, decide_eq_false_iff_not] at ht14
        refine Run.exit ?_
        refine Run.seq ?_
        refine Run.region hL.hL hT [] (by cbv) ?_ ?_
        · first | trivial | (simp only [AllP, allPs, List.cons_append, List.nil_append, List.append_nil, true_and, and_true]; done) | (simp only [AllP, allPs, List.cons_append, List.nil_append, hL.le_, hL.lt_, hL.ge_, hL.ln_, hL.mm_, hc, Int.toNat_natCast, true_and, and_true, *]; first | done | omega)
        refine Run.ret ?_
        refine Eq.trans (b := some _) (by cbv) ?_
        have hr : res = true := by
          rw [hres, decide_eq_true_eq]
          have e1 : l.take i = l := List.take_of_length_le (by omega)
          have e2 : m.take i = m := List.take_of_length_le (by omega)
          rw [← e1, ← e2, hp]
        rw [hr]; rfl

set_option maxRecDepth 8000 in
theorem seqCond_ac (l m : List C3) (hl : l.length ≤ 9223372036854775807) (hm : m.length ≤ 9223372036854775807) (k k' : Bool) : AC Try.prog 43 [.v (.im k (conds l)), .v (.im k' (conds m))] [.v .jk, .v .jk] [.v (.s (.bool (decide (l = m))))] := by
  refine intro_L fun ar cm bo sc sa sx ss sl bs sb ln sr ap up rp fr ge le lt nz mm ma sm fl al hL => ?_
  obtain ⟨il, hil⟩ : ∃ gx_, gx_ = conds l := ⟨_, rfl⟩
  obtain ⟨im, him⟩ : ∃ gx_, gx_ = conds m := ⟨_, rfl⟩
  obtain ⟨res, hres⟩ : ∃ gx_, gx_ = decide (l = m) := ⟨_, rfl⟩
  rw [← hil, ← him, ← hres]
  obtain ⟨c, hc⟩ : ∃ c : Nat → Int, ∀ n, c n = (n : Int) := ⟨_, fun _ => rfl⟩
  refine AC.of_run tab_ok Try.func43 (by rfl) (by rfl) (by cbv) ⟨by decide, rfl⟩ fun F hP hA => ?_
  have hT : TabOk F.P tab := hP ▸ tab_ok
  have hM : F.P.follows .mixedOrders = true := hP ▸ mixed
  have hC : ∀ {f a o r}, AC Try.prog f a o r → AC F.P f a o r := fun h => hP ▸ h
  have hll : ln il = l.length := by rw [hil, hL.ln_, conds_len]
  have hlm : ln im = m.length := by rw [him, hL.ln_, conds_len]
  refine Run.seq ?_
  refine Run.region hL.hL hT [] (by cbv) ?_ ?_
  · first | trivial | (simp only [AllP, allPs, List.cons_append, List.nil_append, List.append_nil, true_and, and_true]; done) | (simp only [AllP, allPs, List.cons_append, List.nil_append, hL.le_, hL.lt_, hL.ge_, hL.ln_, hL.mm_, hc, Int.toNat_natCast, true_and, and_true, *]; first | done | omega)
  refine Run.seq ?_
  refine Run.seq ?_
  refine Run.region hL.hL hT [] (by cbv) ?_ ?_
  · first | trivial | (simp only [AllP, allPs, List.cons_append, List.nil_append, List.append_nil, true_and, and_true]; done) | (simp only [AllP, allPs, List.cons_append, List.nil_append, hL.le_, hL.lt_, hL.ge_, hL.ln_, hL.mm_, hc, Int.toNat_natCast, true_and, and_true, *]; first | done | omega)
  refine Run.cond (by cbv) ?_ (fun ht10 => ?_) (fun ht10 => ?_)
  · simp only [AllP]
  · skip
    rw [hL.neq, hll, hlm, decide_eq_true_eq] at ht10
    have hr : res = false := by rw [hres, decide_eq_false_iff_not]; rintro rfl; exact ht10 rfl
    refine Run.seq ?_
    refine Run.region hL.hL hT [] (by cbv) ?_ ?_
    · first | trivial | (simp only [AllP, allPs, List.cons_append, List.nil_append, List.append_nil, true_and, and_true]; done) | (simp only [AllP, allPs, List.cons_append, List.nil_append, hL.le_, hL.lt_, hL.ge_, hL.ln_, hL.mm_, hc, Int.toNat_natCast, true_and, and_true, *]; first | done | omega)
    refine Run.ret ?_
    refine Eq.trans (b := some _) (by cbv) ?_
    rw [hr]; rfl
  · skip
    rw [hL.neq, hll, hlm, decide_eq_false_iff_not] at ht10
    refine Run.skip ?_
    refine Run.seq ?_
    refine Run.seq ?_
    refine Run.region hL.hL hT [] (by cbv) ?_ ?_
    · first | trivial | (simp only [AllP, allPs, List.cons_append, List.nil_append, List.append_nil, true_and, and_true]; done) | (simp only [AllP, allPs, List.cons_append, List.nil_append, hL.le_, hL.lt_, hL.ge_, hL.ln_, hL.mm_, hc, Int.toNat_natCast, true_and, and_true, *]; first | done | omega)
    refine Run.block ?_
    refine Run.loop (α := Nat) (fun i => ⟨26, 100000, [(0, .t (.im k il)), (1, .t (.im k' im)), (12, .t (.s (.int .i64 (c l.length)))), (13, .t (.s (.int .i64 (c i))))], []⟩) (fun i => i ≤ l.length ∧ l.take i = m.take i) (fun i => l.length - i) (0) ?_ ?_ ?_
    · refine Weak.of _ [] hA (by cbv) ?_
      simp only [AllP, hc, hll, Int.natCast_zero, and_self]
    · exact ⟨Nat.zero_le _, rfl⟩
    · intro i ⟨hi, hp⟩
      refine Run.seq ?_
      refine Run.region hL.hL hT [] (by cbv) ?_ ?_
      · first | trivial | (simp only [AllP, allPs, List.cons_append, List.nil_append, List.append_nil, true_and, and_true]; done) | (simp only [AllP, allPs, List.cons_append, List.nil_append, hL.le_, hL.lt_, hL.ge_, hL.ln_, hL.mm_, hc, Int.toNat_natCast, true_and, and_true, *]; first | done | omega)
      refine Run.seq ?_
      refine Run.cond (by cbv) ?_ (fun ht14 => ?_) (fun ht14 => ?_)
      · simp only [AllP]
      · skip
        rw [hL.lss, hc, hc, decide_eq_true_eq] at ht14
        obtain ⟨⟨x, y, z⟩, hx⟩ := at_some (l := l) (i := i) (by omega)
        obtain ⟨⟨u, v, w⟩, hy⟩ := at_some (l := m) (i := i) (by omega)
        have hgx : il.getD i [] = [.s (.int .i64 x), .s (.int .i64 y), .s (.int .i64 z)] := by rw [hil, conds_at hx]
        have hgy : im.getD i [] = [.s (.int .i64 u), .s (.int .i64 v), .s (.int .i64 w)] := by rw [him, conds_at hy]
        refine Run.skip ?_
        refine Run.seq ?_
        refine Run.block ?_
        refine Run.seq ?_
        refine Run.region hL.hL hT [] (by cbv) ?_ ?_
        · first | trivial | (simp only [AllP, allPs, List.cons_append, List.nil_append, List.append_nil, true_and, and_true]; done) | (simp only [AllP, allPs, List.cons_append, List.nil_append, hL.le_, hL.lt_, hL.ge_, hL.ln_, hL.mm_, hc, Int.toNat_natCast, true_and, and_true, *]; first | done | omega)
        refine Run.seq ?_
        refine Run.draw hL.hL hT hM [(2, .el [.s (.int .i64 x), .s (.int .i64 y), .s (.int .i64 z)]), (6, .el [.s (.int .i64 u), .s (.int .i64 v), .s (.int .i64 w)])] (by cbv) (by cbv) (by cbv) (by cbv) (by cbv) ?_ ?_
        · simp only [AllP, allPs, List.cons_append, List.nil_append, hL.le_, hL.lt_, hL.ge_, hc, hll, hlm, hgx, hgy, Int.toNat_natCast, true_and, and_true]
          omega
        refine Run.cond (by cbv) ?_ (fun ht24 => ?_) (fun ht24 => ?_)
        · simp only [AllP]
        · skip
          simp only [hL.bo_, hL.eql] at ht24
          have hr : res = false := by
            rw [hres, decide_eq_false_iff_not]
            rintro rfl
            rw [hx] at hy
            have e := Option.some.inj hy
            simp only [Prod.mk.injEq] at e
            simp [e] at ht24
          refine Run.seq ?_
          refine Run.region hL.hL hT [] (by cbv) ?_ ?_
          · first | trivial | (simp only [AllP, allPs, List.cons_append, List.nil_append, List.append_nil, true_and, and_true]; done) | (simp only [AllP, allPs, List.cons_append, List.nil_append, hL.le_, hL.lt_, hL.ge_, hL.ln_, hL.mm_, hc, Int.toNat_natCast, true_and, and_true, *]; first | done | omega)
          refine Run.ret ?_
          refine Eq.trans (b := some _) (by cbv) ?_
          rw [hr]; rfl
        · skip
          simp only [hL.bo_, hL.eql] at ht24
          have hxy : x = u ∧ y = v ∧ z = w := by
            by_cases e1 : x = u <;> by_cases e2 : y = v <;> by_cases e3 : z = w <;> simp [e1, e2, e3] at ht24 ⊢
          refine Run.skip ?_
          refine Run.region hL.hL hT [] (by cbv) ?_ ?_
          · first | trivial | (simp only [AllP, allPs, List.cons_append, List.nil_append, List.append_nil, true_and, and_true]; done) | (simp only [AllP, allPs, List.cons_append, List.nil_append, hL.le_, hL.lt_, hL.ge_, hL.ln_, hL.mm_, hc, Int.toNat_natCast, true_and, and_true, *]; first | done | omega)
          refine ⟨i + 1, by omega, by refine ⟨by omega, ?_⟩; rw [List.take_add_one, List.take_add_one, hp, hx, hy, hxy.1, hxy.2.1, hxy.2.2], Weak.of _ [] hA (by cbv) ?_⟩
          simp only [AllP, hc, hL.add, true_and, and_true]
          rw [wrap64 (by omega)]; rfl
      · skip
        rw [hL.lss, hc, hc, decide_eq_false_iff_not] at ht14
        refine Run.exit ?_
        refine Run.seq ?_
        refine Run.region hL.hL hT [] (by cbv) ?_ ?_
        · first | trivial | (simp only [AllP, allPs, List.cons_append, List.nil_append, List.append_nil, true_and, and_true]; done) | (simp only [AllP, allPs, List.cons_append, List.nil_append, hL.le_, hL.lt_, hL.ge_, hL.ln_, hL.mm_, hc, Int.toNat_natCast, true_and, and_true, *]; first | done | omega)
        refine Run.ret ?_
        refine Eq.trans (b := some _) (by cbv) ?_
        have hr : res = true := by
          rw [hres, decide_eq_true_eq]
          have e1 : l.take i = l := List.take_of_length_le (by omega)
          have e2 : m.take i = m := List.take_of_length_le (by omega)
          rw [← e1, ← e2, hp]
        rw [hr]; rfl

set_option maxRecDepth 8000 in
theorem implQuerySame_ac (p0 : Int) (p1 : List C3) (p2 : Int) (p3 : Bool) (p4 : Int) (p5 : List Int) (p6 : Bool) (p7 p8 : Int) (kp1 kp5 : Bool) (q0 : Int) (q1 : List C3) (q2 : Int) (q3 : Bool) (q4 : Int) (q5 : List Int) (q6 : Bool) (q7 q8 : Int) (kq1 kq5 : Bool) (hp1 : p1.length ≤ 9223372036854775807) (hp5 : p5.length ≤ 9223372036854775807) (hq1 : q1.length ≤ 9223372036854775807) (hq5 : q5.length ≤ 9223372036854775807) : AC Try.prog 12 [.ag [.s (.int .i64 p0), .im kp1 (conds p1), .s (.int .i64 p2), .s (.bool p3), .s (.int .i64 p4), .im kp5 (ints p5), .s (.bool p6), .s (.int .i64 p7), .s (.int .i64 p8)], .ag [.s (.int .i64 q0), .im kq1 (conds q1), .s (.int .i64 q2), .s (.bool q3), .s (.int .i64 q4), .im kq5 (ints q5), .s (.bool q6), .s (.int .i64 q7), .s (.int .i64 q8)]] [.ag [.jk, .jk, .jk, .jk, .jk, .jk, .jk, .jk, .jk], .ag [.jk, .jk, .jk, .jk, .jk, .jk, .jk, .jk, .jk]] [.v (.s (.bool (decide (p0 = q0 ∧ p1 = q1 ∧ p2 = q2 ∧ p3 = q3 ∧ p4 = q4 ∧ p5 = q5 ∧ p6 = q6 ∧ p7 = q7 ∧ p8 = q8))))] := by
  refine intro_L fun ar cm bo sc sa sx ss sl bs sb ln sr ap up rp fr ge le lt nz mm ma sm fl al hL => ?_
  obtain ⟨ip1, hip1⟩ : ∃ gx_, gx_ = conds p1 := ⟨_, rfl⟩
  obtain ⟨ip5, hip5⟩ : ∃ gx_, gx_ = ints p5 := ⟨_, rfl⟩
  obtain ⟨iq1, hiq1⟩ : ∃ gx_, gx_ = conds q1 := ⟨_, rfl⟩
  obtain ⟨iq5, hiq5⟩ : ∃ gx_, gx_ = ints q5 := ⟨_, rfl⟩
  obtain ⟨res, hres⟩ : ∃ gx_, gx_ = decide (p0 = q0 ∧ p1 = q1 ∧ p2 = q2 ∧ p3 = q3 ∧ p4 = q4 ∧ p5 = q5 ∧ p6 = q6 ∧ p7 = q7 ∧ p8 = q8) := ⟨_, rfl⟩
  obtain ⟨d1, hd1⟩ : ∃ gx_, gx_ = decide (p1 = q1) := ⟨_, rfl⟩
  obtain ⟨d5, hd5⟩ : ∃ gx_, gx_ = decide (p5 = q5) := ⟨_, rfl⟩
  rw [← hip1, ← hip5, ← hiq1, ← hiq5, ← hres]
  obtain ⟨c, hc⟩ : ∃ c : Nat → Int, ∀ n, c n = (n : Int) := ⟨_, fun _ => rfl⟩
  refine AC.of_run tab_ok Try.func12 (by rfl) (by rfl) (by cbv) ⟨by decide, rfl⟩ fun F hP hA => ?_
  have hT : TabOk F.P tab := hP ▸ tab_ok
  have hM : F.P.follows .mixedOrders = true := hP ▸ mixed
  have hC : ∀ {f a o r}, AC Try.prog f a o r → AC F.P f a o r := fun h => hP ▸ h
  refine Run.seq ?_
  refine Run.region hL.hL hT [] (by cbv) ?_ ?_
  · first | trivial | (simp only [AllP, allPs, List.cons_append, List.nil_append, List.append_nil, true_and, and_true]; done) | (simp only [AllP, allPs, List.cons_append, List.nil_append, hL.le_, hL.lt_, hL.ge_, hL.ln_, hL.mm_, hc, Int.toNat_natCast, true_and, and_true, *]; first | done | omega)
  refine Run.seq ?_
  refine Run.region hL.hL hT [] (by cbv) ?_ ?_
  · simp +contextual [AllP]
  refine Run.seq ?_
  refine Run.region hL.hL hT [] (by cbv) ?_ ?_
  · simp +contextual [AllP]
  refine Run.seq ?_
  refine Run.region hL.hL hT [(9, .call [false, false] [.v .jk, .v .jk] [.v (.s (.bool d1))]), (16, .call [false, false] [.v .jk, .v .jk] [.v (.s (.bool d5))])] (by cbv) ?_ ?_
  · have a1 := hC (seqCond_ac p1 q1 hp1 hq1 false false)
    have a5 := hC (seqInt_ac p5 q5 hp5 hq5 false false)
    rw [← hip1, ← hiq1, ← hd1] at a1
    rw [← hip5, ← hiq5, ← hd5] at a5
    simp +contextual only [AllP, and_self, and_true, true_and, implies_true]
    exact ⟨fun _ => a1, fun _ => a5⟩
  refine Run.ret ?_
  refine Eq.trans (b := some _) (by cbv) ?_
  refine congrArg (fun b => some (_, [A.v (T.s (Value.bool b))])) ?_
  rw [hres, hd1, hd5]
  simp only [hL.bo_, hL.eql]
  clear hL hC hA hM hT
  refine Bool.eq_iff_iff.2 ?_
  cases p3 <;> cases q3 <;> cases p6 <;> cases q6 <;> simp [and_assoc] <;> grind

theorem fz_conds (l : List C3) : fzR (conds l) = conds l := by
  rw [fzR_map, conds, rowsOf, List.map_map]
  exact List.map_congr_left fun _ _ => rfl
theorem fz_ints (l : List Int) : fzR (ints l) = ints l := by
  rw [fzR_map, ints, List.map_map]
  exact List.map_congr_left fun _ _ => rfl

set_option maxRecDepth 8000 in
theorem law_ac (p0 : Int) (p1 : List C3) (p2 : Int) (p3 : Bool) (p4 : Int) (p5 : List Int) (p6 : Bool) (p7 p8 : Int) (kp1 kp5 : Bool) (q0 : Int) (q1 : List C3) (q2 : Int) (q3 : Bool) (q4 : Int) (q5 : List Int) (q6 : Bool) (q7 q8 : Int) (kq1 kq5 : Bool) (hp1 : p1.length ≤ 9223372036854775807) (hp5 : p5.length ≤ 9223372036854775807) (hq1 : q1.length ≤ 9223372036854775807) (hq5 : q5.length ≤ 9223372036854775807) : AC Try.prog 3 [.ag [.s (.int .i64 p0), .im kp1 (conds p1), .s (.int .i64 p2), .s (.bool p3), .s (.int .i64 p4), .im kp5 (ints p5), .s (.bool p6), .s (.int .i64 p7), .s (.int .i64 p8)], .ag [.s (.int .i64 q0), .im kq1 (conds q1), .s (.int .i64 q2), .s (.bool q3), .s (.int .i64 q4), .im kq5 (ints q5), .s (.bool q6), .s (.int .i64 q7), .s (.int .i64 q8)]] [.ag [.jk, .jk, .jk, .jk, .jk, .jk, .jk, .jk, .jk], .ag [.jk, .jk, .jk, .jk, .jk, .jk, .jk, .jk, .jk]] [.v (.s (.bool true))] := by
  refine intro_L fun ar cm bo sc sa sx ss sl bs sb ln sr ap up rp fr ge le lt nz mm ma sm fl al hL => ?_
  obtain ⟨ip1, hip1⟩ : ∃ gx_, gx_ = conds p1 := ⟨_, rfl⟩
  obtain ⟨ip5, hip5⟩ : ∃ gx_, gx_ = ints p5 := ⟨_, rfl⟩
  obtain ⟨iq1, hiq1⟩ : ∃ gx_, gx_ = conds q1 := ⟨_, rfl⟩
  obtain ⟨iq5, hiq5⟩ : ∃ gx_, gx_ = ints q5 := ⟨_, rfl⟩
  obtain ⟨d, hd⟩ : ∃ gx_, gx_ = decide (p0 = q0 ∧ p1 = q1 ∧ p2 = q2 ∧ p3 = q3 ∧ p4 = q4 ∧ p5 = q5 ∧ p6 = q6 ∧ p7 = q7 ∧ p8 = q8) := ⟨_, rfl⟩
  obtain ⟨r1, hr1⟩ : ∃ gx_, gx_ = if 1048576 - (p1.length : Int) < 0 then -1 else if 1048576 - (p1.length : Int) - p5.length < 0 then -1 else 1048576 - (p1.length : Int) - p5.length := ⟨_, rfl⟩
  obtain ⟨r2, hr2⟩ : ∃ gx_, gx_ = if r1 - (q1.length : Int) < 0 then -1 else if r1 - (q1.length : Int) - q5.length < 0 then -1 else r1 - (q1.length : Int) - q5.length := ⟨_, rfl⟩
  rw [← hip1, ← hip5, ← hiq1, ← hiq5]
  obtain ⟨c, hc⟩ : ∃ c : Nat → Int, ∀ n, c n = (n : Int) := ⟨_, fun _ => rfl⟩
  refine AC.of_run tab_ok Try.func3 (by rfl) (by rfl) (by cbv) ⟨by decide, rfl⟩ fun F hP hA => ?_
  have hT : TabOk F.P tab := hP ▸ tab_ok
  have hM : F.P.follows .mixedOrders = true := hP ▸ mixed
  have hC : ∀ {f a o r}, AC Try.prog f a o r → AC F.P f a o r := fun h => hP ▸ h
  refine Run.seq ?_
  refine Run.region hL.hL hT [] (by cbv) ?_ ?_
  · first | trivial | (simp only [AllP, allPs, List.cons_append, List.nil_append, List.append_nil, true_and, and_true]; done) | (simp only [AllP, allPs, List.cons_append, List.nil_append, hL.le_, hL.lt_, hL.ge_, hL.ln_, hL.mm_, hc, Int.toNat_natCast, true_and, and_true, *]; first | done | omega)
  refine Run.seq ?_
  refine Run.region hL.hL hT [] (by cbv) ?_ ?_
  · first | trivial | (simp only [AllP, allPs, List.cons_append, List.nil_append, List.append_nil, true_and, and_true]; done) | (simp only [AllP, allPs, List.cons_append, List.nil_append, hL.le_, hL.lt_, hL.ge_, hL.ln_, hL.mm_, hc, Int.toNat_natCast, true_and, and_true, *]; first | done | omega)
  refine Run.seq ?_
  refine Run.region hL.hL hT [(2, .call [false, false] [.ag [.jk, .jk, .jk, .jk, .jk, .jk, .jk, .jk, .jk], .v .jk] [.v (.s (.int .i64 r1))])] (by cbv) ?_ ?_
  · simp only [AllP, allPs, List.cons_append, List.nil_append, true_and, and_true]
    refine hC ?_
    rw [hip1, hip5, hr1]
    exact szQuery_ac p0 p1 p2 p3 p4 p5 p6 p7 p8 false false 1048576 hp1 hp5 (by omega)
  refine Run.seq ?_
  refine Run.seq ?_
  refine Run.region hL.hL hT [] (by cbv) ?_ ?_
  · simp only [AllP, and_self]
  refine Run.cond (by cbv) ?_ (fun ht14 => ?_) (fun ht14 => ?_)
  · simp only [AllP]
  · skip
    refine Run.seq ?_
    refine Run.region hL.hL hT [] (by cbv) ?_ ?_
    · first | trivial | (simp only [AllP, allPs, List.cons_append, List.nil_append, List.append_nil, true_and, and_true]; done) | (simp only [AllP, allPs, List.cons_append, List.nil_append, hL.le_, hL.lt_, hL.ge_, hL.ln_, hL.mm_, hc, Int.toNat_natCast, true_and, and_true, *]; first | done | omega)
    refine Run.ret ?_
    refine Eq.trans (b := some _) (by cbv) ?_
    rfl
  · skip
    rw [hL.lss, decide_eq_false_iff_not] at ht14
    have hpl : p1.length ≤ 1048576 ∧ p5.length ≤ 1048576 ∧ 0 ≤ r1 ∧ r1 ≤ 1048576 := by
      by_cases e1 : 1048576 - (p1.length : Int) < 0
      · rw [if_pos e1] at hr1; omega
      · rw [if_neg e1] at hr1
        by_cases e2 : 1048576 - (p1.length : Int) - p5.length < 0
        · rw [if_pos e2] at hr1; omega
        · rw [if_neg e2] at hr1; omega
    refine Run.skip ?_
    refine Run.seq ?_
    refine Run.region hL.hL hT [(2, .call [false, false] [.ag [.jk, .jk, .jk, .jk, .jk, .jk, .jk, .jk, .jk], .v .jk] [.v (.s (.int .i64 r2))])] (by cbv) ?_ ?_
    · simp only [AllP, allPs, List.cons_append, List.nil_append, true_and, and_true]
      refine hC ?_
      rw [hiq1, hiq5, hr2]
      exact szQuery_ac q0 q1 q2 q3 q4 q5 q6 q7 q8 false false r1 hq1 hq5 (by omega)
    refine Run.seq ?_
    refine Run.seq ?_
    refine Run.region hL.hL hT [] (by cbv) ?_ ?_
    · simp only [AllP, and_self]
    refine Run.cond (by cbv) ?_ (fun ht19 => ?_) (fun ht19 => ?_)
    · simp only [AllP]
    · skip
      refine Run.seq ?_
      refine Run.region hL.hL hT [] (by cbv) ?_ ?_
      · first | trivial | (simp only [AllP, allPs, List.cons_append, List.nil_append, List.append_nil, true_and, and_true]; done) | (simp only [AllP, allPs, List.cons_append, List.nil_append, hL.le_, hL.lt_, hL.ge_, hL.ln_, hL.mm_, hc, Int.toNat_natCast, true_and, and_true, *]; first | done | omega)
      refine Run.ret ?_
      refine Eq.trans (b := some _) (by cbv) ?_
      rfl
    · skip
      rw [hL.lss, decide_eq_false_iff_not] at ht19
      have hql : q1.length ≤ 1048576 ∧ q5.length ≤ 1048576 := by
        by_cases e1 : r1 - (q1.length : Int) < 0
        · rw [if_pos e1] at hr2; omega
        · rw [if_neg e1] at hr2
          by_cases e2 : r1 - (q1.length : Int) - q5.length < 0
          · rw [if_pos e2] at hr2; omega
          · rw [if_neg e2] at hr2; omega
      have tp := hC (toQuery_ac p0 p1 p2 p3 p4 p5 p6 p7 p8 false false hpl.1 hpl.2.1)
      have tq := hC (toQuery_ac q0 q1 q2 q3 q4 q5 q6 q7 q8 false false hql.1 hql.2)
      rw [← hip1, ← hip5] at tp
      rw [← hiq1, ← hiq5] at tq
      have sq := hC (specQuerySame_ac p0 p1 p2 p3 p4 p5 p6 p7 p8 false false q0 q1 q2 q3 q4 q5 q6 q7 q8 false false hp1 hp5 hq1 hq5)
      have iq := hC (implQuerySame_ac p0 p1 p2 p3 p4 p5 p6 p7 p8 false false q0 q1 q2 q3 q4 q5 q6 q7 q8 false false hp1 hp5 hq1 hq5)
      rw [← hip1, ← hip5, ← hiq1, ← hiq5, ← hd] at sq iq
      have ep := hC (eqQuery_ac p0 p1 p2 p3 p4 p5 p6 p7 p8 false false p0 p1 p2 p3 p4 p5 p6 p7 p8 false false hp1 hp5 hp1 hp5)
      have eq := hC (eqQuery_ac q0 q1 q2 q3 q4 q5 q6 q7 q8 false false q0 q1 q2 q3 q4 q5 q6 q7 q8 false false hq1 hq5 hq1 hq5)
      rw [← hip1, ← hip5, decide_eq_true (by simp)] at ep
      rw [← hiq1, ← hiq5, decide_eq_true (by simp)] at eq
      have f1 : fr ip1 = ip1 := by rw [hL.fr_, hip1, fz_conds]
      have f2 : fr ip5 = ip5 := by rw [hL.fr_, hip5, fz_ints]
      have f3 : fr iq1 = iq1 := by rw [hL.fr_, hiq1, fz_conds]
      have f4 : fr iq5 = iq5 := by rw [hL.fr_, hiq5, fz_ints]
      refine Run.skip ?_
      refine Run.seq ?_
      refine Run.draw hL.hL hT hM [(1, .call [false] [.ag [.jk, .jk, .jk, .jk, .jk, .jk, .jk, .jk, .jk]] [.ag [.s (.int .i64 p0), .ow 77 ip1, .s (.int .i64 p2), .s (.bool p3), .s (.int .i64 p4), .ow 3 ip5, .s (.bool p6), .s (.int .i64 p7), .s (.int .i64 p8)]]), (3, .call [false] [.ag [.jk, .jk, .jk, .jk, .jk, .jk, .jk, .jk, .jk]] [.ag [.s (.int .i64 q0), .ow 77 iq1, .s (.int .i64 q2), .s (.bool q3), .s (.int .i64 q4), .ow 3 iq5, .s (.bool q6), .s (.int .i64 q7), .s (.int .i64 q8)]]), (4, .call [false, false] [.ag [.jk, .jk, .jk, .jk, .jk, .jk, .jk, .jk, .jk], .ag [.jk, .jk, .jk, .jk, .jk, .jk, .jk, .jk, .jk]] [.v (.s (.bool d))])] (by cbv) (by cbv) (by cbv) (by cbv) (by cbv) ?_ ?_
      · simp only [AllP, allPs, List.cons_append, List.nil_append, true_and, and_true]
        rw [f1, f2, f3, f4]
        exact ⟨tp, tq, sq⟩
      refine Run.seq ?_
      refine Run.region hL.hL hT [(1, .call [false] [.ag [.jk, .jk, .jk, .jk, .jk, .jk, .jk, .jk, .jk]] [.ag [.s (.int .i64 p0), .ow 77 ip1, .s (.int .i64 p2), .s (.bool p3), .s (.int .i64 p4), .ow 3 ip5, .s (.bool p6), .s (.int .i64 p7), .s (.int .i64 p8)]])] (by cbv) ?_ ?_
      · simp only [AllP, allPs, List.cons_append, List.nil_append, true_and, and_true]
        exact tp
      refine Run.seq ?_
      refine Run.region hL.hL hT [(1, .call [false] [.ag [.jk, .jk, .jk, .jk, .jk, .jk, .jk, .jk, .jk]] [.ag [.s (.int .i64 q0), .ow 77 iq1, .s (.int .i64 q2), .s (.bool q3), .s (.int .i64 q4), .ow 3 iq5, .s (.bool q6), .s (.int .i64 q7), .s (.int .i64 q8)]])] (by cbv) ?_ ?_
      · simp only [AllP, allPs, List.cons_append, List.nil_append, true_and, and_true]
        exact tq
      refine Run.seq ?_
      refine Run.region hL.hL hT [(2, .call [false, false] [.ag [.jk, .jk, .jk, .jk, .jk, .jk, .jk, .jk, .jk], .ag [.jk, .jk, .jk, .jk, .jk, .jk, .jk, .jk, .jk]] [.v (.s (.bool d))])] (by cbv) ?_ ?_
      · simp only [AllP, allPs, List.cons_append, List.nil_append, true_and, and_true]
        rw [f1, f2, f3, f4]
        exact iq
      refine Run.seq ?_
      refine Run.seq ?_
      refine Run.region hL.hL hT [] (by cbv) ?_ ?_
      · first | trivial | (simp only [AllP, allPs, List.cons_append, List.nil_append, List.append_nil, true_and, and_true]; done) | (simp only [AllP, allPs, List.cons_append, List.nil_append, hL.le_, hL.lt_, hL.ge_, hL.ln_, hL.mm_, hc, Int.toNat_natCast, true_and, and_true, *]; first | done | omega)
      refine Run.cond (by cbv) ?_ (fun ht34 => ?_) (fun ht34 => ?_)
      · simp only [AllP]
      · skip
        exfalso
        simp only [hL.bo_] at ht34
        cases d <;> simp at ht34
      · skip
        refine Run.skip ?_
        refine Run.seq ?_
        refine Run.seq ?_
        refine Run.draw hL.hL hT hM [(2, .call [false] [.ag [.jk, .jk, .jk, .jk, .jk, .jk, .jk, .jk, .jk]] [.ag [.s (.int .i64 p0), .ow 77 ip1, .s (.int .i64 p2), .s (.bool p3), .s (.int .i64 p4), .ow 3 ip5, .s (.bool p6), .s (.int .i64 p7), .s (.int .i64 p8)]]), (3, .call [false, false] [.ag [.jk, .jk, .jk, .jk, .jk, .jk, .jk, .jk, .jk], .ag [.jk, .jk, .jk, .jk, .jk, .jk, .jk, .jk, .jk]] [.v (.s (.bool true))])] (by cbv) (by cbv) (by cbv) (by cbv) (by cbv) ?_ ?_
        · simp only [AllP, allPs, List.cons_append, List.nil_append, true_and, and_true]
          rw [f1, f2]
          exact ⟨tp, ep⟩
        refine Run.cond (by cbv) ?_ (fun ht39 => ?_) (fun ht39 => ?_)
        · simp only [AllP]
        · skip
          exfalso
          simp [hL.bo_] at ht39
        · skip
          refine Run.skip ?_
          refine Run.seq ?_
          refine Run.seq ?_
          refine Run.draw hL.hL hT hM [(2, .call [false] [.ag [.jk, .jk, .jk, .jk, .jk, .jk, .jk, .jk, .jk]] [.ag [.s (.int .i64 q0), .ow 77 iq1, .s (.int .i64 q2), .s (.bool q3), .s (.int .i64 q4), .ow 3 iq5, .s (.bool q6), .s (.int .i64 q7), .s (.int .i64 q8)]]), (3, .call [false, false] [.ag [.jk, .jk, .jk, .jk, .jk, .jk, .jk, .jk, .jk], .ag [.jk, .jk, .jk, .jk, .jk, .jk, .jk, .jk, .jk]] [.v (.s (.bool true))])] (by cbv) (by cbv) (by cbv) (by cbv) (by cbv) ?_ ?_
          · simp only [AllP, allPs, List.cons_append, List.nil_append, true_and, and_true]
            rw [f3, f4]
            exact ⟨tq, eq⟩
          refine Run.cond (by cbv) ?_ (fun ht44 => ?_) (fun ht44 => ?_)
          · simp only [AllP]
          · skip
            exfalso
            simp [hL.bo_] at ht44
          · skip
            refine Run.skip ?_
            refine Run.seq ?_
            refine Run.region hL.hL hT [] (by cbv) ?_ ?_
            · first | trivial | (simp only [AllP, allPs, List.cons_append, List.nil_append, List.append_nil, true_and, and_true]; done) | (simp only [AllP, allPs, List.cons_append, List.nil_append, hL.le_, hL.lt_, hL.ge_, hL.ln_, hL.mm_, hc, Int.toNat_natCast, true_and, and_true, *]; first | done | omega)
            refine Run.ret ?_
            refine Eq.trans (b := some _) (by cbv) ?_
            rfl

end Go.Proofs.Ytbiihoddghjcjaa.L
