/- A row's cell that holds a slice of its own: taken out, laid back. -/
import Derived.Test.YtgicjbeaomjdgaaSl29
namespace Go.Proofs.Ytgicjbeaomjdgaa.L
set_option linter.unusedVariables false
set_option linter.unusedSimpArgs false
open Go

variable {F : Fr} {w : World} {S : Nat → Prop} {G : Gh} {φ : Nat → Nat → Prop} {tab : List (Nat × Ty)}

theorem flat_split {rows : Rws} {i j : Nat} {c : T} (hi : i < rows.length) (hc : (rows.getD i [])[j]? = some c) : rows.flatten = ((rows.take i).flatten ++ (rows.getD i []).take j) ++ c :: ((rows.getD i []).drop (j + 1) ++ (rows.drop (i + 1)).flatten) := by
  have h1 : rows.getD i [] = rows[i] := by rw [List.getD_eq_getElem?_getD, List.getElem?_eq_getElem hi]; rfl
  rw [h1] at hc ⊢
  obtain ⟨hj, hc⟩ := List.getElem?_eq_some_iff.1 hc
  have h2 : rows = rows.take i ++ rows[i] :: rows.drop (i + 1) := by
    rw [← List.drop_eq_getElem_cons hi, List.take_append_drop]
  conv => lhs; rw [h2]
  rw [List.flatten_append, List.flatten_cons]
  have h3 : rows[i] = rows[i].take j ++ c :: rows[i].drop (j + 1) := by
    rw [← hc, ← List.drop_eq_getElem_cons hj, List.take_append_drop]
  conv => lhs; rw [h3]
  simp

theorem flat_set {rows : Rws} {i j : Nat} {c d : T} (hi : i < rows.length) (hc : (rows.getD i [])[j]? = some c) : (Ls.up rows (i : Int) j [d]).flatten = ((rows.take i).flatten ++ (rows.getD i []).take j) ++ d :: ((rows.getD i []).drop (j + 1) ++ (rows.drop (i + 1)).flatten) := by
  show (rows.set (i : Int).toNat _).flatten = _
  rw [Int.toNat_natCast, List.set_eq_take_append_cons_drop, if_pos hi]
  simp

theorem up_len {rows : Rws} {i j : Nat} {c d : T} {sz : Nat} (hs : ∀ r ∈ rows, r.length = sz) (hi : i < rows.length) (hc : (rows.getD i [])[j]? = some c) : (Ls.up rows (i : Int) j [d]).length = rows.length ∧ ∀ r ∈ Ls.up rows (i : Int) j [d], r.length = sz := by
  have h1 : rows.getD i [] = rows[i] := by rw [List.getD_eq_getElem?_getD, List.getElem?_eq_getElem hi]; rfl
  have h2 := hs _ (List.getElem_mem hi)
  have hj := (List.getElem?_eq_some_iff.1 hc).1
  constructor
  · show (rows.set _ _).length = _; simp
  · intro r hr
    rcases List.mem_or_eq_of_mem_set hr with h | h
    · exact hs r h
    · rw [h, Int.toNat_natCast, h1]
      rw [h1] at hj
      simp
      omega

theorem pos_len {rows : Rws} {i j sz : Nat} (hs : ∀ r ∈ rows, r.length = sz) (hi : i < rows.length) (hj : j < sz) : ((rows.take i).flatten ++ (rows.getD i []).take j).length = i * sz + j := by
  have h1 : rows.getD i [] = rows[i] := by rw [List.getD_eq_getElem?_getD, List.getElem?_eq_getElem hi]; rfl
  have h2 := hs _ (List.getElem_mem hi)
  rw [List.length_append, flatten_len _ (fun r hr => hs r (List.mem_of_mem_take hr)), List.length_take, List.length_take, h1, h2]
  rw [Nat.min_eq_left (by omega), Nat.min_eq_left (by omega)]

/-- A cell's slice becomes an object; the cell is a hole; gt tells of both. -/
theorem take_core {n nx : Nat} {env : List (Nat × V)} {objs : List (Nat × O)} (ht : TabOk F.P tab) (id : Nat) (i : Int) (j nid gt : Nat) {ver e sz e2 : Nat} {rows r2 : Rws} {ty2 : Ty} (ho : look .dead objs id = .row ver e sz rows) (hty : getTy tab e2 = some ty2) (hf : freshB nx objs nid = true)
    (h0 : 0 ≤ i) (h1 : i < (rows.length : Int)) (hc : (rows.getD i.toNat [])[j]? = some (.ow e2 r2)) (hgt : nl n gt = true)
    (rows' : Rws) (hrows : Ls.up rows i j [.jk] = rows') {a : Act} (hr : Rel0 F ⟨n, nx, env, objs⟩ a w S G φ) :
    ∃ G' φ', Rel0 F ⟨n, nx, (gt, .hl id (ver + 1) i j nid) :: env, (nid, .row 0 e2 ty2.size r2) :: (id, .row (ver + 1) e sz rows') :: objs⟩ a w S G' φ' ∧ G.le G' ∧ ∃ us, G.κ id ver = some (rows, us) ∧ G'.κ id (ver + 1) = some (rows', us) := by
  subst hrows
  obtain ⟨k, rfl⟩ : ∃ k : Nat, i = k := ⟨i.toNat, by omega⟩
  rw [Int.toNat_natCast] at hc
  have hk : k < rows.length := by omega
  have hnid : ¬ G.dom nid := fresh_dom hr hf
  have hne : nid ≠ id := by
    rintro rfl
    exact hnid (hr.row ho).1
  have hno : G.κ id (ver + 1) = none := by
    cases hx : G.κ id (ver + 1) with
    | none => rfl
    | some x => have := (hr.kd id (ver + 1) x hx).2 _ _ _ _ ho; omega
  obtain ⟨hid, hsz, hGs, us, hκ, hrs, hown, ψ, hb, hψ, hcr⟩ := hr.row ho
  have hjs : j < sz := by
    have := hrs _ (List.getElem_mem hk)
    rw [List.getD_eq_getElem?_getD, List.getElem?_eq_getElem hk] at hc
    have := (List.getElem?_eq_some_iff.1 hc).1
    simp only [Option.getD_some] at this
    omega
  have hpos := pos_len hrs hk hjs
  rw [flat_split hk hc] at hcr
  obtain ⟨uA, ub, φA, φb, rfl, hA, hB, hdAB, sA, sB⟩ := CR.split hcr
  cases hB with
  | @ow _ _ φ1 φ2 _ _ u _ uB hs2 vs hown2 ψ2 hb2 hψ2 hr2 hB2 hd12 s1 s2 =>
  have huA : uA.length = k * sz + j := by rw [hA.len, hpos]
  have hκ' := hκ
  have e2sz : ty2.size = F.P.cellsOf e2 := (cellsOf_ty (ht e2 ty2 hty)).symm
  let G' : Gh := ⟨fun x => G.dom x ∨ x = nid, fun x => if x = nid then u else G.β x, fun x => if x = nid then ty2.size else G.sz x,
    fun x v => if x = nid then (if v = 0 then some (r2, vs) else none) else if x = id ∧ v = ver + 1 then some (Ls.up rows k j [.jk], uA ++ u :: uB) else G.κ x v⟩
  have dne : ∀ {x}, G.dom x → x ≠ nid := by rintro x hx rfl; exact hnid hx
  have hle : G.le G' := by
    refine ⟨fun x h => .inl h, fun x h => ?_, fun x h => ?_, fun x v y h => ?_⟩
    · exact if_neg (dne h)
    · exact if_neg (dne h)
    · show (if x = nid then _ else if x = id ∧ v = ver + 1 then _ else G.κ x v) = some y
      rw [if_neg (dne (hr.kd x v y h).1)]
      rw [if_neg (by rintro ⟨rfl, rfl⟩; rw [hno] at h; cases h)]
      exact h
  have hβid : G'.β id = G.β id := if_neg (fun e => hne e.symm)
  have hszid : G'.sz id = G.sz id := if_neg (fun e => hne e.symm)
  obtain ⟨ul, urs⟩ := up_len (d := .jk) hrs hk hc
  let φ' : Nat → Nat → Prop := fun x b => if x = nid then φ1 b else φ x b ∧ (x = id → ¬ φ1 b)
  have φ1ψ : ∀ b, φ1 b → ψ b := fun b h => sB b (s1 b h)
  have φ1id : ∀ b, φ1 b → φ id b := fun b h => hψ b (φ1ψ b h)
  refine ⟨G', φ', ⟨?_, ?_, hr.n, hr.KS, hr.Slt, ?_, ?_, ?_, ?_, hr.kept, hr.defs, ?_⟩, hle, _, hκ, ?_⟩
  · rintro x (hx | rfl)
    · rcases hr.nx x hx with h | h
      · exact .inl h
      · exact .inr ((hasKey_cons _ _ _ _).2 (.inr ((hasKey_cons _ _ _ _).2 (.inr h))))
    · exact .inr ((hasKey_cons _ _ _ _).2 (.inl rfl))
  · intro x v y hx
    have hx' : (if x = nid then (if v = 0 then some (r2, vs) else none) else if x = id ∧ v = ver + 1 then some (Ls.up rows k j [.jk], uA ++ u :: uB) else G.κ x v) = some y := hx
    by_cases hxn : x = nid
    · rw [if_pos hxn] at hx'
      refine ⟨.inr hxn, fun ver' e' sz' r' hl => ?_⟩
      by_cases hv : v = 0
      · omega
      · rw [if_neg hv] at hx'; cases hx'
    · rw [if_neg hxn] at hx'
      by_cases hxi : x = id ∧ v = ver + 1
      · obtain ⟨rfl, rfl⟩ := hxi
        refine ⟨.inl hid, fun ver' e' sz' r' hl => ?_⟩
        rw [look_cons, if_neg hxn, look_cons, if_pos rfl] at hl
        simp only [O.row.injEq] at hl
        omega
      · rw [if_neg hxi] at hx'
        refine ⟨.inl (hr.kd x v y hx').1, fun ver' e' sz' r' hl => ?_⟩
        rw [look_cons, if_neg hxn, look_cons] at hl
        by_cases hxd : x = id
        · subst hxd
          rw [if_pos rfl] at hl
          simp only [O.row.injEq] at hl
          have := (hr.kd _ v y hx').2 _ _ _ _ ho
          omega
        · rw [if_neg hxd] at hl
          exact (hr.kd x v y hx').2 _ _ _ _ hl
  · intro t
    show VR F.P w F.K S G' (look .u ((gt, .hl id (ver + 1) k j nid) :: env) t) _
    rw [look_cons]
    split
    · refine .hl (.inl hid) (.inr rfl) (by omega) (Ls.up rows k j [.jk]) (uA ++ u :: uB) ?_ ?_ .nil
      · show (if id = nid then _ else if id = id ∧ ver + 1 = ver + 1 then _ else G.κ id (ver + 1)) = _
        rw [if_neg (fun e => hne e.symm), if_pos ⟨rfl, rfl⟩]
      · rw [Int.toNat_natCast, hszid, hGs]
        show (uA ++ u :: uB)[k * sz + j]? = some (if nid = nid then u else G.β nid)
        rw [if_pos rfl, List.getElem?_append_right (by omega), huA, Nat.sub_self]
        rfl
    · exact (hr.env t).move (fun _ _ => rfl) (fun _ _ => rfl) hle
  · intro x
    show OR F.P w F.K S G' (φ' x) x (look .dead ((nid, .row 0 e2 ty2.size r2) :: (id, .row (ver + 1) e sz (Ls.up rows k j [.jk])) :: objs) x)
    rw [look_cons]
    by_cases hxn : x = nid
    · rw [if_pos hxn]
      subst hxn
      refine ⟨.inr rfl, e2sz, if_pos rfl, vs, ?_, by rw [e2sz]; exact hs2, ?_, ψ2, ?_, ?_, hr2⟩
      · show (if x = x then (if (0 : Nat) = 0 then some (r2, vs) else none) else _) = _
        rw [if_pos rfl, if_pos rfl]
      · rw [show G'.β x = u from if_pos rfl, e2sz]; exact hown2
      · intro b hb'
        rw [show G'.β x = u from if_pos rfl] at hb'
        show (if x = x then φ1 b else _) ∧ _
        rw [if_pos rfl]
        exact hb2 b hb'
      · intro b hb'
        show if x = x then φ1 b else _
        rw [if_pos rfl]
        exact hψ2 b hb'
    · rw [if_neg hxn, look_cons]
      by_cases hxi : x = id
      · rw [if_pos hxi]
        subst hxi
        have hu1 : u.oneCell' = true := by
          rcases hown2.2 with ⟨rfl, _⟩ | ⟨_, _, _, rfl, _⟩ <;> rfl
        have hcr' : CR F.P w F.K F.K (Ls.up rows k j [.jk]).flatten (uA ++ u :: uB) (fun b => φA b ∨ φ2 b) := by
          rw [flat_set hk hc]
          exact hA.join (φ2 := φ2) (.jk hu1 hB2) (fun b h1 h2 => hdAB b h1 (s2 b h2)) (fun b h => Or.inl h) (fun b h => Or.inr h)
        have ex : ∀ b, φ' x b ↔ φ x b ∧ ¬ φ1 b := by
          intro b
          show (if x = nid then φ1 b else φ x b ∧ (x = x → ¬ φ1 b)) ↔ _
          rw [if_neg hxn]
          simp
        refine ⟨.inl hid, hsz, by rw [hszid]; exact hGs, _, ?_, urs, by rw [hβid, ul]; exact hown, _, ?_, ?_, hcr'⟩
        · show (if x = nid then _ else if x = x ∧ ver + 1 = ver + 1 then _ else G.κ x (ver + 1)) = _
          rw [if_neg hxn, if_pos ⟨rfl, rfl⟩]
        · intro b hb'
          rw [hβid] at hb'
          obtain ⟨p1, p2⟩ := hb b hb'
          refine ⟨(ex b).2 ⟨p1, fun h => p2 (φ1ψ b h)⟩, ?_⟩
          rintro (h | h)
          · exact p2 (sA b h)
          · exact p2 (sB b (s2 b h))
        · intro b hb'
          refine (ex b).2 ⟨?_, ?_⟩
          · rcases hb' with h | h
            · exact hψ b (sA b h)
            · exact hψ b (sB b (s2 b h))
          · intro h1'
            rcases hb' with h | h
            · exact hdAB b h (s1 b h1')
            · exact hd12 b h1' h
      · rw [if_neg hxi]
        have : φ' x = φ x := by
          funext b
          show (if x = nid then φ1 b else φ x b ∧ (x = id → ¬ φ1 b)) = φ x b
          rw [if_neg hxn]
          simp [hxi]
        rw [this]
        exact (hr.obj x).move (fun _ _ => rfl) (fun _ _ => rfl) (fun _ _ => rfl) hle
  · intro x y hxy b hb1 hb2'
    have hb1' : if x = nid then φ1 b else φ x b ∧ (x = id → ¬ φ1 b) := hb1
    have hb2'' : if y = nid then φ1 b else φ y b ∧ (y = id → ¬ φ1 b) := hb2'
    by_cases hx : x = nid
    · rw [if_pos hx] at hb1'
      rw [if_neg (fun e => hxy (hx.trans e.symm))] at hb2''
      by_cases hy : y = id
      · exact hb2''.2 hy hb1'
      · exact hr.dj id y (fun e => hy e.symm) b (φ1id b hb1') hb2''.1
    · rw [if_neg hx] at hb1'
      by_cases hy : y = nid
      · rw [if_pos hy] at hb2''
        by_cases hxi : x = id
        · exact hb1'.2 hxi hb2''
        · exact hr.dj x id hxi b hb1'.1 (φ1id b hb2'')
      · rw [if_neg hy] at hb2''
        exact hr.dj x y hxy b hb1'.1 hb2''.1
  · intro x b hb'
    have hb1' : if x = nid then φ1 b else φ x b ∧ (x = id → ¬ φ1 b) := hb'
    split at hb1'
    · exact hr.own id b (φ1id b hb1')
    · exact hr.own x b hb1'.1
  · intro x v hx
    obtain ⟨h1, h2⟩ := hr.anc x v hx
    exact ⟨.inl h1, by rw [← h2]; exact if_neg (dne h1)⟩
  · show (if id = nid then _ else if id = id ∧ ver + 1 = ver + 1 then _ else G.κ id (ver + 1)) = _
    rw [if_neg (fun e => hne e.symm), if_pos ⟨rfl, rfl⟩]
theorem WeakS.take {n nx : Nat} {env : List (Nat × V)} {objs : List (Nat × O)} (ht : TabOk F.P tab) (id : Nat) (i : Int) (j nid gt : Nat) {ver e sz e2 : Nat} {rows r2 : Rws} {ty2 : Ty} (ho : look .dead objs id = .row ver e sz rows) (hty : getTy tab e2 = some ty2) (hf : freshB nx objs nid = true)
    (h0 : 0 ≤ i) (h1 : i < (rows.length : Int)) (hc : (rows.getD i.toNat [])[j]? = some (.ow e2 r2)) (hgt : nl n gt = true)
    (rows' : Rws) (hrows : Ls.up rows i j [.jk] = rows') : WeakS F ⟨n, nx, env, objs⟩ ⟨n, nx, (gt, .hl id (ver + 1) i j nid) :: env, (nid, .row 0 e2 ty2.size r2) :: (id, .row (ver + 1) e sz rows') :: objs⟩ := by
  rintro a w ⟨S, G, φ, hr⟩
  obtain ⟨G', φ', h, _, _⟩ := take_core ht id i j nid gt ho hty hf h0 h1 hc hgt rows' hrows hr
  exact ⟨S, G', φ', h⟩

theorem Weak.take {n nx : Nat} {env : List (Nat × V)} {objs : List (Nat × O)} (ht : TabOk F.P tab) (id : Nat) (i : Int) (j nid gt : Nat) {ver e sz e2 : Nat} {rows r2 : Rws} {ty2 : Ty} (ho : look .dead objs id = .row ver e sz rows) (hty : getTy tab e2 = some ty2) (hf : freshB nx objs nid = true)
    (h0 : 0 ≤ i) (h1 : i < (rows.length : Int)) (hc : (rows.getD i.toNat [])[j]? = some (.ow e2 r2)) (hgt : nl n gt = true)
    (rows' : Rws) (hrows : Ls.up rows i j [.jk] = rows') : Weak F ⟨n, nx, env, objs⟩ ⟨n, nx, (gt, .hl id (ver + 1) i j nid) :: env, (nid, .row 0 e2 ty2.size r2) :: (id, .row (ver + 1) e sz rows') :: objs⟩ := Weak.up fun K => WeakS.take (F := F.up K) ht id i j nid gt ho hty hf h0 h1 hc hgt rows' hrows

/-- The slice is laid back into its cell. -/
theorem WeakS.back {n nx : Nat} {env : List (Nat × V)} {objs : List (Nat × O)} (id : Nat) (i : Int) (j nid gt : Nat) {ver e sz ver2 e2 sz2 : Nat} {rows r2 : Rws} (ho : look .dead objs id = .row ver e sz rows) (ho2 : look .dead objs nid = .row ver2 e2 sz2 r2) (hne : nq id nid = false) (hl : look .u env gt = .hl id ver i j nid)
    (h0 : 0 ≤ i) (h1 : i < (rows.length : Int)) (hc : (rows.getD i.toNat [])[j]? = some .jk) (rows' : Rws) (hrows : Ls.up rows i j [.ow e2 r2] = rows') :
    WeakS F ⟨n, nx, env, objs⟩ ⟨n, nx, env, (id, .row (ver + 1) e sz rows') :: (nid, .dead) :: objs⟩ := by
  subst hrows
  rintro a w ⟨S, G, φ, hr⟩
  obtain ⟨k, rfl⟩ : ∃ k : Nat, i = k := ⟨i.toNat, by omega⟩
  rw [Int.toNat_natCast] at hc
  have hk : k < rows.length := by omega
  have hin : id ≠ nid := by rintro rfl; simp [nq_self] at hne
  have hno : G.κ id (ver + 1) = none := by
    cases hx : G.κ id (ver + 1) with
    | none => rfl
    | some x => have := (hr.kd id (ver + 1) x hx).2 _ _ _ _ ho; omega
  obtain ⟨hid, hsz, hGs, us, hκ, hrs, hown, ψ, hb, hψ, hcr⟩ := hr.row ho
  have hcr2 := row_ow hr ho2
  obtain ⟨ul, urs⟩ := up_len (d := .ow e2 r2) hrs hk hc
  have hjs : j < sz := by
    have := hrs _ (List.getElem_mem hk)
    rw [List.getD_eq_getElem?_getD, List.getElem?_eq_getElem hk] at hc
    have := (List.getElem?_eq_some_iff.1 hc).1
    simp only [Option.getD_some] at this
    omega
  have hpos := pos_len hrs hk hjs
  have hlink : us[k * sz + j]? = some (G.β nid) := by
    have hv := hr.env gt
    rw [show look .u (⟨n, nx, env, objs⟩ : St).env gt = .hl id ver k j nid from hl] at hv
    generalize a.tmps.getD gt undef = z at hv
    cases hv with
    | hl _ _ _ r0 u0 hk' hu _ =>
      rw [hκ] at hk'
      simp only [Option.some.injEq, Prod.mk.injEq] at hk'
      obtain ⟨rfl, rfl⟩ := hk'
      rw [Int.toNat_natCast, hGs] at hu
      exact hu
  rw [flat_split hk hc] at hcr
  obtain ⟨uA, ub, φA, φb, rfl, hA, hB, hdAB, sA, sB⟩ := CR.split hcr
  cases hB with
  | @jk _ _ u _ uB hu1 hB2 =>
  have huA : uA.length = k * sz + j := by rw [hA.len, hpos]
  have hu : u = G.β nid := by
    rw [List.getElem?_append_right (by omega), huA, Nat.sub_self] at hlink
    exact Option.some.inj hlink
  subst hu
  have hcr' : CR F.P w F.K F.K (Ls.up rows k j [.ow e2 r2]).flatten (uA ++ G.β nid :: uB) (fun b => φA b ∨ φb b ∨ φ nid b) := by
    rw [flat_set hk hc]
    refine hA.join (φ2 := fun b => φb b ∨ φ nid b) ?_ ?_ (fun b h => Or.inl h) (fun b h => Or.inr h)
    · exact hcr2.join (a := [.ow e2 r2]) (u1 := [G.β nid]) hB2 (fun b h1 h2 => hr.dj nid id (fun e => hin e.symm) b h1 (hψ b (sB b h2))) (fun b h => Or.inr h) (fun b h => Or.inl h)
    · intro b h1 h2
      rcases h2 with h | h
      · exact hdAB b h1 h
      · exact hr.dj id nid hin b (hψ b (sA b h1)) h
  let G' : Gh := ⟨G.dom, G.β, G.sz, fun x v => if x = id ∧ v = ver + 1 then some (Ls.up rows k j [.ow e2 r2], uA ++ G.β nid :: uB) else G.κ x v⟩
  have hle : G.le G' := ⟨fun _ h => h, fun _ _ => rfl, fun _ _ => rfl, fun x v y h => by
    show (if x = id ∧ v = ver + 1 then _ else G.κ x v) = some y
    rw [if_neg (by rintro ⟨rfl, rfl⟩; rw [hno] at h; cases h)]
    exact h⟩
  let φ' : Nat → Nat → Prop := fun x b => if x = id then φ id b ∨ φ nid b else if x = nid then False else φ x b
  have φid : ∀ b, φ' id b ↔ φ id b ∨ φ nid b := fun b => by show (if id = id then _ else _) ↔ _; rw [if_pos rfl]
  refine ⟨S, G', φ', ?_, ?_, hr.n, hr.KS, hr.Slt, fun t => (hr.env t).move (fun _ _ => rfl) (fun _ _ => rfl) hle, ?_, ?_, ?_, hr.kept, hr.defs, hr.anc⟩
  · intro x hx
    rcases hr.nx x hx with h | h
    · exact .inl h
    · exact .inr ((hasKey_cons _ _ _ _).2 (.inr ((hasKey_cons _ _ _ _).2 (.inr h))))
  · intro x v y hx
    have hx' : (if x = id ∧ v = ver + 1 then some (Ls.up rows k j [.ow e2 r2], uA ++ G.β nid :: uB) else G.κ x v) = some y := hx
    by_cases hxi : x = id ∧ v = ver + 1
    · obtain ⟨rfl, rfl⟩ := hxi
      refine ⟨hid, fun ver' e' sz' r' hl => ?_⟩
      rw [look_cons, if_pos rfl] at hl
      simp only [O.row.injEq] at hl
      omega
    · rw [if_neg hxi] at hx'
      refine ⟨(hr.kd x v y hx').1, fun ver' e' sz' r' hl => ?_⟩
      rw [look_cons] at hl
      by_cases hxd : x = id
      · subst hxd
        rw [if_pos rfl] at hl
        simp only [O.row.injEq] at hl
        have := (hr.kd _ v y hx').2 _ _ _ _ ho
        omega
      · rw [if_neg hxd, look_cons] at hl
        by_cases hxn : x = nid
        · rw [if_pos hxn] at hl; cases hl
        · rw [if_neg hxn] at hl
          exact (hr.kd x v y hx').2 _ _ _ _ hl
  · intro x
    show OR F.P w F.K S G' (φ' x) x (look .dead ((id, .row (ver + 1) e sz (Ls.up rows k j [.ow e2 r2])) :: (nid, .dead) :: objs) x)
    rw [look_cons]
    by_cases hxi : x = id
    · rw [if_pos hxi]
      subst hxi
      refine ⟨hid, hsz, hGs, _, ?_, urs, by rw [ul]; exact hown, _, ?_, ?_, hcr'⟩
      · show (if x = x ∧ ver + 1 = ver + 1 then _ else G.κ x (ver + 1)) = _
        rw [if_pos ⟨rfl, rfl⟩]
      · intro b hb'
        obtain ⟨p1, p2⟩ := hb b hb'
        refine ⟨(φid b).2 (.inl p1), ?_⟩
        rintro (h | h | h)
        · exact p2 (sA b h)
        · exact p2 (sB b h)
        · exact hr.dj x nid hin b p1 h
      · intro b hb'
        refine (φid b).2 ?_
        rcases hb' with h | h | h
        · exact .inl (hψ b (sA b h))
        · exact .inl (hψ b (sB b h))
        · exact .inr h
    · rw [if_neg hxi, look_cons]
      by_cases hxn : x = nid
      · rw [if_pos hxn]; trivial
      · rw [if_neg hxn]
        have : φ' x = φ x := by
          funext b
          show (if x = id then _ else if x = nid then False else φ x b) = φ x b
          rw [if_neg hxi, if_neg hxn]
        rw [this]
        exact (hr.obj x).move (fun _ _ => rfl) (fun _ _ => rfl) (fun _ _ => rfl) hle
  · intro x y hxy b hb1 hb2'
    have hb1' : if x = id then φ id b ∨ φ nid b else if x = nid then False else φ x b := hb1
    have hb2'' : if y = id then φ id b ∨ φ nid b else if y = nid then False else φ y b := hb2'
    by_cases hx : x = id
    · rw [if_pos hx] at hb1'
      rw [if_neg (fun e => hxy (hx.trans e.symm))] at hb2''
      by_cases hy : y = nid
      · rw [if_pos hy] at hb2''; exact hb2''
      · rw [if_neg hy] at hb2''
        rcases hb1' with h | h
        · exact hr.dj id y (fun e => hxy (hx.trans e)) b h hb2''
        · exact hr.dj nid y (fun e => hy e.symm) b h hb2''
    · rw [if_neg hx] at hb1'
      by_cases hxn : x = nid
      · rw [if_pos hxn] at hb1'; exact hb1'
      · rw [if_neg hxn] at hb1'
        by_cases hy : y = id
        · rw [if_pos hy] at hb2''
          rcases hb2'' with h | h
          · exact hr.dj x id hx b hb1' h
          · exact hr.dj x nid hxn b hb1' h
        · rw [if_neg hy] at hb2''
          by_cases hyn : y = nid
          · rw [if_pos hyn] at hb2''; exact hb2''
          · rw [if_neg hyn] at hb2''
            exact hr.dj x y hxy b hb1' hb2''
  · intro x b hb'
    have hb1' : if x = id then φ id b ∨ φ nid b else if x = nid then False else φ x b := hb'
    by_cases hx : x = id
    · rw [if_pos hx] at hb1'
      rcases hb1' with h | h
      · exact hr.own id b h
      · exact hr.own nid b h
    · rw [if_neg hx] at hb1'
      by_cases hxn : x = nid
      · rw [if_pos hxn] at hb1'; exact hb1'.elim
      · rw [if_neg hxn] at hb1'
        exact hr.own x b hb1'

theorem Weak.back {n nx : Nat} {env : List (Nat × V)} {objs : List (Nat × O)} (id : Nat) (i : Int) (j nid gt : Nat) {ver e sz ver2 e2 sz2 : Nat} {rows r2 : Rws} (ho : look .dead objs id = .row ver e sz rows) (ho2 : look .dead objs nid = .row ver2 e2 sz2 r2) (hne : nq id nid = false) (hl : look .u env gt = .hl id ver i j nid)
    (h0 : 0 ≤ i) (h1 : i < (rows.length : Int)) (hc : (rows.getD i.toNat [])[j]? = some .jk) (rows' : Rws) (hrows : Ls.up rows i j [.ow e2 r2] = rows') :
    Weak F ⟨n, nx, env, objs⟩ ⟨n, nx, env, (id, .row (ver + 1) e sz rows') :: (nid, .dead) :: objs⟩ := Weak.up fun K => WeakS.back (F := F.up K) id i j nid gt ho ho2 hne hl h0 h1 hc rows' hrows

/-! ### what is never written again -/
mutual
def frzV (id : Nat) (x : T) : V → V
  | .rf k => bif nq k id then .t x else .rf k
  | .ag cs => .ag (frzL id x cs)
  | .fn f cs => .fn f (frzL id x cs)
  | .t y => .t y
  | .sb a b c => .sb a b c
  | .np a b c d e f => .np a b c d e f
  | .pt a b c => .pt a b c
  | .tu cs => .tu cs
  | .cd b v => .cd b v
  | .hl a b c d e => .hl a b c d e
  | .u => .u
def frzL (id : Nat) (x : T) : List V → List V
  | [] => []
  | v :: vs => frzV id x v :: frzL id x vs
end
def frzE (id : Nat) (x : T) : List (Nat × V) → List (Nat × V)
  | [] => []
  | (t, v) :: r => (t, frzV id x v) :: frzE id x r
def frzO (id : Nat) (x : T) : List (Nat × O) → List (Nat × O)
  | [] => []
  | (k, .box e cs) :: r => (k, .box e (frzL id x cs)) :: frzO id x r
  | (k, .row a b c d) :: r => (k, .row a b c d) :: frzO id x r
  | (k, .dead) :: r => (k, .dead) :: frzO id x r

theorem VRs.more {P : Program} {K S' : Nat → Prop} {vs : List V} {us : List Value} (h : VRs P w K S G vs us) (hs : Sub S S') : VRs P w K S' G vs us := by
  induction h with
  | nil => exact .nil
  | t hx _ ih => exact .t (hx.more hs) ih
  | rf hi hu h1 _ ih => exact .rf hi hu h1 ih
  | sb hid h0 h1 hn hm hc hA hb _ ih => exact .sb hid h0 h1 hn hm hc hA hb ih
  | np hid hi r0 u0 hk hj hr hl hu hsl _ ih => exact .np hid hi r0 u0 hk hj hr hl hu hsl ih
  | pt hid hi hg _ ih => exact .pt hid hi hg ih
  | ag _ _ ihc ih => exact .ag ihc ih
  | tu _ _ ihc ih => exact .tu ihc ih
  | fn _ _ ihc ih => exact .fn ihc ih
  | cd0 _ ih => exact .cd0 ih
  | cd1 _ _ ihv ih => exact .cd1 ihv ih
  | uu _ ih => exact .uu ih
  | hl hid hd2 hi r0 u0 hk hu _ ih => exact .hl hid hd2 hi r0 u0 hk hu ih

theorem frz_sound {P : Program} {K S' : Nat → Prop} {id : Nat} {x : T} (hs : Sub S S') (hx : CR P w K S' [x] [G.β id] no) {vs : List V} {us : List Value} (h : VRs P w K S G vs us) : VRs P w K S' G (frzL id x vs) us := by
  induction h with
  | nil => simpa [frzL] using VRs.nil
  | t hy _ ih => simpa [frzL, frzV] using VRs.t (hy.more hs) ih
  | @rf k u vs us hi hu h1 _ ih =>
    simp only [frzL, frzV]
    cases hc : nq k id with
    | true =>
      obtain rfl := nq_eq hc
      rw [hu]
      exact .t hx ih
    | false => exact .rf hi hu h1 ih
  | sb hid h0 h1 hn hm hc hA hb _ ih => simpa [frzL, frzV] using VRs.sb hid h0 h1 hn hm hc hA hb ih
  | np hid hi r0 u0 hk hj hr hl hu hsl _ ih => simpa [frzL, frzV] using VRs.np hid hi r0 u0 hk hj hr hl hu hsl ih
  | pt hid hi hg _ ih => simpa [frzL, frzV] using VRs.pt hid hi hg ih
  | ag _ _ ihc ih => simpa [frzL, frzV] using VRs.ag ihc ih
  | tu hc _ _ ih => simpa [frzL, frzV] using VRs.tu (hc.more hs) ih
  | fn _ _ ihc ih => simpa [frzL, frzV] using VRs.fn ihc ih
  | cd0 _ ih => simpa [frzL, frzV] using VRs.cd0 ih
  | cd1 hv _ _ ih => simpa [frzL, frzV] using VRs.cd1 (hv.more hs) ih
  | uu _ ih => simpa [frzL, frzV] using VRs.uu ih
  | hl hid hd2 hi r0 u0 hk hu _ ih => simpa [frzL, frzV] using VRs.hl hid hd2 hi r0 u0 hk hu ih

theorem look_frzE (id : Nat) (x : T) : ∀ (env : List (Nat × V)) (t : Nat), look .u (frzE id x env) t = frzV id x (look .u env t)
  | [], t => by simp [frzE, look, frzV]
  | (k, v) :: r, t => by
    simp only [frzE]
    rw [look_cons, look_cons, look_frzE id x r t]
    split <;> rfl

theorem look_frzO (id : Nat) (x : T) : ∀ (objs : List (Nat × O)) (k : Nat), look .dead (frzO id x objs) k = (match look .dead objs k with | .box e cs => .box e (frzL id x cs) | o => o) ∧ hasKey (frzO id x objs) k = hasKey objs k
  | [], k => by simp [frzO, look, hasKey]
  | (k', o) :: r, k => by
    obtain ⟨h1, h2⟩ := look_frzO id x r k
    cases o <;> simp only [frzO, hasKey, h2, and_true] <;> rw [look_cons, look_cons, h1] <;> split <;> rfl

/-- An object that is never written again, as what has come. -/
theorem WeakS.frz {n nx : Nat} {env : List (Nat × V)} {objs : List (Nat × O)} (id : Nat) {ver e sz : Nat} {rows : Rws} (ho : look .dead objs id = .row ver e sz rows) (rows' : Rws) (hrows : Ls.fr rows = rows') :
    WeakS F ⟨n, nx, env, objs⟩ ⟨n, nx, frzE id (.im false rows') env, (id, .dead) :: frzO id (.im false rows') objs⟩ := by
  subst hrows
  rintro a w ⟨S, G, φ, hr⟩
  have hx : CR F.P w F.K (fun b => S b ∨ φ id b) [.im false (Ls.fr rows)] [G.β id] no := by
    have := (row_ow hr ho).lend (S' := fun b => S b ∨ φ id b) (fun b h => .inl (hr.KS b h)) (fun b h => .inl (hr.KS b h)) (fun b h => .inr h)
    simpa [fzL, T.fz, Ls] using this
  have hs : Sub S (fun b => S b ∨ φ id b) := fun _ h => .inl h
  refine ⟨fun b => S b ∨ φ id b, G, fun i b => if i = id then False else φ i b, fun i hi => ?_, fun i v y hy => ⟨(hr.kd i v y hy).1, fun ver' e' sz' r' hl => ?_⟩, hr.n, fun b h => .inl (hr.KS b h), fun b h => ?_, fun t => ?_, fun i => ?_, fun i j hij b h1 h2 => ?_, fun i b h => ?_, hr.kept, hr.defs, hr.anc⟩
  · rcases hr.nx i hi with h | h
    · exact .inl h
    · exact .inr ((hasKey_cons _ _ _ _).2 (.inr ((look_frzO _ _ _ _).2.trans h)))
  · rw [look_cons] at hl
    split at hl
    · cases hl
    · rw [(look_frzO _ _ _ _).1] at hl
      cases hq : look .dead objs i with
      | box e2 cs => rw [hq] at hl; cases hl
      | dead => rw [hq] at hl; cases hl
      | row v1 e1 s1 r1 =>
        rw [hq] at hl
        simp only [O.row.injEq] at hl
        have := (hr.kd i v y hy).2 _ _ _ _ hq
        omega
  · rcases h with h | h
    · exact hr.Slt b h
    · exact (hr.own id b h).1
  · show VR F.P w F.K _ G (look .u (frzE id (.im false (Ls.fr rows)) env) t) _
    rw [look_frzE]
    have := frz_sound hs hx (hr.env t)
    simpa [frzL] using this
  · have key : ∀ k : Nat, OR F.P w F.K (fun b => S b ∨ φ id b) G (fun b => if k = id then False else φ k b) k (look .dead ((id, .dead) :: frzO id (.im false (Ls.fr rows)) objs) k) := by
      intro k
      rw [look_cons]
      by_cases hk : k = id
      · rw [if_pos hk]; trivial
      · rw [if_neg hk, (look_frzO _ _ _ _).1]
        have e : (fun b => if k = id then False else φ k b) = φ k := by funext b; rw [if_neg hk]
        rw [e]
        have hok : OR F.P w F.K S G (φ k) k (look .dead objs k) := hr.obj k
        cases hq : look .dead objs k with
        | dead => trivial
        | row v1 e1 s1 r1 => rw [hq] at hok; exact hok
        | box e1 cs =>
          rw [hq] at hok
          obtain ⟨h1, g, us, h2, h3, h4, h5⟩ := hok
          exact ⟨h1, g, us, h2, h3, h4, frz_sound hs hx h5⟩
    exact key i
  · have h1' : if i = id then False else φ i b := h1
    have h2' : if j = id then False else φ j b := h2
    split at h1'
    · exact h1'
    · split at h2'
      · exact h2'
      · exact hr.dj i j hij b h1' h2'
  · have h' : if i = id then False else φ i b := h
    split at h'
    · exact h'.elim
    · rename_i hne
      obtain ⟨p1, p2, p3⟩ := hr.own i b h'
      refine ⟨p1, ?_, p3⟩
      rintro (q | q)
      · exact p2 q
      · exact hr.dj i id hne b h' q

theorem Weak.frz {n nx : Nat} {env : List (Nat × V)} {objs : List (Nat × O)} (id : Nat) {ver e sz : Nat} {rows : Rws} (ho : look .dead objs id = .row ver e sz rows) (rows' : Rws) (hrows : Ls.fr rows = rows') :
    Weak F ⟨n, nx, env, objs⟩ ⟨n, nx, frzE id (.im false rows') env, (id, .dead) :: frzO id (.im false rows') objs⟩ := Weak.up fun K => WeakS.frz (F := F.up K) id ho rows' hrows

/-! ### rows with a hole -/
theorem ltn {a j n : Nat} (h : a = n) (k : j < n) : j < a := h ▸ k
section
variable {α : Type} {f : α → List T} {l r : List α} {x y : α} {i : Int} {j : Nat} {c d : T}
theorem get_lt' (f : α → List T) (h : getO l i = some x) : i < ((rowsOf f l).length : Int) := get_lt (f := f) h
theorem get_le' (h : getO l i = some x) : 0 ≤ i := get_le h
theorem up_len' (rows : Rws) (i : Int) (j : Nat) (cs : List T) : (Ls.up rows i j cs).length = rows.length := by show (rows.set _ _).length = _; simp
theorem up_lt (f : α → List T) (h : getO l i = some x) : Ls.lt i (Ls.ln (Ls.up (rowsOf f l) i j [c])) := by
  show i < ((Ls.up (rowsOf f l) i j [c]).length : Int)
  rw [up_len']; exact get_lt' f h
theorem up_at (f : α → List T) (h : getO l i = some x) : (Ls.up (rowsOf f l) i j [c]).getD i.toNat [] = (f x).take j ++ [c] ++ (f x).drop (j + 1) := by
  have h2 := get_lt' f h
  have h3 := get_le' h
  have e : (rowsOf f l).getD i.toNat [] = f x := get_ge h
  show ((rowsOf f l).set i.toNat _).getD i.toNat [] = _
  rw [List.getD_eq_getElem?_getD, List.getElem?_set, if_pos rfl, if_pos (by omega), e]
  rfl
theorem up_ge (f : α → List T) (h : getO l i = some x) : Ls.ge (Ls.up (rowsOf f l) i j [c]) i = (f x).take j ++ [c] ++ (f x).drop (j + 1) := up_at f h
theorem up_up (f : α → List T) (h : getO l i = some x) (hj : j < (f x).length) : Ls.up (Ls.up (rowsOf f l) i j [c]) i j [d] = Ls.up (rowsOf f l) i j [d] := by
  have e : (rowsOf f l).getD i.toNat [] = f x := get_ge h
  show (Ls.up (rowsOf f l) i j [c]).set i.toNat (((Ls.up (rowsOf f l) i j [c]).getD i.toNat []).take j ++ [d] ++ ((Ls.up (rowsOf f l) i j [c]).getD i.toNat []).drop (j + [d].length)) = (rowsOf f l).set i.toNat (((rowsOf f l).getD i.toNat []).take j ++ [d] ++ ((rowsOf f l).getD i.toNat []).drop (j + [d].length))
  rw [up_at f h, e]
  show ((rowsOf f l).set i.toNat _).set i.toNat _ = _
  rw [List.set_set]
  have hl : ((f x).take j).length = j := by rw [List.length_take]; omega
  congr 1
  congr 1
  · congr 1
    rw [List.append_assoc, List.take_append_of_le_length (by omega), List.take_take, Nat.min_self]
  · rw [List.append_assoc, List.drop_append, List.drop_eq_nil_of_le (by simp; omega), hl]
    simp
/-- A hole that is filled. -/
theorem hole_le {P : Program} (h : getO l i = some x) (hs : some (setI l i y) = some r) (hj : j < (f x).length) (hl : ((f x).take j ++ [d] ++ (f x).drop (j + [d].length)).length = (f y).length) (hc : LLe P ((f x).take j ++ [d] ++ (f x).drop (j + [d].length)) (f y)) : RLe P (Ls.up (Ls.up (rowsOf f l) i j [c]) i j [d]) (rowsOf f r) := by
  rw [up_up f h hj]
  exact sto_le h hs hl hc
/-- What was taken out is laid back as it was. -/
theorem hole_eq (h : getO l i = some x) (hd : (f x)[j]? = some d) : Ls.up (Ls.up (rowsOf f l) i j [c]) i j [d] = rowsOf f l := by
  have hj := (List.getElem?_eq_some_iff.1 hd).1
  have hd' := (List.getElem?_eq_some_iff.1 hd).2
  have h2 := get_lt' f h
  have h3 := get_le' h
  have e : (rowsOf f l).getD i.toNat [] = f x := get_ge h
  rw [up_up f h hj]
  show (rowsOf f l).set i.toNat (((rowsOf f l).getD i.toNat []).take j ++ [d] ++ ((rowsOf f l).getD i.toNat []).drop (j + [d].length)) = _
  have hk : i.toNat < (rowsOf f l).length := by omega
  have e2 : (rowsOf f l)[i.toNat] = f x := by
    rw [List.getD_eq_getElem?_getD, List.getElem?_eq_getElem hk] at e; exact e
  rw [e]
  have : (f x).take j ++ [d] ++ (f x).drop (j + [d].length) = (rowsOf f l)[i.toNat] := by
    rw [e2, ← hd', List.append_assoc]
    show (f x).take j ++ (f x)[j] :: (f x).drop (j + 1) = _
    rw [← List.drop_eq_getElem_cons hj, List.take_append_drop]
  rw [this, List.set_getElem_self]
end

end Go.Proofs.Ytgicjbeaomjdgaa.L
