/- Monotone steps, 3: the step as a whole. -/
import Derived.Test.YtgicjbeaomjdgaaSl20
namespace Go.Proofs.Ytgicjbeaomjdgaa.L
set_option linter.unusedVariables false
set_option linter.unusedSimpArgs false
open Go

variable {tab : List (Nat × Ty)} {L : Lf} {e e' : List (Nat × V)} {o o' : List (Nat × O)} {σ σ' : St} {P : Program}

theorem openCells_le {nx : Nat} : ∀ {cs : List T} {o o' δ : List (Nat × O)} {id id' : Nat} {vs : List V}, OLe o o' → openCells tab nx o id cs = some (vs, δ ++ o, id') → openCells tab nx o' id cs = some (vs, δ ++ o', id')
  | [], o, o', δ, id, id', vs, ho, h => by
    simp only [openCells, Option.some.injEq, Prod.mk.injEq] at h ⊢
    obtain ⟨h1, h2, h3⟩ := h
    have : δ = [] := by
      have := congrArg List.length h2
      simpa using this
    subst this
    exact ⟨h1, rfl, h3⟩
  | c :: cs, o, o', δ, id, id', vs, ho, h => by
    have plain : ∀ {vs' : List V} {os : List (Nat × O)} {i'}, openCells tab nx o id cs = some (vs', os, i') → os = δ ++ o → openCells tab nx o' id cs = some (vs', δ ++ o', i') := by
      intro vs' os i' hrec e
      subst e
      exact openCells_le ho hrec
    have ext : ∀ {p : Nat × O} {vs' : List V} {os : List (Nat × O)} {i' i2 : Nat}, openCells tab nx (p :: o) i2 cs = some (vs', os, i') → os = δ ++ o → openCells tab nx (p :: o') i2 cs = some (vs', δ ++ o', i') := by
      intro p vs' os i' i2 hrec e
      subst e
      obtain ⟨δ', hδ⟩ := openCells_ext hrec
      have e : δ = δ' ++ [p] := by
        have : δ ++ o = (δ' ++ [p]) ++ o := by rw [hδ]; simp
        exact List.append_cancel_right this
      subst e
      have := openCells_le (δ := δ') (vs := vs') (id' := i') (ho.cons p) (by rw [hrec]; simp)
      rw [this]; simp
    simp only [openCells] at h ⊢
    cases c with
    | s v =>
      try simp only at h ⊢
      split at h
      · rename_i hrec
        simp only [Option.some.injEq, Prod.mk.injEq] at h
        rw [plain hrec h.2.1, ← h.1, ← h.2.2]
      · simp at h
    | er =>
      try simp only at h ⊢
      split at h
      · rename_i hrec
        simp only [Option.some.injEq, Prod.mk.injEq] at h
        rw [plain hrec h.2.1, ← h.1, ← h.2.2]
      · simp at h
    | im k r =>
      cases k with
      | false => simp at h
      | true =>
        try simp only at h ⊢
        split at h
        · rename_i hrec
          simp only [Option.some.injEq, Prod.mk.injEq] at h
          rw [plain hrec h.2.1, ← h.1, ← h.2.2]
        · simp at h
    | ow e rows =>
      try simp only at h ⊢
      split at h
      · rename_i ty hty hf
        rw [fresh_le ho hf]
        try simp only [hty]
        split at h
        · rename_i hrec
          simp only [Option.some.injEq, Prod.mk.injEq] at h
          rw [ext hrec h.2.1, ← h.1, ← h.2.2]
        · simp at h
      · simp at h
    | bx e xs =>
      try simp only at h ⊢
      split at h
      · rename_i us hpl hf
        rw [fresh_le ho hf]
        try simp only [hpl]
        split at h
        · rename_i hrec
          simp only [Option.some.injEq, Prod.mk.injEq] at h
          rw [ext hrec h.2.1, ← h.1, ← h.2.2]
        · simp at h
      · simp at h
    | _ => simp at h

theorem openRes_le {nx : Nat} : ∀ {res : List A} {o o' δ : List (Nat × O)} {id : Nat} {vs : List V}, OLe o o' → openRes tab nx o id res = some (vs, δ ++ o) → openRes tab nx o' id res = some (vs, δ ++ o')
  | [], o, o', δ, id, vs, ho, h => by
    simp only [openRes, Option.some.injEq, Prod.mk.injEq] at h ⊢
    obtain ⟨h1, h2⟩ := h
    have : δ = [] := by
      have := congrArg List.length h2
      simpa using this
    subst this
    exact ⟨h1, rfl⟩
  | .v x :: r, o, o', δ, id, vs, ho, h => by
    simp only [openRes] at h ⊢
    split at h
    · rename_i hc
      split at h
      · rename_i hrec
        simp only [Option.some.injEq, Prod.mk.injEq] at h
        obtain ⟨h1, h2⟩ := h
        subst h2
        obtain ⟨δ1, hδ1⟩ := openCells_ext hc
        subst hδ1
        obtain ⟨δ2, hδ2⟩ := openRes_ext hrec
        have e : δ = δ2 ++ δ1 := by
          have : δ ++ o = (δ2 ++ δ1) ++ o := by rw [hδ2]; simp
          exact List.append_cancel_right this
        subst e
        rw [openCells_le ho hc]
        try simp only
        rw [List.append_assoc] at hrec
        rw [openRes_le (δ := δ2) (ho.app δ1) hrec, ← h1]
        simp
      · simp at h
    · simp at h
  | .ag xs :: r, o, o', δ, id, vs, ho, h => by
    simp only [openRes] at h ⊢
    split at h
    · rename_i hc
      split at h
      · rename_i hrec
        simp only [Option.some.injEq, Prod.mk.injEq] at h
        obtain ⟨h1, h2⟩ := h
        subst h2
        obtain ⟨δ1, hδ1⟩ := openCells_ext hc
        subst hδ1
        obtain ⟨δ2, hδ2⟩ := openRes_ext hrec
        have e : δ = δ2 ++ δ1 := by
          have : δ ++ o = (δ2 ++ δ1) ++ o := by rw [hδ2]; simp
          exact List.append_cancel_right this
        subst e
        rw [openCells_le ho hc]
        try simp only
        rw [List.append_assoc] at hrec
        rw [openRes_le (δ := δ2) (ho.app δ1) hrec, ← h1]
        simp
      · simp at h
    · simp at h

/-- More is known there. -/
structure SLe (σ σ' : St) : Prop where
  n : σ'.n = σ.n
  nx : σ'.nx = σ.nx
  env : ELe σ.env σ'.env
  objs : OLe σ.objs σ'.objs

def Same (e e' : List (Nat × V)) (op : Op) : Prop := ∀ x ∈ op.operands, ev e' x = ev e x

theorem stepQ_le (h : SLe σ σ') {op : Op} {sup : Option Sup} (hs : Same σ.env σ'.env op) {r} (hq : stepQ L tab σ op sup = some r) : stepQ L tab σ' op sup = some r := by
  cases op <;> simp only [stepQ, reduceCtorEq] at hq ⊢
  case move x => rw [hs x (by simp [Op.operands])]; exact hq
  case assign x => rw [hs x (by simp [Op.operands])]; exact hq
  case pick => exact qPick_le h.env hq
  case build t ps =>
    unfold qBuild at *
    have hfp : ∀ offs cs, fillParts σ'.env offs ps.toList cs = fillParts σ.env offs ps.toList cs := fun offs cs => fillParts_eq (fun p hp => hs p.2 (by simp only [Op.operands]; exact List.mem_toArray.2 (List.mem_map.2 ⟨p, hp, rfl⟩)))
    simp only [hfp]
    exact hq
  case load => exact qLoad_le h.env h.objs hq
  case nilCheck => exact qNil_le h.env hq
  case binOp o xt x y yt =>
    have e1 := hs x (by simp [Op.operands])
    have e2 := hs y (by simp [Op.operands])
    have e3 : qBin L tab σ'.env o xt x y = qBin L tab σ.env o xt x y := by unfold qBin; rw [e1, e2]
    have e4 : qEqA L tab σ'.env o xt x y = qEqA L tab σ.env o xt x y := by unfold qEqA; rw [e1, e2]
    rw [e3, e4]
    exact hq
  case unOp => exact qUn_le h.env hq
  case convert => exact qConv_le h.env hq
  case makeFunc f first caps =>
    unfold qFunc at *
    split at hq
    · try simp only
      rw [evs_eq (e := σ.env) (fun x hx => hs x (by simp only [Op.operands]; exact Array.mem_append.2 (.inr (Array.mem_toList_iff.1 hx))))]
      exact hq
    · simp at hq
  case slice t x lo hi mx =>
    cases mx with
    | none => exact qSlice_le h.env h.objs hq
    | some _ => simp at hq
  case fieldAddr => exact qField_le h.env hq
  case indexAddr => exact qIndexA_le h.env h.objs hq
  case index => exact qIndex_le h.env hq
  case extract => exact qExtract_le h.env hq
  case call c =>
    split at hq
    · rename_i b hb
      try simp only [hb]
      split at hq
      · exact qLen_le h.env h.objs hq
      · simp at hq
    · simp at hq

theorem stepA_le (h : SLe σ σ') {op : Op} {id : Nat} (hs : Same σ.env σ'.env op) {r} (hq : stepA L tab σ id op = some r) : stepA L tab σ' id op = some r := by
  cases op <;> simp only [stepA, reduceCtorEq] at hq ⊢
  case box e x => rw [hs x (by simp [Op.operands])]; exact hq
  case alloc e => exact hq
  case buildSlice t n ps =>
    split at hq
    · rename_i ty hty
      try simp only [hty]
      split at hq
      · rename_i te hsl hte
        try simp only [hsl, hte]
        split at hq
        · rename_i hl
          rw [litRows_le (e := σ.env) h.objs (fun p hp => hs p.2 (by simp only [Op.operands]; exact List.mem_toArray.2 (List.mem_map.2 ⟨p, hp, rfl⟩))) hl]
          exact hq
        · simp at hq
      · simp at hq
    · simp at hq
  case makeSlice t l c => rw [hs l (by simp [Op.operands]), hs c (by simp [Op.operands])]; exact hq
  case call c =>
    split at hq
    · rename_i s x t t' hcal hargs hts
      have h1 := hs s (by simp only [Op.operands, Call.operands, hcal]; have : s ∈ c.args := by rw [← Array.mem_toList_iff, hargs]; simp
                          simp [this])
      have h2 := hs x (by simp only [Op.operands, Call.operands, hcal]; have : x ∈ c.args := by rw [← Array.mem_toList_iff, hargs]; simp
                          simp [this])
      try simp only [hcal, hargs, hts]
      rw [h1, h2]
      split at hq
      · rename_i ty htt hty
        try simp only [htt, hty]
        split at hq
        · rename_i te hsl hte
          try simp only [hsl, hte]
          split at hq
          · rename_i p1 v1 p2 v2 z zr e1 e2 e3
            try simp only [e1, e2, e3]
            split at hq
            · rename_i hmv
              try simp only [hmv]
              split at hq
              · rename_i r1 d1 p3 r2 sid o t1 s1
                rw [target_le h.objs t1, sourceM_le h.objs s1]
                try simp only
                split at hq
                · rename_i hn hfc
                  rw [hn, show freshB σ'.nx σ'.objs (id + 1) = true from (by rw [h.nx]; exact fresh_le h.objs hfc)]
                  exact hq
                · simp at hq
              · simp at hq
            · rename_i hmv
              try simp only [hmv]
              split at hq
              · rename_i r1 d1 p3 r2 d2 t1 s1
                rw [target_le h.objs t1, source_le h.objs s1]
                exact hq
              · simp at hq
          · simp at hq
        · simp at hq
      · simp at hq
    · simp at hq

theorem stepS_le (h : SLe σ σ') {op : Op} (hs : Same σ.env σ'.env op) {r} (hq : stepS L tab σ op = some r) : stepS L tab σ' op = some r := by
  cases op <;> simp only [stepS, reduceCtorEq] at hq ⊢
  case store t x y =>
    rw [hs x (by simp [Op.operands]), hs y (by simp [Op.operands])]
    split at hq
    · rename_i ty px id i j py v hty hx hy
      try simp only [hty, hx, hy]
      split at hq
      · rename_i vc hvc
        try simp only [hvc]
        rcases h.objs.1 id with hd | hd
        · rw [hd] at hq; split at hq <;> simp_all
        · rw [hd]
          split at hq
          · rename_i hb ho
            try simp only [hb, ho]
            exact hq
          · rename_i hb ho
            try simp only [hb, ho]
            split at hq
            · rename_i ts ds hsk hle
              rw [sinkCells_le h.objs hsk]
              try simp only [hle]
              exact hq
            · simp at hq
          · simp at hq
      · simp at hq
    · simp at hq

theorem stepC_le (h : SLe σ σ') {c : Call} {id : Nat} {sup : Option Sup} (hs : Same σ.env σ'.env (.call c)) {ps v δ} (hq : stepC P L tab σ id c sup = some (ps, v, δ ++ σ.objs)) : stepC P L tab σ' id c sup = some (ps, v, δ ++ σ'.objs) := by
  unfold stepC at *
  split at hq
  · rename_i f own outs res hcal
    try simp only [hcal]
    rw [hs f (by simp [Op.operands, Call.operands, hcal]), evs_eq (e := σ.env) (fun x hx => hs x (by simp [Op.operands, Call.operands, hcal, Array.mem_toList_iff.1 hx])), h.nx]
    split at hq
    · rename_i e1 e2
      try simp only [e1, e2]
      split at hq
      · rename_i as0 ds0 h0
        rw [argAll_le h.objs h.objs h0]
        try simp only
        split at hq
        · rename_i as ds h1
          rw [argAll_le h.objs (h.objs.app _) h1]
          try simp only
          split at hq
          · rename_i b1 b2 b3 b4
            obtain ⟨δ1, hδ1⟩ := back_ext b4
            subst hδ1
            rw [back_le h.objs b4]
            try simp only [b1, b2, b3]
            split at hq
            · rename_i rs objs2 hres
              obtain ⟨δ2, hδ2⟩ := openRes_ext hres
              subst hδ2
              have := openRes_le (δ := δ2) (h.objs.app δ1) hres
              rw [this]
              try simp only
              split at hq
              · simp only [Option.some.injEq, Prod.mk.injEq] at hq ⊢
                obtain ⟨q1, q2, q3⟩ := hq
                have e : δ = δ2 ++ δ1 := by
                  have : δ ++ σ.objs = (δ2 ++ δ1) ++ σ.objs := by rw [← q3]; simp
                  exact List.append_cancel_right this
                exact ⟨q1, q2, by rw [e]; simp⟩
              · simp only [Option.some.injEq, Prod.mk.injEq] at hq ⊢
                obtain ⟨q1, q2, q3⟩ := hq
                have e : δ = δ2 ++ δ1 := by
                  have : δ ++ σ.objs = (δ2 ++ δ1) ++ σ.objs := by rw [← q3]; simp
                  exact List.append_cancel_right this
                exact ⟨q1, q2, by rw [e]; simp⟩
            · simp at hq
          · simp at hq
        · simp at hq
      · simp at hq
    · simp at hq
  · simp at hq

end Go.Proofs.Ytgicjbeaomjdgaa.L
