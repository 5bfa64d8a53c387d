import Derived.Test.YtclgfgnhcakhdaaGreatDoorDn1
namespace Go.Am
set_option linter.unusedSimpArgs false
set_option linter.unusedSectionVars false
set_option linter.unusedVariables false
theorem xSome_of {α : Type} {v : Option α} {a : α} {K : α → Prop} (h : v = some a) (hk : K a) : xSome v K := by rw [h]; exact hk
section
variable {P : Program} {H : Heap} {K : Cont} {q : Out}
theorem loadE_sound {g n p} (h : loadE H g n p = some q) (hk : K q.1 q.2.1 q.2.2) : xLoad H g n p K := by
  cases p <;> simp only [loadE, gu_some, Option.bind_eq_some_iff, Option.some.injEq, reduceCtorEq] at h
  case ptr => obtain ⟨h1, h2, r, h3, h4, rfl⟩ := h; exact ⟨h1, h2, xSome_of h3 ⟨h4, hk⟩⟩
  case iptr => obtain ⟨h1, rfl⟩ := h; exact ⟨h1, hk⟩
theorem storeE_sound {n p v} (h : storeE H n p v = some q) (hk : K q.1 q.2.1 q.2.2) : xStore H n p v K := by
  simp only [storeE, gu_some] at h
  obtain ⟨h1, h2, h3, h⟩ := h
  refine ⟨h1, h2, h3, ?_⟩
  cases p <;> simp only [gu_some, Option.bind_eq_some_iff, Option.some.injEq, reduceCtorEq] at h
  case ptr => obtain ⟨h1, h2, r, h3, h4, rfl⟩ := h; exact ⟨h1, h2, xSome_of h3 ⟨h4, hk⟩⟩
theorem fieldE_sound {off p} (h : fieldE off p = some q) (hk : K q.1 q.2.1 q.2.2) : xField off p K := by
  cases p <;> simp only [fieldE, Option.some.injEq, reduceCtorEq] at h <;> (subst h; exact hk)
theorem partE_sound {g off n v} (h : partE g off n v = some q) (hk : K q.1 q.2.1 q.2.2) : xPart g off n v K := by
  cases v <;> simp only [partE, gu_some, Option.some.injEq, reduceCtorEq] at h
  obtain ⟨h1, h2, rfl⟩ := h; exact ⟨h1, h2, hk⟩
theorem indexAddrE_sound {t p n} (h : indexAddrE P H t p n = some q) (hk : K q.1 q.2.1 q.2.2) : xIndexAddr P H t p n K := by
  cases p <;> simp only [indexAddrE, gu_some, Option.bind_eq_some_iff, Option.some.injEq, reduceCtorEq] at h
  case slice => obtain ⟨h1, r, h2, rfl⟩ := h; exact ⟨h1, xSome_of h2 hk⟩
  case osl => obtain ⟨h1, h2, h3, h4, rfl⟩ := h; exact ⟨h1, h2, h3, h4, hk⟩
  case ptr => obtain ⟨a, h1, h2, rfl⟩ := h; exact xSome_of h1 ⟨h2, hk⟩
  case iptr => obtain ⟨a, h1, h2, rfl⟩ := h; exact xSome_of h1 ⟨h2, hk⟩
theorem indexE_sound {t p n} (h : indexE P t p n = some q) (hk : K q.1 q.2.1 q.2.2) : xIndex P t p n K := by
  cases p <;> simp only [indexE, gu_some, Option.bind_eq_some_iff, Option.some.injEq, reduceCtorEq] at h
  case str => obtain ⟨h1, r, h2, rfl⟩ := h; exact ⟨h1, xSome_of h2 hk⟩
  case agg => obtain ⟨a, h1, h2, h3, h4, rfl⟩ := h; exact xSome_of h1 ⟨h2, h3, h4, hk⟩
theorem tupE_sound {i v} (h : tupE i v = some q) (hk : K q.1 q.2.1 q.2.2) : xTup i v K := by
  cases v <;> simp only [tupE, Option.bind_eq_some_iff, Option.some.injEq, reduceCtorEq] at h
  obtain ⟨a, h1, rfl⟩ := h; exact xSome_of h1 hk
theorem sliceE_sound {t p lo hi} (h : sliceE P H t p lo hi = some q) (hk : K q.1 q.2.1 q.2.2) : xSlice P H t p lo hi K := by
  cases p <;> simp only [sliceE, gu_some, Option.bind_eq_some_iff, Option.some.injEq, reduceCtorEq] at h
  case str => obtain ⟨h1, a, h2, b, h3, rfl⟩ := h; exact ⟨h1, xSome_of h2 (xSome_of h3 hk)⟩
  case slice => obtain ⟨h1, a, h2, b, h3, rfl⟩ := h; exact ⟨h1, xSome_of h2 (xSome_of h3 hk)⟩
  case osl => obtain ⟨h0, h0', h1, a, h2, b, h3, rfl⟩ := h; exact ⟨h0, h0', h1, xSome_of h2 (xSome_of h3 hk)⟩
  case ptr => obtain ⟨h0, h0', n, h1, h2, r, h3, h4, h5, a, h6, b, h7, rfl⟩ := h; exact ⟨h0, h0', xSome_of h1 ⟨h2, xSome_of h3 ⟨h4, h5, xSome_of h6 (xSome_of h7 hk)⟩⟩⟩
theorem slice3E_sound {t p lo hi mx} (h : slice3E P H t p lo hi mx = some q) (hk : K q.1 q.2.1 q.2.2) : xSlice3 P H t p lo hi mx K := by
  cases p <;> simp only [slice3E, gu_some, Option.bind_eq_some_iff, Option.some.injEq, reduceCtorEq] at h
  case slice => obtain ⟨h1, m, h0, a, h2, b, h3, rfl⟩ := h; exact ⟨h1, xSome_of h0 (xSome_of h2 (xSome_of h3 hk))⟩
  case osl =>
    obtain ⟨h0, h0', h1, h4, m, h6, a, h2, b, h3, h5⟩ := h
    refine ⟨h0, h0', h1, h4, xSome_of h6 (xSome_of h2 (xSome_of h3 ?_))⟩
    split at h5
    · rename_i hc
      rw [if_pos hc]
      cases h5; exact hk
    · rename_i hc
      rw [if_neg hc]
      simp only [gu_some, Option.some.injEq] at h5
      obtain ⟨h5, rfl⟩ := h5
      exact ⟨h5, hk⟩
theorem srcE_sound {t size x} {p : List (List AVal) × List Nat} (h : srcE P H t size x = some p) : SrcR P H t size x p.1 p.2 := by
  unfold srcE at h
  split at h
  · simp only [gu_some, Option.some.injEq] at h; obtain ⟨h1, rfl⟩ := h; exact ⟨rfl, h1, rfl⟩
  · simp only [gu_some, Option.some.injEq] at h; obtain ⟨h1, h2, h3, h4, rfl⟩ := h; exact ⟨_, obj_some h1 h2, h3, h4, rfl, rfl⟩
  · simp only [gu_some, Option.some.injEq] at h; obtain ⟨h1, h2, rfl⟩ := h; exact ⟨h1, h2, rfl, rfl⟩
  · simp only [Option.some.injEq] at h; subst h; exact ⟨rfl, rfl⟩
  · simp only [Option.some.injEq] at h; subst h; exact ⟨rfl, rfl⟩
  · cases h
theorem srcX_of {t size x} {p : List (List AVal) × List Nat} {K : List (List AVal) → List Nat → Prop} (h : srcE P H t size x = some p) (hk : K p.1 p.2) : xSrc P H t size x K := by
  unfold srcE at h
  unfold xSrc
  split at h
  · simp only [gu_some, Option.some.injEq] at h; obtain ⟨h1, rfl⟩ := h; exact ⟨h1, hk⟩
  · simp only [gu_some, Option.some.injEq] at h; obtain ⟨h1, h2, h3, h4, rfl⟩ := h; exact ⟨h1, h2, h3, h4, hk⟩
  · simp only [gu_some, Option.some.injEq] at h; obtain ⟨h1, h2, rfl⟩ := h; exact ⟨h1, h2, hk⟩
  · simp only [Option.some.injEq] at h; subst h; exact hk
  · simp only [Option.some.injEq] at h; subst h; exact hk
  · cases h
theorem convE_sound {s d dst v} (h : convE P H s d dst v = some q) (hk : K q.1 q.2.1 q.2.2) : xConv P H s d dst v K := by
  unfold convE at h
  unfold xConv
  split at h
  · simp only [gu_some, Option.bind_eq_some_iff, Option.some.injEq] at h
    obtain ⟨h1, k, h2, rfl⟩ := h
    refine ⟨h1, ?_⟩
    unfold kindO at h2
    split at h2
    · rename_i hu
      simp only [Option.some.injEq] at h2
      subst h2
      rw [hu]; exact hk
    · cases h2
  · split at h
    · rename_i hs
      simp only [gu_some, Option.some.injEq] at h
      obtain ⟨h1, rfl⟩ := h
      simp only [hs, if_true]
      exact ⟨h1, hk⟩
    · rename_i hs
      simp only [gu_some, Option.some.injEq] at h
      obtain ⟨h1, h2, h3, rfl⟩ := h
      simp only [hs, Bool.false_eq_true, if_false]
      exact ⟨h1, h2, h3, hk⟩
  · split at h
    · rename_i hs
      simp only [gu_some, Option.bind_eq_some_iff, Option.some.injEq] at h
      obtain ⟨h1, h2, p, h3, l, h4, rfl⟩ := h
      simp only [hs, if_true]
      exact ⟨h1, trivial, l, p.2, by rw [← unbyte_spec _ _ h4]; exact srcE_sound h3, hk⟩
    · rename_i hs
      simp only [gu_some, Option.some.injEq] at h
      obtain ⟨h1, h2, h3, h4, h5, rfl⟩ := h
      simp only [hs, Bool.false_eq_true, if_false]
      exact ⟨h1, h2, h3, h4, h5, hk⟩
  · rename_i n1 n2 n3
    simp only [gu_some, Option.bind_eq_some_iff, Option.some.injEq] at h
    obtain ⟨h1, h2, p, h3, l, h4, rfl⟩ := h
    split
    · exact absurd rfl (n1 _ _)
    · exact absurd rfl (n2 _)
    · exact absurd rfl (n3 _ _ _ _)
    · exact ⟨h1, h2, l, p.2, by rw [← unbyte_spec _ _ h4]; exact srcE_sound h3, hk⟩
theorem lenE_sound {t x} (h : lenE P H t x = some q) (hk : K q.1 q.2.1 q.2.2) : xLen P H t x K := by
  unfold lenE at h
  unfold xLen
  split at h <;> simp only [gu_some, Option.bind_eq_some_iff, Option.some.injEq, reduceCtorEq] at h
  · obtain ⟨h1, rfl⟩ := h; exact ⟨h1, hk⟩
  · obtain ⟨h1, rfl⟩ := h; exact ⟨h1, hk⟩
  · obtain ⟨h1, h2, h3, rfl⟩ := h; exact ⟨h1, h2, h3, hk⟩
  · obtain ⟨h1, rfl⟩ := h; exact ⟨h1, hk⟩
  · obtain ⟨a, h1, rfl⟩ := h; exact xSome_of h1 hk
theorem appendE_sound {t u dst s x} (h : appendE P H t u dst s x = some q) (hk : K q.1 q.2.1 q.2.2) : xAppend P H t u dst s x K := by
  simp only [appendE, gu_some, Option.bind_eq_some_iff] at h
  obtain ⟨size, h1, bytes, h2, z, h3, h4, h5, h6, p, h7, h8, h⟩ := h
  refine xSome_of h1 (xSome_of h2 (xSome_of h3 ⟨h4, h5, h6, srcX_of h7 ⟨h8, ?_⟩⟩))
  split at h <;> simp only [gu_some, Option.some.injEq, reduceCtorEq] at h
  · obtain ⟨g1, g2, rfl⟩ := h; exact ⟨g1, g2, hk⟩
  · obtain ⟨g1, g2, g3, g4, g5, g6, rfl⟩ := h; exact ⟨g1, g2, g3, g4, g5, g6, hk⟩
theorem zerosE_sound {t u dst s k} (h : zerosE P H t u dst s k = some q) (hk : K q.1 q.2.1 q.2.2) : xZeros P H t u dst s k K := by
  cases s <;> simp only [zerosE, gu_some, Option.bind_eq_some_iff, Option.some.injEq, reduceCtorEq] at h
  obtain ⟨h1, size, h2, h3, bytes, h4, z, h5, h6, h7, g1, g2, g4, g5, g7, g8, h⟩ := h
  refine ⟨h1, xSome_of h2 ⟨h3, xSome_of h4 (xSome_of h5 ⟨h6, h7, g1, g2, g4, g5, g7, g8, ?_⟩)⟩⟩
  split at h
  · rename_i hc
    rw [if_pos hc]
    simp only [Option.some.injEq] at h
    subst h
    exact hk
  · rename_i hc
    rw [if_neg hc]
    simp only [gu_some, Option.some.injEq] at h
    obtain ⟨h8, h9, rfl⟩ := h
    exact ⟨h8, h9, hk⟩
theorem capE_sound {t x} (h : capE P H t x = some q) (hk : K q.1 q.2.1 q.2.2) : xCap P H t x K := by
  cases x <;> simp only [capE, gu_some, Option.some.injEq, reduceCtorEq] at h
  obtain ⟨h1, h2, h3, h4, rfl⟩ := h; exact ⟨h1, h2, h3, h4, hk⟩
theorem copyE_sound {t u d x} (h : copyE P H t u d x = some q) (hk : K q.1 q.2.1 q.2.2) : xCopy P H t u d x K := by
  simp only [copyE, gu_some, Option.bind_eq_some_iff] at h
  obtain ⟨size, h1, p, h2, h⟩ := h
  refine xSome_of h1 (srcX_of h2 ?_)
  cases d <;> simp only [gu_some, Option.some.injEq, reduceCtorEq] at h
  obtain ⟨g1, g2, g3, g4, g5, rfl⟩ := h; exact ⟨g1, g2, g3, g4, g5, hk⟩
end
def OrcOk (E : Env) (C : Orc) : Prop := ∀ f ex ds q, C f ex ds = some q → SpecX E ex f ds q.1 q.2
theorem nodupB_spec : ∀ {l : List Nat}, nodupB l = true → l.Nodup
  | [], _ => List.nodup_nil
  | x :: xs, h => by
    simp only [nodupB, Bool.and_eq_true, Bool.not_eq_true', List.contains_eq_mem, decide_eq_false_iff_not] at h
    exact List.nodup_cons.2 ⟨h.1, nodupB_spec h.2⟩
theorem noneIn_spec {u b : List Nat} (h : noneIn u b = true) : ∀ o ∈ u, o ∉ b := fun o ho hb => by
  have := List.all_eq_true.1 h o ho
  simp [hb] at this
theorem lentOk_spec {H : Heap} : ∀ {os : List Nat} {ls : List AVal}, lentOkE H os ls = true → os.length = ls.length ∧ ∀ (k : Nat) (o : Nat) (l : AVal), os[k]? = some o → ls[k]? = some l → ∃ cs, l = .uptr cs ∧ cs.length = (H o).st
  | [], [], _ => ⟨rfl, fun k o l h => by simp at h⟩
  | [], _ :: _, h => by simp [lentOkE] at h
  | _ :: _, [], h => by simp [lentOkE] at h
  | o :: os, l :: ls, h => by
    cases l <;> simp only [lentOkE, Bool.and_eq_true, decide_eq_true_eq, Bool.false_eq_true] at h
    rename_i cs
    obtain ⟨h1, h2⟩ := lentOk_spec h.2
    refine ⟨by simp [h1], fun k o' l' hk hl => ?_⟩
    cases k with
    | zero => simp only [List.getElem?_cons_zero, Option.some.injEq] at hk hl; subst hk; subst hl; exact ⟨cs, rfl, h.1⟩
    | succ k => exact h2 k o' l' (by simpa using hk) (by simpa using hl)
theorem exOf_sound {H : Heap} : ∀ {vs ds : List AVal} {u b : List Nat} (ms : List Nat) (k : Nat), Pks H vs ds u b → ∀ j ∈ exOf H ms k vs ds, ∃ i, j = k + i ∧ (vs[i]? = some (.sc (.slice none 0 0)) ∨ ∃ o g n, vs[i]? = some (.osl o g 0 n) ∧ o ∈ u ∧ (H o).gen = g ∧ (H o).exact = true ∧ n = (H o).rows.length)
  | _, _, _, _, ms, k, .nil, j, hj => by simp [exOf] at hj
  | v :: vs, d :: ds, _, _, ms, k, .cons (u1 := u1) (u2 := u2) h hs, j, hj => by
    have rest : j ∈ exOf H ms.tail (k + 1) vs ds → ∃ i, j = k + i ∧ ((v :: vs)[i]? = some (.sc (.slice none 0 0)) ∨ ∃ o g n, (v :: vs)[i]? = some (.osl o g 0 n) ∧ o ∈ u1 ++ u2 ∧ (H o).gen = g ∧ (H o).exact = true ∧ n = (H o).rows.length) := fun hj => by
      obtain ⟨i, h1, h2⟩ := exOf_sound ms.tail (k + 1) hs j hj
      refine ⟨i + 1, by omega, ?_⟩
      rcases h2 with h2 | ⟨o, g, n, h2, h3, h4⟩
      · exact .inl (by simpa using h2)
      · exact .inr ⟨o, g, n, by simpa using h2, List.mem_append_right _ h3, h4⟩
    cases h with
    | ownS hy hm hn hr =>
      simp only [exOf] at hj
      rename_i o g n y es
      obtain ⟨z1, z2, z3⟩ := AVal.obj_spec hy
      split at hj
      · rename_i hex
        rcases List.mem_cons.1 hj with rfl | hj
        · exact ⟨0, rfl, .inr ⟨o, g, n, rfl, by simp, z1, hex.1, hex.2⟩⟩
        · exact rest hj
      · exact rest hj
    | plain hp => exact rest (by cases v <;> simp [AVal.plain] at hp <;> simpa [exOf] using hj)
    | nilS => exact rest (by simpa [exOf] using hj)
    | nilU =>
      simp only [exOf] at hj
      split at hj
      · rcases List.mem_cons.1 hj with rfl | hj
        · exact ⟨0, rfl, .inl rfl⟩
        · exact rest hj
      · exact rest hj
    | agg _ => exact rest (by simpa [exOf] using hj)
    | tup _ => exact rest (by simpa [exOf] using hj)
    | fn _ _ => exact rest (by simpa [exOf] using hj)
    | borS _ _ _ => exact rest (by simpa [exOf] using hj)
    | borP _ _ _ => exact rest (by simpa [exOf] using hj)
    | ownP _ _ _ _ => exact rest (by simpa [exOf] using hj)
theorem callE_sound {E : Env} {M : Mds} {C : Orc} (hC : OrcOk E C) {f : FuncId} {vals : List AVal} {dst : Option Tmp} {H : Heap} {K : Cont} {q : Out} (h : callE E M C f vals dst H = some q) (hk : K q.1 q.2.1 q.2.2) : xCall E f vals dst H K := by
  simp only [callE, gu_some, Option.bind_eq_some_iff] at h
  obtain ⟨h1, p, h2, h3, h4, r, h5, h6, h⟩ := h
  have hp := packs_sound h2
  obtain ⟨l1, l2⟩ := lentOk_spec h6
  simp only [backE, gu_some, Option.some.injEq] at h
  obtain ⟨h7, rfl⟩ := h
  refine ⟨h1, p.1, r.1, r.2, p.2.1, p.2.2, _, hp, nodupB_spec h3, noneIn_spec h4, ⟨exOf H (M.par f) 0 vals p.1, hC _ _ _ _ h5, fun j hj => ?_⟩, ?_, l1, l2, nodupB_spec h7, hk⟩
  · obtain ⟨i, rfl, g1⟩ := exOf_sound _ 0 hp j hj
    rw [Nat.zero_add]
    exact g1
  · split
    · rename_i hf
      simp only [Bool.and_eq_true] at hf
      exact .inr ⟨rfl, hf.1, hf.2⟩
    · exact .inl rfl
theorem slice3J_sound {P : Program} {H : Heap} {K : Cont} {q : Out} {t p lo hi mx} (h : slice3J P H t p lo hi mx = some q) (hk : K q.1 q.2.1 q.2.2) : xSlice3J P H t p lo hi mx K := by
  cases p <;> simp only [slice3J, gu_some, Option.bind_eq_some_iff, Option.some.injEq, reduceCtorEq] at h
  obtain ⟨h0, h0', h1, h4, m, h6, a, h2, b, h3, rfl⟩ := h
  exact ⟨h0, h0', h1, h4, xSome_of h6 (xSome_of h2 (xSome_of h3 hk))⟩
theorem appInE_sound {P : Program} {H : Heap} {K : Cont} {q : Out} {t u s x} (h : appInE P H t u s x = some q) (hk : K q.1 q.2.1 q.2.2) : xAppIn P H t u s x K := by
  simp only [appInE, gu_some, Option.bind_eq_some_iff] at h
  obtain ⟨size, h1, h5, h6, p, h7, h8, h⟩ := h
  refine xSome_of h1 ⟨h5, h6, srcX_of h7 ⟨h8, ?_⟩⟩
  cases s <;> simp only [gu_some, Option.some.injEq, reduceCtorEq] at h
  obtain ⟨g1, g2, g3, g4, rfl⟩ := h; exact ⟨g1, g2, g3, g4, hk⟩
theorem clearE_sound {P : Program} {H : Heap} {K : Cont} {q : Out} {t x} (h : clearE P H t x = some q) (hk : K q.1 q.2.1 q.2.2) : xClear P H t x K := by
  cases x <;> simp only [clearE, gu_some, Option.bind_eq_some_iff, Option.some.injEq, reduceCtorEq] at h
  obtain ⟨size, h1, z, h2, h3, h4, g1, g2, g3, g4, rfl⟩ := h; exact xSome_of h1 (xSome_of h2 ⟨h3, h4, g1, g2, g3, g4, hk⟩)
theorem builtinE_sound {E : Env} {k : Nat} {b : Builtin} {args : List Operand} {ts : Array TypeId} {dst : Option Tmp} {ρ : Operand → AVal} {H : Heap} {K : Cont} {q : Out} (h : builtinE E k b args ts dst ρ H = some q) (hk : K q.1 q.2.1 q.2.2) : opX E (.call ⟨.builtin b, ⟨args⟩, ts⟩) dst ρ H K := by
  unfold builtinE at h
  split at h
  case h_1 => exact lenE_sound h hk
  case h_2 =>
    split at h
    · rename_i e1 e2
      simp only [Option.some.injEq] at h; subst h
      rw [opX_max, e1, e2]; exact hk
    · cases h
  case h_3 =>
    split at h
    · rename_i e1 e2
      simp only [Option.some.injEq] at h; subst h
      rw [opX_min, e1, e2]; exact hk
    · cases h
  case h_4 =>
    rename_i x y t u
    cases k with
    | zero =>
      refine opX_append _ _ _ _ _ ?_
      unfold appF at h
      generalize ρ y = vy at h ⊢
      cases vy <;> first | exact appendE_sound h hk | exact zerosE_sound h hk
    | succ k => exact .inr (appInE_sound h hk)
  case h_5 => exact clearE_sound h hk
  case h_6 => exact capE_sound h hk
  case h_7 => exact copyE_sound h hk
  case h_8 => cases h
theorem specX_close {E : Env} {ex : List Nat} {f : FuncId} {ds ls : List AVal} {st : Nat} {es : List (List AVal)} (h : SpecX E ex f ds (.usl st es) ls) : SpecX E ex f ds (.slice st es) ls := by
  intro S w xs U hx hG hst hor hn hb
  refine (h S w xs U hx hG hst hor hn hb).mono ?_
  rintro e w' ⟨x, U', rfl, hk, ⟨y, ys, U1, U2, h1, rfl, hv, hvs⟩, hnd, hb'⟩
  injection h1 with h1 h2
  subst h1; subst h2
  have hsub : ∀ q, After S U w (U1 ++ U2) w' q → After S U w U2 w' q := fun q hq => ⟨hq.1, fun hm => hq.2.1 (List.mem_append_right _ hm), hq.2.2⟩
  refine ⟨_, U2, rfl, hk, ⟨_, _, [], U2, rfl, rfl, ?_, ORels.mono hsub _ _ _ (fun q hq hs => hs.2.1 hq) hvs⟩, (List.nodup_append.1 hnd).2.1, fun b hm => hb' b (List.mem_append_right _ hm)⟩
  obtain ⟨a, cap, rfl, hle, hc⟩ := hv
  refine ⟨⟨a, cap, rfl, hle, fun hne => ?_⟩, rfl⟩
  rcases hc with ⟨h0, _⟩ | ⟨h0, b, off, rfl, rfl, h2, h3, h4⟩
  · exact absurd (List.eq_nil_of_length_eq_zero (by omega)) hne
  · have hm : b ∈ [b] ++ U2 := by simp
    obtain ⟨g1, g2⟩ := hb' b hm
    refine ⟨b, off, rfl, ⟨g1, fun hm2 => ?_, ?_⟩, CRows.mono (fun q hq => hsub q hq) (fun _ _ => rfl) b rfl st es off h4⟩
    · have := List.nodup_append.1 hnd
      exact this.2.2 b (by simp) b hm2 rfl
    · rcases g2 with g2 | g2
      · exact .inr (.inr g2)
      · exact .inr (.inl g2)
theorem closeO_ok {E : Env} {C : Orc} (hC : OrcOk E C) : OrcOk E (closeO C) := fun f ex ds q h => by
  unfold closeO at h
  rw [Option.map_eq_some_iff] at h
  obtain ⟨r, h1, rfl⟩ := h
  have := hC f ex ds r h1
  obtain ⟨v, ls⟩ := r
  cases v <;> first | exact this | exact specX_close this
theorem ghO_ok {E : Env} {C : Orc} (hC : OrcOk E C) (gh dst ρ) : OrcOk E (ghO gh dst ρ C) := by
  unfold ghO
  split
  · exact hC
  · split
    · split
      · split
        · exact hC
        · exact closeO_ok hC
      · exact hC
    · exact hC
theorem opE_sound {E : Env} {M : Mds} {C : Orc} (hC : OrcOk E C) {op : Op} {dst : Option Tmp} {ρ : Operand → AVal} {H : Heap} {K : Cont} {q : Out} (h : opE E M C op dst ρ H = some q) (hk : K q.1 q.2.1 q.2.2) : opX E op (shD M.base dst) ρ H K := by
  unfold opE at h
  split at h
  case h_1 => simp only [Option.some.injEq] at h; subst h; exact hk
  case h_2 =>
    unfold assE at h
    split at h
    · simp only [Option.some.injEq] at h; subst h; exact .inl hk
    · split at h
      · simp only [Option.some.injEq] at h; subst h; exact .inl hk
      · split at h
        · rename_i hn
          simp only [Option.some.injEq] at h; subst h; exact .inr ⟨hn, _, hk⟩
        · simp only [Option.some.injEq] at h; subst h; exact .inl hk
  case h_3 =>
    split at h
    · rename_i t ht
      simp only [Option.some.injEq] at h; subst h
      rw [opX_pick, ht]; exact hk
    · cases h
  case h_4 =>
    simp only [Option.bind_eq_some_iff, Option.some.injEq] at h
    obtain ⟨z, h1, rfl⟩ := h; exact xSome_of h1 hk
  case h_5 =>
    simp only [gu_some, Option.some.injEq] at h
    obtain ⟨h1, rfl⟩ := h; exact ⟨h1, hk⟩
  case h_6 =>
    simp only [gu_some, Option.bind_eq_some_iff, Option.some.injEq] at h
    obtain ⟨h0, z, h1, cs, h2, rfl⟩ := h; exact ⟨h0, xSome_of h1 (xSome_of h2 ⟨_, _, hk⟩)⟩
  case h_7 =>
    simp only [gu_some, Option.bind_eq_some_iff, Option.some.injEq] at h
    obtain ⟨size, h0, h1, z, h2, h3, h4, rows, h5, h⟩ := h
    refine xSome_of h0 ⟨h1, xSome_of h2 ⟨h3, h4, xSome_of h5 ?_⟩⟩
    unfold bsE at h
    split at h
    · simp only [Option.some.injEq] at h; subst h; exact .inl hk
    · simp only [gu_some, Option.some.injEq] at h; obtain ⟨g1, g2, rfl⟩ := h; exact .inr ⟨g1, g2, hk⟩
  case h_8 =>
    simp only [gu_some, Option.bind_eq_some_iff] at h
    obtain ⟨n, h0, g, h1, h2, h3⟩ := h; exact xSome_of h0 (xSome_of h1 ⟨h2, loadE_sound h3 hk⟩)
  case h_9 =>
    simp only [Option.bind_eq_some_iff] at h
    obtain ⟨n, h0, h3⟩ := h; exact xSome_of h0 (storeE_sound h3 hk)
  case h_10 =>
    simp only [gu_some, Option.some.injEq] at h
    obtain ⟨h1, rfl⟩ := h
    rw [opX_nilCheck]; exact hAnd_intro h1 hk
  case h_11 =>
    simp only [Option.bind_eq_some_iff, Option.some.injEq] at h
    obtain ⟨v, h1, rfl⟩ := h; exact xSome_of h1 hk
  case h_12 =>
    simp only [Option.bind_eq_some_iff, Option.some.injEq] at h
    obtain ⟨v, h1, rfl⟩ := h; exact xSome_of h1 hk
  case h_13 => exact convE_sound h hk
  case h_14 => simp only [Option.some.injEq] at h; subst h; exact hk
  case h_15 =>
    split at h
    · rename_i k1 nl k2 nc e1 e2
      simp only [gu_some, Option.bind_eq_some_iff, Option.some.injEq] at h
      obtain ⟨h0, h1, size, h2, h3, bytes, h4, z, h5, h6, h7, h8, rfl⟩ := h
      rw [opX_makeSlice, e1, e2]
      exact ⟨h0, h1, xSome_of h2 ⟨h3, xSome_of h4 (xSome_of h5 ⟨h6, h7, h8, hk⟩)⟩⟩
    · cases h
  case h_16 => rw [opX_slice]; exact sliceE_sound h hk
  case h_17 =>
    unfold slice3F at h
    split at h
    · exact .inl (slice3E_sound h hk)
    · exact .inr (slice3J_sound h hk)
  case h_18 =>
    simp only [Option.bind_eq_some_iff] at h
    obtain ⟨v, h1, h2⟩ := h; exact xSome_of h1 (fieldE_sound h2 hk)
  case h_19 =>
    simp only [Option.bind_eq_some_iff] at h
    obtain ⟨v, h1, h2⟩ := h; exact xSome_of h1 (partE_sound h2 hk)
  case h_20 =>
    split at h
    · rename_i k n e
      simp only [gu_some] at h
      rw [opX_indexAddr, e]
      exact ⟨h.1, indexAddrE_sound h.2 hk⟩
    · cases h
  case h_21 =>
    split at h
    · rename_i k n e
      simp only [gu_some] at h
      rw [opX_index, e]
      exact ⟨h.1, indexE_sound h.2 hk⟩
    · cases h
  case h_22 => exact tupE_sound h hk
  case h_23 =>
    split at h
    · rename_i args _ _ f first cap e
      show xFn _ (fun f first cap => xCall E f (first ++ args.map ρ ++ cap) (shD M.base dst) H K)
      rw [e]
      exact callE_sound (ghO_ok hC _ _ _) h hk
    · cases h
  case h_24 => exact builtinE_sound h hk
  case h_25 =>
    simp only [Option.bind_eq_some_iff, Option.some.injEq] at h
    obtain ⟨v, h1, rfl⟩ := h; exact xSome_of h1 hk
  case h_26 => cases h
end Go.Am
