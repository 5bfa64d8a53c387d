import Derived.Test.YtccfjidpdlfenaaDoorTItem
namespace Go.Proofs.YtccfjidpdlfenaaDoor
open Go.Am
set_option linter.unusedSimpArgs false
set_option linter.unusedVariables false
set_option maxRecDepth 100000
def placeR (l : List It) (key : List UInt8) : Int := if l.findIdx (fun x => decide (x.k = key)) < l.length then (l.findIdx (fun x => decide (x.k = key)) : Nat) else -1
theorem all_take {α : Type} {p : α → Bool} {l : List α} {i : Nat} (h : i < l.length) (h1 : (l.take i).all p = true) (h2 : p l[i] = true) : (l.take (i + 1)).all p = true := by
  rw [List.take_succ_eq_append_getElem h, List.all_append, h1]; simp [h2]
theorem place_at {l : List It} {key : List UInt8} {i : Nat} (h : i < l.length) (hn : (l.take i).all (fun x => !decide (x.k = key)) = true) (he : l[i].k = key) : placeR l key = i := by
  have : l.findIdx (fun x => decide (x.k = key)) = i := by
    rw [List.findIdx_eq h]
    refine ⟨by simpa using he, fun j hj => ?_⟩
    have := List.all_eq_true.1 hn l[j] (by
      rw [List.mem_take_iff_getElem]; exact ⟨j, by omega, rfl⟩)
    simpa using this
  unfold placeR
  rw [this, if_pos h]
theorem place_none {l : List It} {key : List UInt8} (hn : l.all (fun x => !decide (x.k = key)) = true) : placeR l key = -1 := by
  unfold placeR
  rw [if_neg]
  intro hlt
  have := List.findIdx_getElem (w := hlt)
  have h2 := List.all_eq_true.1 hn _ (List.getElem_mem hlt)
  simp only [Bool.not_eq_true', decide_eq_false_iff_not] at h2
  exact h2 (by simpa using this)
def getR (l : List It) (key : List UInt8) : It × Bool := match l.find? (fun x => decide (x.k = key)) with | some x => (x, true) | none => (zeroIt, false)
theorem get_at {l : List It} {key : List UInt8} {i : Nat} (h : i < l.length) (hn : (l.take i).all (fun x => !decide (x.k = key)) = true) (he : l[i].k = key) : getR l key = (l[i], true) := by
  have : l.find? (fun x => decide (x.k = key)) = some l[i] := by
    rw [List.find?_eq_some_iff_getElem]
    refine ⟨by simpa using he, i, h, rfl, fun j hj => ?_⟩
    have := List.all_eq_true.1 hn l[j] (by
      rw [List.mem_take_iff_getElem]; exact ⟨j, by omega, rfl⟩)
    simpa using this
  simp [getR, this]
theorem get_none {l : List It} {key : List UInt8} (hn : l.all (fun x => !decide (x.k = key)) = true) : getR l key = (zeroIt, false) := by
  have : l.find? (fun x => decide (x.k = key)) = none := by
    rw [List.find?_eq_none]
    intro x hx
    have := List.all_eq_true.1 hn x hx
    simpa using this
  simp [getR, this]
/-- Where a key is. -/
theorem place_cases (l : List It) (key : List UInt8) : (∃ (j : Nat) (h : j < l.length), l[j].k = key ∧ (l.take j).all (fun x => !decide (x.k = key)) = true ∧ placeR l key = j ∧ getR l key = (l[j], true)) ∨ (l.all (fun x => !decide (x.k = key)) = true ∧ placeR l key = -1 ∧ getR l key = (zeroIt, false)) := by
  by_cases h : l.all (fun x => !decide (x.k = key)) = true
  · exact .inr ⟨h, place_none h, get_none h⟩
  · left
    have hlt : l.findIdx (fun x => decide (x.k = key)) < l.length := by
      rw [List.findIdx_lt_length]
      simp only [List.all_eq_true, Bool.not_eq_true', decide_eq_false_iff_not, Classical.not_forall, Classical.not_not] at h
      obtain ⟨x, hx, he⟩ := h
      exact ⟨x, hx, by simpa using he⟩
    have he : l[l.findIdx (fun x => decide (x.k = key))].k = key := by
      have := List.findIdx_getElem (w := hlt); simpa using this
    have hn : (l.take (l.findIdx (fun x => decide (x.k = key)))).all (fun x => !decide (x.k = key)) = true := by
      rw [List.all_eq_true]
      intro x hx
      rw [List.mem_take_iff_getElem] at hx
      obtain ⟨j, hj, rfl⟩ := hx
      have := List.not_of_lt_findIdx (p := fun x : It => decide (x.k = key)) (xs := l) (i := j) (by omega)
      simpa using this
    exact ⟨_, hlt, he, hn, place_at hlt hn he, get_at hlt hn he⟩

@[go_sem] theorem e88 (l : List It) (key : List UInt8) (hl : l.length ≤ 9223372036854775807) : fn C 88 [] [.slice 4 (l.map It.cs), .str key] = some (.int .i64 (placeR l key), []) := by
  rw [fn_text Tryd.func88 rfl rfl Tryd.results88 locM88 rfl rfl (by kernel_rfl)]
  simp -implicitDefEqProofs -dsimp +contextual (maxSteps := 5000000) (disch := first | omega | (simp only [go_sem] <;> omega) | (show indepB _ _ = true; refine id ?_; kernel_rfl)) only [go_sem, ↓reduceIte, Nat.reduceEqDiff, Nat.reduceBEq, Nat.reduceAdd, Nat.reduceSub, Nat.reduceLeDiff, Nat.reduceLT, Nat.reduceMul, Int.reduceNeg, Int.reduceLT, Int.reduceLE, Int.reduceAdd, Int.reduceSub, Int.reduceToNat, Int.reduceMul, Int.reduceMod, Int.reduceTMod, Int.reduceTDiv, Int.reduceEq, Nat.reducePow, Nat.reduceDiv, Nat.reduceShiftRight, Nat.reduceMod, List.reduceReplicate]
  refine (kLoop_rec (fun i f H => f 0 = .slice 4 (l.map It.cs) ∧ f 1 = .str key ∧ f 5 = .int .i64 (i : Nat) ∧ H = Heap.nil ∧ i ≤ l.length ∧ (l.take i).all (fun x => !decide (x.k = key)) = true) (fun i => l.length - i) (fun i => some (.int .i64 (placeR l key), [])) ?_ 0 _ _ ⟨rfl, rfl, rfl, rfl, by omega, rfl⟩).trans rfl
  rintro i f _ ⟨h0, h1, h5, rfl, hi, hall⟩ ih
  by_cases hl : i < l.length
  · simp -implicitDefEqProofs -dsimp +contextual (maxSteps := 5000000) (disch := first | omega | (simp only [go_sem] <;> omega) | (show indepB _ _ = true; refine id ?_; kernel_rfl)) only [go_sem, ↓reduceIte, Nat.reduceEqDiff, Nat.reduceBEq, Nat.reduceAdd, Nat.reduceSub, Nat.reduceLeDiff, Nat.reduceLT, Nat.reduceMul, Int.reduceNeg, Int.reduceLT, Int.reduceLE, Int.reduceAdd, Int.reduceSub, Int.reduceToNat, Int.reduceMul, Int.reduceMod, Int.reduceTMod, Int.reduceTDiv, Int.reduceEq, Nat.reducePow, Nat.reduceDiv, Nat.reduceShiftRight, Nat.reduceMod, List.reduceReplicate, h0, h1, h5, hl]
    (repeat' (refine kD_intro (fun _ => ?_) (fun _ => ?_)))
    · rename_i h; rw [place_at hl hall h]
    · rename_i h; exact ih (i + 1) _ _ ⟨h0, h1, rfl, rfl, by omega, all_take hl hall (by simpa using h)⟩ (by omega)
  · simp -implicitDefEqProofs -dsimp +contextual (maxSteps := 5000000) (disch := first | omega | (simp only [go_sem] <;> omega) | (show indepB _ _ = true; refine id ?_; kernel_rfl)) only [go_sem, ↓reduceIte, Nat.reduceEqDiff, Nat.reduceBEq, Nat.reduceAdd, Nat.reduceSub, Nat.reduceLeDiff, Nat.reduceLT, Nat.reduceMul, Int.reduceNeg, Int.reduceLT, Int.reduceLE, Int.reduceAdd, Int.reduceSub, Int.reduceToNat, Int.reduceMul, Int.reduceMod, Int.reduceTMod, Int.reduceTDiv, Int.reduceEq, Nat.reducePow, Nat.reduceDiv, Nat.reduceShiftRight, Nat.reduceMod, List.reduceReplicate, h0, h1, h5, hl]
    obtain rfl : i = l.length := by omega
    rw [place_none (by simpa using hall)]

@[go_sem] theorem e84 (k v : List UInt8) (n : Int) (g : Bool) (key : List UInt8) : fn C 84 [] [.agg [.str k, .str v, .int .i64 n, .bool g], .iptr [.str key]] = some (.bool (decide (k = key)), []) := by
  rw [fn_text Tryd.func84 rfl rfl Tryd.results84 locM84 rfl rfl (by kernel_rfl)]
  simp -implicitDefEqProofs -dsimp +contextual (maxSteps := 5000000) (disch := first | omega | (simp only [go_sem] <;> omega) | (show indepB _ _ = true; refine id ?_; kernel_rfl)) only [go_sem, ↓reduceIte, Nat.reduceEqDiff, Nat.reduceBEq, Nat.reduceAdd, Nat.reduceSub, Nat.reduceLeDiff, Nat.reduceLT, Nat.reduceMul, Int.reduceNeg, Int.reduceLT, Int.reduceLE, Int.reduceAdd, Int.reduceSub, Int.reduceToNat, Int.reduceMul, Int.reduceMod, Int.reduceTMod, Int.reduceTDiv, Int.reduceEq, Nat.reducePow, Nat.reduceDiv, Nat.reduceShiftRight, Nat.reduceMod, List.reduceReplicate]

@[go_sem] theorem e83 (l : List It) (key : List UInt8) (hl : l.length ≤ 9223372036854775807) : fn C 83 [] [.slice 4 (l.map It.cs), .fn (.func 84) [] [.iptr [.str key]]] = some (.int .i64 (placeR l key), []) := by
  rw [fn_text Tryd.func83 rfl rfl Tryd.results83 locM83 rfl rfl (by kernel_rfl)]
  simp -implicitDefEqProofs -dsimp +contextual (maxSteps := 5000000) (disch := first | omega | (simp only [go_sem] <;> omega) | (show indepB _ _ = true; refine id ?_; kernel_rfl)) only [go_sem, ↓reduceIte, Nat.reduceEqDiff, Nat.reduceBEq, Nat.reduceAdd, Nat.reduceSub, Nat.reduceLeDiff, Nat.reduceLT, Nat.reduceMul, Int.reduceNeg, Int.reduceLT, Int.reduceLE, Int.reduceAdd, Int.reduceSub, Int.reduceToNat, Int.reduceMul, Int.reduceMod, Int.reduceTMod, Int.reduceTDiv, Int.reduceEq, Nat.reducePow, Nat.reduceDiv, Nat.reduceShiftRight, Nat.reduceMod, List.reduceReplicate]
  refine (kLoop_rec (fun i f H => f 0 = .slice 4 (l.map It.cs) ∧ f 1 = .fn (.func 84) [] [.iptr [.str key]] ∧ f 7 = .int .i64 l.length ∧ f 8 = .int .i64 (i : Nat) ∧ H = Heap.nil ∧ i ≤ l.length ∧ (l.take i).all (fun x => !decide (x.k = key)) = true) (fun i => l.length - i) (fun i => some (.int .i64 (placeR l key), [])) ?_ 0 _ _ ⟨rfl, rfl, rfl, rfl, rfl, by omega, rfl⟩).trans rfl
  rintro i f _ ⟨h0, h1, h7, h8, rfl, hi, hall⟩ ih
  by_cases hl : i < l.length
  · simp -implicitDefEqProofs -dsimp +contextual (maxSteps := 5000000) (disch := first | omega | (simp only [go_sem] <;> omega) | (show indepB _ _ = true; refine id ?_; kernel_rfl)) only [go_sem, ↓reduceIte, Nat.reduceEqDiff, Nat.reduceBEq, Nat.reduceAdd, Nat.reduceSub, Nat.reduceLeDiff, Nat.reduceLT, Nat.reduceMul, Int.reduceNeg, Int.reduceLT, Int.reduceLE, Int.reduceAdd, Int.reduceSub, Int.reduceToNat, Int.reduceMul, Int.reduceMod, Int.reduceTMod, Int.reduceTDiv, Int.reduceEq, Nat.reducePow, Nat.reduceDiv, Nat.reduceShiftRight, Nat.reduceMod, List.reduceReplicate, h0, h1, h7, h8, hl]
    (repeat' (refine kD_intro (fun _ => ?_) (fun _ => ?_)))
    · rename_i h; rw [place_at hl hall h]
    · rename_i h; exact ih (i + 1) _ _ ⟨h0, h1, h7, rfl, rfl, by omega, all_take hl hall (by simpa using h)⟩ (by omega)
  · simp -implicitDefEqProofs -dsimp +contextual (maxSteps := 5000000) (disch := first | omega | (simp only [go_sem] <;> omega) | (show indepB _ _ = true; refine id ?_; kernel_rfl)) only [go_sem, ↓reduceIte, Nat.reduceEqDiff, Nat.reduceBEq, Nat.reduceAdd, Nat.reduceSub, Nat.reduceLeDiff, Nat.reduceLT, Nat.reduceMul, Int.reduceNeg, Int.reduceLT, Int.reduceLE, Int.reduceAdd, Int.reduceSub, Int.reduceToNat, Int.reduceMul, Int.reduceMod, Int.reduceTMod, Int.reduceTDiv, Int.reduceEq, Nat.reducePow, Nat.reduceDiv, Nat.reduceShiftRight, Nat.reduceMod, List.reduceReplicate, h0, h1, h7, h8, hl]
    obtain rfl : i = l.length := by omega
    rw [place_none (by simpa using hall)]

@[go_sem] theorem e41 (l : List It) (key : List UInt8) (hl : l.length ≤ 9223372036854775807) : fn C 41 [] [.slice 4 (l.map It.cs), .str key] = some (.int .i64 (placeR l key), []) := by
  rw [fn_text Tryd.func41 rfl rfl Tryd.results41 locM41 rfl rfl (by kernel_rfl)]
  simp -implicitDefEqProofs -dsimp +contextual (maxSteps := 5000000) (disch := first | omega | (simp only [go_sem] <;> omega) | (show indepB _ _ = true; refine id ?_; kernel_rfl)) only [go_sem, ↓reduceIte, Nat.reduceEqDiff, Nat.reduceBEq, Nat.reduceAdd, Nat.reduceSub, Nat.reduceLeDiff, Nat.reduceLT, Nat.reduceMul, Int.reduceNeg, Int.reduceLT, Int.reduceLE, Int.reduceAdd, Int.reduceSub, Int.reduceToNat, Int.reduceMul, Int.reduceMod, Int.reduceTMod, Int.reduceTDiv, Int.reduceEq, Nat.reducePow, Nat.reduceDiv, Nat.reduceShiftRight, Nat.reduceMod, List.reduceReplicate]

@[go_sem] theorem e46 (l : List It) (key : List UInt8) (hl : l.length ≤ 9223372036854775807) : fn C 46 [] [.slice 4 (l.map It.cs), .str key] = some (.tup [.agg (getR l key).1.cs, .bool (getR l key).2], []) := by
  rw [fn_text Tryd.func46 rfl rfl Tryd.results46 locM46 rfl rfl (by kernel_rfl)]
  simp -implicitDefEqProofs -dsimp +contextual (maxSteps := 5000000) (disch := first | omega | (simp only [go_sem] <;> omega) | (show indepB _ _ = true; refine id ?_; kernel_rfl)) only [go_sem, ↓reduceIte, Nat.reduceEqDiff, Nat.reduceBEq, Nat.reduceAdd, Nat.reduceSub, Nat.reduceLeDiff, Nat.reduceLT, Nat.reduceMul, Int.reduceNeg, Int.reduceLT, Int.reduceLE, Int.reduceAdd, Int.reduceSub, Int.reduceToNat, Int.reduceMul, Int.reduceMod, Int.reduceTMod, Int.reduceTDiv, Int.reduceEq, Nat.reducePow, Nat.reduceDiv, Nat.reduceShiftRight, Nat.reduceMod, List.reduceReplicate]
  refine (kLoop_rec (fun i f H => f 0 = .slice 4 (l.map It.cs) ∧ f 1 = .str key ∧ f 4 = .ptr 104 1 0 0 ∧ f 6 = .int .i64 (i : Nat) ∧ H 104 = ⟨1, .live, 4, [zeroIt.cs], false⟩ ∧ i ≤ l.length ∧ (l.take i).all (fun x => !decide (x.k = key)) = true) (fun i => l.length - i) (fun i => some (.tup [.agg (getR l key).1.cs, .bool (getR l key).2], [])) ?_ 0 _ _ ⟨rfl, rfl, rfl, rfl, rfl, by omega, rfl⟩).trans rfl
  rintro i f H ⟨h0, h1, h4, h6, hH, hi, hall⟩ ih
  by_cases hl : i < l.length
  · simp -implicitDefEqProofs -dsimp +contextual (maxSteps := 5000000) (disch := first | omega | (simp only [go_sem] <;> omega) | (show indepB _ _ = true; refine id ?_; kernel_rfl)) only [go_sem, ↓reduceIte, Nat.reduceEqDiff, Nat.reduceBEq, Nat.reduceAdd, Nat.reduceSub, Nat.reduceLeDiff, Nat.reduceLT, Nat.reduceMul, Int.reduceNeg, Int.reduceLT, Int.reduceLE, Int.reduceAdd, Int.reduceSub, Int.reduceToNat, Int.reduceMul, Int.reduceMod, Int.reduceTMod, Int.reduceTDiv, Int.reduceEq, Nat.reducePow, Nat.reduceDiv, Nat.reduceShiftRight, Nat.reduceMod, List.reduceReplicate, h0, h1, h4, h6, hl, hH]
    (repeat' (refine kD_intro (fun _ => ?_) (fun _ => ?_)))
    · rename_i h; rw [get_at hl hall h]; simp [h]
    · rename_i h; exact ih (i + 1) _ _ ⟨h0, h1, h4, rfl, by simp -implicitDefEqProofs -dsimp +contextual (maxSteps := 5000000) (disch := first | omega | (simp only [go_sem] <;> omega) | (show indepB _ _ = true; refine id ?_; kernel_rfl)) only [go_sem, ↓reduceIte, Nat.reduceEqDiff, Nat.reduceBEq, Nat.reduceAdd, Nat.reduceSub, Nat.reduceLeDiff, Nat.reduceLT, Nat.reduceMul, Int.reduceNeg, Int.reduceLT, Int.reduceLE, Int.reduceAdd, Int.reduceSub, Int.reduceToNat, Int.reduceMul, Int.reduceMod, Int.reduceTMod, Int.reduceTDiv, Int.reduceEq, Nat.reducePow, Nat.reduceDiv, Nat.reduceShiftRight, Nat.reduceMod, List.reduceReplicate, hH], by omega, all_take hl hall (by simpa using h)⟩ (by omega)
  · simp -implicitDefEqProofs -dsimp +contextual (maxSteps := 5000000) (disch := first | omega | (simp only [go_sem] <;> omega) | (show indepB _ _ = true; refine id ?_; kernel_rfl)) only [go_sem, ↓reduceIte, Nat.reduceEqDiff, Nat.reduceBEq, Nat.reduceAdd, Nat.reduceSub, Nat.reduceLeDiff, Nat.reduceLT, Nat.reduceMul, Int.reduceNeg, Int.reduceLT, Int.reduceLE, Int.reduceAdd, Int.reduceSub, Int.reduceToNat, Int.reduceMul, Int.reduceMod, Int.reduceTMod, Int.reduceTDiv, Int.reduceEq, Nat.reducePow, Nat.reduceDiv, Nat.reduceShiftRight, Nat.reduceMod, List.reduceReplicate, h0, h1, h4, h6, hl, hH]
    obtain rfl : i = l.length := by omega
    rw [get_none (by simpa using hall)] <;> rfl

@[go_sem] theorem e39 (l : List It) (key : List UInt8) (hl : l.length ≤ 9223372036854775807) : fn C 39 [] [.slice 4 (l.map It.cs), .str key] = some (.tup [.agg (getR l key).1.cs, .bool (getR l key).2], []) := by
  rw [fn_text Tryd.func39 rfl rfl Tryd.results39 locM39 rfl rfl (by kernel_rfl)]
  rcases place_cases l key with ⟨j, hj, he, hn, hp, hg⟩ | ⟨hn, hp, hg⟩
  · simp -implicitDefEqProofs -dsimp +contextual (maxSteps := 5000000) (disch := first | omega | (simp only [go_sem] <;> omega) | (show indepB _ _ = true; refine id ?_; kernel_rfl)) only [go_sem, ↓reduceIte, Nat.reduceEqDiff, Nat.reduceBEq, Nat.reduceAdd, Nat.reduceSub, Nat.reduceLeDiff, Nat.reduceLT, Nat.reduceMul, Int.reduceNeg, Int.reduceLT, Int.reduceLE, Int.reduceAdd, Int.reduceSub, Int.reduceToNat, Int.reduceMul, Int.reduceMod, Int.reduceTMod, Int.reduceTDiv, Int.reduceEq, Nat.reducePow, Nat.reduceDiv, Nat.reduceShiftRight, Nat.reduceMod, List.reduceReplicate, hp, hg]
  · simp -implicitDefEqProofs -dsimp +contextual (maxSteps := 5000000) (disch := first | omega | (simp only [go_sem] <;> omega) | (show indepB _ _ = true; refine id ?_; kernel_rfl)) only [go_sem, ↓reduceIte, Nat.reduceEqDiff, Nat.reduceBEq, Nat.reduceAdd, Nat.reduceSub, Nat.reduceLeDiff, Nat.reduceLT, Nat.reduceMul, Int.reduceNeg, Int.reduceLT, Int.reduceLE, Int.reduceAdd, Int.reduceSub, Int.reduceToNat, Int.reduceMul, Int.reduceMod, Int.reduceTMod, Int.reduceTDiv, Int.reduceEq, Nat.reducePow, Nat.reduceDiv, Nat.reduceShiftRight, Nat.reduceMod, List.reduceReplicate, hp, hg]

theorem less_at (a b : List UInt8) (i : Nat) (h : a.take i = b.take i) (ha : i < a.length) (hb : i < b.length) (hne : a[i] ≠ b[i]) : Op.bytesLess a b = decide (a[i].toNat < b[i].toNat) := by
  induction i generalizing a b with
  | zero =>
    cases a with
    | nil => simp at ha
    | cons x a =>
      cases b with
      | nil => simp at hb
      | cons y b =>
        simp only [List.getElem_cons_zero] at hne ⊢
        simp [Op.bytesLess, hne, UInt8.lt_iff_toNat_lt]
  | succ i ih =>
    cases a with
    | nil => simp at ha
    | cons x a =>
      cases b with
      | nil => simp at hb
      | cons y b =>
        simp only [List.take_succ_cons, List.cons.injEq] at h
        obtain ⟨rfl, h⟩ := h
        simp only [List.getElem_cons_succ] at hne ⊢
        rw [← ih a b h (by simpa using ha) (by simpa using hb) hne]
        simp [Op.bytesLess]
theorem less_len (a b : List UInt8) (i : Nat) (hi : i ≤ a.length) (hi' : i ≤ b.length) (h : a.take i = b.take i) (he : i = a.length ∨ i = b.length) : Op.bytesLess a b = decide (a.length < b.length) := by
  induction i generalizing a b with
  | zero =>
    cases a with
    | nil => cases b <;> simp [Op.bytesLess]
    | cons x a =>
      cases b with
      | nil => simp [Op.bytesLess]
      | cons y b => simp at he
  | succ i ih =>
    cases a with
    | nil => simp at hi
    | cons x a =>
      cases b with
      | nil => simp at hi'
      | cons y b =>
        simp only [List.take_succ_cons, List.cons.injEq] at h
        obtain ⟨rfl, h⟩ := h
        have := ih a b (by simpa using hi) (by simpa using hi') h (by simpa using he)
        simp [Op.bytesLess, this]

@[go_sem] theorem e89 (a b : List UInt8) (hl : a.length ≤ 9223372036854775807) (hm : b.length ≤ 9223372036854775807) : fn C 89 [] [.str a, .str b] = some (.bool (Op.bytesLess a b), []) := by
  rw [fn_text Tryd.func89 rfl rfl Tryd.results89 locM89 rfl rfl (by kernel_rfl)]
  simp -implicitDefEqProofs -dsimp +contextual (maxSteps := 5000000) (disch := first | omega | (simp only [go_sem] <;> omega) | (show indepB _ _ = true; refine id ?_; kernel_rfl)) only [go_sem, ↓reduceIte, Nat.reduceEqDiff, Nat.reduceBEq, Nat.reduceAdd, Nat.reduceSub, Nat.reduceLeDiff, Nat.reduceLT, Nat.reduceMul, Int.reduceNeg, Int.reduceLT, Int.reduceLE, Int.reduceAdd, Int.reduceSub, Int.reduceToNat, Int.reduceMul, Int.reduceMod, Int.reduceTMod, Int.reduceTDiv, Int.reduceEq, Nat.reducePow, Nat.reduceDiv, Nat.reduceShiftRight, Nat.reduceMod, List.reduceReplicate]
  refine (kLoop_rec (fun i f H => f 0 = .str a ∧ f 1 = .str b ∧ f 5 = .int .i64 (i : Nat) ∧ H = Heap.nil ∧ i ≤ a.length ∧ i ≤ b.length ∧ a.take i = b.take i) (fun i => a.length - i) (fun i => some (.bool (Op.bytesLess a b), [])) ?_ 0 _ _ ⟨rfl, rfl, rfl, rfl, by omega, by omega, rfl⟩).trans rfl
  rintro i f _ ⟨h0, h1, h5, rfl, hi, hj, ht⟩ ih
  by_cases h4 : i < a.length
  · by_cases h6 : i < b.length
    · simp -implicitDefEqProofs -dsimp +contextual (maxSteps := 5000000) (disch := first | omega | (simp only [go_sem] <;> omega) | (show indepB _ _ = true; refine id ?_; kernel_rfl)) only [go_sem, ↓reduceIte, Nat.reduceEqDiff, Nat.reduceBEq, Nat.reduceAdd, Nat.reduceSub, Nat.reduceLeDiff, Nat.reduceLT, Nat.reduceMul, Int.reduceNeg, Int.reduceLT, Int.reduceLE, Int.reduceAdd, Int.reduceSub, Int.reduceToNat, Int.reduceMul, Int.reduceMod, Int.reduceTMod, Int.reduceTDiv, Int.reduceEq, Nat.reducePow, Nat.reduceDiv, Nat.reduceShiftRight, Nat.reduceMod, List.reduceReplicate, h0, h1, h5, h4, h6]
      (repeat' (refine kD_intro (fun _ => ?_) (fun _ => ?_)))
      · rename_i he
        refine ih (i + 1) _ _ ⟨h0, h1, rfl, rfl, by omega, by omega, ?_⟩ (by omega)
        rw [List.take_succ_eq_append_getElem h4, List.take_succ_eq_append_getElem h6, ht, UInt8.toNat_inj.1 he]
      · rename_i he
        rw [less_at a b i ht h4 h6 (fun e => he (by rw [e]))]
    · simp -implicitDefEqProofs -dsimp +contextual (maxSteps := 5000000) (disch := first | omega | (simp only [go_sem] <;> omega) | (show indepB _ _ = true; refine id ?_; kernel_rfl)) only [go_sem, ↓reduceIte, Nat.reduceEqDiff, Nat.reduceBEq, Nat.reduceAdd, Nat.reduceSub, Nat.reduceLeDiff, Nat.reduceLT, Nat.reduceMul, Int.reduceNeg, Int.reduceLT, Int.reduceLE, Int.reduceAdd, Int.reduceSub, Int.reduceToNat, Int.reduceMul, Int.reduceMod, Int.reduceTMod, Int.reduceTDiv, Int.reduceEq, Nat.reducePow, Nat.reduceDiv, Nat.reduceShiftRight, Nat.reduceMod, List.reduceReplicate, h0, h1, h5, h4, h6]
      rw [less_len a b i hi hj ht (.inr (by omega))]
  · simp -implicitDefEqProofs -dsimp +contextual (maxSteps := 5000000) (disch := first | omega | (simp only [go_sem] <;> omega) | (show indepB _ _ = true; refine id ?_; kernel_rfl)) only [go_sem, ↓reduceIte, Nat.reduceEqDiff, Nat.reduceBEq, Nat.reduceAdd, Nat.reduceSub, Nat.reduceLeDiff, Nat.reduceLT, Nat.reduceMul, Int.reduceNeg, Int.reduceLT, Int.reduceLE, Int.reduceAdd, Int.reduceSub, Int.reduceToNat, Int.reduceMul, Int.reduceMod, Int.reduceTMod, Int.reduceTDiv, Int.reduceEq, Nat.reducePow, Nat.reduceDiv, Nat.reduceShiftRight, Nat.reduceMod, List.reduceReplicate, h0, h1, h5, h4]
    (repeat' (refine kD_intro (fun _ => ?_) (fun _ => ?_))) <;> rw [less_len a b i hi hj ht (.inl (by omega))]

def chainR : Option It → List It → Bool
  | _, [] => true
  | p, x :: r => itemR x && (match p with | none => true | some y => Op.bytesLess y.k x.k) && chainR (some x) r
def rightR (l : List It) : Bool := chainR none l && decide (l.length ≤ 16)
def prevR (l : List It) (i : Nat) : Option It := if i = 0 then none else l[i - 1]?

@[go_sem] theorem e40 (l : List It) (hl : l.length ≤ 9223372036854775807) (hk : ∀ x ∈ l, x.k.length ≤ 9223372036854775807) : fn C 40 [] [.slice 4 (l.map It.cs)] = some (.bool (rightR l), []) := by
  rw [fn_text Tryd.func40 rfl rfl Tryd.results40 locM40 rfl rfl (by kernel_rfl)]
  simp -implicitDefEqProofs -dsimp +contextual (maxSteps := 5000000) (disch := first | omega | (simp only [go_sem] <;> omega) | (show indepB _ _ = true; refine id ?_; kernel_rfl)) only [go_sem, ↓reduceIte, Nat.reduceEqDiff, Nat.reduceBEq, Nat.reduceAdd, Nat.reduceSub, Nat.reduceLeDiff, Nat.reduceLT, Nat.reduceMul, Int.reduceNeg, Int.reduceLT, Int.reduceLE, Int.reduceAdd, Int.reduceSub, Int.reduceToNat, Int.reduceMul, Int.reduceMod, Int.reduceTMod, Int.reduceTDiv, Int.reduceEq, Nat.reducePow, Nat.reduceDiv, Nat.reduceShiftRight, Nat.reduceMod, List.reduceReplicate]
  refine (kLoop_rec (fun i f _ => f 0 = .slice 4 (l.map It.cs) ∧ f 5 = .slice 4 (l.map It.cs) ∧ f 6 = .int .i64 l.length ∧ f 7 = .int .i64 (i : Nat) ∧ i ≤ l.length) (fun i => l.length - i) (fun i => some (.bool (chainR (prevR l i) (l.drop i) && decide (l.length ≤ 16)), [])) ?_ 0 _ _ ⟨rfl, rfl, rfl, rfl, by omega⟩).trans rfl
  rintro i f H ⟨h0, h5, h6, h7, hi⟩ ih
  by_cases hl : i < l.length
  · rw [List.drop_eq_getElem_cons hl]
    have k1 := hk l[i] (List.getElem_mem _)
    have k2 := hk (l[i - 1]'(by omega)) (List.getElem_mem _)
    simp -implicitDefEqProofs -dsimp +contextual (maxSteps := 5000000) (disch := first | omega | (simp only [go_sem] <;> omega) | (show indepB _ _ = true; refine id ?_; kernel_rfl)) only [go_sem, ↓reduceIte, Nat.reduceEqDiff, Nat.reduceBEq, Nat.reduceAdd, Nat.reduceSub, Nat.reduceLeDiff, Nat.reduceLT, Nat.reduceMul, Int.reduceNeg, Int.reduceLT, Int.reduceLE, Int.reduceAdd, Int.reduceSub, Int.reduceToNat, Int.reduceMul, Int.reduceMod, Int.reduceTMod, Int.reduceTDiv, Int.reduceEq, Nat.reducePow, Nat.reduceDiv, Nat.reduceShiftRight, Nat.reduceMod, List.reduceReplicate, h0, h5, h6, h7, hl]
    (repeat' (refine kD_intro (fun _ => ?_) (fun _ => ?_)))
    · rename_i hit h0i hle
      refine (ih (i + 1) _ _ (by exact ⟨h0, h5, h6, rfl, by omega⟩) (by omega)).trans ?_
      exact Res_bool (by simp [chainR, prevR, hit, show i ≠ 0 by omega, hle, List.getElem?_eq_getElem (show i - 1 < l.length by omega), hl])
    · rename_i hit h0i hle
      exact Res_bool (by simp [chainR, prevR, hit, show i ≠ 0 by omega, hle, List.getElem?_eq_getElem (show i - 1 < l.length by omega)])
    · rename_i hit h0i
      refine (ih (i + 1) _ _ (by exact ⟨h0, h5, h6, rfl, by omega⟩) (by omega)).trans ?_
      obtain rfl : i = 0 := by omega
      exact Res_bool (by simp [chainR, prevR, hit, hl])
    · rename_i hit
      exact Res_bool (by simp [chainR, hit])
  · simp -implicitDefEqProofs -dsimp +contextual (maxSteps := 5000000) (disch := first | omega | (simp only [go_sem] <;> omega) | (show indepB _ _ = true; refine id ?_; kernel_rfl)) only [go_sem, ↓reduceIte, Nat.reduceEqDiff, Nat.reduceBEq, Nat.reduceAdd, Nat.reduceSub, Nat.reduceLeDiff, Nat.reduceLT, Nat.reduceMul, Int.reduceNeg, Int.reduceLT, Int.reduceLE, Int.reduceAdd, Int.reduceSub, Int.reduceToNat, Int.reduceMul, Int.reduceMod, Int.reduceTMod, Int.reduceTDiv, Int.reduceEq, Nat.reducePow, Nat.reduceDiv, Nat.reduceShiftRight, Nat.reduceMod, List.reduceReplicate, h0, h5, h6, h7, hl]
    obtain rfl : i = l.length := by omega
    exact Res_bool (by simp [chainR] <;> omega)

@[go_sem] theorem e42 (l : List It) (hl : l.length ≤ 1073741824) : fn C 42 [] [.slice 4 (l.map It.cs)] = some (.slice 4 (l.map It.cs), []) := by
  rw [fn_text Tryd.func42 rfl rfl Tryd.results42 locM42 rfl rfl (by kernel_rfl)]
  simp -implicitDefEqProofs -dsimp +contextual (maxSteps := 5000000) (disch := first | omega | (simp only [go_sem] <;> omega) | (show indepB _ _ = true; refine id ?_; kernel_rfl)) only [go_sem, ↓reduceIte, Nat.reduceEqDiff, Nat.reduceBEq, Nat.reduceAdd, Nat.reduceSub, Nat.reduceLeDiff, Nat.reduceLT, Nat.reduceMul, Int.reduceNeg, Int.reduceLT, Int.reduceLE, Int.reduceAdd, Int.reduceSub, Int.reduceToNat, Int.reduceMul, Int.reduceMod, Int.reduceTMod, Int.reduceTDiv, Int.reduceEq, Nat.reducePow, Nat.reduceDiv, Nat.reduceShiftRight, Nat.reduceMod, List.reduceReplicate]

/-- Where a key belongs. -/
def insAt : List It → List UInt8 → Nat
  | [], _ => 0
  | x :: r, k => if Op.bytesLess x.k k = true then insAt r k + 1 else 0
def setR (l : List It) (x : It) : List It := if 0 ≤ placeR l x.k then l.set (placeR l x.k).toNat x else l.take (insAt l x.k) ++ x :: l.drop (insAt l x.k)
theorem insAt_le (l : List It) (k) : insAt l k ≤ l.length := by
  induction l with
  | nil => simp [insAt]
  | cons x r ih => simp only [insAt]; split <;> simp <;> omega
theorem insAt_eq (l : List It) (k : List UInt8) (i : Nat) (hi : i ≤ l.length) (h : ∀ j (hj : j < l.length), j < i → Op.bytesLess l[j].k k = true) (hn : ∀ (hj : i < l.length), Op.bytesLess l[i].k k = false) : insAt l k = i := by
  induction l generalizing i with
  | nil => simp at hi; simp [insAt, hi]
  | cons x r ih =>
    cases i with
    | zero => have := hn (by simp); simp at this; simp [insAt, this]
    | succ i =>
      have h0 := h 0 (by simp) (by omega)
      simp at h0
      simp only [insAt, h0, if_true]
      rw [ih i (by simpa using hi) (fun j hj hji => h (j + 1) (by simpa using hj) (by omega)) (fun hj => hn (by simpa using hj))]
theorem set_map {α β : Type} (f : α → β) (l : List α) (i : Nat) (a : α) : (l.map f).set i (f a) = (l.set i a).map f := by rw [List.map_set]

@[go_sem] theorem e47 (l : List It) (k v : List UInt8) (n : Int) (g : Bool) (hl : l.length ≤ 1073741824) (hk : ∀ x ∈ l, x.k.length ≤ 9223372036854775807) (hk2 : k.length ≤ 9223372036854775807) : fn C 47 [] [.slice 4 (l.map It.cs), .agg [.str k, .str v, .int .i64 n, .bool g]] = some (.slice 4 ((setR l ⟨k, v, n, g⟩).map It.cs), []) := by
  rw [fn_text Tryd.func47 rfl rfl Tryd.results47 locM47 rfl rfl (by kernel_rfl)]
  rcases place_cases l k with ⟨j, hj, he, hn, hp, hg⟩ | ⟨hn, hp, hg⟩
  · simp -implicitDefEqProofs -dsimp +contextual (maxSteps := 5000000) (disch := first | omega | (simp only [go_sem] <;> omega) | (show indepB _ _ = true; refine id ?_; kernel_rfl)) only [go_sem, ↓reduceIte, Nat.reduceEqDiff, Nat.reduceBEq, Nat.reduceAdd, Nat.reduceSub, Nat.reduceLeDiff, Nat.reduceLT, Nat.reduceMul, Int.reduceNeg, Int.reduceLT, Int.reduceLE, Int.reduceAdd, Int.reduceSub, Int.reduceToNat, Int.reduceMul, Int.reduceMod, Int.reduceTMod, Int.reduceTDiv, Int.reduceEq, Nat.reducePow, Nat.reduceDiv, Nat.reduceShiftRight, Nat.reduceMod, List.reduceReplicate, hp, hj]
    rw [setR, hp, if_pos (by omega)]; rfl
  · simp -implicitDefEqProofs -dsimp +contextual (maxSteps := 5000000) (disch := first | omega | (simp only [go_sem] <;> omega) | (show indepB _ _ = true; refine id ?_; kernel_rfl)) only [go_sem, ↓reduceIte, Nat.reduceEqDiff, Nat.reduceBEq, Nat.reduceAdd, Nat.reduceSub, Nat.reduceLeDiff, Nat.reduceLT, Nat.reduceMul, Int.reduceNeg, Int.reduceLT, Int.reduceLE, Int.reduceAdd, Int.reduceSub, Int.reduceToNat, Int.reduceMul, Int.reduceMod, Int.reduceTMod, Int.reduceTDiv, Int.reduceEq, Nat.reducePow, Nat.reduceDiv, Nat.reduceShiftRight, Nat.reduceMod, List.reduceReplicate, hp]
    refine (kLoop_rec (fun i f H => f 0 = .slice 4 (l.map It.cs) ∧ f 3 = .ptr 103 1 0 0 ∧ f 5 = .int .i64 (i : Nat) ∧ H 103 = ⟨1, .live, 4, [[.str k, .str v, .int .i64 n, .bool g]], false⟩ ∧ i ≤ l.length ∧ ∀ j (hj : j < l.length), j < i → Op.bytesLess l[j].k k = true) (fun i => l.length - i) (fun i => some (.slice 4 ((setR l ⟨k, v, n, g⟩).map It.cs), [])) ?_ 0 _ _ ⟨rfl, rfl, rfl, rfl, by omega, fun j _ h => by omega⟩).trans rfl
    rintro i f H ⟨h0, h3, h5, hH, hi, hb⟩ ih
    have fin : ∀ (hn : ∀ (hj : i < l.length), Op.bytesLess l[i].k k = false), setR l ⟨k, v, n, g⟩ = l.take i ++ ⟨k, v, n, g⟩ :: l.drop i := fun hn => by
      rw [setR, hp, if_neg (by omega), insAt_eq l k i hi hb hn]
    by_cases hl : i < l.length
    · have k1 := hk l[i] (List.getElem_mem _)
      simp -implicitDefEqProofs -dsimp +contextual (maxSteps := 5000000) (disch := first | omega | (simp only [go_sem] <;> omega) | (show indepB _ _ = true; refine id ?_; kernel_rfl)) only [go_sem, ↓reduceIte, Nat.reduceEqDiff, Nat.reduceBEq, Nat.reduceAdd, Nat.reduceSub, Nat.reduceLeDiff, Nat.reduceLT, Nat.reduceMul, Int.reduceNeg, Int.reduceLT, Int.reduceLE, Int.reduceAdd, Int.reduceSub, Int.reduceToNat, Int.reduceMul, Int.reduceMod, Int.reduceTMod, Int.reduceTDiv, Int.reduceEq, Nat.reducePow, Nat.reduceDiv, Nat.reduceShiftRight, Nat.reduceMod, List.reduceReplicate, h0, h3, h5, hH, hl, hi]
      (repeat' (refine kD_intro (fun _ => ?_) (fun _ => ?_)))
      · rename_i hb'
        refine ih (i + 1) _ _ ⟨h0, h3, rfl, hH, by omega, fun j hj hji => ?_⟩ (by omega)
        by_cases e : j = i
        · subst e; exact hb'
        · exact hb j hj (by omega)
      · rename_i hb'
        rw [fin (fun _ => by simpa using hb')]
        simp [List.take_of_length_le]
    · obtain rfl : i = l.length := by omega
      simp -implicitDefEqProofs -dsimp +contextual (maxSteps := 5000000) (disch := first | omega | (simp only [go_sem] <;> omega) | (show indepB _ _ = true; refine id ?_; kernel_rfl)) only [go_sem, ↓reduceIte, Nat.reduceEqDiff, Nat.reduceBEq, Nat.reduceAdd, Nat.reduceSub, Nat.reduceLeDiff, Nat.reduceLT, Nat.reduceMul, Int.reduceNeg, Int.reduceLT, Int.reduceLE, Int.reduceAdd, Int.reduceSub, Int.reduceToNat, Int.reduceMul, Int.reduceMod, Int.reduceTMod, Int.reduceTDiv, Int.reduceEq, Nat.reducePow, Nat.reduceDiv, Nat.reduceShiftRight, Nat.reduceMod, List.reduceReplicate, h0, h3, h5, hH, hl]
      rw [fin (fun h => absurd h hl)]
      simp

theorem ins_len (l : List It) (x : It) (i : Nat) (hi : i ≤ l.length) : (l.take i ++ x :: l.drop i).length = l.length + 1 := by simp; omega

set_option maxHeartbeats 2000000 in
@[go_sem] theorem e86 (l : List It) (i : Nat) (k v : List UInt8) (n : Int) (g : Bool) (hi : i ≤ l.length) (hl : l.length ≤ 1073741824) : fn C 86 [0] [.usl 4 (l.map It.cs), .int .i64 i, .slice 4 [[.str k, .str v, .int .i64 n, .bool g]]] = some (.slice 4 ((l.take i ++ ⟨k, v, n, g⟩ :: l.drop i).map It.cs), []) := by
  rw [fn_text Tryd.func86 rfl rfl Tryd.results86 locM86 rfl rfl (by kernel_rfl)]
  by_cases h : i = l.length
  · subst h
    simp -implicitDefEqProofs -dsimp +contextual (maxSteps := 5000000) (disch := first | omega | (simp only [go_sem] <;> omega) | (show indepB _ _ = true; refine id ?_; kernel_rfl)) only [go_sem, ↓reduceIte, Nat.reduceEqDiff, Nat.reduceBEq, Nat.reduceAdd, Nat.reduceSub, Nat.reduceLeDiff, Nat.reduceLT, Nat.reduceMul, Int.reduceNeg, Int.reduceLT, Int.reduceLE, Int.reduceAdd, Int.reduceSub, Int.reduceToNat, Int.reduceMul, Int.reduceMod, Int.reduceTMod, Int.reduceTDiv, Int.reduceEq, Nat.reducePow, Nat.reduceDiv, Nat.reduceShiftRight, Nat.reduceMod, List.reduceReplicate]
  · simp -implicitDefEqProofs -dsimp +contextual (maxSteps := 5000000) (disch := first | omega | (simp only [go_sem] <;> omega) | (show indepB _ _ = true; refine id ?_; kernel_rfl)) only [go_sem, ↓reduceIte, Nat.reduceEqDiff, Nat.reduceBEq, Nat.reduceAdd, Nat.reduceSub, Nat.reduceLeDiff, Nat.reduceLT, Nat.reduceMul, Int.reduceNeg, Int.reduceLT, Int.reduceLE, Int.reduceAdd, Int.reduceSub, Int.reduceToNat, Int.reduceMul, Int.reduceMod, Int.reduceTMod, Int.reduceTDiv, Int.reduceEq, Nat.reducePow, Nat.reduceDiv, Nat.reduceShiftRight, Nat.reduceMod, List.reduceReplicate, h, hi]
    simp <;> omega

@[go_sem] theorem e44 (l : List It) (k v : List UInt8) (n : Int) (g : Bool) (hl : l.length ≤ 1073741824) : fn C 44 [] [.slice 4 (l.map It.cs), .agg [.str k, .str v, .int .i64 n, .bool g]] = some (.slice 4 ((setR l ⟨k, v, n, g⟩).map It.cs), []) := by
  rw [fn_text Tryd.func44 rfl rfl Tryd.results44 locM44 rfl rfl (by kernel_rfl)]
  rcases place_cases l k with ⟨j, hj, he, hn, hp, hg⟩ | ⟨hn, hp, hg⟩
  · simp -implicitDefEqProofs -dsimp +contextual (maxSteps := 5000000) (disch := first | omega | (simp only [go_sem] <;> omega) | (show indepB _ _ = true; refine id ?_; kernel_rfl)) only [go_sem, ↓reduceIte, Nat.reduceEqDiff, Nat.reduceBEq, Nat.reduceAdd, Nat.reduceSub, Nat.reduceLeDiff, Nat.reduceLT, Nat.reduceMul, Int.reduceNeg, Int.reduceLT, Int.reduceLE, Int.reduceAdd, Int.reduceSub, Int.reduceToNat, Int.reduceMul, Int.reduceMod, Int.reduceTMod, Int.reduceTDiv, Int.reduceEq, Nat.reducePow, Nat.reduceDiv, Nat.reduceShiftRight, Nat.reduceMod, List.reduceReplicate, hp, hj]
    rw [setR, hp, if_pos (by omega)]; rfl
  · simp -implicitDefEqProofs -dsimp +contextual (maxSteps := 5000000) (disch := first | omega | (simp only [go_sem] <;> omega) | (show indepB _ _ = true; refine id ?_; kernel_rfl)) only [go_sem, ↓reduceIte, Nat.reduceEqDiff, Nat.reduceBEq, Nat.reduceAdd, Nat.reduceSub, Nat.reduceLeDiff, Nat.reduceLT, Nat.reduceMul, Int.reduceNeg, Int.reduceLT, Int.reduceLE, Int.reduceAdd, Int.reduceSub, Int.reduceToNat, Int.reduceMul, Int.reduceMod, Int.reduceTMod, Int.reduceTDiv, Int.reduceEq, Nat.reducePow, Nat.reduceDiv, Nat.reduceShiftRight, Nat.reduceMod, List.reduceReplicate, hp]
    refine (kLoop_rec (fun i f H => f 3 = .ptr 103 1 0 0 ∧ f 5 = .osl 110 1 0 l.length ∧ f 7 = .int .i64 (i : Nat) ∧ H 103 = ⟨1, .live, 4, [[.str k, .str v, .int .i64 n, .bool g]], false⟩ ∧ H 110 = ⟨1, .live, 4, l.map It.cs, true⟩ ∧ i ≤ l.length ∧ ∀ j (hj : j < l.length), j < i → Op.bytesLess l[j].k k = true) (fun i => l.length - i) (fun i => some (.slice 4 ((setR l ⟨k, v, n, g⟩).map It.cs), [])) ?_ 0 _ _ ⟨rfl, rfl, rfl, rfl, rfl, by omega, fun j _ h => by omega⟩).trans rfl
    rintro i f H ⟨h3, h5, h7, hH, hG, hi, hb⟩ ih
    have fin : ∀ (hn : ∀ (hj : i < l.length), Op.bytesLess l[i].k k = false), setR l ⟨k, v, n, g⟩ = l.take i ++ ⟨k, v, n, g⟩ :: l.drop i := fun hn => by
      rw [setR, hp, if_neg (by omega), insAt_eq l k i hi hb hn]
    by_cases hl : i < l.length
    · simp -implicitDefEqProofs -dsimp +contextual (maxSteps := 5000000) (disch := first | omega | (simp only [go_sem] <;> omega) | (show indepB _ _ = true; refine id ?_; kernel_rfl)) only [go_sem, ↓reduceIte, Nat.reduceEqDiff, Nat.reduceBEq, Nat.reduceAdd, Nat.reduceSub, Nat.reduceLeDiff, Nat.reduceLT, Nat.reduceMul, Int.reduceNeg, Int.reduceLT, Int.reduceLE, Int.reduceAdd, Int.reduceSub, Int.reduceToNat, Int.reduceMul, Int.reduceMod, Int.reduceTMod, Int.reduceTDiv, Int.reduceEq, Nat.reducePow, Nat.reduceDiv, Nat.reduceShiftRight, Nat.reduceMod, List.reduceReplicate, h3, h5, h7, hH, hG, hl, hi]
      (repeat' (refine kD_intro (fun _ => ?_) (fun _ => ?_)))
      · rename_i hb'
        refine ih (i + 1) _ _ ⟨h3, h5, rfl, hH, hG, by omega, fun j hj hji => ?_⟩ (by omega)
        by_cases e : j = i
        · subst e; exact hb'
        · exact hb j hj (by omega)
      · rename_i hb'
        rw [fin (fun _ => by simpa using hb')]
    · obtain rfl : i = l.length := by omega
      simp -implicitDefEqProofs -dsimp +contextual (maxSteps := 5000000) (disch := first | omega | (simp only [go_sem] <;> omega) | (show indepB _ _ = true; refine id ?_; kernel_rfl)) only [go_sem, ↓reduceIte, Nat.reduceEqDiff, Nat.reduceBEq, Nat.reduceAdd, Nat.reduceSub, Nat.reduceLeDiff, Nat.reduceLT, Nat.reduceMul, Int.reduceNeg, Int.reduceLT, Int.reduceLE, Int.reduceAdd, Int.reduceSub, Int.reduceToNat, Int.reduceMul, Int.reduceMod, Int.reduceTMod, Int.reduceTDiv, Int.reduceEq, Nat.reducePow, Nat.reduceDiv, Nat.reduceShiftRight, Nat.reduceMod, List.reduceReplicate, h3, h5, h7, hH, hG, hl, hi]
      rw [fin (fun h => absurd h hl)]
      simp

def putV (n : Int) : Int := (if 0 > n then 0 else n) + 1
def putR (l : List It) (k v : List UInt8) (g : Bool) : List It × It × Int :=
  if keyR k = true ∧ v.length ≤ 32 then
    if (getR l k).2 = false ∧ 16 ≤ l.length then (l, zeroIt, 27)
    else if 1073741824 ≤ (getR l k).1.n then (l, zeroIt, 3)
    else (setR l ⟨k, if g = true then [] else v, putV (getR l k).1.n, g⟩, ⟨k, if g = true then [] else v, putV (getR l k).1.n, g⟩, 0)
  else (l, zeroIt, 2)
theorem getR_false (l : List It) (k : List UInt8) (h : (getR l k).2 = false) : (getR l k).1 = zeroIt := by
  unfold getR at h ⊢
  split at h
  · cases h
  · rfl

set_option maxHeartbeats 4000000 in
@[go_sem] theorem e38 (l : List It) (k v : List UInt8) (g : Bool) (hl : l.length ≤ 1073741824) (hk : k.length ≤ 9223372036854775807) : fn C 38 [] [.slice 4 (l.map It.cs), .str k, .str v, .bool g] = some (.tup [.slice 4 ((putR l k v g).1.map It.cs), .agg (putR l k v g).2.1.cs, .int .i64 (putR l k v g).2.2], []) := by
  rw [fn_text Tryd.func38 rfl rfl Tryd.results38 locM38 rfl rfl (by kernel_rfl)]
  rcases Bool.eq_false_or_eq_true (getR l k).2 with h2 | h2
  · simp -implicitDefEqProofs -dsimp +contextual (maxSteps := 5000000) (disch := first | omega | (simp only [go_sem] <;> omega) | (show indepB _ _ = true; refine id ?_; kernel_rfl)) only [go_sem, ↓reduceIte, Nat.reduceEqDiff, Nat.reduceBEq, Nat.reduceAdd, Nat.reduceSub, Nat.reduceLeDiff, Nat.reduceLT, Nat.reduceMul, Int.reduceNeg, Int.reduceLT, Int.reduceLE, Int.reduceAdd, Int.reduceSub, Int.reduceToNat, Int.reduceMul, Int.reduceMod, Int.reduceTMod, Int.reduceTDiv, Int.reduceEq, Nat.reducePow, Nat.reduceDiv, Nat.reduceShiftRight, Nat.reduceMod, List.reduceReplicate, h2]
    (repeat' (refine kD_intro (fun _ => ?_) (fun _ => ?_))) <;> simp (disch := first | assumption | omega) [putR, if_pos, if_neg, *, putV, zeroIt, It.cs]
  · simp -implicitDefEqProofs -dsimp +contextual (maxSteps := 5000000) (disch := first | omega | (simp only [go_sem] <;> omega) | (show indepB _ _ = true; refine id ?_; kernel_rfl)) only [go_sem, ↓reduceIte, Nat.reduceEqDiff, Nat.reduceBEq, Nat.reduceAdd, Nat.reduceSub, Nat.reduceLeDiff, Nat.reduceLT, Nat.reduceMul, Int.reduceNeg, Int.reduceLT, Int.reduceLE, Int.reduceAdd, Int.reduceSub, Int.reduceToNat, Int.reduceMul, Int.reduceMod, Int.reduceTMod, Int.reduceTDiv, Int.reduceEq, Nat.reducePow, Nat.reduceDiv, Nat.reduceShiftRight, Nat.reduceMod, List.reduceReplicate, h2, getR_false l k h2]
    (repeat' (refine kD_intro (fun _ => ?_) (fun _ => ?_))) <;> simp (disch := first | assumption | omega) [putR, if_pos, if_neg, *, getR_false l k h2, putV, zeroIt, It.cs]
end Go.Proofs.YtccfjidpdlfenaaDoor
