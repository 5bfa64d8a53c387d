import Derived.Test.YtccfjidpdlfenaaDoorTStore
namespace Go.Proofs.YtccfjidpdlfenaaDoor
open Go.Am
set_option linter.unusedSimpArgs false
set_option linter.unusedVariables false
set_option maxRecDepth 100000
theorem setR_len (l : List It) (x : It) : (setR l x).length ≤ l.length + 1 := by
  unfold setR; split
  · simp
  · simp; omega
def mergeS (s : List It × Int) (x : It) : List It × Int :=
  if itemR x = true then
    if (getR s.1 x.k).2 = true ∧ x.n ≤ (getR s.1 x.k).1.n then s
    else if (getR s.1 x.k).2 = false ∧ 16 ≤ s.1.length then (s.1, 27)
    else (setR s.1 x, s.2)
  else s
def mergeR (l more : List It) : List It × Int := more.foldl mergeS (l, 0)
theorem mergeS_len (s : List It × Int) (x : It) : (mergeS s x).1.length ≤ s.1.length + 1 := by
  unfold mergeS
  have := setR_len s.1 x
  split
  · split
    · omega
    · split <;> simp <;> omega
  · omega
theorem foldl_len (more : List It) : ∀ s : List It × Int, (more.foldl mergeS s).1.length ≤ s.1.length + more.length := by
  induction more with
  | nil => intro s; simp
  | cons x more ih => intro s; have h1 := ih (mergeS s x); have h2 := mergeS_len s x; simp only [List.foldl_cons, List.length_cons]; omega
theorem mergeR_len (l more : List It) : (mergeR l more).1.length ≤ l.length + more.length := foldl_len more (l, 0)
theorem mergeR_succ (l more : List It) (i : Nat) (h : i < more.length) : mergeR l (more.take (i + 1)) = mergeS (mergeR l (more.take i)) more[i] := by
  rw [List.take_succ_eq_append_getElem h]; simp only [mergeR, List.foldl_append, List.foldl_cons, List.foldl_nil]

set_option maxHeartbeats 4000000 in
@[go_sem] theorem e11 (l more : List It) (hl : l.length ≤ 1000000) (hm : more.length ≤ 1000000) (hk : ∀ x ∈ more, x.k.length ≤ 9223372036854775807) : fn C 11 [] [.slice 4 (l.map It.cs), .slice 4 (more.map It.cs)] = some (.tup [.slice 4 ((mergeR l more).1.map It.cs), .int .i64 (mergeR l more).2], []) := by
  rw [fn_text Tryd.func11 rfl rfl Tryd.results11 locM11 rfl rfl (by kernel_rfl)]
  simp -implicitDefEqProofs -dsimp +contextual (maxSteps := 5000000) (disch := first | omega | (simp only [go_sem] <;> omega) | (show indepB _ _ = true; refine id ?_; kernel_rfl)) only [go_sem, ↓reduceIte, Nat.reduceEqDiff, Nat.reduceBEq, Nat.reduceAdd, Nat.reduceSub, Nat.reduceLeDiff, Nat.reduceLT, Nat.reduceMul, Int.reduceNeg, Int.reduceLT, Int.reduceLE, Int.reduceAdd, Int.reduceSub, Int.reduceToNat, Int.reduceMul, Int.reduceMod, Int.reduceTMod, Int.reduceTDiv, Int.reduceEq, Nat.reducePow, Nat.reduceDiv, Nat.reduceShiftRight, Nat.reduceMod, List.reduceReplicate]
  refine (kLoop_rec (fun i f H => f 6 = .slice 4 ((mergeR l (more.take i)).1.map It.cs) ∧ f 7 = .int .i64 (mergeR l (more.take i)).2 ∧ f 14 = .slice 4 (more.map It.cs) ∧ f 15 = .int .i64 more.length ∧ f 16 = .int .i64 (i : Nat) ∧ i ≤ more.length) (fun i => more.length - i) (fun i => some (.tup [.slice 4 ((mergeR l more).1.map It.cs), .int .i64 (mergeR l more).2], [])) ?_ 0 _ _ ⟨rfl, rfl, rfl, rfl, rfl, by omega⟩).trans rfl
  rintro i f H ⟨h6, h7, h14, h15, h16, hi⟩ ih
  by_cases hl : i < more.length
  · have hs := mergeR_succ l more i hl
    have hn := mergeR_len l (more.take i)
    have hki := hk more[i] (List.getElem_mem _)
    have hgf := getR_false (mergeR l (more.take i)).1 more[i].k
    simp only [List.length_take] at hn
    generalize mergeR l (more.take i) = s at *
    simp -implicitDefEqProofs -dsimp +contextual (maxSteps := 5000000) (disch := first | omega | (simp only [go_sem] <;> omega) | (show indepB _ _ = true; refine id ?_; kernel_rfl)) only [go_sem, ↓reduceIte, Nat.reduceEqDiff, Nat.reduceBEq, Nat.reduceAdd, Nat.reduceSub, Nat.reduceLeDiff, Nat.reduceLT, Nat.reduceMul, Int.reduceNeg, Int.reduceLT, Int.reduceLE, Int.reduceAdd, Int.reduceSub, Int.reduceToNat, Int.reduceMul, Int.reduceMod, Int.reduceTMod, Int.reduceTDiv, Int.reduceEq, Nat.reducePow, Nat.reduceDiv, Nat.reduceShiftRight, Nat.reduceMod, List.reduceReplicate, h6, h7, h14, h15, h16, hl]
    have go := fun (r : List It × Int) (f' : Nat → AVal) (H' : Heap) (e : mergeS s more[i] = r) (a : f' 6 = .slice 4 (r.1.map It.cs)) (b : f' 7 = .int .i64 r.2) (c : f' 14 = .slice 4 (more.map It.cs)) (d : f' 15 = .int .i64 more.length) (g : f' 16 = .int .i64 ((i + 1 : Nat) : Int)) => ih (i + 1) f' H' (by rw [hs, e]; exact ⟨a, b, c, d, g, by omega⟩) (by omega)
    (repeat' (refine kD_intro (fun _ => ?_) (fun _ => ?_)))
    · exact go s _ _ (by simp [mergeS, *]) h6 h7 h14 h15 rfl
    · exact go (setR s.1 more[i], s.2) _ _ (by simp [mergeS, *]) rfl h7 h14 h15 rfl
    · exact go (s.1, 27) _ _ (by simp [mergeS, *]) h6 rfl h14 h15 rfl
    · exact go (setR s.1 more[i], s.2) _ _ (by simp [mergeS, *]) rfl h7 h14 h15 rfl
    · exact go s _ _ (by simp [mergeS, *]) h6 h7 h14 h15 rfl
  · obtain rfl : i = more.length := by omega
    rw [List.take_length] at h6 h7
    simp -implicitDefEqProofs -dsimp +contextual (maxSteps := 5000000) (disch := first | omega | (simp only [go_sem] <;> omega) | (show indepB _ _ = true; refine id ?_; kernel_rfl)) only [go_sem, ↓reduceIte, Nat.reduceEqDiff, Nat.reduceBEq, Nat.reduceAdd, Nat.reduceSub, Nat.reduceLeDiff, Nat.reduceLT, Nat.reduceMul, Int.reduceNeg, Int.reduceLT, Int.reduceLE, Int.reduceAdd, Int.reduceSub, Int.reduceToNat, Int.reduceMul, Int.reduceMod, Int.reduceTMod, Int.reduceTDiv, Int.reduceEq, Nat.reducePow, Nat.reduceDiv, Nat.reduceShiftRight, Nat.reduceMod, List.reduceReplicate, h6, h7, h14, h15, h16, hl]

theorem setR_mem (l : List It) (x y : It) (h : y ∈ setR l x) : y ∈ l ∨ y = x := by
  unfold setR at h
  split at h
  · exact List.mem_or_eq_of_mem_set h
  · rw [List.mem_append, List.mem_cons] at h
    rcases h with h | h | h
    · exact .inl (List.mem_of_mem_take h)
    · exact .inr h
    · exact .inl (List.mem_of_mem_drop h)
theorem mergeS_mem (s : List It × Int) (x y : It) (h : y ∈ (mergeS s x).1) : y ∈ s.1 ∨ y = x := by
  unfold mergeS at h
  split at h
  · split at h
    · exact .inl h
    · split at h
      · exact .inl h
      · exact setR_mem _ _ _ h
  · exact .inl h
theorem foldl_mem (more : List It) : ∀ (s : List It × Int) (y : It), y ∈ (more.foldl mergeS s).1 → y ∈ s.1 ∨ y ∈ more := by
  induction more with
  | nil => intro s y h; exact .inl h
  | cons x more ih =>
    intro s y h
    rcases ih _ _ h with h | h
    · rcases mergeS_mem _ _ _ h with h | h
      · exact .inl h
      · exact .inr (by rw [h]; exact List.mem_cons_self)
    · exact .inr (List.mem_cons_of_mem _ h)
theorem mergeR_mem (l more : List It) (y : It) (h : y ∈ (mergeR l more).1) : y ∈ l ∨ y ∈ more := foldl_mem more (l, 0) y h

set_option maxHeartbeats 4000000 in
@[go_sem] theorem e12 (l more : List It) (hl : l.length ≤ 1000000) (hm : more.length ≤ 1000000) (hk : ∀ x ∈ l, x.k.length ≤ 9223372036854775807) (hk2 : ∀ x ∈ more, x.k.length ≤ 9223372036854775807) : fn C 12 [] [.slice 4 (l.map It.cs), .slice 4 (more.map It.cs)] = some (.tup [.slice 4 ((mergeR l more).1.map It.cs), .int .i64 (mergeR l more).2], []) := by
  rw [fn_text Tryd.func12 rfl rfl Tryd.results12 locM12 rfl rfl (by kernel_rfl)]
  simp -implicitDefEqProofs -dsimp +contextual (maxSteps := 5000000) (disch := first | omega | (simp only [go_sem] <;> omega) | (show indepB _ _ = true; refine id ?_; kernel_rfl)) only [go_sem, ↓reduceIte, Nat.reduceEqDiff, Nat.reduceBEq, Nat.reduceAdd, Nat.reduceSub, Nat.reduceLeDiff, Nat.reduceLT, Nat.reduceMul, Int.reduceNeg, Int.reduceLT, Int.reduceLE, Int.reduceAdd, Int.reduceSub, Int.reduceToNat, Int.reduceMul, Int.reduceMod, Int.reduceTMod, Int.reduceTDiv, Int.reduceEq, Nat.reducePow, Nat.reduceDiv, Nat.reduceShiftRight, Nat.reduceMod, List.reduceReplicate]
  refine (kLoop_rec (fun i f H => f 1 = .slice 4 (more.map It.cs) ∧ ((∃ (g : Nat) , f 6 = .osl 111 g 0 (mergeR l (more.take i)).1.length ∧ H 111 = ⟨g, .live, 4, (mergeR l (more.take i)).1.map It.cs, false⟩) ∨ f 6 = .slice 4 ((mergeR l (more.take i)).1.map It.cs)) ∧ f 7 = .int .i64 (mergeR l (more.take i)).2 ∧ f 8 = .int .i64 (i : Nat) ∧ i ≤ more.length) (fun i => more.length - i) (fun i => some (.tup [.slice 4 ((mergeR l more).1.map It.cs), .int .i64 (mergeR l more).2], [])) ?_ 0 _ _ ⟨rfl, .inl ⟨_, rfl, rfl⟩, rfl, rfl, by omega⟩).trans rfl
  rintro i f H ⟨h1, h6, h7, h8, hi⟩ ih
  by_cases hl : i < more.length
  · have hs := mergeR_succ l more i hl
    have hn := mergeR_len l (more.take i)
    have hki := hk2 more[i] (List.getElem_mem _)
    have hkm : ∀ x ∈ (mergeR l (more.take i)).1, x.k.length ≤ 9223372036854775807 := fun x hx => by
      rcases mergeR_mem _ _ _ hx with h | h
      · exact hk x h
      · exact hk2 x (List.mem_of_mem_take h)
    have hgf := getR_false (mergeR l (more.take i)).1 more[i].k
    simp only [List.length_take] at hn
    generalize mergeR l (more.take i) = s at *
    have go1 := fun (r : List It × Int) (f' : Nat → AVal) (H' : Heap) (g : Nat) (e : mergeS s more[i] = r) (c : f' 1 = .slice 4 (more.map It.cs)) (a : f' 6 = .osl 111 g 0 r.1.length) (hH : H' 111 = ⟨g, .live, 4, r.1.map It.cs, false⟩) (b : f' 7 = .int .i64 r.2) (d : f' 8 = .int .i64 ((i + 1 : Nat) : Int)) => ih (i + 1) f' H' (by rw [hs, e]; exact ⟨c, .inl ⟨g, a, hH⟩, b, d, by omega⟩) (by omega)
    have go2 := fun (r : List It × Int) (f' : Nat → AVal) (H' : Heap) (e : mergeS s more[i] = r) (c : f' 1 = .slice 4 (more.map It.cs)) (a : f' 6 = .slice 4 (r.1.map It.cs)) (b : f' 7 = .int .i64 r.2) (d : f' 8 = .int .i64 ((i + 1 : Nat) : Int)) => ih (i + 1) f' H' (by rw [hs, e]; exact ⟨c, .inr a, b, d, by omega⟩) (by omega)
    rcases h6 with ⟨g, h6, hH⟩ | h6
    · simp -implicitDefEqProofs -dsimp +contextual (maxSteps := 5000000) (disch := first | omega | (simp only [go_sem] <;> omega) | (show indepB _ _ = true; refine id ?_; kernel_rfl)) only [go_sem, ↓reduceIte, Nat.reduceEqDiff, Nat.reduceBEq, Nat.reduceAdd, Nat.reduceSub, Nat.reduceLeDiff, Nat.reduceLT, Nat.reduceMul, Int.reduceNeg, Int.reduceLT, Int.reduceLE, Int.reduceAdd, Int.reduceSub, Int.reduceToNat, Int.reduceMul, Int.reduceMod, Int.reduceTMod, Int.reduceTDiv, Int.reduceEq, Nat.reducePow, Nat.reduceDiv, Nat.reduceShiftRight, Nat.reduceMod, List.reduceReplicate, h1, h6, h7, h8, hl, hH]
      (repeat' (refine kD_intro (fun _ => ?_) (fun _ => ?_)))
      · exact go1 s _ _ g (by simp [mergeS, *] <;> omega) h1 h6 (by simp [Heap.set, hH]) h7 rfl
      · exact go2 (setR s.1 more[i], s.2) _ _ (by simp [mergeS, *] <;> omega) h1 rfl h7 rfl
      · exact go1 (s.1, 27) _ _ g (by simp [mergeS, *] <;> omega) h1 h6 (by simp [Heap.set, hH]) rfl rfl
      · exact go2 (setR s.1 more[i], s.2) _ _ (by simp [mergeS, *] <;> omega) h1 rfl h7 rfl
      · exact go1 s _ _ g (by simp [mergeS, *] <;> omega) h1 h6 hH h7 rfl
    · simp -implicitDefEqProofs -dsimp +contextual (maxSteps := 5000000) (disch := first | omega | (simp only [go_sem] <;> omega) | (show indepB _ _ = true; refine id ?_; kernel_rfl)) only [go_sem, ↓reduceIte, Nat.reduceEqDiff, Nat.reduceBEq, Nat.reduceAdd, Nat.reduceSub, Nat.reduceLeDiff, Nat.reduceLT, Nat.reduceMul, Int.reduceNeg, Int.reduceLT, Int.reduceLE, Int.reduceAdd, Int.reduceSub, Int.reduceToNat, Int.reduceMul, Int.reduceMod, Int.reduceTMod, Int.reduceTDiv, Int.reduceEq, Nat.reducePow, Nat.reduceDiv, Nat.reduceShiftRight, Nat.reduceMod, List.reduceReplicate, h1, h6, h7, h8, hl]
      (repeat' (refine kD_intro (fun _ => ?_) (fun _ => ?_)))
      · exact go2 s _ _ (by simp [mergeS, *] <;> omega) h1 h6 h7 rfl
      · exact go2 (setR s.1 more[i], s.2) _ _ (by simp [mergeS, *] <;> omega) h1 rfl h7 rfl
      · exact go2 (s.1, 27) _ _ (by simp [mergeS, *] <;> omega) h1 h6 rfl rfl
      · exact go2 (setR s.1 more[i], s.2) _ _ (by simp [mergeS, *] <;> omega) h1 rfl h7 rfl
      · exact go2 s _ _ (by simp [mergeS, *] <;> omega) h1 h6 h7 rfl
  · obtain rfl : i = more.length := by omega
    rw [List.take_length] at h6 h7
    rcases h6 with ⟨g, h6, hH⟩ | h6
    · simp -implicitDefEqProofs -dsimp +contextual (maxSteps := 5000000) (disch := first | omega | (simp only [go_sem] <;> omega) | (show indepB _ _ = true; refine id ?_; kernel_rfl)) only [go_sem, ↓reduceIte, Nat.reduceEqDiff, Nat.reduceBEq, Nat.reduceAdd, Nat.reduceSub, Nat.reduceLeDiff, Nat.reduceLT, Nat.reduceMul, Int.reduceNeg, Int.reduceLT, Int.reduceLE, Int.reduceAdd, Int.reduceSub, Int.reduceToNat, Int.reduceMul, Int.reduceMod, Int.reduceTMod, Int.reduceTDiv, Int.reduceEq, Nat.reducePow, Nat.reduceDiv, Nat.reduceShiftRight, Nat.reduceMod, List.reduceReplicate, h1, h6, h7, h8, hl, hH]
    · simp -implicitDefEqProofs -dsimp +contextual (maxSteps := 5000000) (disch := first | omega | (simp only [go_sem] <;> omega) | (show indepB _ _ = true; refine id ?_; kernel_rfl)) only [go_sem, ↓reduceIte, Nat.reduceEqDiff, Nat.reduceBEq, Nat.reduceAdd, Nat.reduceSub, Nat.reduceLeDiff, Nat.reduceLT, Nat.reduceMul, Int.reduceNeg, Int.reduceLT, Int.reduceLE, Int.reduceAdd, Int.reduceSub, Int.reduceToNat, Int.reduceMul, Int.reduceMod, Int.reduceTMod, Int.reduceTDiv, Int.reduceEq, Nat.reducePow, Nat.reduceDiv, Nat.reduceShiftRight, Nat.reduceMod, List.reduceReplicate, h1, h6, h7, h8, hl]

def greatR (l : List It) : Bool := decide (60 < l.length) || l.any (fun x => decide (300 < x.k.length) || decide (300 < x.v.length))

set_option maxHeartbeats 4000000 in
@[go_sem] theorem e9 (l : List It) (hl : l.length ≤ 9223372036854775807) (hk : ∀ x ∈ l, x.k.length ≤ 9223372036854775807 ∧ x.v.length ≤ 9223372036854775807) : fn C 9 [] [.slice 4 (l.map It.cs)] = some (.bool (greatR l), []) := by
  rw [fn_text Tryd.func9 rfl rfl Tryd.results9 locM9 rfl rfl (by kernel_rfl)]
  simp -implicitDefEqProofs -dsimp +contextual (maxSteps := 5000000) (disch := first | omega | (simp only [go_sem] <;> omega) | (show indepB _ _ = true; refine id ?_; kernel_rfl)) only [go_sem, ↓reduceIte, Nat.reduceEqDiff, Nat.reduceBEq, Nat.reduceAdd, Nat.reduceSub, Nat.reduceLeDiff, Nat.reduceLT, Nat.reduceMul, Int.reduceNeg, Int.reduceLT, Int.reduceLE, Int.reduceAdd, Int.reduceSub, Int.reduceToNat, Int.reduceMul, Int.reduceMod, Int.reduceTMod, Int.reduceTDiv, Int.reduceEq, Nat.reducePow, Nat.reduceDiv, Nat.reduceShiftRight, Nat.reduceMod, List.reduceReplicate]
  refine kD_intro (fun h => by simp [greatR, h]) (fun h => ?_)
  refine (kLoop_rec (fun i f H => f 0 = .slice 4 (l.map It.cs) ∧ f 3 = .int .i64 (i : Nat) ∧ i ≤ l.length) (fun i => l.length - i) (fun i => some (.bool ((l.drop i).any (fun x => decide (300 < x.k.length) || decide (300 < x.v.length))), [])) ?_ 0 _ _ ⟨rfl, rfl, by omega⟩).trans (by simp [greatR, h])
  rintro i f H ⟨h0, h3, hi⟩ ih
  by_cases hl : i < l.length
  · have hki := hk l[i] (List.getElem_mem _)
    rw [List.drop_eq_getElem_cons hl]
    simp -implicitDefEqProofs -dsimp +contextual (maxSteps := 5000000) (disch := first | omega | (simp only [go_sem] <;> omega) | (show indepB _ _ = true; refine id ?_; kernel_rfl)) only [go_sem, ↓reduceIte, Nat.reduceEqDiff, Nat.reduceBEq, Nat.reduceAdd, Nat.reduceSub, Nat.reduceLeDiff, Nat.reduceLT, Nat.reduceMul, Int.reduceNeg, Int.reduceLT, Int.reduceLE, Int.reduceAdd, Int.reduceSub, Int.reduceToNat, Int.reduceMul, Int.reduceMod, Int.reduceTMod, Int.reduceTDiv, Int.reduceEq, Nat.reducePow, Nat.reduceDiv, Nat.reduceShiftRight, Nat.reduceMod, List.reduceReplicate, h0, h3, hl]
    (repeat' (refine kD_intro (fun _ => ?_) (fun _ => ?_)))
    all_goals first
      | exact Res_bool (by simp only [List.any_cons]; simp [*])
      | exact (ih (i + 1) _ _ (by exact ⟨h0, rfl, by omega⟩) (by omega)).trans (Res_bool (by simp only [List.any_cons]; simp [*]))
  · obtain rfl : i = l.length := by omega
    simp -implicitDefEqProofs -dsimp +contextual (maxSteps := 5000000) (disch := first | omega | (simp only [go_sem] <;> omega) | (show indepB _ _ = true; refine id ?_; kernel_rfl)) only [go_sem, ↓reduceIte, Nat.reduceEqDiff, Nat.reduceBEq, Nat.reduceAdd, Nat.reduceSub, Nat.reduceLeDiff, Nat.reduceLT, Nat.reduceMul, Int.reduceNeg, Int.reduceLT, Int.reduceLE, Int.reduceAdd, Int.reduceSub, Int.reduceToNat, Int.reduceMul, Int.reduceMod, Int.reduceTMod, Int.reduceTDiv, Int.reduceEq, Nat.reducePow, Nat.reduceDiv, Nat.reduceShiftRight, Nat.reduceMod, List.reduceReplicate, h0, h3]
    exact Res_bool (by simp)

theorem wk_k : keyR [107] = true := by decide
theorem wk_0 : keyR [] = false := by decide
@[go_sem] theorem w1 : fn C 38 [] [.slice 4 [], .str [107], .str [118], .bool false] = some (.tup [.slice 4 [[.str [107], .str [118], .int .i64 1, .bool false]], .agg [.str [107], .str [118], .int .i64 1, .bool false], .int .i64 0], []) :=
  e38 [] [107] [118] false (by decide) (by decide)
@[go_sem] theorem w2 : fn C 38 [] [.slice 4 [[.str [107], .str [118], .int .i64 1, .bool false]], .str [107], .str [119], .bool false] = some (.tup [.slice 4 [[.str [107], .str [119], .int .i64 2, .bool false]], .agg [.str [107], .str [119], .int .i64 2, .bool false], .int .i64 0], []) :=
  e38 [⟨[107], [118], 1, false⟩] [107] [119] false (by decide) (by decide)
@[go_sem] theorem w3 : fn C 38 [] [.slice 4 [[.str [107], .str [119], .int .i64 2, .bool false]], .str [], .str [119], .bool false] = some (.tup [.slice 4 [[.str [107], .str [119], .int .i64 2, .bool false]], .agg [.str [], .str [], .int .i64 0, .bool false], .int .i64 2], []) :=
  e38 [⟨[107], [119], 2, false⟩] [] [119] false (by decide) (by decide)
@[go_sem] theorem w4 : fn C 39 [] [.slice 4 [[.str [107], .str [119], .int .i64 2, .bool false]], .str [107]] = some (.tup [.agg [.str [107], .str [119], .int .i64 2, .bool false], .bool true], []) :=
  e39 [⟨[107], [119], 2, false⟩] [107] (by decide)
@[go_sem] theorem w5 : fn C 40 [] [.slice 4 [[.str [107], .str [119], .int .i64 2, .bool false]]] = some (.bool true, []) :=
  e40 [⟨[107], [119], 2, false⟩] (by decide) (by decide)
@[go_sem] theorem w6 : fn C 41 [] [.slice 4 [[.str [107], .str [119], .int .i64 2, .bool false]], .str [120]] = some (.int .i64 (-1), []) :=
  e41 [⟨[107], [119], 2, false⟩] [120] (by decide)

set_option maxHeartbeats 4000000 in
@[go_sem] theorem e10 : fn C 10 [] [] = some (.bool true, []) := by
  rw [fn_text Tryd.func10 rfl rfl Tryd.results10 locM10 rfl rfl (by kernel_rfl)]
  simp -implicitDefEqProofs -dsimp +contextual (maxSteps := 5000000) (disch := first | omega | (simp only [go_sem] <;> omega) | (show indepB _ _ = true; refine id ?_; kernel_rfl)) only [go_sem, ↓reduceIte, Nat.reduceEqDiff, Nat.reduceBEq, Nat.reduceAdd, Nat.reduceSub, Nat.reduceLeDiff, Nat.reduceLT, Nat.reduceMul, Int.reduceNeg, Int.reduceLT, Int.reduceLE, Int.reduceAdd, Int.reduceSub, Int.reduceToNat, Int.reduceMul, Int.reduceMod, Int.reduceTMod, Int.reduceTDiv, Int.reduceEq, Nat.reducePow, Nat.reduceDiv, Nat.reduceShiftRight, Nat.reduceMod, List.reduceReplicate]

end Go.Proofs.YtccfjidpdlfenaaDoor
