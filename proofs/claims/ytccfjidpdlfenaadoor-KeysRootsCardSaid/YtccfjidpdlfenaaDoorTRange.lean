import Derived.Test.YtccfjidpdlfenaaDoorTKinds
namespace Go.Proofs.YtccfjidpdlfenaaDoor
open Go.Am
set_option linter.unusedSimpArgs false
set_option linter.unusedVariables false
set_option maxRecDepth 100000
/-! Layers 9 and 27: parts of the ring. -/
attribute [local irreducible] sumB idB
def distR (a b : Nat) : Nat := (b + 18446744073709551616 - a) % 18446744073709551616
def withinR (a x b : Nat) : Bool := decide (a = b) || (!decide (x = a) && decide (distR a x ≤ distR a b))
theorem idB_lt (l : List UInt8) : idB l ≤ 18446744073709551615 := by
  have h := beV_lt ((sumB l).take 8)
  have h8 : ((sumB l).take 8).length = 8 := by rw [List.length_take, sumB_len]; rfl
  rw [h8] at h
  unfold idB
  omega

@[go_sem] theorem e90 (a b : Nat) (ha : a ≤ 18446744073709551615) (hb : b ≤ 18446744073709551615) : fn C 90 [] [.int .u64 (a : Int), .int .u64 (b : Int)] = some (.int .u64 (distR a b : Int), []) := by
  rw [fn_text Tryd.func90 rfl rfl Tryd.results90 locM90 rfl rfl (by kernel_rfl)]
  simp -implicitDefEqProofs -dsimp +contextual (maxSteps := 5000000) (disch := first | omega | (simp only [go_sem] <;> omega) | (show indepB _ _ = true; refine id ?_; kernel_rfl)) only [go_sem, ↓reduceIte, Nat.reduceEqDiff, Nat.reduceBEq, Nat.reduceAdd, Nat.reduceSub, Nat.reduceLeDiff, Nat.reduceLT, Nat.reduceMul, Int.reduceNeg, Int.reduceLT, Int.reduceLE, Int.reduceAdd, Int.reduceSub, Int.reduceToNat, Int.reduceMul, Int.reduceMod, Int.reduceTMod, Int.reduceTDiv, Int.reduceEq, Nat.reducePow, Nat.reduceDiv, Nat.reduceShiftRight, Nat.reduceMod, List.reduceReplicate]
  rw [show IntKind.u64.wrap ((b : Int) - a) = ((distR a b : Nat) : Int) by rw [IntKind.wrap_u64, distR]; omega]

theorem dist_le (a b : Nat) (ha : a ≤ 18446744073709551615) (hb : b ≤ 18446744073709551615) (h : a ≤ b) : distR a b = b - a := by unfold distR; omega
theorem dist_gt (a b : Nat) (ha : a ≤ 18446744073709551615) (hb : b ≤ 18446744073709551615) (h : ¬ a ≤ b) : distR a b = b + 18446744073709551616 - a := by unfold distR; omega
theorem within_lt (a x b : Nat) (ha : a ≤ 18446744073709551615) (hx : x ≤ 18446744073709551615) (hb : b ≤ 18446744073709551615) (h : a < b) : withinR a x b = (decide (a < x) && decide (x ≤ b)) := by
  rw [Bool.eq_iff_iff]; simp only [withinR, Bool.or_eq_true, Bool.and_eq_true, decide_eq_true_eq, Bool.not_eq_true', decide_eq_false_iff_not]
  rw [dist_le a b ha hb (by omega)]
  by_cases h1 : a ≤ x
  · rw [dist_le a x ha hx h1]; omega
  · rw [dist_gt a x ha hx h1]; omega
theorem within_gt (a x b : Nat) (ha : a ≤ 18446744073709551615) (hx : x ≤ 18446744073709551615) (hb : b ≤ 18446744073709551615) (h : b < a) : withinR a x b = (decide (a < x) || decide (x ≤ b)) := by
  rw [Bool.eq_iff_iff]; simp only [withinR, Bool.or_eq_true, Bool.and_eq_true, decide_eq_true_eq, Bool.not_eq_true', decide_eq_false_iff_not]
  rw [dist_gt a b ha hb (by omega)]
  by_cases h1 : a ≤ x
  · rw [dist_le a x ha hx h1]; omega
  · rw [dist_gt a x ha hx h1]; omega
@[go_sem] theorem e48 (a x b : Nat) (ha : a ≤ 18446744073709551615) (hx : x ≤ 18446744073709551615) (hb : b ≤ 18446744073709551615) : fn C 48 [] [.int .u64 (a : Int), .int .u64 (x : Int), .int .u64 (b : Int)] = some (.bool (withinR a x b), []) := by
  rw [fn_text Tryd.func48 rfl rfl Tryd.results48 locM48 rfl rfl (by kernel_rfl)]
  simp -implicitDefEqProofs -dsimp +contextual (maxSteps := 5000000) (disch := first | omega | (simp only [go_sem] <;> omega) | (show indepB _ _ = true; refine id ?_; kernel_rfl)) only [go_sem, ↓reduceIte, Nat.reduceEqDiff, Nat.reduceBEq, Nat.reduceAdd, Nat.reduceSub, Nat.reduceLeDiff, Nat.reduceLT, Nat.reduceMul, Int.reduceNeg, Int.reduceLT, Int.reduceLE, Int.reduceAdd, Int.reduceSub, Int.reduceToNat, Int.reduceMul, Int.reduceMod, Int.reduceTMod, Int.reduceTDiv, Int.reduceEq, Nat.reducePow, Nat.reduceDiv, Nat.reduceShiftRight, Nat.reduceMod, List.reduceReplicate]
  (repeat' (refine kD_intro (fun _ => ?_) (fun _ => ?_)))
  all_goals exact Res_bool (by simp [withinR, *])

@[go_sem] theorem e50 (a x b : Nat) (ha : a ≤ 18446744073709551615) (hx : x ≤ 18446744073709551615) (hb : b ≤ 18446744073709551615) : fn C 50 [] [.int .u64 (a : Int), .int .u64 (x : Int), .int .u64 (b : Int)] = some (.bool (withinR a x b), []) := by
  rw [fn_text Tryd.func50 rfl rfl Tryd.results50 locM50 rfl rfl (by kernel_rfl)]
  simp -implicitDefEqProofs -dsimp +contextual (maxSteps := 5000000) (disch := first | omega | (simp only [go_sem] <;> omega) | (show indepB _ _ = true; refine id ?_; kernel_rfl)) only [go_sem, ↓reduceIte, Nat.reduceEqDiff, Nat.reduceBEq, Nat.reduceAdd, Nat.reduceSub, Nat.reduceLeDiff, Nat.reduceLT, Nat.reduceMul, Int.reduceNeg, Int.reduceLT, Int.reduceLE, Int.reduceAdd, Int.reduceSub, Int.reduceToNat, Int.reduceMul, Int.reduceMod, Int.reduceTMod, Int.reduceTDiv, Int.reduceEq, Nat.reducePow, Nat.reduceDiv, Nat.reduceShiftRight, Nat.reduceMod, List.reduceReplicate]
  (repeat' (refine kD_intro (fun _ => ?_) (fun _ => ?_)))
  · exact Res_bool (by simp [withinR, *])
  · exact Res_bool (by rw [within_lt a x b ha hx hb (by assumption)]; simp [*])
  · exact Res_bool (by rw [within_lt a x b ha hx hb (by assumption)]; simp [*])
  · exact Res_bool (by rw [within_gt a x b ha hx hb (by omega)]; simp [*])
  · exact Res_bool (by rw [within_gt a x b ha hx hb (by omega)]; simp [*])

def inR (a b : Nat) (x : It) : Bool := withinR a (idB (keyS ++ x.k)) b
theorem filter_take (p : It → Bool) (l : List It) (i : Nat) (h : i < l.length) : (l.take (i + 1)).filter p = (l.take i).filter p ++ (if p l[i] = true then [l[i]] else []) := by
  rw [List.take_succ_eq_append_getElem h, List.filter_append]
  simp only [List.filter_cons, List.filter_nil]

set_option maxHeartbeats 1000000 in
@[go_sem] theorem e14 (l : List It) (a b : Nat) (ha : a ≤ 18446744073709551615) (hb : b ≤ 18446744073709551615) (hl : l.length ≤ 100000) (hk : ∀ x ∈ l, x.k.length ≤ 10000) : fn C 14 [] [.slice 4 (l.map It.cs), .int .u64 (a : Int), .int .u64 (b : Int)] = some (.slice 4 ((l.filter (inR a b)).map It.cs), []) := by
  rw [fn_text Tryd.func14 rfl rfl Tryd.results14 locM14 rfl rfl (by kernel_rfl)]
  simp -implicitDefEqProofs -dsimp +contextual (maxSteps := 5000000) (disch := first | omega | (simp only [go_sem] <;> omega) | (show indepB _ _ = true; refine id ?_; kernel_rfl)) only [go_sem, ↓reduceIte, Nat.reduceEqDiff, Nat.reduceBEq, Nat.reduceAdd, Nat.reduceSub, Nat.reduceLeDiff, Nat.reduceLT, Nat.reduceMul, Int.reduceNeg, Int.reduceLT, Int.reduceLE, Int.reduceAdd, Int.reduceSub, Int.reduceToNat, Int.reduceMul, Int.reduceMod, Int.reduceTMod, Int.reduceTDiv, Int.reduceEq, Nat.reducePow, Nat.reduceDiv, Nat.reduceShiftRight, Nat.reduceMod, List.reduceReplicate]
  refine (kLoop_rec (fun i f H => f 1 = .int .u64 (a : Int) ∧ f 2 = .int .u64 (b : Int) ∧ f 10 = .slice 4 (l.map It.cs) ∧ f 11 = .int .i64 l.length ∧ f 12 = .int .i64 (i : Nat) ∧ (((l.take i).filter (inR a b) = [] ∧ f 7 = .sc (.slice none 0 0)) ∨ ∃ g, f 7 = .osl 125 g 0 ((l.take i).filter (inR a b)).length ∧ H 125 = ⟨g, .live, 4, ((l.take i).filter (inR a b)).map It.cs, false⟩) ∧ i ≤ l.length) (fun i => l.length - i) (fun i => some (.slice 4 ((l.filter (inR a b)).map It.cs), [])) ?_ 0 _ _ ⟨rfl, rfl, rfl, rfl, rfl, .inl ⟨rfl, rfl⟩, by omega⟩).trans rfl
  rintro i f H ⟨h1, h2, h10, h11, h12, h7, hi⟩ ih
  by_cases hl : i < l.length
  · have hs := filter_take (inR a b) l i hl
    have hki := hk l[i] (List.getElem_mem _)
    have hid := idB_lt (keyS ++ l[i].k)
    have hw : withinR a (idB (keyS ++ l[i].k)) b = inR a b l[i] := rfl
    have hn : ((l.take i).filter (inR a b)).length ≤ l.length := Nat.le_trans (List.length_filter_le ..) (by simp; omega)
    generalize (l.take i).filter (inR a b) = s at *
    rcases h7 with ⟨rfl, h7⟩ | ⟨g, h7, hH⟩
    · simp -implicitDefEqProofs -dsimp +contextual (maxSteps := 5000000) (disch := first | omega | (simp only [go_sem] <;> omega) | (show indepB _ _ = true; refine id ?_; kernel_rfl)) only [go_sem, ↓reduceIte, Nat.reduceEqDiff, Nat.reduceBEq, Nat.reduceAdd, Nat.reduceSub, Nat.reduceLeDiff, Nat.reduceLT, Nat.reduceMul, Int.reduceNeg, Int.reduceLT, Int.reduceLE, Int.reduceAdd, Int.reduceSub, Int.reduceToNat, Int.reduceMul, Int.reduceMod, Int.reduceTMod, Int.reduceTDiv, Int.reduceEq, Nat.reducePow, Nat.reduceDiv, Nat.reduceShiftRight, Nat.reduceMod, List.reduceReplicate, h1, h2, h7, h10, h11, h12, hl, hw]
      (repeat' (refine kD_intro (fun _ => ?_) (fun _ => ?_)))
      · rename_i hin; exact ih (i + 1) _ _ (by rw [hs, if_pos hin]; exact ⟨h1, h2, h10, h11, rfl, .inr ⟨_, rfl, rfl⟩, by omega⟩) (by omega)
      · rename_i hin; exact ih (i + 1) _ _ (by rw [hs, if_neg hin]; exact ⟨h1, h2, h10, h11, rfl, .inl ⟨rfl, h7⟩, by omega⟩) (by omega)
    · simp -implicitDefEqProofs -dsimp +contextual (maxSteps := 5000000) (disch := first | omega | (simp only [go_sem] <;> omega) | (show indepB _ _ = true; refine id ?_; kernel_rfl)) only [go_sem, ↓reduceIte, Nat.reduceEqDiff, Nat.reduceBEq, Nat.reduceAdd, Nat.reduceSub, Nat.reduceLeDiff, Nat.reduceLT, Nat.reduceMul, Int.reduceNeg, Int.reduceLT, Int.reduceLE, Int.reduceAdd, Int.reduceSub, Int.reduceToNat, Int.reduceMul, Int.reduceMod, Int.reduceTMod, Int.reduceTDiv, Int.reduceEq, Nat.reducePow, Nat.reduceDiv, Nat.reduceShiftRight, Nat.reduceMod, List.reduceReplicate, h1, h2, h7, h10, h11, h12, hl, hH, hw]
      (repeat' (refine kD_intro (fun _ => ?_) (fun _ => ?_)))
      · rename_i hin; exact ih (i + 1) _ _ (by rw [hs, if_pos hin]; exact ⟨h1, h2, h10, h11, rfl, .inr ⟨_, by rw [List.length_append]; rfl, by rw [List.map_append]; rfl⟩, by omega⟩) (by omega)
      · rename_i hin; exact ih (i + 1) _ _ (by rw [hs, if_neg hin, List.append_nil]; exact ⟨h1, h2, h10, h11, rfl, .inr ⟨g, h7, by simp [Heap.set, hH]⟩, by omega⟩) (by omega)
  · obtain rfl : i = l.length := by omega
    rw [List.take_length] at h7
    rcases h7 with ⟨he, h7⟩ | ⟨g, h7, hH⟩
    · rw [he]
      simp -implicitDefEqProofs -dsimp +contextual (maxSteps := 5000000) (disch := first | omega | (simp only [go_sem] <;> omega) | (show indepB _ _ = true; refine id ?_; kernel_rfl)) only [go_sem, ↓reduceIte, Nat.reduceEqDiff, Nat.reduceBEq, Nat.reduceAdd, Nat.reduceSub, Nat.reduceLeDiff, Nat.reduceLT, Nat.reduceMul, Int.reduceNeg, Int.reduceLT, Int.reduceLE, Int.reduceAdd, Int.reduceSub, Int.reduceToNat, Int.reduceMul, Int.reduceMod, Int.reduceTMod, Int.reduceTDiv, Int.reduceEq, Nat.reducePow, Nat.reduceDiv, Nat.reduceShiftRight, Nat.reduceMod, List.reduceReplicate, h1, h2, h7, h10, h11, h12, hl]
    · simp -implicitDefEqProofs -dsimp +contextual (maxSteps := 5000000) (disch := first | omega | (simp only [go_sem] <;> omega) | (show indepB _ _ = true; refine id ?_; kernel_rfl)) only [go_sem, ↓reduceIte, Nat.reduceEqDiff, Nat.reduceBEq, Nat.reduceAdd, Nat.reduceSub, Nat.reduceLeDiff, Nat.reduceLT, Nat.reduceMul, Int.reduceNeg, Int.reduceLT, Int.reduceLE, Int.reduceAdd, Int.reduceSub, Int.reduceToNat, Int.reduceMul, Int.reduceMod, Int.reduceTMod, Int.reduceTDiv, Int.reduceEq, Nat.reducePow, Nat.reduceDiv, Nat.reduceShiftRight, Nat.reduceMod, List.reduceReplicate, h1, h2, h7, h10, h11, h12, hl, hH]

set_option maxHeartbeats 1000000 in
@[go_sem] theorem e15 (l : List It) (a b : Nat) (ha : a ≤ 18446744073709551615) (hb : b ≤ 18446744073709551615) (hl : l.length ≤ 100000) (hk : ∀ x ∈ l, x.k.length ≤ 10000) : fn C 15 [] [.slice 4 (l.map It.cs), .int .u64 (a : Int), .int .u64 (b : Int)] = some (.slice 4 ((l.filter (inR a b)).map It.cs), []) := by
  rw [fn_text Tryd.func15 rfl rfl Tryd.results15 locM15 rfl rfl (by kernel_rfl)]
  simp -implicitDefEqProofs -dsimp +contextual (maxSteps := 5000000) (disch := first | omega | (simp only [go_sem] <;> omega) | (show indepB _ _ = true; refine id ?_; kernel_rfl)) only [go_sem, ↓reduceIte, Nat.reduceEqDiff, Nat.reduceBEq, Nat.reduceAdd, Nat.reduceSub, Nat.reduceLeDiff, Nat.reduceLT, Nat.reduceMul, Int.reduceNeg, Int.reduceLT, Int.reduceLE, Int.reduceAdd, Int.reduceSub, Int.reduceToNat, Int.reduceMul, Int.reduceMod, Int.reduceTMod, Int.reduceTDiv, Int.reduceEq, Nat.reducePow, Nat.reduceDiv, Nat.reduceShiftRight, Nat.reduceMod, List.reduceReplicate]
  refine (kLoop_rec (fun i f H => f 0 = .slice 4 (l.map It.cs) ∧ f 1 = .int .u64 (a : Int) ∧ f 2 = .int .u64 (b : Int) ∧ f 8 = .int .i64 (i : Nat) ∧ (((l.take i).filter (inR a b) = [] ∧ f 7 = .sc (.slice none 0 0)) ∨ ∃ g, f 7 = .osl 130 g 0 ((l.take i).filter (inR a b)).length ∧ H 130 = ⟨g, .live, 4, ((l.take i).filter (inR a b)).map It.cs, false⟩) ∧ i ≤ l.length) (fun i => l.length - i) (fun i => some (.slice 4 ((l.filter (inR a b)).map It.cs), [])) ?_ 0 _ _ ⟨rfl, rfl, rfl, rfl, .inl ⟨rfl, rfl⟩, by omega⟩).trans rfl
  rintro i f H ⟨h0, h1, h2, h8, h7, hi⟩ ih
  by_cases hl : i < l.length
  · have hs := filter_take (inR a b) l i hl
    have hki := hk l[i] (List.getElem_mem _)
    have hid := idB_lt (keyS ++ l[i].k)
    have hw : withinR a (idB (keyS ++ l[i].k)) b = inR a b l[i] := rfl
    have hn : ((l.take i).filter (inR a b)).length ≤ l.length := Nat.le_trans (List.length_filter_le ..) (by simp; omega)
    generalize (l.take i).filter (inR a b) = s at *
    rcases h7 with ⟨rfl, h7⟩ | ⟨g, h7, hH⟩
    · simp -implicitDefEqProofs -dsimp +contextual (maxSteps := 5000000) (disch := first | omega | (simp only [go_sem] <;> omega) | (show indepB _ _ = true; refine id ?_; kernel_rfl)) only [go_sem, ↓reduceIte, Nat.reduceEqDiff, Nat.reduceBEq, Nat.reduceAdd, Nat.reduceSub, Nat.reduceLeDiff, Nat.reduceLT, Nat.reduceMul, Int.reduceNeg, Int.reduceLT, Int.reduceLE, Int.reduceAdd, Int.reduceSub, Int.reduceToNat, Int.reduceMul, Int.reduceMod, Int.reduceTMod, Int.reduceTDiv, Int.reduceEq, Nat.reducePow, Nat.reduceDiv, Nat.reduceShiftRight, Nat.reduceMod, List.reduceReplicate, h0, h1, h2, h7, h8, hl, hw]
      (repeat' (refine kD_intro (fun _ => ?_) (fun _ => ?_)))
      · rename_i hin; exact ih (i + 1) _ _ (by rw [hs, if_pos hin]; exact ⟨h0, h1, h2, rfl, .inr ⟨_, rfl, rfl⟩, by omega⟩) (by omega)
      · rename_i hin; exact ih (i + 1) _ _ (by rw [hs, if_neg hin]; exact ⟨h0, h1, h2, rfl, .inl ⟨rfl, h7⟩, by omega⟩) (by omega)
    · simp -implicitDefEqProofs -dsimp +contextual (maxSteps := 5000000) (disch := first | omega | (simp only [go_sem] <;> omega) | (show indepB _ _ = true; refine id ?_; kernel_rfl)) only [go_sem, ↓reduceIte, Nat.reduceEqDiff, Nat.reduceBEq, Nat.reduceAdd, Nat.reduceSub, Nat.reduceLeDiff, Nat.reduceLT, Nat.reduceMul, Int.reduceNeg, Int.reduceLT, Int.reduceLE, Int.reduceAdd, Int.reduceSub, Int.reduceToNat, Int.reduceMul, Int.reduceMod, Int.reduceTMod, Int.reduceTDiv, Int.reduceEq, Nat.reducePow, Nat.reduceDiv, Nat.reduceShiftRight, Nat.reduceMod, List.reduceReplicate, h0, h1, h2, h7, h8, hl, hH, hw]
      (repeat' (refine kD_intro (fun _ => ?_) (fun _ => ?_)))
      · rename_i hin; exact ih (i + 1) _ _ (by rw [hs, if_pos hin]; exact ⟨h0, h1, h2, rfl, .inr ⟨_, by rw [List.length_append]; rfl, by rw [List.map_append]; rfl⟩, by omega⟩) (by omega)
      · rename_i hin; exact ih (i + 1) _ _ (by rw [hs, if_neg hin, List.append_nil]; exact ⟨h0, h1, h2, rfl, .inr ⟨g, h7, by simp [Heap.set, hH]⟩, by omega⟩) (by omega)
  · obtain rfl : i = l.length := by omega
    rw [List.take_length] at h7
    rcases h7 with ⟨he, h7⟩ | ⟨g, h7, hH⟩
    · rw [he]
      simp -implicitDefEqProofs -dsimp +contextual (maxSteps := 5000000) (disch := first | omega | (simp only [go_sem] <;> omega) | (show indepB _ _ = true; refine id ?_; kernel_rfl)) only [go_sem, ↓reduceIte, Nat.reduceEqDiff, Nat.reduceBEq, Nat.reduceAdd, Nat.reduceSub, Nat.reduceLeDiff, Nat.reduceLT, Nat.reduceMul, Int.reduceNeg, Int.reduceLT, Int.reduceLE, Int.reduceAdd, Int.reduceSub, Int.reduceToNat, Int.reduceMul, Int.reduceMod, Int.reduceTMod, Int.reduceTDiv, Int.reduceEq, Nat.reducePow, Nat.reduceDiv, Nat.reduceShiftRight, Nat.reduceMod, List.reduceReplicate, h0, h1, h2, h7, h8, hl]
    · simp -implicitDefEqProofs -dsimp +contextual (maxSteps := 5000000) (disch := first | omega | (simp only [go_sem] <;> omega) | (show indepB _ _ = true; refine id ?_; kernel_rfl)) only [go_sem, ↓reduceIte, Nat.reduceEqDiff, Nat.reduceBEq, Nat.reduceAdd, Nat.reduceSub, Nat.reduceLeDiff, Nat.reduceLT, Nat.reduceMul, Int.reduceNeg, Int.reduceLT, Int.reduceLE, Int.reduceAdd, Int.reduceSub, Int.reduceToNat, Int.reduceMul, Int.reduceMod, Int.reduceTMod, Int.reduceTDiv, Int.reduceEq, Nat.reducePow, Nat.reduceDiv, Nat.reduceShiftRight, Nat.reduceMod, List.reduceReplicate, h0, h1, h2, h7, h8, hl, hH]

@[go_sem] theorem great_k (l : List It) (h : greatR l = false) : l.length ≤ 60 ∧ ∀ x ∈ l, x.k.length ≤ 300 ∧ x.v.length ≤ 300 := by
  simp only [greatR, Bool.or_eq_false_iff, decide_eq_false_iff_not, List.any_eq_false, Bool.or_eq_true, decide_eq_true_eq] at h
  exact ⟨by omega, fun x hx => by have := h.2 x hx; omega⟩
set_option maxHeartbeats 4000000 in
theorem e3 (l m : List It) (a b : Nat) (ha : a ≤ 18446744073709551615) (hb : b ≤ 18446744073709551615) (hl : l.length ≤ 9223372036854775807) (hk : ∀ x ∈ l, x.k.length ≤ 9223372036854775807 ∧ x.v.length ≤ 9223372036854775807) (hm : m.length ≤ 9223372036854775807) (hkm : ∀ x ∈ m, x.k.length ≤ 9223372036854775807 ∧ x.v.length ≤ 9223372036854775807) : fn C 3 [] [.slice 4 (l.map It.cs), .slice 4 (m.map It.cs), .int .u64 (a : Int), .int .u64 (b : Int)] = some (.bool true, []) := by
  rw [fn_text Tryd.func3 rfl rfl Tryd.results3 locM3 rfl rfl (by kernel_rfl)]
  rcases Bool.eq_false_or_eq_true (greatR l) with g | g
  · simp -implicitDefEqProofs -dsimp +contextual (maxSteps := 5000000) (disch := first | omega | (simp only [go_sem] <;> omega) | (show indepB _ _ = true; refine id ?_; kernel_rfl)) only [go_sem, ↓reduceIte, Nat.reduceEqDiff, Nat.reduceBEq, Nat.reduceAdd, Nat.reduceSub, Nat.reduceLeDiff, Nat.reduceLT, Nat.reduceMul, Int.reduceNeg, Int.reduceLT, Int.reduceLE, Int.reduceAdd, Int.reduceSub, Int.reduceToNat, Int.reduceMul, Int.reduceMod, Int.reduceTMod, Int.reduceTDiv, Int.reduceEq, Nat.reducePow, Nat.reduceDiv, Nat.reduceShiftRight, Nat.reduceMod, List.reduceReplicate, g]
  · obtain ⟨g1, g2⟩ := great_k l g
    have g5 : ∀ x ∈ l, x.k.length ≤ 10000 := fun x hx => by have := g2 x hx; omega
    rcases Bool.eq_false_or_eq_true (greatR m) with g' | g'
    · simp -implicitDefEqProofs -dsimp +contextual (maxSteps := 5000000) (disch := first | omega | (simp only [go_sem] <;> omega) | (show indepB _ _ = true; refine id ?_; kernel_rfl)) only [go_sem, ↓reduceIte, Nat.reduceEqDiff, Nat.reduceBEq, Nat.reduceAdd, Nat.reduceSub, Nat.reduceLeDiff, Nat.reduceLT, Nat.reduceMul, Int.reduceNeg, Int.reduceLT, Int.reduceLE, Int.reduceAdd, Int.reduceSub, Int.reduceToNat, Int.reduceMul, Int.reduceMod, Int.reduceTMod, Int.reduceTDiv, Int.reduceEq, Nat.reducePow, Nat.reduceDiv, Nat.reduceShiftRight, Nat.reduceMod, List.reduceReplicate, g, g']
    · obtain ⟨g3, g4⟩ := great_k m g'
      have g6 := mergeR_len l m
      have g7 : ((l.filter (inR a b)).length ≤ l.length) := List.length_filter_le ..
      have m1 := e11 l m (by omega) (by omega) (fun x hx => (hkm x hx).1)
      have m2 := e12 l m (by omega) (by omega) (fun x hx => (hk x hx).1) (fun x hx => (hkm x hx).1)
      simp -implicitDefEqProofs -dsimp +contextual (maxSteps := 5000000) (disch := first | omega | (simp only [go_sem] <;> omega) | (show indepB _ _ = true; refine id ?_; kernel_rfl)) only [go_sem, ↓reduceIte, Nat.reduceEqDiff, Nat.reduceBEq, Nat.reduceAdd, Nat.reduceSub, Nat.reduceLeDiff, Nat.reduceLT, Nat.reduceMul, Int.reduceNeg, Int.reduceLT, Int.reduceLE, Int.reduceAdd, Int.reduceSub, Int.reduceToNat, Int.reduceMul, Int.reduceMod, Int.reduceTMod, Int.reduceTDiv, Int.reduceEq, Nat.reducePow, Nat.reduceDiv, Nat.reduceShiftRight, Nat.reduceMod, List.reduceReplicate, g, g', m1, m2]

end Go.Proofs.YtccfjidpdlfenaaDoor
