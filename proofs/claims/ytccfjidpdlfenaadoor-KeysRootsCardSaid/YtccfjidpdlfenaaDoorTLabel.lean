import Derived.Test.YtccfjidpdlfenaaDoorTLabel7
namespace Go.Proofs.YtccfjidpdlfenaaDoor
open Go.Am
set_option linter.unusedSimpArgs false
set_option linter.unusedVariables false
set_option maxRecDepth 100000
def okB (b : UInt8) : Bool := decide (32 < b.toNat) && decide (b.toNat < 127)
def keyR (l : List UInt8) : Bool := decide (1 ≤ l.length) && decide (l.length ≤ 24) && l.all okB

@[go_sem] theorem e82 (l : List UInt8) : fn C 82 [] [.str l] = some (.bool (decide (l.length ≤ 32)), []) := by
  rw [fn_text Tryd.func82 rfl rfl Tryd.results82 locM82 rfl rfl (by kernel_rfl)]
  simp -implicitDefEqProofs -dsimp +contextual (maxSteps := 5000000) (disch := first | omega | (simp only [go_sem] <;> omega) | (show indepB _ _ = true; refine id ?_; kernel_rfl)) only [go_sem, ↓reduceIte, Nat.reduceEqDiff, Nat.reduceBEq, Nat.reduceAdd, Nat.reduceSub, Nat.reduceLeDiff, Nat.reduceLT, Nat.reduceMul, Int.reduceNeg, Int.reduceLT, Int.reduceLE, Int.reduceAdd, Int.reduceSub, Int.reduceToNat, Int.reduceMul, Int.reduceMod, Int.reduceTMod, Int.reduceTDiv, Int.reduceEq, Nat.reducePow, Nat.reduceDiv, Nat.reduceShiftRight, Nat.reduceMod, List.reduceReplicate] <;>
  exact Res_bool (by simp; omega)

@[go_sem] theorem e87 (l : List UInt8) : fn C 87 [] [.str l] = some (.bool (keyR l), []) := by
  rw [fn_text Tryd.func87 rfl rfl Tryd.results87 locM87 rfl rfl (by kernel_rfl)]
  simp -implicitDefEqProofs -dsimp +contextual (maxSteps := 5000000) (disch := first | omega | (simp only [go_sem] <;> omega) | (show indepB _ _ = true; refine id ?_; kernel_rfl)) only [go_sem, ↓reduceIte, Nat.reduceEqDiff, Nat.reduceBEq, Nat.reduceAdd, Nat.reduceSub, Nat.reduceLeDiff, Nat.reduceLT, Nat.reduceMul, Int.reduceNeg, Int.reduceLT, Int.reduceLE, Int.reduceAdd, Int.reduceSub, Int.reduceToNat, Int.reduceMul, Int.reduceMod, Int.reduceTMod, Int.reduceTDiv, Int.reduceEq, Nat.reducePow, Nat.reduceDiv, Nat.reduceShiftRight, Nat.reduceMod, List.reduceReplicate]
  (repeat' (refine kD_intro (fun _ => ?_) (fun _ => ?_)))
  · exact Res_bool (by simp [keyR]; omega)
  · exact Res_bool (by simp [keyR]; omega)
  refine (kLoop_rec (fun i f H => f 0 = .str l ∧ f 3 = .int .i64 (i : Nat) ∧ H = Heap.nil ∧ i ≤ l.length) (fun i => l.length - i) (fun i => some (.bool ((l.drop i).all okB), [])) ?_ 0 _ _ ⟨rfl, rfl, rfl, by omega⟩).trans ?_
  · rintro i f _ ⟨h0, h3, rfl, hi⟩ ih
    by_cases hl : i < l.length
    · rw [List.drop_eq_getElem_cons hl]
      simp -implicitDefEqProofs -dsimp +contextual (maxSteps := 5000000) (disch := first | omega | (simp only [go_sem] <;> omega) | (show indepB _ _ = true; refine id ?_; kernel_rfl)) only [go_sem, ↓reduceIte, Nat.reduceEqDiff, Nat.reduceBEq, Nat.reduceAdd, Nat.reduceSub, Nat.reduceLeDiff, Nat.reduceLT, Nat.reduceMul, Int.reduceNeg, Int.reduceLT, Int.reduceLE, Int.reduceAdd, Int.reduceSub, Int.reduceToNat, Int.reduceMul, Int.reduceMod, Int.reduceTMod, Int.reduceTDiv, Int.reduceEq, Nat.reducePow, Nat.reduceDiv, Nat.reduceShiftRight, Nat.reduceMod, List.reduceReplicate, h0, h3, hl]
      (repeat' (refine kD_intro (fun _ => ?_) (fun _ => ?_)))
      · exact Res_bool (by simp [okB] <;> omega)
      · exact Res_bool (by simp [okB] <;> omega)
      · have hb : okB l[i] = true := by simp [okB] <;> omega
        exact (ih (i + 1) _ _ (by exact ⟨h0, rfl, rfl, by omega⟩) (by omega)).trans (by simp [hb])
    · simp -implicitDefEqProofs -dsimp +contextual (maxSteps := 5000000) (disch := first | omega | (simp only [go_sem] <;> omega) | (show indepB _ _ = true; refine id ?_; kernel_rfl)) only [go_sem, ↓reduceIte, Nat.reduceEqDiff, Nat.reduceBEq, Nat.reduceAdd, Nat.reduceSub, Nat.reduceLeDiff, Nat.reduceLT, Nat.reduceMul, Int.reduceNeg, Int.reduceLT, Int.reduceLE, Int.reduceAdd, Int.reduceSub, Int.reduceToNat, Int.reduceMul, Int.reduceMod, Int.reduceTMod, Int.reduceTDiv, Int.reduceEq, Nat.reducePow, Nat.reduceDiv, Nat.reduceShiftRight, Nat.reduceMod, List.reduceReplicate, h0, h3, hl] <;>
      exact Res_bool (by simp [show i = l.length by omega])
  · exact Res_bool (by simp [keyR]; omega)

@[go_sem] theorem e81 (l : List UInt8) (hl : l.length ≤ 9223372036854775807) : fn C 81 [] [.str l] = some (.bool (keyR l), []) := by
  rw [fn_text Tryd.func81 rfl rfl Tryd.results81 locM81 rfl rfl (by kernel_rfl)]
  simp -implicitDefEqProofs -dsimp +contextual (maxSteps := 5000000) (disch := first | omega | (simp only [go_sem] <;> omega) | (show indepB _ _ = true; refine id ?_; kernel_rfl)) only [go_sem, ↓reduceIte, Nat.reduceEqDiff, Nat.reduceBEq, Nat.reduceAdd, Nat.reduceSub, Nat.reduceLeDiff, Nat.reduceLT, Nat.reduceMul, Int.reduceNeg, Int.reduceLT, Int.reduceLE, Int.reduceAdd, Int.reduceSub, Int.reduceToNat, Int.reduceMul, Int.reduceMod, Int.reduceTMod, Int.reduceTDiv, Int.reduceEq, Nat.reducePow, Nat.reduceDiv, Nat.reduceShiftRight, Nat.reduceMod, List.reduceReplicate]
  refine (kLoop_rec (fun i f H => f 0 = .str l ∧ f 5 = .int .i64 l.length ∧ f 6 = .int .i64 (i : Nat) ∧ H = Heap.nil ∧ i ≤ l.length) (fun i => l.length - i) (fun i => some (.bool (decide (1 ≤ l.length) && decide (l.length ≤ 24) && (l.drop i).all okB), [])) ?_ 0 _ _ ⟨rfl, rfl, rfl, rfl, by omega⟩).trans rfl
  rintro i f _ ⟨h0, h5, h6, rfl, hi⟩ ih
  by_cases hl : i < l.length
  · rw [List.drop_eq_getElem_cons hl]
    simp -implicitDefEqProofs -dsimp +contextual (maxSteps := 5000000) (disch := first | omega | (simp only [go_sem] <;> omega) | (show indepB _ _ = true; refine id ?_; kernel_rfl)) only [go_sem, ↓reduceIte, Nat.reduceEqDiff, Nat.reduceBEq, Nat.reduceAdd, Nat.reduceSub, Nat.reduceLeDiff, Nat.reduceLT, Nat.reduceMul, Int.reduceNeg, Int.reduceLT, Int.reduceLE, Int.reduceAdd, Int.reduceSub, Int.reduceToNat, Int.reduceMul, Int.reduceMod, Int.reduceTMod, Int.reduceTDiv, Int.reduceEq, Nat.reducePow, Nat.reduceDiv, Nat.reduceShiftRight, Nat.reduceMod, List.reduceReplicate, h0, h5, h6, hl]
    (repeat' (refine kD_intro (fun _ => ?_) (fun _ => ?_)))
    · exact Res_bool (by simp [okB] <;> omega)
    · exact Res_bool (by simp [okB] <;> omega)
    · have hb : okB l[i] = true := by simp [okB] <;> omega
      exact (ih (i + 1) _ _ (by exact ⟨h0, h5, rfl, rfl, by omega⟩) (by omega)).trans (by simp [hb])
  · simp -implicitDefEqProofs -dsimp +contextual (maxSteps := 5000000) (disch := first | omega | (simp only [go_sem] <;> omega) | (show indepB _ _ = true; refine id ?_; kernel_rfl)) only [go_sem, ↓reduceIte, Nat.reduceEqDiff, Nat.reduceBEq, Nat.reduceAdd, Nat.reduceSub, Nat.reduceLeDiff, Nat.reduceLT, Nat.reduceMul, Int.reduceNeg, Int.reduceLT, Int.reduceLE, Int.reduceAdd, Int.reduceSub, Int.reduceToNat, Int.reduceMul, Int.reduceMod, Int.reduceTMod, Int.reduceTDiv, Int.reduceEq, Nat.reducePow, Nat.reduceDiv, Nat.reduceShiftRight, Nat.reduceMod, List.reduceReplicate, h0, h5, h6, hl]
    obtain rfl : i = l.length := by omega
    cases l with
    | nil => simp -implicitDefEqProofs -dsimp +contextual (maxSteps := 5000000) (disch := first | omega | (simp only [go_sem] <;> omega) | (show indepB _ _ = true; refine id ?_; kernel_rfl)) only [go_sem, ↓reduceIte, Nat.reduceEqDiff, Nat.reduceBEq, Nat.reduceAdd, Nat.reduceSub, Nat.reduceLeDiff, Nat.reduceLT, Nat.reduceMul, Int.reduceNeg, Int.reduceLT, Int.reduceLE, Int.reduceAdd, Int.reduceSub, Int.reduceToNat, Int.reduceMul, Int.reduceMod, Int.reduceTMod, Int.reduceTDiv, Int.reduceEq, Nat.reducePow, Nat.reduceDiv, Nat.reduceShiftRight, Nat.reduceMod, List.reduceReplicate]
    | cons b l => simp -implicitDefEqProofs -dsimp +contextual (maxSteps := 5000000) (disch := first | omega | (simp only [go_sem] <;> omega) | (show indepB _ _ = true; refine id ?_; kernel_rfl)) only [go_sem, ↓reduceIte, Nat.reduceEqDiff, Nat.reduceBEq, Nat.reduceAdd, Nat.reduceSub, Nat.reduceLeDiff, Nat.reduceLT, Nat.reduceMul, Int.reduceNeg, Int.reduceLT, Int.reduceLE, Int.reduceAdd, Int.reduceSub, Int.reduceToNat, Int.reduceMul, Int.reduceMod, Int.reduceTMod, Int.reduceTDiv, Int.reduceEq, Nat.reducePow, Nat.reduceDiv, Nat.reduceShiftRight, Nat.reduceMod, List.reduceReplicate] <;> exact Res_bool (by simp <;> omega)

end Go.Proofs.YtccfjidpdlfenaaDoor
