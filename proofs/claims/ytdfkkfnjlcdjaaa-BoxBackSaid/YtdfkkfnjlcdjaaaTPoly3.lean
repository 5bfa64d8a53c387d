import Derived.Test.YtdfkkfnjlcdjaaaTPoly2
namespace Go.Proofs.Ytdfkkfnjlcdjaaa
open Go.Am
set_option linter.unusedSimpArgs false
set_option linter.unusedVariables false
set_option maxRecDepth 100000
/-! Layer 7: read. -/
set_option maxHeartbeats 8000000 in
@[go_sem] theorem e35 (b : List UInt8) (hb : b.length ≤ 17) : fn C 35 [] [.slice 1 (b.map byteRow)] = some (.agg (readN (leV b)).cs, []) := by
  rw [fn_text Try.func35 rfl rfl Try.results35 locM35 rfl rfl (by kernel_rfl)]
  simp -implicitDefEqProofs -dsimp +contextual (maxSteps := 5000000) (disch := first | omega | (simp only [go_sem] <;> omega) | (show indepB _ _ = true; refine id ?_; kernel_rfl)) only [go_sem, ↓reduceIte, Nat.reduceEqDiff, Nat.reduceBEq, Nat.reduceAdd, Nat.reduceSub, Nat.reduceLeDiff, Nat.reduceLT, Nat.reduceMul, Int.reduceNeg, Int.reduceLT, Int.reduceLE, Int.reduceAdd, Int.reduceSub, Int.reduceToNat, Int.reduceMul, Int.reduceMod, Int.reduceTMod, Int.reduceTDiv, Int.reduceEq, Nat.reducePow, Nat.reduceDiv, Nat.reduceShiftRight, Nat.reduceMod, List.reduceReplicate]
  refine kLoop_rec (fun (i : Nat) f H => f 2 = .ptr 102 1 0 0 ∧ f 3 = .ptr 103 1 0 0 ∧ f 9 = .slice 1 (b.map byteRow) ∧ f 10 = .int .i64 b.length ∧ f 11 = .int .i64 (i : Int) ∧ H 102 = ⟨1, .live, 5, [(readN 0).cs], false⟩ ∧ H 103 = ⟨1, .live, 5, [(readN (leV (b.take i))).cs], false⟩ ∧ i ≤ b.length) (fun i => b.length - i) (fun _ => some (.agg (readN (leV b)).cs, [])) ?_ 0 _ _ ?_
  rotate_left
  · exact ⟨rfl, rfl, rfl, rfl, rfl, rfl, by rw [List.take_zero, leV]; rfl, by omega⟩
  rintro i f H ⟨f2, f3, f9, f10, f11, H102, H103, hi⟩ ih
  by_cases hl : i < b.length
  · have hv := leV_lt (b.take i)
    have hs : leV (b.take (i + 1)) = leV (b.take i) + b[i].toNat * 256 ^ i := by
      rw [List.take_succ_eq_append_getElem hl, leV_app, List.length_take, Nat.min_eq_left hi]; simp only [leV, Nat.mul_zero, Nat.add_zero]; rw [Nat.mul_comm (256 ^ i)]
    rw [List.length_take, Nat.min_eq_left hi] at hv
    have hc := u8_lt b[i]
    have fin := fun f' H' a => ih (i + 1) f' H' a (by omega)
    clear ih
    generalize leV (b.take i) = v at *
    simp only [readN] at H103
    have hb8 := UInt8.toNat_toUInt64 b[i]
    have hi17 : i < 17 := by omega
    match i, hi17 with
    | 0, _ =>
      obtain ⟨q0, q1, q2, q3, q4⟩ := rd0 v b[0].toNat hv hc
      simp -implicitDefEqProofs -dsimp +contextual (maxSteps := 5000000) (disch := first | omega | (simp only [go_sem] <;> omega) | (show indepB _ _ = true; refine id ?_; kernel_rfl)) only [go_sem, ↓reduceIte, Nat.reduceEqDiff, Nat.reduceBEq, Nat.reduceAdd, Nat.reduceSub, Nat.reduceLeDiff, Nat.reduceLT, Nat.reduceMul, Int.reduceNeg, Int.reduceLT, Int.reduceLE, Int.reduceAdd, Int.reduceSub, Int.reduceToNat, Int.reduceMul, Int.reduceMod, Int.reduceTMod, Int.reduceTDiv, Int.reduceEq, Nat.reducePow, Nat.reduceDiv, Nat.reduceShiftRight, Nat.reduceMod, List.reduceReplicate, f2, f3, f9, f10, f11, H102, H103, hl, hb8]
      rw [q0, q1, q2, q3, q4]
      exact fin _ _ ⟨f2, f3, f9, f10, rfl, H102, by rw [hs]; simp only [Nat.reducePow, Nat.mul_one]; rfl, hl⟩
    | 1, _ =>
      obtain ⟨q0, q1, q2, q3, q4⟩ := rd1 v b[1].toNat hv hc
      simp -implicitDefEqProofs -dsimp +contextual (maxSteps := 5000000) (disch := first | omega | (simp only [go_sem] <;> omega) | (show indepB _ _ = true; refine id ?_; kernel_rfl)) only [go_sem, ↓reduceIte, Nat.reduceEqDiff, Nat.reduceBEq, Nat.reduceAdd, Nat.reduceSub, Nat.reduceLeDiff, Nat.reduceLT, Nat.reduceMul, Int.reduceNeg, Int.reduceLT, Int.reduceLE, Int.reduceAdd, Int.reduceSub, Int.reduceToNat, Int.reduceMul, Int.reduceMod, Int.reduceTMod, Int.reduceTDiv, Int.reduceEq, Nat.reducePow, Nat.reduceDiv, Nat.reduceShiftRight, Nat.reduceMod, List.reduceReplicate, f2, f3, f9, f10, f11, H102, H103, hl, hb8]
      rw [q0, q1, q2, q3, q4]
      exact fin _ _ ⟨f2, f3, f9, f10, rfl, H102, by rw [hs]; simp only [Nat.reducePow, Nat.mul_one]; rfl, hl⟩
    | 2, _ =>
      obtain ⟨q0, q1, q2, q3, q4⟩ := rd2 v b[2].toNat hv hc
      simp -implicitDefEqProofs -dsimp +contextual (maxSteps := 5000000) (disch := first | omega | (simp only [go_sem] <;> omega) | (show indepB _ _ = true; refine id ?_; kernel_rfl)) only [go_sem, ↓reduceIte, Nat.reduceEqDiff, Nat.reduceBEq, Nat.reduceAdd, Nat.reduceSub, Nat.reduceLeDiff, Nat.reduceLT, Nat.reduceMul, Int.reduceNeg, Int.reduceLT, Int.reduceLE, Int.reduceAdd, Int.reduceSub, Int.reduceToNat, Int.reduceMul, Int.reduceMod, Int.reduceTMod, Int.reduceTDiv, Int.reduceEq, Nat.reducePow, Nat.reduceDiv, Nat.reduceShiftRight, Nat.reduceMod, List.reduceReplicate, f2, f3, f9, f10, f11, H102, H103, hl, hb8]
      rw [q0, q1, q2, q3, q4]
      exact fin _ _ ⟨f2, f3, f9, f10, rfl, H102, by rw [hs]; simp only [Nat.reducePow, Nat.mul_one]; rfl, hl⟩
    | 3, _ =>
      obtain ⟨q0, q1, q2, q3, q4⟩ := rd3 v b[3].toNat hv hc
      simp -implicitDefEqProofs -dsimp +contextual (maxSteps := 5000000) (disch := first | omega | (simp only [go_sem] <;> omega) | (show indepB _ _ = true; refine id ?_; kernel_rfl)) only [go_sem, ↓reduceIte, Nat.reduceEqDiff, Nat.reduceBEq, Nat.reduceAdd, Nat.reduceSub, Nat.reduceLeDiff, Nat.reduceLT, Nat.reduceMul, Int.reduceNeg, Int.reduceLT, Int.reduceLE, Int.reduceAdd, Int.reduceSub, Int.reduceToNat, Int.reduceMul, Int.reduceMod, Int.reduceTMod, Int.reduceTDiv, Int.reduceEq, Nat.reducePow, Nat.reduceDiv, Nat.reduceShiftRight, Nat.reduceMod, List.reduceReplicate, f2, f3, f9, f10, f11, H102, H103, hl, hb8]
      rw [q0, q1, q2, q3, q4]
      exact fin _ _ ⟨f2, f3, f9, f10, rfl, H102, by rw [hs]; simp only [Nat.reducePow, Nat.mul_one]; rfl, hl⟩
    | 4, _ =>
      obtain ⟨q0, q1, q2, q3, q4⟩ := rd4 v b[4].toNat hv hc
      simp -implicitDefEqProofs -dsimp +contextual (maxSteps := 5000000) (disch := first | omega | (simp only [go_sem] <;> omega) | (show indepB _ _ = true; refine id ?_; kernel_rfl)) only [go_sem, ↓reduceIte, Nat.reduceEqDiff, Nat.reduceBEq, Nat.reduceAdd, Nat.reduceSub, Nat.reduceLeDiff, Nat.reduceLT, Nat.reduceMul, Int.reduceNeg, Int.reduceLT, Int.reduceLE, Int.reduceAdd, Int.reduceSub, Int.reduceToNat, Int.reduceMul, Int.reduceMod, Int.reduceTMod, Int.reduceTDiv, Int.reduceEq, Nat.reducePow, Nat.reduceDiv, Nat.reduceShiftRight, Nat.reduceMod, List.reduceReplicate, f2, f3, f9, f10, f11, H102, H103, hl, hb8]
      rw [q0, q1, q2, q3, q4]
      exact fin _ _ ⟨f2, f3, f9, f10, rfl, H102, by rw [hs]; simp only [Nat.reducePow, Nat.mul_one]; rfl, hl⟩
    | 5, _ =>
      obtain ⟨q0, q1, q2, q3, q4⟩ := rd5 v b[5].toNat hv hc
      simp -implicitDefEqProofs -dsimp +contextual (maxSteps := 5000000) (disch := first | omega | (simp only [go_sem] <;> omega) | (show indepB _ _ = true; refine id ?_; kernel_rfl)) only [go_sem, ↓reduceIte, Nat.reduceEqDiff, Nat.reduceBEq, Nat.reduceAdd, Nat.reduceSub, Nat.reduceLeDiff, Nat.reduceLT, Nat.reduceMul, Int.reduceNeg, Int.reduceLT, Int.reduceLE, Int.reduceAdd, Int.reduceSub, Int.reduceToNat, Int.reduceMul, Int.reduceMod, Int.reduceTMod, Int.reduceTDiv, Int.reduceEq, Nat.reducePow, Nat.reduceDiv, Nat.reduceShiftRight, Nat.reduceMod, List.reduceReplicate, f2, f3, f9, f10, f11, H102, H103, hl, hb8]
      rw [q0, q1, q2, q3, q4]
      exact fin _ _ ⟨f2, f3, f9, f10, rfl, H102, by rw [hs]; simp only [Nat.reducePow, Nat.mul_one]; rfl, hl⟩
    | 6, _ =>
      obtain ⟨q0, q1, q2, q3, q4⟩ := rd6 v b[6].toNat hv hc
      simp -implicitDefEqProofs -dsimp +contextual (maxSteps := 5000000) (disch := first | omega | (simp only [go_sem] <;> omega) | (show indepB _ _ = true; refine id ?_; kernel_rfl)) only [go_sem, ↓reduceIte, Nat.reduceEqDiff, Nat.reduceBEq, Nat.reduceAdd, Nat.reduceSub, Nat.reduceLeDiff, Nat.reduceLT, Nat.reduceMul, Int.reduceNeg, Int.reduceLT, Int.reduceLE, Int.reduceAdd, Int.reduceSub, Int.reduceToNat, Int.reduceMul, Int.reduceMod, Int.reduceTMod, Int.reduceTDiv, Int.reduceEq, Nat.reducePow, Nat.reduceDiv, Nat.reduceShiftRight, Nat.reduceMod, List.reduceReplicate, f2, f3, f9, f10, f11, H102, H103, hl, hb8]
      rw [q0, q1, q2, q3, q4]
      exact fin _ _ ⟨f2, f3, f9, f10, rfl, H102, by rw [hs]; simp only [Nat.reducePow, Nat.mul_one]; rfl, hl⟩
    | 7, _ =>
      obtain ⟨q0, q1, q2, q3, q4⟩ := rd7 v b[7].toNat hv hc
      simp -implicitDefEqProofs -dsimp +contextual (maxSteps := 5000000) (disch := first | omega | (simp only [go_sem] <;> omega) | (show indepB _ _ = true; refine id ?_; kernel_rfl)) only [go_sem, ↓reduceIte, Nat.reduceEqDiff, Nat.reduceBEq, Nat.reduceAdd, Nat.reduceSub, Nat.reduceLeDiff, Nat.reduceLT, Nat.reduceMul, Int.reduceNeg, Int.reduceLT, Int.reduceLE, Int.reduceAdd, Int.reduceSub, Int.reduceToNat, Int.reduceMul, Int.reduceMod, Int.reduceTMod, Int.reduceTDiv, Int.reduceEq, Nat.reducePow, Nat.reduceDiv, Nat.reduceShiftRight, Nat.reduceMod, List.reduceReplicate, f2, f3, f9, f10, f11, H102, H103, hl, hb8]
      rw [q0, q1, q2, q3, q4]
      exact fin _ _ ⟨f2, f3, f9, f10, rfl, H102, by rw [hs]; simp only [Nat.reducePow, Nat.mul_one]; rfl, hl⟩
    | 8, _ =>
      obtain ⟨q0, q1, q2, q3, q4⟩ := rd8 v b[8].toNat hv hc
      simp -implicitDefEqProofs -dsimp +contextual (maxSteps := 5000000) (disch := first | omega | (simp only [go_sem] <;> omega) | (show indepB _ _ = true; refine id ?_; kernel_rfl)) only [go_sem, ↓reduceIte, Nat.reduceEqDiff, Nat.reduceBEq, Nat.reduceAdd, Nat.reduceSub, Nat.reduceLeDiff, Nat.reduceLT, Nat.reduceMul, Int.reduceNeg, Int.reduceLT, Int.reduceLE, Int.reduceAdd, Int.reduceSub, Int.reduceToNat, Int.reduceMul, Int.reduceMod, Int.reduceTMod, Int.reduceTDiv, Int.reduceEq, Nat.reducePow, Nat.reduceDiv, Nat.reduceShiftRight, Nat.reduceMod, List.reduceReplicate, f2, f3, f9, f10, f11, H102, H103, hl, hb8]
      rw [q0, q1, q2, q3, q4]
      exact fin _ _ ⟨f2, f3, f9, f10, rfl, H102, by rw [hs]; simp only [Nat.reducePow, Nat.mul_one]; rfl, hl⟩
    | 9, _ =>
      obtain ⟨q0, q1, q2, q3, q4⟩ := rd9 v b[9].toNat hv hc
      simp -implicitDefEqProofs -dsimp +contextual (maxSteps := 5000000) (disch := first | omega | (simp only [go_sem] <;> omega) | (show indepB _ _ = true; refine id ?_; kernel_rfl)) only [go_sem, ↓reduceIte, Nat.reduceEqDiff, Nat.reduceBEq, Nat.reduceAdd, Nat.reduceSub, Nat.reduceLeDiff, Nat.reduceLT, Nat.reduceMul, Int.reduceNeg, Int.reduceLT, Int.reduceLE, Int.reduceAdd, Int.reduceSub, Int.reduceToNat, Int.reduceMul, Int.reduceMod, Int.reduceTMod, Int.reduceTDiv, Int.reduceEq, Nat.reducePow, Nat.reduceDiv, Nat.reduceShiftRight, Nat.reduceMod, List.reduceReplicate, f2, f3, f9, f10, f11, H102, H103, hl, hb8]
      rw [q0, q1, q2, q3, q4]
      exact fin _ _ ⟨f2, f3, f9, f10, rfl, H102, by rw [hs]; simp only [Nat.reducePow, Nat.mul_one]; rfl, hl⟩
    | 10, _ =>
      obtain ⟨q0, q1, q2, q3, q4⟩ := rd10 v b[10].toNat hv hc
      simp -implicitDefEqProofs -dsimp +contextual (maxSteps := 5000000) (disch := first | omega | (simp only [go_sem] <;> omega) | (show indepB _ _ = true; refine id ?_; kernel_rfl)) only [go_sem, ↓reduceIte, Nat.reduceEqDiff, Nat.reduceBEq, Nat.reduceAdd, Nat.reduceSub, Nat.reduceLeDiff, Nat.reduceLT, Nat.reduceMul, Int.reduceNeg, Int.reduceLT, Int.reduceLE, Int.reduceAdd, Int.reduceSub, Int.reduceToNat, Int.reduceMul, Int.reduceMod, Int.reduceTMod, Int.reduceTDiv, Int.reduceEq, Nat.reducePow, Nat.reduceDiv, Nat.reduceShiftRight, Nat.reduceMod, List.reduceReplicate, f2, f3, f9, f10, f11, H102, H103, hl, hb8]
      rw [q0, q1, q2, q3, q4]
      exact fin _ _ ⟨f2, f3, f9, f10, rfl, H102, by rw [hs]; simp only [Nat.reducePow, Nat.mul_one]; rfl, hl⟩
    | 11, _ =>
      obtain ⟨q0, q1, q2, q3, q4⟩ := rd11 v b[11].toNat hv hc
      simp -implicitDefEqProofs -dsimp +contextual (maxSteps := 5000000) (disch := first | omega | (simp only [go_sem] <;> omega) | (show indepB _ _ = true; refine id ?_; kernel_rfl)) only [go_sem, ↓reduceIte, Nat.reduceEqDiff, Nat.reduceBEq, Nat.reduceAdd, Nat.reduceSub, Nat.reduceLeDiff, Nat.reduceLT, Nat.reduceMul, Int.reduceNeg, Int.reduceLT, Int.reduceLE, Int.reduceAdd, Int.reduceSub, Int.reduceToNat, Int.reduceMul, Int.reduceMod, Int.reduceTMod, Int.reduceTDiv, Int.reduceEq, Nat.reducePow, Nat.reduceDiv, Nat.reduceShiftRight, Nat.reduceMod, List.reduceReplicate, f2, f3, f9, f10, f11, H102, H103, hl, hb8]
      rw [q0, q1, q2, q3, q4]
      exact fin _ _ ⟨f2, f3, f9, f10, rfl, H102, by rw [hs]; simp only [Nat.reducePow, Nat.mul_one]; rfl, hl⟩
    | 12, _ =>
      obtain ⟨q0, q1, q2, q3, q4⟩ := rd12 v b[12].toNat hv hc
      simp -implicitDefEqProofs -dsimp +contextual (maxSteps := 5000000) (disch := first | omega | (simp only [go_sem] <;> omega) | (show indepB _ _ = true; refine id ?_; kernel_rfl)) only [go_sem, ↓reduceIte, Nat.reduceEqDiff, Nat.reduceBEq, Nat.reduceAdd, Nat.reduceSub, Nat.reduceLeDiff, Nat.reduceLT, Nat.reduceMul, Int.reduceNeg, Int.reduceLT, Int.reduceLE, Int.reduceAdd, Int.reduceSub, Int.reduceToNat, Int.reduceMul, Int.reduceMod, Int.reduceTMod, Int.reduceTDiv, Int.reduceEq, Nat.reducePow, Nat.reduceDiv, Nat.reduceShiftRight, Nat.reduceMod, List.reduceReplicate, f2, f3, f9, f10, f11, H102, H103, hl, hb8]
      rw [q0, q1, q2, q3, q4]
      exact fin _ _ ⟨f2, f3, f9, f10, rfl, H102, by rw [hs]; simp only [Nat.reducePow, Nat.mul_one]; rfl, hl⟩
    | 13, _ =>
      obtain ⟨q0, q1, q2, q3, q4⟩ := rd13 v b[13].toNat hv hc
      simp -implicitDefEqProofs -dsimp +contextual (maxSteps := 5000000) (disch := first | omega | (simp only [go_sem] <;> omega) | (show indepB _ _ = true; refine id ?_; kernel_rfl)) only [go_sem, ↓reduceIte, Nat.reduceEqDiff, Nat.reduceBEq, Nat.reduceAdd, Nat.reduceSub, Nat.reduceLeDiff, Nat.reduceLT, Nat.reduceMul, Int.reduceNeg, Int.reduceLT, Int.reduceLE, Int.reduceAdd, Int.reduceSub, Int.reduceToNat, Int.reduceMul, Int.reduceMod, Int.reduceTMod, Int.reduceTDiv, Int.reduceEq, Nat.reducePow, Nat.reduceDiv, Nat.reduceShiftRight, Nat.reduceMod, List.reduceReplicate, f2, f3, f9, f10, f11, H102, H103, hl, hb8]
      rw [q0, q1, q2, q3, q4]
      exact fin _ _ ⟨f2, f3, f9, f10, rfl, H102, by rw [hs]; simp only [Nat.reducePow, Nat.mul_one]; rfl, hl⟩
    | 14, _ =>
      obtain ⟨q0, q1, q2, q3, q4⟩ := rd14 v b[14].toNat hv hc
      simp -implicitDefEqProofs -dsimp +contextual (maxSteps := 5000000) (disch := first | omega | (simp only [go_sem] <;> omega) | (show indepB _ _ = true; refine id ?_; kernel_rfl)) only [go_sem, ↓reduceIte, Nat.reduceEqDiff, Nat.reduceBEq, Nat.reduceAdd, Nat.reduceSub, Nat.reduceLeDiff, Nat.reduceLT, Nat.reduceMul, Int.reduceNeg, Int.reduceLT, Int.reduceLE, Int.reduceAdd, Int.reduceSub, Int.reduceToNat, Int.reduceMul, Int.reduceMod, Int.reduceTMod, Int.reduceTDiv, Int.reduceEq, Nat.reducePow, Nat.reduceDiv, Nat.reduceShiftRight, Nat.reduceMod, List.reduceReplicate, f2, f3, f9, f10, f11, H102, H103, hl, hb8]
      rw [q0, q1, q2, q3, q4]
      exact fin _ _ ⟨f2, f3, f9, f10, rfl, H102, by rw [hs]; simp only [Nat.reducePow, Nat.mul_one]; rfl, hl⟩
    | 15, _ =>
      obtain ⟨q0, q1, q2, q3, q4⟩ := rd15 v b[15].toNat hv hc
      simp -implicitDefEqProofs -dsimp +contextual (maxSteps := 5000000) (disch := first | omega | (simp only [go_sem] <;> omega) | (show indepB _ _ = true; refine id ?_; kernel_rfl)) only [go_sem, ↓reduceIte, Nat.reduceEqDiff, Nat.reduceBEq, Nat.reduceAdd, Nat.reduceSub, Nat.reduceLeDiff, Nat.reduceLT, Nat.reduceMul, Int.reduceNeg, Int.reduceLT, Int.reduceLE, Int.reduceAdd, Int.reduceSub, Int.reduceToNat, Int.reduceMul, Int.reduceMod, Int.reduceTMod, Int.reduceTDiv, Int.reduceEq, Nat.reducePow, Nat.reduceDiv, Nat.reduceShiftRight, Nat.reduceMod, List.reduceReplicate, f2, f3, f9, f10, f11, H102, H103, hl, hb8]
      rw [q0, q1, q2, q3, q4]
      exact fin _ _ ⟨f2, f3, f9, f10, rfl, H102, by rw [hs]; simp only [Nat.reducePow, Nat.mul_one]; rfl, hl⟩
    | 16, _ =>
      obtain ⟨q0, q1, q2, q3, q4⟩ := rd16 v b[16].toNat hv hc
      simp -implicitDefEqProofs -dsimp +contextual (maxSteps := 5000000) (disch := first | omega | (simp only [go_sem] <;> omega) | (show indepB _ _ = true; refine id ?_; kernel_rfl)) only [go_sem, ↓reduceIte, Nat.reduceEqDiff, Nat.reduceBEq, Nat.reduceAdd, Nat.reduceSub, Nat.reduceLeDiff, Nat.reduceLT, Nat.reduceMul, Int.reduceNeg, Int.reduceLT, Int.reduceLE, Int.reduceAdd, Int.reduceSub, Int.reduceToNat, Int.reduceMul, Int.reduceMod, Int.reduceTMod, Int.reduceTDiv, Int.reduceEq, Nat.reducePow, Nat.reduceDiv, Nat.reduceShiftRight, Nat.reduceMod, List.reduceReplicate, f2, f3, f9, f10, f11, H102, H103, hl, hb8]
      rw [q0, q1, q2, q3, q4]
      exact fin _ _ ⟨f2, f3, f9, f10, rfl, H102, by rw [hs]; simp only [Nat.reducePow, Nat.mul_one]; rfl, hl⟩
    | n + 17, h => exact absurd h (by omega)
  · obtain rfl : i = b.length := by omega
    rw [List.take_length] at H103
    simp -implicitDefEqProofs -dsimp +contextual (maxSteps := 5000000) (disch := first | omega | (simp only [go_sem] <;> omega) | (show indepB _ _ = true; refine id ?_; kernel_rfl)) only [go_sem, ↓reduceIte, Nat.reduceEqDiff, Nat.reduceBEq, Nat.reduceAdd, Nat.reduceSub, Nat.reduceLeDiff, Nat.reduceLT, Nat.reduceMul, Int.reduceNeg, Int.reduceLT, Int.reduceLE, Int.reduceAdd, Int.reduceSub, Int.reduceToNat, Int.reduceMul, Int.reduceMod, Int.reduceTMod, Int.reduceTDiv, Int.reduceEq, Nat.reducePow, Nat.reduceDiv, Nat.reduceShiftRight, Nat.reduceMod, List.reduceReplicate, f2, f3, f9, f10, f11, H102, H103, hl]

end Go.Proofs.Ytdfkkfnjlcdjaaa
