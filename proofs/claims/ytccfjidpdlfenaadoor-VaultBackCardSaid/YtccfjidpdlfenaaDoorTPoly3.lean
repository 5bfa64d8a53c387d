import Derived.Test.YtccfjidpdlfenaaDoorTMac
namespace Go.Proofs.YtccfjidpdlfenaaDoor
open Go.Am
set_option linter.unusedSimpArgs false
set_option linter.unusedVariables false
set_option maxRecDepth 100000
/-! Layer 7: read. -/
set_option maxHeartbeats 8000000 in
@[go_sem] theorem e142 (b : List UInt8) (hb : b.length ≤ 17) : fn C 142 [] [.slice 1 (b.map byteRow)] = some (.agg (readN (leV b)).cs, []) := by
  rw [fn_text Tryd.func142 rfl rfl Tryd.results142 fq142.1 rfl rfl (by kernel_rfl)]
  simp -implicitDefEqProofs -dsimp +contextual (maxSteps := 5000000) (disch := first | omega | simp only [go_sem] <;> omega | refine ib ?_; kernel_rfl) only [go_sem, Nat.reduceBEq, Int.reduceNeg, Int.reduceLT, Int.reduceLE, Int.reduceAdd, Int.reduceSub, Int.reduceToNat, Int.reduceMul, Int.reduceMod, Int.reduceTMod, Int.reduceTDiv, Int.reduceEq, Nat.reducePow, Nat.reduceDiv, Nat.reduceShiftRight, Nat.reduceMod, List.reduceReplicate, ↓reduceIte, Nat.reduceEqDiff, Nat.reduceAdd, Nat.reduceSub, Nat.reduceLeDiff, Nat.reduceLT, Nat.reduceMul]
  refine kLoop_rec (fun (i : Nat) f H => f 2 = .ptr 102 1 0 0 ∧ f 3 = .ptr 103 1 0 0 ∧ f 9 = .slice 1 (b.map byteRow) ∧ f 10 = .int .i64 b.length ∧ f 11 = .int .i64 (i : Int) ∧ H 102 = ⟨1, .live, 5, [(readN 0).cs], false⟩ ∧ H 103 = ⟨1, .live, 5, [(readN (leV (b.take i))).cs], false⟩ ∧ i ≤ b.length) (fun i => b.length - i) (fun _ => some (.agg (readN (leV b)).cs, [])) ?_ 0 _ _ ?_
  rotate_left
  · exact ⟨rfl, rfl, rfl, rfl, rfl, rfl, by rw [List.take_zero, leV]; rfl, by omega⟩
  rintro i f H ⟨f2, f3, f9, f10, f11, H102, H103, hi⟩ ih
  by_cases hl : i < b.length
  · have hv := leV_lt (b.take i)
    have hs : leV (b.take (i + 1)) = leV (b.take i) + b[i].toNat * 256 ^ i := by
      rw [List.take_succ_eq_append_getElem hl, leV_app, List.length_take, Nat.min_eq_left hi]; simp only [leV, Nat.mul_zero, Nat.add_zero]; rw [Nat.mul_comm (256 ^ i)]
    rw [List.length_take, Nat.min_eq_left hi] at hv
    have hc := u8_lt b[i]
    have fin := fun f' H' a => ih (i + 1) f' H' a (by omega)
    clear ih
    generalize leV (b.take i) = v at *
    simp only [readN] at H103
    have hb8 := UInt8.toNat_toUInt64 b[i]
    have hi17 : i < 17 := by omega
    match i, hi17 with
    | 0, _ =>
      obtain ⟨q0, q1, q2, q3, q4⟩ := rd0 v b[0].toNat hv hc
      simp -implicitDefEqProofs -dsimp +contextual (maxSteps := 5000000) (disch := first | omega | simp only [go_sem] <;> omega | refine ib ?_; kernel_rfl) only [go_sem, Nat.reduceBEq, Int.reduceNeg, Int.reduceLT, Int.reduceLE, Int.reduceAdd, Int.reduceSub, Int.reduceToNat, Int.reduceMul, Int.reduceMod, Int.reduceTMod, Int.reduceTDiv, Int.reduceEq, Nat.reducePow, Nat.reduceDiv, Nat.reduceShiftRight, Nat.reduceMod, List.reduceReplicate, ↓reduceIte, Nat.reduceEqDiff, Nat.reduceAdd, Nat.reduceSub, Nat.reduceLeDiff, Nat.reduceLT, Nat.reduceMul, f2, f3, f9, f10, f11, H102, H103, hl, hb8]
      rw [q0, q1, q2, q3, q4]
      exact fin _ _ ⟨f2, f3, f9, f10, rfl, H102, by rw [hs]; simp only [Nat.reducePow, Nat.mul_one]; rfl, hl⟩
    | 1, _ =>
      obtain ⟨q0, q1, q2, q3, q4⟩ := rd1 v b[1].toNat hv hc
      simp -implicitDefEqProofs -dsimp +contextual (maxSteps := 5000000) (disch := first | omega | simp only [go_sem] <;> omega | refine ib ?_; kernel_rfl) only [go_sem, Nat.reduceBEq, Int.reduceNeg, Int.reduceLT, Int.reduceLE, Int.reduceAdd, Int.reduceSub, Int.reduceToNat, Int.reduceMul, Int.reduceMod, Int.reduceTMod, Int.reduceTDiv, Int.reduceEq, Nat.reducePow, Nat.reduceDiv, Nat.reduceShiftRight, Nat.reduceMod, List.reduceReplicate, ↓reduceIte, Nat.reduceEqDiff, Nat.reduceAdd, Nat.reduceSub, Nat.reduceLeDiff, Nat.reduceLT, Nat.reduceMul, f2, f3, f9, f10, f11, H102, H103, hl, hb8]
      rw [q0, q1, q2, q3, q4]
      exact fin _ _ ⟨f2, f3, f9, f10, rfl, H102, by rw [hs]; simp only [Nat.reducePow, Nat.mul_one]; rfl, hl⟩
    | 2, _ =>
      obtain ⟨q0, q1, q2, q3, q4⟩ := rd2 v b[2].toNat hv hc
      simp -implicitDefEqProofs -dsimp +contextual (maxSteps := 5000000) (disch := first | omega | simp only [go_sem] <;> omega | refine ib ?_; kernel_rfl) only [go_sem, Nat.reduceBEq, Int.reduceNeg, Int.reduceLT, Int.reduceLE, Int.reduceAdd, Int.reduceSub, Int.reduceToNat, Int.reduceMul, Int.reduceMod, Int.reduceTMod, Int.reduceTDiv, Int.reduceEq, Nat.reducePow, Nat.reduceDiv, Nat.reduceShiftRight, Nat.reduceMod, List.reduceReplicate, ↓reduceIte, Nat.reduceEqDiff, Nat.reduceAdd, Nat.reduceSub, Nat.reduceLeDiff, Nat.reduceLT, Nat.reduceMul, f2, f3, f9, f10, f11, H102, H103, hl, hb8]
      rw [q0, q1, q2, q3, q4]
      exact fin _ _ ⟨f2, f3, f9, f10, rfl, H102, by rw [hs]; simp only [Nat.reducePow, Nat.mul_one]; rfl, hl⟩
    | 3, _ =>
      obtain ⟨q0, q1, q2, q3, q4⟩ := rd3 v b[3].toNat hv hc
      simp -implicitDefEqProofs -dsimp +contextual (maxSteps := 5000000) (disch := first | omega | simp only [go_sem] <;> omega | refine ib ?_; kernel_rfl) only [go_sem, Nat.reduceBEq, Int.reduceNeg, Int.reduceLT, Int.reduceLE, Int.reduceAdd, Int.reduceSub, Int.reduceToNat, Int.reduceMul, Int.reduceMod, Int.reduceTMod, Int.reduceTDiv, Int.reduceEq, Nat.reducePow, Nat.reduceDiv, Nat.reduceShiftRight, Nat.reduceMod, List.reduceReplicate, ↓reduceIte, Nat.reduceEqDiff, Nat.reduceAdd, Nat.reduceSub, Nat.reduceLeDiff, Nat.reduceLT, Nat.reduceMul, f2, f3, f9, f10, f11, H102, H103, hl, hb8]
      rw [q0, q1, q2, q3, q4]
      exact fin _ _ ⟨f2, f3, f9, f10, rfl, H102, by rw [hs]; simp only [Nat.reducePow, Nat.mul_one]; rfl, hl⟩
    | 4, _ =>
      obtain ⟨q0, q1, q2, q3, q4⟩ := rd4 v b[4].toNat hv hc
      simp -implicitDefEqProofs -dsimp +contextual (maxSteps := 5000000) (disch := first | omega | simp only [go_sem] <;> omega | refine ib ?_; kernel_rfl) only [go_sem, Nat.reduceBEq, Int.reduceNeg, Int.reduceLT, Int.reduceLE, Int.reduceAdd, Int.reduceSub, Int.reduceToNat, Int.reduceMul, Int.reduceMod, Int.reduceTMod, Int.reduceTDiv, Int.reduceEq, Nat.reducePow, Nat.reduceDiv, Nat.reduceShiftRight, Nat.reduceMod, List.reduceReplicate, ↓reduceIte, Nat.reduceEqDiff, Nat.reduceAdd, Nat.reduceSub, Nat.reduceLeDiff, Nat.reduceLT, Nat.reduceMul, f2, f3, f9, f10, f11, H102, H103, hl, hb8]
      rw [q0, q1, q2, q3, q4]
      exact fin _ _ ⟨f2, f3, f9, f10, rfl, H102, by rw [hs]; simp only [Nat.reducePow, Nat.mul_one]; rfl, hl⟩
    | 5, _ =>
      obtain ⟨q0, q1, q2, q3, q4⟩ := rd5 v b[5].toNat hv hc
      simp -implicitDefEqProofs -dsimp +contextual (maxSteps := 5000000) (disch := first | omega | simp only [go_sem] <;> omega | refine ib ?_; kernel_rfl) only [go_sem, Nat.reduceBEq, Int.reduceNeg, Int.reduceLT, Int.reduceLE, Int.reduceAdd, Int.reduceSub, Int.reduceToNat, Int.reduceMul, Int.reduceMod, Int.reduceTMod, Int.reduceTDiv, Int.reduceEq, Nat.reducePow, Nat.reduceDiv, Nat.reduceShiftRight, Nat.reduceMod, List.reduceReplicate, ↓reduceIte, Nat.reduceEqDiff, Nat.reduceAdd, Nat.reduceSub, Nat.reduceLeDiff, Nat.reduceLT, Nat.reduceMul, f2, f3, f9, f10, f11, H102, H103, hl, hb8]
      rw [q0, q1, q2, q3, q4]
      exact fin _ _ ⟨f2, f3, f9, f10, rfl, H102, by rw [hs]; simp only [Nat.reducePow, Nat.mul_one]; rfl, hl⟩
    | 6, _ =>
      obtain ⟨q0, q1, q2, q3, q4⟩ := rd6 v b[6].toNat hv hc
      simp -implicitDefEqProofs -dsimp +contextual (maxSteps := 5000000) (disch := first | omega | simp only [go_sem] <;> omega | refine ib ?_; kernel_rfl) only [go_sem, Nat.reduceBEq, Int.reduceNeg, Int.reduceLT, Int.reduceLE, Int.reduceAdd, Int.reduceSub, Int.reduceToNat, Int.reduceMul, Int.reduceMod, Int.reduceTMod, Int.reduceTDiv, Int.reduceEq, Nat.reducePow, Nat.reduceDiv, Nat.reduceShiftRight, Nat.reduceMod, List.reduceReplicate, ↓reduceIte, Nat.reduceEqDiff, Nat.reduceAdd, Nat.reduceSub, Nat.reduceLeDiff, Nat.reduceLT, Nat.reduceMul, f2, f3, f9, f10, f11, H102, H103, hl, hb8]
      rw [q0, q1, q2, q3, q4]
      exact fin _ _ ⟨f2, f3, f9, f10, rfl, H102, by rw [hs]; simp only [Nat.reducePow, Nat.mul_one]; rfl, hl⟩
    | 7, _ =>
      obtain ⟨q0, q1, q2, q3, q4⟩ := rd7 v b[7].toNat hv hc
      simp -implicitDefEqProofs -dsimp +contextual (maxSteps := 5000000) (disch := first | omega | simp only [go_sem] <;> omega | refine ib ?_; kernel_rfl) only [go_sem, Nat.reduceBEq, Int.reduceNeg, Int.reduceLT, Int.reduceLE, Int.reduceAdd, Int.reduceSub, Int.reduceToNat, Int.reduceMul, Int.reduceMod, Int.reduceTMod, Int.reduceTDiv, Int.reduceEq, Nat.reducePow, Nat.reduceDiv, Nat.reduceShiftRight, Nat.reduceMod, List.reduceReplicate, ↓reduceIte, Nat.reduceEqDiff, Nat.reduceAdd, Nat.reduceSub, Nat.reduceLeDiff, Nat.reduceLT, Nat.reduceMul, f2, f3, f9, f10, f11, H102, H103, hl, hb8]
      rw [q0, q1, q2, q3, q4]
      exact fin _ _ ⟨f2, f3, f9, f10, rfl, H102, by rw [hs]; simp only [Nat.reducePow, Nat.mul_one]; rfl, hl⟩
    | 8, _ =>
      obtain ⟨q0, q1, q2, q3, q4⟩ := rd8 v b[8].toNat hv hc
      simp -implicitDefEqProofs -dsimp +contextual (maxSteps := 5000000) (disch := first | omega | simp only [go_sem] <;> omega | refine ib ?_; kernel_rfl) only [go_sem, Nat.reduceBEq, Int.reduceNeg, Int.reduceLT, Int.reduceLE, Int.reduceAdd, Int.reduceSub, Int.reduceToNat, Int.reduceMul, Int.reduceMod, Int.reduceTMod, Int.reduceTDiv, Int.reduceEq, Nat.reducePow, Nat.reduceDiv, Nat.reduceShiftRight, Nat.reduceMod, List.reduceReplicate, ↓reduceIte, Nat.reduceEqDiff, Nat.reduceAdd, Nat.reduceSub, Nat.reduceLeDiff, Nat.reduceLT, Nat.reduceMul, f2, f3, f9, f10, f11, H102, H103, hl, hb8]
      rw [q0, q1, q2, q3, q4]
      exact fin _ _ ⟨f2, f3, f9, f10, rfl, H102, by rw [hs]; simp only [Nat.reducePow, Nat.mul_one]; rfl, hl⟩
    | 9, _ =>
      obtain ⟨q0, q1, q2, q3, q4⟩ := rd9 v b[9].toNat hv hc
      simp -implicitDefEqProofs -dsimp +contextual (maxSteps := 5000000) (disch := first | omega | simp only [go_sem] <;> omega | refine ib ?_; kernel_rfl) only [go_sem, Nat.reduceBEq, Int.reduceNeg, Int.reduceLT, Int.reduceLE, Int.reduceAdd, Int.reduceSub, Int.reduceToNat, Int.reduceMul, Int.reduceMod, Int.reduceTMod, Int.reduceTDiv, Int.reduceEq, Nat.reducePow, Nat.reduceDiv, Nat.reduceShiftRight, Nat.reduceMod, List.reduceReplicate, ↓reduceIte, Nat.reduceEqDiff, Nat.reduceAdd, Nat.reduceSub, Nat.reduceLeDiff, Nat.reduceLT, Nat.reduceMul, f2, f3, f9, f10, f11, H102, H103, hl, hb8]
      rw [q0, q1, q2, q3, q4]
      exact fin _ _ ⟨f2, f3, f9, f10, rfl, H102, by rw [hs]; simp only [Nat.reducePow, Nat.mul_one]; rfl, hl⟩
    | 10, _ =>
      obtain ⟨q0, q1, q2, q3, q4⟩ := rd10 v b[10].toNat hv hc
      simp -implicitDefEqProofs -dsimp +contextual (maxSteps := 5000000) (disch := first | omega | simp only [go_sem] <;> omega | refine ib ?_; kernel_rfl) only [go_sem, Nat.reduceBEq, Int.reduceNeg, Int.reduceLT, Int.reduceLE, Int.reduceAdd, Int.reduceSub, Int.reduceToNat, Int.reduceMul, Int.reduceMod, Int.reduceTMod, Int.reduceTDiv, Int.reduceEq, Nat.reducePow, Nat.reduceDiv, Nat.reduceShiftRight, Nat.reduceMod, List.reduceReplicate, ↓reduceIte, Nat.reduceEqDiff, Nat.reduceAdd, Nat.reduceSub, Nat.reduceLeDiff, Nat.reduceLT, Nat.reduceMul, f2, f3, f9, f10, f11, H102, H103, hl, hb8]
      rw [q0, q1, q2, q3, q4]
      exact fin _ _ ⟨f2, f3, f9, f10, rfl, H102, by rw [hs]; simp only [Nat.reducePow, Nat.mul_one]; rfl, hl⟩
    | 11, _ =>
      obtain ⟨q0, q1, q2, q3, q4⟩ := rd11 v b[11].toNat hv hc
      simp -implicitDefEqProofs -dsimp +contextual (maxSteps := 5000000) (disch := first | omega | simp only [go_sem] <;> omega | refine ib ?_; kernel_rfl) only [go_sem, Nat.reduceBEq, Int.reduceNeg, Int.reduceLT, Int.reduceLE, Int.reduceAdd, Int.reduceSub, Int.reduceToNat, Int.reduceMul, Int.reduceMod, Int.reduceTMod, Int.reduceTDiv, Int.reduceEq, Nat.reducePow, Nat.reduceDiv, Nat.reduceShiftRight, Nat.reduceMod, List.reduceReplicate, ↓reduceIte, Nat.reduceEqDiff, Nat.reduceAdd, Nat.reduceSub, Nat.reduceLeDiff, Nat.reduceLT, Nat.reduceMul, f2, f3, f9, f10, f11, H102, H103, hl, hb8]
      rw [q0, q1, q2, q3, q4]
      exact fin _ _ ⟨f2, f3, f9, f10, rfl, H102, by rw [hs]; simp only [Nat.reducePow, Nat.mul_one]; rfl, hl⟩
    | 12, _ =>
      obtain ⟨q0, q1, q2, q3, q4⟩ := rd12 v b[12].toNat hv hc
      simp -implicitDefEqProofs -dsimp +contextual (maxSteps := 5000000) (disch := first | omega | simp only [go_sem] <;> omega | refine ib ?_; kernel_rfl) only [go_sem, Nat.reduceBEq, Int.reduceNeg, Int.reduceLT, Int.reduceLE, Int.reduceAdd, Int.reduceSub, Int.reduceToNat, Int.reduceMul, Int.reduceMod, Int.reduceTMod, Int.reduceTDiv, Int.reduceEq, Nat.reducePow, Nat.reduceDiv, Nat.reduceShiftRight, Nat.reduceMod, List.reduceReplicate, ↓reduceIte, Nat.reduceEqDiff, Nat.reduceAdd, Nat.reduceSub, Nat.reduceLeDiff, Nat.reduceLT, Nat.reduceMul, f2, f3, f9, f10, f11, H102, H103, hl, hb8]
      rw [q0, q1, q2, q3, q4]
      exact fin _ _ ⟨f2, f3, f9, f10, rfl, H102, by rw [hs]; simp only [Nat.reducePow, Nat.mul_one]; rfl, hl⟩
    | 13, _ =>
      obtain ⟨q0, q1, q2, q3, q4⟩ := rd13 v b[13].toNat hv hc
      simp -implicitDefEqProofs -dsimp +contextual (maxSteps := 5000000) (disch := first | omega | simp only [go_sem] <;> omega | refine ib ?_; kernel_rfl) only [go_sem, Nat.reduceBEq, Int.reduceNeg, Int.reduceLT, Int.reduceLE, Int.reduceAdd, Int.reduceSub, Int.reduceToNat, Int.reduceMul, Int.reduceMod, Int.reduceTMod, Int.reduceTDiv, Int.reduceEq, Nat.reducePow, Nat.reduceDiv, Nat.reduceShiftRight, Nat.reduceMod, List.reduceReplicate, ↓reduceIte, Nat.reduceEqDiff, Nat.reduceAdd, Nat.reduceSub, Nat.reduceLeDiff, Nat.reduceLT, Nat.reduceMul, f2, f3, f9, f10, f11, H102, H103, hl, hb8]
      rw [q0, q1, q2, q3, q4]
      exact fin _ _ ⟨f2, f3, f9, f10, rfl, H102, by rw [hs]; simp only [Nat.reducePow, Nat.mul_one]; rfl, hl⟩
    | 14, _ =>
      obtain ⟨q0, q1, q2, q3, q4⟩ := rd14 v b[14].toNat hv hc
      simp -implicitDefEqProofs -dsimp +contextual (maxSteps := 5000000) (disch := first | omega | simp only [go_sem] <;> omega | refine ib ?_; kernel_rfl) only [go_sem, Nat.reduceBEq, Int.reduceNeg, Int.reduceLT, Int.reduceLE, Int.reduceAdd, Int.reduceSub, Int.reduceToNat, Int.reduceMul, Int.reduceMod, Int.reduceTMod, Int.reduceTDiv, Int.reduceEq, Nat.reducePow, Nat.reduceDiv, Nat.reduceShiftRight, Nat.reduceMod, List.reduceReplicate, ↓reduceIte, Nat.reduceEqDiff, Nat.reduceAdd, Nat.reduceSub, Nat.reduceLeDiff, Nat.reduceLT, Nat.reduceMul, f2, f3, f9, f10, f11, H102, H103, hl, hb8]
      rw [q0, q1, q2, q3, q4]
      exact fin _ _ ⟨f2, f3, f9, f10, rfl, H102, by rw [hs]; simp only [Nat.reducePow, Nat.mul_one]; rfl, hl⟩
    | 15, _ =>
      obtain ⟨q0, q1, q2, q3, q4⟩ := rd15 v b[15].toNat hv hc
      simp -implicitDefEqProofs -dsimp +contextual (maxSteps := 5000000) (disch := first | omega | simp only [go_sem] <;> omega | refine ib ?_; kernel_rfl) only [go_sem, Nat.reduceBEq, Int.reduceNeg, Int.reduceLT, Int.reduceLE, Int.reduceAdd, Int.reduceSub, Int.reduceToNat, Int.reduceMul, Int.reduceMod, Int.reduceTMod, Int.reduceTDiv, Int.reduceEq, Nat.reducePow, Nat.reduceDiv, Nat.reduceShiftRight, Nat.reduceMod, List.reduceReplicate, ↓reduceIte, Nat.reduceEqDiff, Nat.reduceAdd, Nat.reduceSub, Nat.reduceLeDiff, Nat.reduceLT, Nat.reduceMul, f2, f3, f9, f10, f11, H102, H103, hl, hb8]
      rw [q0, q1, q2, q3, q4]
      exact fin _ _ ⟨f2, f3, f9, f10, rfl, H102, by rw [hs]; simp only [Nat.reducePow, Nat.mul_one]; rfl, hl⟩
    | 16, _ =>
      obtain ⟨q0, q1, q2, q3, q4⟩ := rd16 v b[16].toNat hv hc
      simp -implicitDefEqProofs -dsimp +contextual (maxSteps := 5000000) (disch := first | omega | simp only [go_sem] <;> omega | refine ib ?_; kernel_rfl) only [go_sem, Nat.reduceBEq, Int.reduceNeg, Int.reduceLT, Int.reduceLE, Int.reduceAdd, Int.reduceSub, Int.reduceToNat, Int.reduceMul, Int.reduceMod, Int.reduceTMod, Int.reduceTDiv, Int.reduceEq, Nat.reducePow, Nat.reduceDiv, Nat.reduceShiftRight, Nat.reduceMod, List.reduceReplicate, ↓reduceIte, Nat.reduceEqDiff, Nat.reduceAdd, Nat.reduceSub, Nat.reduceLeDiff, Nat.reduceLT, Nat.reduceMul, f2, f3, f9, f10, f11, H102, H103, hl, hb8]
      rw [q0, q1, q2, q3, q4]
      exact fin _ _ ⟨f2, f3, f9, f10, rfl, H102, by rw [hs]; simp only [Nat.reducePow, Nat.mul_one]; rfl, hl⟩
    | n + 17, h => exact absurd h (by omega)
  · obtain rfl : i = b.length := by omega
    rw [List.take_length] at H103
    simp -implicitDefEqProofs -dsimp +contextual (maxSteps := 5000000) (disch := first | omega | simp only [go_sem] <;> omega | refine ib ?_; kernel_rfl) only [go_sem, Nat.reduceBEq, Int.reduceNeg, Int.reduceLT, Int.reduceLE, Int.reduceAdd, Int.reduceSub, Int.reduceToNat, Int.reduceMul, Int.reduceMod, Int.reduceTMod, Int.reduceTDiv, Int.reduceEq, Nat.reducePow, Nat.reduceDiv, Nat.reduceShiftRight, Nat.reduceMod, List.reduceReplicate, ↓reduceIte, Nat.reduceEqDiff, Nat.reduceAdd, Nat.reduceSub, Nat.reduceLeDiff, Nat.reduceLT, Nat.reduceMul, f2, f3, f9, f10, f11, H102, H103, hl]

end Go.Proofs.YtccfjidpdlfenaaDoor
namespace Go.Proofs.YtccfjidpdlfenaaDoor
open Go.Am
set_option linter.unusedSimpArgs false
set_option linter.unusedVariables false
set_option maxRecDepth 100000
/-! Layer 7: clamped, written, summed. -/
def clampAt (i : Nat) (x : UInt8) : UInt8 := if i % 4 = 3 then x &&& 15 else if i % 4 = 0 ∧ 0 < i then x &&& 252 else x
def clampB (r : List UInt8) : List UInt8 := (r.take 16).mapIdx clampAt
theorem clampB_len (r : List UInt8) (h : 16 ≤ r.length) : (clampB r).length = 16 := by simp [clampB]; omega
/-- A row whose first so many are turned. -/
def mixTo (A B : List UInt8) (m : Nat) : List UInt8 := A.take m ++ B.drop m
theorem mixTo_len (A B : List UInt8) (m : Nat) (h : A.length = B.length) (hm : m ≤ A.length) : (mixTo A B m).length = A.length := by simp [mixTo]; omega
theorem mixTo_zero (A B : List UInt8) : mixTo A B 0 = B := by simp [mixTo]
theorem mixTo_all (A B : List UInt8) (m : Nat) (h : A.length = B.length) (hm : A.length ≤ m) : mixTo A B m = A := by simp [mixTo, List.take_of_length_le hm, List.drop_of_length_le (show B.length ≤ m by omega)]
theorem mixTo_get (A B : List UInt8) (m : Nat) (h : A.length = B.length) (hm : m < A.length) (h2 : m < (mixTo A B m).length) : (mixTo A B m)[m] = B[m] := by
  simp [mixTo, List.getElem_append, show min m A.length = m by omega]
theorem mixTo_set (A B : List UInt8) (m : Nat) (h : A.length = B.length) (hm : m < A.length) : (mixTo A B m).set m A[m] = mixTo A B (m + 1) := by
  unfold mixTo
  rw [List.set_append_right _ _ (by simp; omega), List.length_take, Nat.min_eq_left (by omega), Nat.sub_self, List.drop_eq_getElem_cons (by omega : m < B.length), List.set_cons_zero, List.take_succ_eq_append_getElem hm, List.append_assoc]
  rfl
theorem mixTo_skip (A B : List UInt8) (m : Nat) (h : A.length = B.length) (hm : m < A.length) (e : A[m] = B[m]) : mixTo A B m = mixTo A B (m + 1) := by
  unfold mixTo
  rw [List.drop_eq_getElem_cons (by omega : m < B.length), List.take_succ_eq_append_getElem hm, List.append_assoc, e]
  rfl

set_option maxHeartbeats 4000000 in
@[go_sem] theorem e143 (r : List UInt8) (h : 16 ≤ r.length) : fn C 143 [] [.slice 1 (r.map byteRow)] = some (.slice 1 ((clampB r).map byteRow), []) := by
  rw [fn_text Tryd.func143 rfl rfl Tryd.results143 fq143.1 rfl rfl (by kernel_rfl)]
  have h' : ¬ r.length < 16 := by omega
  simp -implicitDefEqProofs -dsimp +contextual (maxSteps := 5000000) (disch := first | omega | simp only [go_sem] <;> omega | refine ib ?_; kernel_rfl) only [go_sem, Nat.reduceBEq, Int.reduceNeg, Int.reduceLT, Int.reduceLE, Int.reduceAdd, Int.reduceSub, Int.reduceToNat, Int.reduceMul, Int.reduceMod, Int.reduceTMod, Int.reduceTDiv, Int.reduceEq, Nat.reducePow, Nat.reduceDiv, Nat.reduceShiftRight, Nat.reduceMod, List.reduceReplicate, ↓reduceIte, Nat.reduceEqDiff, Nat.reduceAdd, Nat.reduceSub, Nat.reduceLeDiff, Nat.reduceLT, Nat.reduceMul, h']
  have hlen := clampB_len r h
  have hget : ∀ (i : Nat) (h1 : i < (clampB r).length) (h2 : i < (r.take 16).length), (clampB r)[i] = clampAt i (r.take 16)[i] := fun i h1 h2 => by simp [clampB]
  have hB : (r.take 16).length = 16 := by simp; omega
  generalize clampB r = A at *
  generalize r.take 16 = B at *
  have z1 := mixTo_zero A B
  refine kLoop_rec (fun (i : Nat) f H => f 3 = .osl 108 2 0 16 ∧ f 13 = .int .i64 16 ∧ f 14 = .int .i64 (i : Int) ∧ H 108 = ⟨2, .live, 1, (mixTo A B i).map byteRow, false⟩ ∧ i ≤ 16) (fun i => 16 - i) (fun _ => some (.slice 1 (A.map byteRow), [])) ?_ 0 _ _ ?_
  rotate_left
  · refine ⟨rfl, rfl, rfl, ?_, by omega⟩
    rw [z1]; rfl
  rintro i f H ⟨f3, f13, f14, H108, hi⟩ ih
  by_cases hl : i < 16
  · have hm := mixTo_len A B i (by omega) (by omega)
    rw [hlen] at hm
    have hmg := mixTo_get A B i (by omega) (by omega) (by omega)
    have hA := hget i (by omega) (by omega)
    by_cases h3 : i % 4 = 3
    · have e : B[i] &&& UInt8.ofNat 15 = A[i] := by rw [hA, clampAt, if_pos h3]; rfl
      simp -implicitDefEqProofs -dsimp +contextual (maxSteps := 5000000) (disch := first | omega | simp only [go_sem] <;> omega | refine ib ?_; kernel_rfl) only [go_sem, Nat.reduceBEq, Int.reduceNeg, Int.reduceLT, Int.reduceLE, Int.reduceAdd, Int.reduceSub, Int.reduceToNat, Int.reduceMul, Int.reduceMod, Int.reduceTMod, Int.reduceTDiv, Int.reduceEq, Nat.reducePow, Nat.reduceDiv, Nat.reduceShiftRight, Nat.reduceMod, List.reduceReplicate, ↓reduceIte, Nat.reduceEqDiff, Nat.reduceAdd, Nat.reduceSub, Nat.reduceLeDiff, Nat.reduceLT, Nat.reduceMul, f3, f13, f14, H108, hl, h3, hm, hmg, e]
      rw [mixTo_set _ _ _ (by omega) (by omega)]
      exact ih (i + 1) _ _ ⟨f3, f13, rfl, rfl, by omega⟩ (by omega)
    · by_cases h0 : i % 4 = 0
      · by_cases hp : 0 < i
        · have e : B[i] &&& UInt8.ofNat 252 = A[i] := by rw [hA, clampAt, if_neg h3, if_pos ⟨h0, hp⟩]; rfl
          simp -implicitDefEqProofs -dsimp +contextual (maxSteps := 5000000) (disch := first | omega | simp only [go_sem] <;> omega | refine ib ?_; kernel_rfl) only [go_sem, Nat.reduceBEq, Int.reduceNeg, Int.reduceLT, Int.reduceLE, Int.reduceAdd, Int.reduceSub, Int.reduceToNat, Int.reduceMul, Int.reduceMod, Int.reduceTMod, Int.reduceTDiv, Int.reduceEq, Nat.reducePow, Nat.reduceDiv, Nat.reduceShiftRight, Nat.reduceMod, List.reduceReplicate, ↓reduceIte, Nat.reduceEqDiff, Nat.reduceAdd, Nat.reduceSub, Nat.reduceLeDiff, Nat.reduceLT, Nat.reduceMul, f3, f13, f14, H108, hl, h3, h0, hp, hm, hmg, e]
          rw [mixTo_set _ _ _ (by omega) (by omega)]
          exact ih (i + 1) _ _ ⟨f3, f13, rfl, rfl, by omega⟩ (by omega)
        · have e : A[i] = B[i] := by rw [hA, clampAt, if_neg h3, if_neg (by omega)]
          rw [mixTo_skip _ _ _ (by omega) (by omega) e] at H108
          simp -implicitDefEqProofs -dsimp +contextual (maxSteps := 5000000) (disch := first | omega | simp only [go_sem] <;> omega | refine ib ?_; kernel_rfl) only [go_sem, Nat.reduceBEq, Int.reduceNeg, Int.reduceLT, Int.reduceLE, Int.reduceAdd, Int.reduceSub, Int.reduceToNat, Int.reduceMul, Int.reduceMod, Int.reduceTMod, Int.reduceTDiv, Int.reduceEq, Nat.reducePow, Nat.reduceDiv, Nat.reduceShiftRight, Nat.reduceMod, List.reduceReplicate, ↓reduceIte, Nat.reduceEqDiff, Nat.reduceAdd, Nat.reduceSub, Nat.reduceLeDiff, Nat.reduceLT, Nat.reduceMul, f3, f13, f14, hl, h3, h0, hp]
          exact ih (i + 1) _ _ ⟨f3, f13, rfl, H108, by omega⟩ (by omega)
      · have e : A[i] = B[i] := by rw [hA, clampAt, if_neg h3, if_neg (by omega)]
        rw [mixTo_skip _ _ _ (by omega) (by omega) e] at H108
        simp -implicitDefEqProofs -dsimp +contextual (maxSteps := 5000000) (disch := first | omega | simp only [go_sem] <;> omega | refine ib ?_; kernel_rfl) only [go_sem, Nat.reduceBEq, Int.reduceNeg, Int.reduceLT, Int.reduceLE, Int.reduceAdd, Int.reduceSub, Int.reduceToNat, Int.reduceMul, Int.reduceMod, Int.reduceTMod, Int.reduceTDiv, Int.reduceEq, Nat.reducePow, Nat.reduceDiv, Nat.reduceShiftRight, Nat.reduceMod, List.reduceReplicate, ↓reduceIte, Nat.reduceEqDiff, Nat.reduceAdd, Nat.reduceSub, Nat.reduceLeDiff, Nat.reduceLT, Nat.reduceMul, f3, f13, f14, hl, h3, h0]
        exact ih (i + 1) _ _ ⟨f3, f13, rfl, H108, by omega⟩ (by omega)
  · obtain rfl : i = 16 := by omega
    rw [mixTo_all _ _ _ (by omega) (by omega)] at H108
    simp -implicitDefEqProofs -dsimp +contextual (maxSteps := 5000000) (disch := first | omega | simp only [go_sem] <;> omega | refine ib ?_; kernel_rfl) only [go_sem, Nat.reduceBEq, Int.reduceNeg, Int.reduceLT, Int.reduceLE, Int.reduceAdd, Int.reduceSub, Int.reduceToNat, Int.reduceMul, Int.reduceMod, Int.reduceTMod, Int.reduceTDiv, Int.reduceEq, Nat.reducePow, Nat.reduceDiv, Nat.reduceShiftRight, Nat.reduceMod, List.reduceReplicate, ↓reduceIte, Nat.reduceEqDiff, Nat.reduceAdd, Nat.reduceSub, Nat.reduceLeDiff, Nat.reduceLT, Nat.reduceMul, f3, f13, f14, H108, hl, hlen]

def leastN (n : Nm) : Nm :=
  let m := carryN (carryN n)
  let q := carry5N m
  if q.e / 67108864 = 0 then m else ⟨q.a, q.b, q.c, q.d, q.e % 67108864⟩
theorem carry5N_le (n : Nm) (h : n.le 1152921504606846976) : (carry5N n).a < 67108864 ∧ (carry5N n).b < 67108864 ∧ (carry5N n).c < 67108864 ∧ (carry5N n).d < 67108864 ∧ (carry5N n).e ≤ 2000000000000000000 := by
  obtain ⟨h1, h2, h3, h4, h5⟩ := h
  simp only [carry5N]; omega

set_option maxHeartbeats 4000000 in
@[go_sem] theorem e149 (a b c d e : Nat) (h1 : a ≤ 1152921504606846976) (h2 : b ≤ 1152921504606846976) (h3 : c ≤ 1152921504606846976) (h4 : d ≤ 1152921504606846976) (h5 : e ≤ 1152921504606846976) : fn C 149 [] [.agg [.int .u64 (a : Int), .int .u64 (b : Int), .int .u64 (c : Int), .int .u64 (d : Int), .int .u64 (e : Int)]] = some (.agg (leastN ⟨a, b, c, d, e⟩).cs, []) := by
  rw [fn_text Tryd.func149 rfl rfl Tryd.results149 fq149.1 rfl rfl (by kernel_rfl)]
  obtain ⟨k1, k2, k3, k4, k5⟩ := carryN_le ⟨a, b, c, d, e⟩ ⟨h1, h2, h3, h4, h5⟩
  obtain ⟨j1, j2, j3, j4, j5⟩ := carryN_le (carryN ⟨a, b, c, d, e⟩) ⟨by omega, by omega, by omega, by omega, by omega⟩
  obtain ⟨i1, i2, i3, i4, i5⟩ := carry5N_le (carryN (carryN ⟨a, b, c, d, e⟩)) ⟨by omega, by omega, by omega, by omega, by omega⟩
  by_cases hq : (carry5N (carryN (carryN ⟨a, b, c, d, e⟩))).e / 67108864 = 0
  · simp -implicitDefEqProofs -dsimp +contextual (maxSteps := 5000000) (disch := first | omega | simp only [go_sem] <;> omega | refine ib ?_; kernel_rfl) only [go_sem, Nat.reduceBEq, Int.reduceNeg, Int.reduceLT, Int.reduceLE, Int.reduceAdd, Int.reduceSub, Int.reduceToNat, Int.reduceMul, Int.reduceMod, Int.reduceTMod, Int.reduceTDiv, Int.reduceEq, Nat.reducePow, Nat.reduceDiv, Nat.reduceShiftRight, Nat.reduceMod, List.reduceReplicate, ↓reduceIte, Nat.reduceEqDiff, Nat.reduceAdd, Nat.reduceSub, Nat.reduceLeDiff, Nat.reduceLT, Nat.reduceMul, hq]
    simp only [leastN, hq, if_true]
  · simp -implicitDefEqProofs -dsimp +contextual (maxSteps := 5000000) (disch := first | omega | simp only [go_sem] <;> omega | refine ib ?_; kernel_rfl) only [go_sem, Nat.reduceBEq, Int.reduceNeg, Int.reduceLT, Int.reduceLE, Int.reduceAdd, Int.reduceSub, Int.reduceToNat, Int.reduceMul, Int.reduceMod, Int.reduceTMod, Int.reduceTDiv, Int.reduceEq, Nat.reducePow, Nat.reduceDiv, Nat.reduceShiftRight, Nat.reduceMod, List.reduceReplicate, ↓reduceIte, Nat.reduceEqDiff, Nat.reduceAdd, Nat.reduceSub, Nat.reduceLeDiff, Nat.reduceLT, Nat.reduceMul, hq]
    simp only [leastN, hq, if_false]

def sumV (a b : List UInt8) : Nat → Nat
  | 0 => 0
  | i + 1 => (sumV a b i + ((a.getD i 0).toNat + (b.getD i 0).toNat)) / 256
def sumP (a b : List UInt8) : List UInt8 := (List.range 16).map fun i => UInt8.ofNat (sumV a b i + ((a.getD i 0).toNat + (b.getD i 0).toNat))
theorem sumV_le (a b : List UInt8) : ∀ i, sumV a b i ≤ 1
  | 0 => by simp [sumV]
  | i + 1 => by
    have := sumV_le a b i
    have h1 := u8_lt (a.getD i 0)
    have h2 := u8_lt (b.getD i 0)
    simp only [sumV]; omega
theorem shr8_i64 (P : Program) (t : TypeId) (k : IntKind) (n : Nat) : binV P .shr t (.int .i64 (n : Int)) (.int k 8) = some (.int .i64 ((n / 256 : Nat) : Int)) := shr_nat P t .i64 k n 8 (by decide)

set_option maxHeartbeats 4000000 in
@[go_sem] theorem e147 (a b : List UInt8) (ha : a.length = 16) (hb : b.length = 16) : fn C 147 [] [.slice 1 (a.map byteRow), .slice 1 (b.map byteRow)] = some (.usl 1 ((sumP a b).map byteRow), []) := by
  rw [fn_text Tryd.func147 rfl rfl Tryd.results147 fq147.1 rfl rfl (by kernel_rfl)]
  simp -implicitDefEqProofs -dsimp +contextual (maxSteps := 5000000) (disch := first | omega | simp only [go_sem] <;> omega | refine ib ?_; kernel_rfl) only [go_sem, Nat.reduceBEq, Int.reduceNeg, Int.reduceLT, Int.reduceLE, Int.reduceAdd, Int.reduceSub, Int.reduceToNat, Int.reduceMul, Int.reduceMod, Int.reduceTMod, Int.reduceTDiv, Int.reduceEq, Nat.reducePow, Nat.reduceDiv, Nat.reduceShiftRight, Nat.reduceMod, List.reduceReplicate, ↓reduceIte, Nat.reduceEqDiff, Nat.reduceAdd, Nat.reduceSub, Nat.reduceLeDiff, Nat.reduceLT, Nat.reduceMul]
  have hlen : (sumP a b).length = 16 := by simp [sumP]
  have hget : ∀ (i : Nat) (h1 : i < (sumP a b).length), (sumP a b)[i] = UInt8.ofNat (sumV a b i + ((a.getD i 0).toNat + (b.getD i 0).toNat)) := fun i h1 => by simp [sumP]
  generalize sumP a b = A at *
  have z1 := fillTo_zero A
  rw [hlen] at z1
  refine kLoop_rec (fun (i : Nat) f H => f 0 = .slice 1 (a.map byteRow) ∧ f 1 = .slice 1 (b.map byteRow) ∧ f 5 = .osl 108 1 0 16 ∧ f 6 = .int .i64 (sumV a b i : Int) ∧ f 10 = .int .i64 16 ∧ f 11 = .int .i64 (i : Int) ∧ H 108 = ⟨1, .live, 1, (fillTo A i).map byteRow, true⟩ ∧ i ≤ 16) (fun i => 16 - i) (fun _ => some (.usl 1 (A.map byteRow), [])) ?_ 0 _ _ ?_
  rotate_left
  · refine ⟨rfl, rfl, rfl, rfl, rfl, rfl, ?_, by omega⟩
    rw [z1]; rfl
  rintro i f H ⟨f0, f1, f5, f6, f10, f11, H108, hi⟩ ih
  by_cases hl : i < 16
  · have hf := fillTo_len A i (by omega)
    rw [hlen] at hf
    have hA := hget i (by omega)
    have hv := sumV_le a b i
    have u1 := u8_lt (a[i]'(by omega))
    have u2 := u8_lt (b[i]'(by omega))
    have ea : a.getD i 0 = a[i]'(by omega) := by rw [List.getD_eq_getElem?_getD, List.getElem?_eq_getElem (by omega)]; rfl
    have eb : b.getD i 0 = b[i]'(by omega) := by rw [List.getD_eq_getElem?_getD, List.getElem?_eq_getElem (by omega)]; rfl
    rw [ea, eb] at hA
    have hs : sumV a b (i + 1) = (sumV a b i + ((a[i]'(by omega)).toNat + (b[i]'(by omega)).toNat)) / 256 := by rw [sumV, ea, eb]
    simp -implicitDefEqProofs -dsimp +contextual (maxSteps := 5000000) (disch := first | omega | simp only [go_sem] <;> omega | refine ib ?_; kernel_rfl) only [go_sem, Nat.reduceBEq, Int.reduceNeg, Int.reduceLT, Int.reduceLE, Int.reduceAdd, Int.reduceSub, Int.reduceToNat, Int.reduceMul, Int.reduceMod, Int.reduceTMod, Int.reduceTDiv, Int.reduceEq, Nat.reducePow, Nat.reduceDiv, Nat.reduceShiftRight, Nat.reduceMod, List.reduceReplicate, ↓reduceIte, Nat.reduceEqDiff, Nat.reduceAdd, Nat.reduceSub, Nat.reduceLeDiff, Nat.reduceLT, Nat.reduceMul, f0, f1, f5, f6, f10, f11, H108, hl, hf, ha, hb, u8_wrap, shr8_i64]
    rw [← hA, ← hs, fillTo_set _ _ (by omega)]
    exact ih (i + 1) _ _ ⟨f0, f1, f5, rfl, f10, rfl, rfl, by omega⟩ (by omega)
  · obtain rfl : i = 16 := by omega
    rw [fillTo_all _ _ (by omega)] at H108
    simp -implicitDefEqProofs -dsimp +contextual (maxSteps := 5000000) (disch := first | omega | simp only [go_sem] <;> omega | refine ib ?_; kernel_rfl) only [go_sem, Nat.reduceBEq, Int.reduceNeg, Int.reduceLT, Int.reduceLE, Int.reduceAdd, Int.reduceSub, Int.reduceToNat, Int.reduceMul, Int.reduceMod, Int.reduceTMod, Int.reduceTDiv, Int.reduceEq, Nat.reducePow, Nat.reduceDiv, Nat.reduceShiftRight, Nat.reduceMod, List.reduceReplicate, ↓reduceIte, Nat.reduceEqDiff, Nat.reduceAdd, Nat.reduceSub, Nat.reduceLeDiff, Nat.reduceLT, Nat.reduceMul, f0, f1, f5, f6, f10, f11, H108, hl, hlen]

end Go.Proofs.YtccfjidpdlfenaaDoor
namespace Go.Proofs.YtccfjidpdlfenaaDoor
open Go.Am
set_option linter.unusedSimpArgs false
set_option linter.unusedVariables false
set_option maxRecDepth 100000
/-! Layer 7: tags. -/
def writeB (n : Nm) : List UInt8 := (List.range 16).map fun i => UInt8.ofNat (n.val / 256 ^ i)
theorem ofNat8 (x y : Nat) (h : x % 256 = y % 256) : UInt8.ofNat x = UInt8.ofNat y := UInt8.toNat_inj.1 (by simpa using h)
theorem wr0 (a b c d e : Nat) (h1 : a < 67108864) (h2 : b < 67108864) (h3 : c < 67108864) (h4 : d < 67108864) (h5 : e < 67108864) : UInt8.ofNat (a / 1 ||| b * 67108864) = UInt8.ofNat ((a + b * 67108864 + c * 4503599627370496 + d * 302231454903657293676544 + e * 20282409603651670423947251286016)) := ofNat8 _ _ (by rw [or_low _ _ 26 (by omega) (by omega)]; omega)
theorem wr1 (a b c d e : Nat) (h1 : a < 67108864) (h2 : b < 67108864) (h3 : c < 67108864) (h4 : d < 67108864) (h5 : e < 67108864) : UInt8.ofNat (a / 256 ||| b * 262144) = UInt8.ofNat ((a + b * 67108864 + c * 4503599627370496 + d * 302231454903657293676544 + e * 20282409603651670423947251286016) / 256) := ofNat8 _ _ (by rw [or_low _ _ 18 (by omega) (by omega)]; omega)
theorem wr2 (a b c d e : Nat) (h1 : a < 67108864) (h2 : b < 67108864) (h3 : c < 67108864) (h4 : d < 67108864) (h5 : e < 67108864) : UInt8.ofNat (a / 65536 ||| b * 1024) = UInt8.ofNat ((a + b * 67108864 + c * 4503599627370496 + d * 302231454903657293676544 + e * 20282409603651670423947251286016) / 65536) := ofNat8 _ _ (by rw [or_low _ _ 10 (by omega) (by omega)]; omega)
theorem wr3 (a b c d e : Nat) (h1 : a < 67108864) (h2 : b < 67108864) (h3 : c < 67108864) (h4 : d < 67108864) (h5 : e < 67108864) : UInt8.ofNat (a / 16777216 ||| b * 4) = UInt8.ofNat ((a + b * 67108864 + c * 4503599627370496 + d * 302231454903657293676544 + e * 20282409603651670423947251286016) / 16777216) := ofNat8 _ _ (by rw [or_low _ _ 2 (by omega) (by omega)]; omega)
theorem wr4 (a b c d e : Nat) (h1 : a < 67108864) (h2 : b < 67108864) (h3 : c < 67108864) (h4 : d < 67108864) (h5 : e < 67108864) : UInt8.ofNat (b / 64 ||| c * 1048576) = UInt8.ofNat ((a + b * 67108864 + c * 4503599627370496 + d * 302231454903657293676544 + e * 20282409603651670423947251286016) / 4294967296) := ofNat8 _ _ (by rw [or_low _ _ 20 (by omega) (by omega)]; omega)
theorem wr5 (a b c d e : Nat) (h1 : a < 67108864) (h2 : b < 67108864) (h3 : c < 67108864) (h4 : d < 67108864) (h5 : e < 67108864) : UInt8.ofNat (b / 16384 ||| c * 4096) = UInt8.ofNat ((a + b * 67108864 + c * 4503599627370496 + d * 302231454903657293676544 + e * 20282409603651670423947251286016) / 1099511627776) := ofNat8 _ _ (by rw [or_low _ _ 12 (by omega) (by omega)]; omega)
theorem wr6 (a b c d e : Nat) (h1 : a < 67108864) (h2 : b < 67108864) (h3 : c < 67108864) (h4 : d < 67108864) (h5 : e < 67108864) : UInt8.ofNat (b / 4194304 ||| c * 16) = UInt8.ofNat ((a + b * 67108864 + c * 4503599627370496 + d * 302231454903657293676544 + e * 20282409603651670423947251286016) / 281474976710656) := ofNat8 _ _ (by rw [or_low _ _ 4 (by omega) (by omega)]; omega)
theorem wr7 (a b c d e : Nat) (h1 : a < 67108864) (h2 : b < 67108864) (h3 : c < 67108864) (h4 : d < 67108864) (h5 : e < 67108864) : UInt8.ofNat (c / 16 ||| d * 4194304) = UInt8.ofNat ((a + b * 67108864 + c * 4503599627370496 + d * 302231454903657293676544 + e * 20282409603651670423947251286016) / 72057594037927936) := ofNat8 _ _ (by rw [or_low _ _ 22 (by omega) (by omega)]; omega)
theorem wr8 (a b c d e : Nat) (h1 : a < 67108864) (h2 : b < 67108864) (h3 : c < 67108864) (h4 : d < 67108864) (h5 : e < 67108864) : UInt8.ofNat (c / 4096 ||| d * 16384) = UInt8.ofNat ((a + b * 67108864 + c * 4503599627370496 + d * 302231454903657293676544 + e * 20282409603651670423947251286016) / 18446744073709551616) := ofNat8 _ _ (by rw [or_low _ _ 14 (by omega) (by omega)]; omega)
theorem wr9 (a b c d e : Nat) (h1 : a < 67108864) (h2 : b < 67108864) (h3 : c < 67108864) (h4 : d < 67108864) (h5 : e < 67108864) : UInt8.ofNat (c / 1048576 ||| d * 64) = UInt8.ofNat ((a + b * 67108864 + c * 4503599627370496 + d * 302231454903657293676544 + e * 20282409603651670423947251286016) / 4722366482869645213696) := ofNat8 _ _ (by rw [or_low _ _ 6 (by omega) (by omega)]; omega)
theorem wr10 (a b c d e : Nat) (h1 : a < 67108864) (h2 : b < 67108864) (h3 : c < 67108864) (h4 : d < 67108864) (h5 : e < 67108864) : UInt8.ofNat (d / 4 ||| e * 16777216) = UInt8.ofNat ((a + b * 67108864 + c * 4503599627370496 + d * 302231454903657293676544 + e * 20282409603651670423947251286016) / 1208925819614629174706176) := ofNat8 _ _ (by rw [or_low _ _ 24 (by omega) (by omega)]; omega)
theorem wr11 (a b c d e : Nat) (h1 : a < 67108864) (h2 : b < 67108864) (h3 : c < 67108864) (h4 : d < 67108864) (h5 : e < 67108864) : UInt8.ofNat (d / 1024 ||| e * 65536) = UInt8.ofNat ((a + b * 67108864 + c * 4503599627370496 + d * 302231454903657293676544 + e * 20282409603651670423947251286016) / 309485009821345068724781056) := ofNat8 _ _ (by rw [or_low _ _ 16 (by omega) (by omega)]; omega)
theorem wr12 (a b c d e : Nat) (h1 : a < 67108864) (h2 : b < 67108864) (h3 : c < 67108864) (h4 : d < 67108864) (h5 : e < 67108864) : UInt8.ofNat (d / 262144 ||| e * 256) = UInt8.ofNat ((a + b * 67108864 + c * 4503599627370496 + d * 302231454903657293676544 + e * 20282409603651670423947251286016) / 79228162514264337593543950336) := ofNat8 _ _ (by rw [or_low _ _ 8 (by omega) (by omega)]; omega)
theorem wr13 (a b c d e : Nat) (h1 : a < 67108864) (h2 : b < 67108864) (h3 : c < 67108864) (h4 : d < 67108864) (h5 : e < 67108864) : UInt8.ofNat (e / 1) = UInt8.ofNat ((a + b * 67108864 + c * 4503599627370496 + d * 302231454903657293676544 + e * 20282409603651670423947251286016) / 20282409603651670423947251286016) := ofNat8 _ _ (by omega)
theorem wr14 (a b c d e : Nat) (h1 : a < 67108864) (h2 : b < 67108864) (h3 : c < 67108864) (h4 : d < 67108864) (h5 : e < 67108864) : UInt8.ofNat (e / 256) = UInt8.ofNat ((a + b * 67108864 + c * 4503599627370496 + d * 302231454903657293676544 + e * 20282409603651670423947251286016) / 5192296858534827628530496329220096) := ofNat8 _ _ (by omega)
theorem wr15 (a b c d e : Nat) (h1 : a < 67108864) (h2 : b < 67108864) (h3 : c < 67108864) (h4 : d < 67108864) (h5 : e < 67108864) : UInt8.ofNat (e / 65536) = UInt8.ofNat ((a + b * 67108864 + c * 4503599627370496 + d * 302231454903657293676544 + e * 20282409603651670423947251286016) / 1329227995784915872903807060280344576) := ofNat8 _ _ (by omega)

set_option maxHeartbeats 8000000 in
@[go_sem] theorem e148 (a b c d e : Nat) (h1 : a < 67108864) (h2 : b < 67108864) (h3 : c < 67108864) (h4 : d < 67108864) (h5 : e < 67108864) : fn C 148 [] [.agg [.int .u64 (a : Int), .int .u64 (b : Int), .int .u64 (c : Int), .int .u64 (d : Int), .int .u64 (e : Int)]] = some (.slice 1 ((writeB ⟨a, b, c, d, e⟩).map byteRow), []) := by
  rw [fn_text Tryd.func148 rfl rfl Tryd.results148 fq148.1 rfl rfl (by kernel_rfl)]
  simp -implicitDefEqProofs -dsimp +contextual (maxSteps := 5000000) (disch := first | omega | simp only [go_sem] <;> omega | refine ib ?_; kernel_rfl) only [go_sem, Nat.reduceBEq, Int.reduceNeg, Int.reduceLT, Int.reduceLE, Int.reduceAdd, Int.reduceSub, Int.reduceToNat, Int.reduceMul, Int.reduceMod, Int.reduceTMod, Int.reduceTDiv, Int.reduceEq, Nat.reducePow, Nat.reduceDiv, Nat.reduceShiftRight, Nat.reduceMod, List.reduceReplicate, ↓reduceIte, Nat.reduceEqDiff, Nat.reduceAdd, Nat.reduceSub, Nat.reduceLeDiff, Nat.reduceLT, Nat.reduceMul, kLoop_eq, u8_wrap]
  rw [wr0 a b c d e h1 h2 h3 h4 h5, wr1 a b c d e h1 h2 h3 h4 h5, wr2 a b c d e h1 h2 h3 h4 h5, wr3 a b c d e h1 h2 h3 h4 h5, wr4 a b c d e h1 h2 h3 h4 h5, wr5 a b c d e h1 h2 h3 h4 h5, wr6 a b c d e h1 h2 h3 h4 h5, wr7 a b c d e h1 h2 h3 h4 h5, wr8 a b c d e h1 h2 h3 h4 h5, wr9 a b c d e h1 h2 h3 h4 h5, wr10 a b c d e h1 h2 h3 h4 h5, wr11 a b c d e h1 h2 h3 h4 h5, wr12 a b c d e h1 h2 h3 h4 h5, wr13 a b c d e h1 h2 h3 h4 h5, wr14 a b c d e h1 h2 h3 h4 h5, wr15 a b c d e h1 h2 h3 h4 h5]
  simp only [writeB, Nm.val, show List.range 16 = [0, 1, 2, 3, 4, 5, 6, 7, 8, 9, 10, 11, 12, 13, 14, 15] from rfl, List.map_cons, List.map_nil, Nat.reducePow, Nat.div_one, byteRow]

theorem carryN_lt (n : Nm) (h : n.a < 67108864 ∧ n.b < 67110864 ∧ n.c < 67108864 ∧ n.d < 67108864 ∧ n.e < 67108864) : (carryN n).a < 67108864 ∧ (carryN n).b < 67108864 ∧ (carryN n).c < 67108864 ∧ (carryN n).d < 67108864 ∧ (carryN n).e < 67108864 := by
  obtain ⟨h1, h2, h3, h4, h5⟩ := h
  simp only [carryN]; omega
theorem leastN_lt (n : Nm) (h : n.le 1152921504606846976) : (leastN n).a < 67108864 ∧ (leastN n).b < 67108864 ∧ (leastN n).c < 67108864 ∧ (leastN n).d < 67108864 ∧ (leastN n).e < 67108864 := by
  have h1 := carryN_lt _ (carryN_le n h)
  simp only [leastN]
  obtain ⟨i1, i2, i3, i4, i5⟩ := carry5N_le (carryN (carryN n)) ⟨by omega, by omega, by omega, by omega, by omega⟩
  split
  · exact h1
  · simp only; omega
theorem readN_lt (v : Nat) : (readN v).a < 67108864 ∧ (readN v).b < 67108864 ∧ (readN v).c < 67108864 ∧ (readN v).d < 67108864 ∧ (readN v).e < 67108864 := by
  simp only [readN]; omega
def stepN (r n : Nm) (blk : List UInt8) : Nm := carryN (timesP (carryN (addN n (readN (leV (blk ++ [1]))))) r)
def tagAcc (r : Nm) : Nat → Nm → List UInt8 → Nm
  | 0, n, _ => n
  | k + 1, n, msg => if msg = [] then n else tagAcc r k (stepN r n (msg.take 16)) (msg.drop 16)
def Okn (n : Nm) : Prop := n.a < 67108864 ∧ n.b < 67110864 ∧ n.c < 67108864 ∧ n.d < 67108864 ∧ n.e < 67108864
theorem mid_lt (n : Nm) (v : Nat) (h : Okn n) : Okn (carryN (addN n (readN v))) := by
  have h2 := readN_lt v
  obtain ⟨a1, a2, a3, a4, a5⟩ := h
  refine carryN_le _ ⟨?_, ?_, ?_, ?_, ?_⟩ <;> simp only [addN] <;> omega
theorem prod_le (m r : Nm) (hm : Okn m) (hr : r.a < 67108864 ∧ r.b < 67108864 ∧ r.c < 67108864 ∧ r.d < 67108864 ∧ r.e < 67108864) : (timesP m r).le 1152921504606846976 := by
  obtain ⟨h1, h2, h3, h4, h5⟩ := hm
  obtain ⟨k1, k2, k3, k4, k5⟩ := hr
  have paa : m.a * r.a ≤ 4503733845098496 := Nat.le_trans (Nat.mul_le_mul (Nat.le_of_lt (Nat.lt_trans h1 (by decide : 67108864 < 67110864))) (Nat.le_of_lt k1)) (by decide)
  have pab : m.a * r.b ≤ 4503733845098496 := Nat.le_trans (Nat.mul_le_mul (Nat.le_of_lt (Nat.lt_trans h1 (by decide : 67108864 < 67110864))) (Nat.le_of_lt k2)) (by decide)
  have pac : m.a * r.c ≤ 4503733845098496 := Nat.le_trans (Nat.mul_le_mul (Nat.le_of_lt (Nat.lt_trans h1 (by decide : 67108864 < 67110864))) (Nat.le_of_lt k3)) (by decide)
  have pad : m.a * r.d ≤ 4503733845098496 := Nat.le_trans (Nat.mul_le_mul (Nat.le_of_lt (Nat.lt_trans h1 (by decide : 67108864 < 67110864))) (Nat.le_of_lt k4)) (by decide)
  have pae : m.a * r.e ≤ 4503733845098496 := Nat.le_trans (Nat.mul_le_mul (Nat.le_of_lt (Nat.lt_trans h1 (by decide : 67108864 < 67110864))) (Nat.le_of_lt k5)) (by decide)
  have pba : m.b * r.a ≤ 4503733845098496 := Nat.le_trans (Nat.mul_le_mul (Nat.le_of_lt h2) (Nat.le_of_lt k1)) (by decide)
  have pbb : m.b * r.b ≤ 4503733845098496 := Nat.le_trans (Nat.mul_le_mul (Nat.le_of_lt h2) (Nat.le_of_lt k2)) (by decide)
  have pbc : m.b * r.c ≤ 4503733845098496 := Nat.le_trans (Nat.mul_le_mul (Nat.le_of_lt h2) (Nat.le_of_lt k3)) (by decide)
  have pbd : m.b * r.d ≤ 4503733845098496 := Nat.le_trans (Nat.mul_le_mul (Nat.le_of_lt h2) (Nat.le_of_lt k4)) (by decide)
  have pbe : m.b * r.e ≤ 4503733845098496 := Nat.le_trans (Nat.mul_le_mul (Nat.le_of_lt h2) (Nat.le_of_lt k5)) (by decide)
  have pca : m.c * r.a ≤ 4503733845098496 := Nat.le_trans (Nat.mul_le_mul (Nat.le_of_lt (Nat.lt_trans h3 (by decide : 67108864 < 67110864))) (Nat.le_of_lt k1)) (by decide)
  have pcb : m.c * r.b ≤ 4503733845098496 := Nat.le_trans (Nat.mul_le_mul (Nat.le_of_lt (Nat.lt_trans h3 (by decide : 67108864 < 67110864))) (Nat.le_of_lt k2)) (by decide)
  have pcc : m.c * r.c ≤ 4503733845098496 := Nat.le_trans (Nat.mul_le_mul (Nat.le_of_lt (Nat.lt_trans h3 (by decide : 67108864 < 67110864))) (Nat.le_of_lt k3)) (by decide)
  have pcd : m.c * r.d ≤ 4503733845098496 := Nat.le_trans (Nat.mul_le_mul (Nat.le_of_lt (Nat.lt_trans h3 (by decide : 67108864 < 67110864))) (Nat.le_of_lt k4)) (by decide)
  have pce : m.c * r.e ≤ 4503733845098496 := Nat.le_trans (Nat.mul_le_mul (Nat.le_of_lt (Nat.lt_trans h3 (by decide : 67108864 < 67110864))) (Nat.le_of_lt k5)) (by decide)
  have pda : m.d * r.a ≤ 4503733845098496 := Nat.le_trans (Nat.mul_le_mul (Nat.le_of_lt (Nat.lt_trans h4 (by decide : 67108864 < 67110864))) (Nat.le_of_lt k1)) (by decide)
  have pdb : m.d * r.b ≤ 4503733845098496 := Nat.le_trans (Nat.mul_le_mul (Nat.le_of_lt (Nat.lt_trans h4 (by decide : 67108864 < 67110864))) (Nat.le_of_lt k2)) (by decide)
  have pdc : m.d * r.c ≤ 4503733845098496 := Nat.le_trans (Nat.mul_le_mul (Nat.le_of_lt (Nat.lt_trans h4 (by decide : 67108864 < 67110864))) (Nat.le_of_lt k3)) (by decide)
  have pdd : m.d * r.d ≤ 4503733845098496 := Nat.le_trans (Nat.mul_le_mul (Nat.le_of_lt (Nat.lt_trans h4 (by decide : 67108864 < 67110864))) (Nat.le_of_lt k4)) (by decide)
  have pde : m.d * r.e ≤ 4503733845098496 := Nat.le_trans (Nat.mul_le_mul (Nat.le_of_lt (Nat.lt_trans h4 (by decide : 67108864 < 67110864))) (Nat.le_of_lt k5)) (by decide)
  have pea : m.e * r.a ≤ 4503733845098496 := Nat.le_trans (Nat.mul_le_mul (Nat.le_of_lt (Nat.lt_trans h5 (by decide : 67108864 < 67110864))) (Nat.le_of_lt k1)) (by decide)
  have peb : m.e * r.b ≤ 4503733845098496 := Nat.le_trans (Nat.mul_le_mul (Nat.le_of_lt (Nat.lt_trans h5 (by decide : 67108864 < 67110864))) (Nat.le_of_lt k2)) (by decide)
  have pec : m.e * r.c ≤ 4503733845098496 := Nat.le_trans (Nat.mul_le_mul (Nat.le_of_lt (Nat.lt_trans h5 (by decide : 67108864 < 67110864))) (Nat.le_of_lt k3)) (by decide)
  have ped : m.e * r.d ≤ 4503733845098496 := Nat.le_trans (Nat.mul_le_mul (Nat.le_of_lt (Nat.lt_trans h5 (by decide : 67108864 < 67110864))) (Nat.le_of_lt k4)) (by decide)
  have pee : m.e * r.e ≤ 4503733845098496 := Nat.le_trans (Nat.mul_le_mul (Nat.le_of_lt (Nat.lt_trans h5 (by decide : 67108864 < 67110864))) (Nat.le_of_lt k5)) (by decide)
  refine ⟨?_, ?_, ?_, ?_, ?_⟩ <;> simp only [timesP] <;> omega
theorem stepN_lt (r n : Nm) (blk : List UInt8) (h : Okn n) (hr : r.a < 67108864 ∧ r.b < 67108864 ∧ r.c < 67108864 ∧ r.d < 67108864 ∧ r.e < 67108864) : Okn (stepN r n blk) := carryN_le _ (prod_le _ _ (mid_lt _ _ h) hr)

end Go.Proofs.YtccfjidpdlfenaaDoor
namespace Go.Proofs.YtccfjidpdlfenaaDoor
open Go.Am
set_option linter.unusedSimpArgs false
set_option linter.unusedVariables false
set_option maxRecDepth 100000
/-! Layer 7: tags, whole. -/
def polyKey (key : List UInt8) : Nm := readN (leV (clampB key))
def tagB (key msg : List UInt8) : List UInt8 := sumP (writeB (leastN (tagAcc (polyKey key) msg.length ⟨0, 0, 0, 0, 0⟩ msg))) (key.drop 16)
@[go_sem] theorem tagB_len (key msg : List UInt8) : (tagB key msg).length = 16 := by simp [tagB, sumP]
@[go_sem] theorem writeB_len (n : Nm) : (writeB n).length = 16 := by simp [writeB]
theorem tagAcc_lt (r : Nm) (hr : r.a < 67108864 ∧ r.b < 67108864 ∧ r.c < 67108864 ∧ r.d < 67108864 ∧ r.e < 67108864) : ∀ (k : Nat) (n : Nm) (msg : List UInt8), Okn n → Okn (tagAcc r k n msg)
  | 0, n, msg, h => h
  | k + 1, n, msg, h => by
    rw [tagAcc]; split
    · exact h
    · exact tagAcc_lt r hr k _ _ (stepN_lt _ _ _ h hr)
theorem tagAcc_fuel (r : Nm) : ∀ (k k' : Nat) (n : Nm) (msg : List UInt8), msg.length ≤ k → msg.length ≤ k' → tagAcc r k n msg = tagAcc r k' n msg
  | 0, 0, _, _, _, _ => rfl
  | 0, k' + 1, n, msg, h, _ => by
    have : msg = [] := List.eq_nil_of_length_eq_zero (by omega)
    simp [tagAcc, this]
  | k + 1, 0, n, msg, _, h => by
    have : msg = [] := List.eq_nil_of_length_eq_zero (by omega)
    simp [tagAcc, this]
  | k + 1, k' + 1, n, msg, h, h' => by
    rw [tagAcc, tagAcc]
    split
    · rfl
    · rename_i hne
      have : 0 < msg.length := List.length_pos_iff.2 hne
      exact tagAcc_fuel r k k' _ _ (by simp; omega) (by simp; omega)

set_option maxHeartbeats 8000000 in
@[go_sem] theorem e127 (key msg : List UInt8) (hk : key.length = 32) (hm : msg.length ≤ 1000000000) : fn C 127 [] [.slice 1 (key.map byteRow), .slice 1 (msg.map byteRow)] = some (.tup [.usl 1 ((tagB key msg).map byteRow), .int .i64 0], []) := by
  rw [fn_text Tryd.func127 rfl rfl Tryd.results127 fq127.1 rfl rfl (by kernel_rfl)]
  have hcl := clampB_len key (by omega)
  have hc := e143 key (by omega)
  have hrd := e142 (clampB key) (by omega)
  have hr := readN_lt (leV (clampB key))
  simp -implicitDefEqProofs -dsimp +contextual (maxSteps := 5000000) (disch := first | omega | simp only [go_sem] <;> omega | refine ib ?_; kernel_rfl) only [go_sem, Nat.reduceBEq, Int.reduceNeg, Int.reduceLT, Int.reduceLE, Int.reduceAdd, Int.reduceSub, Int.reduceToNat, Int.reduceMul, Int.reduceMod, Int.reduceTMod, Int.reduceTDiv, Int.reduceEq, Nat.reducePow, Nat.reduceDiv, Nat.reduceShiftRight, Nat.reduceMod, List.reduceReplicate, ↓reduceIte, Nat.reduceEqDiff, Nat.reduceAdd, Nat.reduceSub, Nat.reduceLeDiff, Nat.reduceLT, Nat.reduceMul, hk, hc, hrd]
  have e0 : tagB key msg = sumP (writeB (leastN (tagAcc (readN (leV (clampB key))) (msg.length - 0) ⟨0, 0, 0, 0, 0⟩ (msg.drop 0)))) (key.drop 16) := rfl
  rw [e0]
  generalize readN (leV (clampB key)) = r at *
  refine kLoop_rec2 (fun (i : Nat) (n : Nm) f H => f 0 = .slice 1 (key.map byteRow) ∧ f 1 = .slice 1 (msg.map byteRow) ∧ f 6 = .ptr 106 1 0 0 ∧ f 7 = .ptr 107 1 0 0 ∧ f 8 = .int .i64 ((16 * i : Nat) : Int) ∧ H 106 = ⟨1, .live, 5, [r.cs], false⟩ ∧ H 107 = ⟨1, .live, 5, [n.cs], false⟩ ∧ 16 * i ≤ msg.length + 15 ∧ Okn n) (fun i _ => msg.length + 16 - 16 * i) (fun i n => some (.tup [.usl 1 ((sumP (writeB (leastN (tagAcc r (msg.length - 16 * i) n (msg.drop (16 * i))))) (key.drop 16)).map byteRow), .int .i64 0], [])) ?_ 0 ⟨0, 0, 0, 0, 0⟩ _ _ ?_
  rotate_left
  · exact ⟨rfl, rfl, rfl, rfl, rfl, rfl, rfl, by omega, by simp [Okn]⟩
  rintro i n f H ⟨f0, f1, f6, f7, f8, H106, H107, hi, hn⟩ ih
  by_cases hl : 16 * i < msg.length
  · have e : (if msg.length < 16 * i + 16 then (msg.length : Int) else ((16 * i + 16 : Nat) : Int)) = ((min (16 * i + 16) msg.length : Nat) : Int) := by split <;> omega
    have et : List.take (min (16 * i + 16) msg.length - 16 * i) (List.drop (16 * i) msg) = (msg.drop (16 * i)).take 16 := by
      by_cases h : 16 * i + 16 ≤ msg.length
      · rw [Nat.min_eq_left h, Nat.add_sub_cancel_left]
      · rw [Nat.min_eq_right (by omega), List.take_of_length_le (by simp), List.take_of_length_le (by simp; omega)]
    have ha : ∀ l : List UInt8, l.map byteRow ++ [[AVal.int .u8 1]] = (l ++ [1]).map byteRow := fun l => by simp [byteRow]
    have hbl : ((msg.drop (16 * i)).take 16 ++ [1]).length ≤ 17 := by simp; omega
    have hq := readN_lt (leV ((msg.drop (16 * i)).take 16 ++ [1]))
    have hmid := mid_lt n (leV ((msg.drop (16 * i)).take 16 ++ [1])) hn
    have hstep := stepN_lt r n ((msg.drop (16 * i)).take 16) hn hr
    have hR := e142 ((msg.drop (16 * i)).take 16 ++ [1]) hbl
    have hadd : (addN n (readN (leV ((msg.drop (16 * i)).take 16 ++ [1])))).le 1152921504606846976 := by
      obtain ⟨a1, a2, a3, a4, a5⟩ := hn
      obtain ⟨q1, q2, q3, q4, q5⟩ := hq
      refine ⟨?_, ?_, ?_, ?_, ?_⟩ <;> simp only [addN] <;> omega
    have hgo : tagAcc r (msg.length - 16 * i) n (msg.drop (16 * i)) = tagAcc r (msg.length - 16 * (i + 1)) (stepN r n ((msg.drop (16 * i)).take 16)) (msg.drop (16 * (i + 1))) := by
      rw [show msg.length - 16 * i = (msg.length - 16 * i - 1) + 1 by omega, tagAcc, if_neg (by intro h; have := congrArg List.length h; simp at this; omega), List.drop_drop, show 16 * i + 16 = 16 * (i + 1) by omega]
      exact tagAcc_fuel _ _ _ _ _ (by simp; omega) (by simp)
    rw [hgo, stepN]
    have hfin := fun f' H' a => ih (i + 1) (stepN r n ((msg.drop (16 * i)).take 16)) f' H' a (by omega)
    clear ih hgo
    rw [stepN] at hfin hstep
    generalize readN (leV ((msg.drop (16 * i)).take 16 ++ [1])) = q at *
    obtain ⟨a1, a2, a3, a4, a5⟩ := hn
    obtain ⟨r1, r2, r3, r4, r5⟩ := hr
    obtain ⟨q1, q2, q3, q4, q5⟩ := hq
    obtain ⟨d1, d2, d3, d4, d5⟩ := hadd
    obtain ⟨m1, m2, m3, m4, m5⟩ := hmid
    simp -implicitDefEqProofs -dsimp +contextual (maxSteps := 5000000) (disch := first | omega | simp only [go_sem] <;> omega | refine ib ?_; kernel_rfl) only [go_sem, Nat.reduceBEq, Int.reduceNeg, Int.reduceLT, Int.reduceLE, Int.reduceAdd, Int.reduceSub, Int.reduceToNat, Int.reduceMul, Int.reduceMod, Int.reduceTMod, Int.reduceTDiv, Int.reduceEq, Nat.reducePow, Nat.reduceDiv, Nat.reduceShiftRight, Nat.reduceMod, List.reduceReplicate, ↓reduceIte, Nat.reduceEqDiff, Nat.reduceAdd, Nat.reduceSub, Nat.reduceLeDiff, Nat.reduceLT, Nat.reduceMul, f0, f1, f6, f7, f8, H106, H107, hl, e, et, ha, hR]
    exact hfin _ _ ⟨f0, f1, f6, f7, rfl, H106, rfl, by omega, hstep⟩
  · have hlt := leastN_lt n (by obtain ⟨a1, a2, a3, a4, a5⟩ := hn; exact ⟨by omega, by omega, by omega, by omega, by omega⟩)
    have hnil : tagAcc r (msg.length - 16 * i) n [] = n := by cases (msg.length - 16 * i) <;> simp [tagAcc]
    obtain ⟨a1, a2, a3, a4, a5⟩ := hn
    obtain ⟨l1, l2, l3, l4, l5⟩ := hlt
    simp -implicitDefEqProofs -dsimp +contextual (maxSteps := 5000000) (disch := first | omega | simp only [go_sem] <;> omega | refine ib ?_; kernel_rfl) only [go_sem, Nat.reduceBEq, Int.reduceNeg, Int.reduceLT, Int.reduceLE, Int.reduceAdd, Int.reduceSub, Int.reduceToNat, Int.reduceMul, Int.reduceMod, Int.reduceTMod, Int.reduceTDiv, Int.reduceEq, Nat.reducePow, Nat.reduceDiv, Nat.reduceShiftRight, Nat.reduceMod, List.reduceReplicate, ↓reduceIte, Nat.reduceEqDiff, Nat.reduceAdd, Nat.reduceSub, Nat.reduceLeDiff, Nat.reduceLT, Nat.reduceMul, f0, f1, f6, f7, f8, H106, H107, hl, hnil]

@[go_sem] theorem e108 (key msg tag : List UInt8) (hk : key.length = 32) (hm : msg.length ≤ 1000000000) : fn C 108 [] [.slice 1 (key.map byteRow), .slice 1 (msg.map byteRow), .slice 1 (tag.map byteRow)] = some (.bool (decide (tagB key msg = tag)), []) := by
  rw [fn_text Tryd.func108 rfl rfl Tryd.results108 fq108.1 rfl rfl (by kernel_rfl)]
  simp -implicitDefEqProofs -dsimp +contextual (maxSteps := 5000000) (disch := first | omega | simp only [go_sem] <;> omega | refine ib ?_; kernel_rfl) only [go_sem, Nat.reduceBEq, Int.reduceNeg, Int.reduceLT, Int.reduceLE, Int.reduceAdd, Int.reduceSub, Int.reduceToNat, Int.reduceMul, Int.reduceMod, Int.reduceTMod, Int.reduceTDiv, Int.reduceEq, Nat.reducePow, Nat.reduceDiv, Nat.reduceShiftRight, Nat.reduceMod, List.reduceReplicate, ↓reduceIte, Nat.reduceEqDiff, Nat.reduceAdd, Nat.reduceSub, Nat.reduceLeDiff, Nat.reduceLT, Nat.reduceMul]

end Go.Proofs.YtccfjidpdlfenaaDoor
namespace Go.Proofs.YtccfjidpdlfenaaDoor
open Go.Am
set_option linter.unusedSimpArgs false
set_option linter.unusedVariables false
set_option maxRecDepth 100000
/-! Layer 7: what the parts' numbers come to. -/
def P0 : Nat := 1361129467683753853853498429727072845819
theorem timesP_val (n m : Nm) : (timesP n m).val + 1361129467683753853853498429727072845819 * (n.b * m.e + n.c * m.d + n.d * m.c + n.e * m.b + 67108864 * (n.c * m.e + n.d * m.d + n.e * m.c) + 4503599627370496 * (n.d * m.e + n.e * m.d) + 302231454903657293676544 * (n.e * m.e)) = n.val * m.val := by
  simp only [timesP, Nm.val]
  grind
theorem mod_of_add {x y k : Nat} (h : x + k * P0 = y) : x % P0 = y % P0 := by
  rw [← h, Nat.add_mul_mod_self_right]
theorem timesP_mod (n m : Nm) : (timesP n m).val % P0 = n.val * m.val % P0 := by
  rw [← timesP_val n m]
  show _ = (_ + P0 * _) % P0
  rw [Nat.add_mul_mod_self_left]
theorem carryN_mod (n : Nm) : (carryN n).val % P0 = n.val % P0 := mod_of_add (carryN_val n)
theorem addN_val (n m : Nm) : (addN n m).val = n.val + m.val := by simp only [addN, Nm.val]; omega
theorem readN_val (v : Nat) (h : v < 1361129467683753853853498429727072845824) : (readN v).val = v := by simp only [readN, Nm.val]; omega
theorem leV_block (b : List UInt8) (h : b.length ≤ 16) : leV (b ++ [1]) < 1361129467683753853853498429727072845824 := by
  have h1 := leV_lt b
  have h2 : (256 : Nat) ^ b.length ≤ 256 ^ 16 := Nat.pow_le_pow_right (by decide) h
  rw [leV_app]
  have h3 : leV [1] = 1 := rfl
  rw [h3, Nat.mul_one]
  have : (256 : Nat) ^ 16 + 256 ^ 16 < 1361129467683753853853498429727072845824 := by decide
  omega
theorem stepN_mod (r n : Nm) (blk : List UInt8) (h : blk.length ≤ 16) : (stepN r n blk).val % P0 = (n.val % P0 + leV (blk ++ [1])) * r.val % P0 := by
  rw [stepN, carryN_mod, timesP_mod, Nat.mul_mod, carryN_mod, addN_val, readN_val _ (leV_block blk h), ← Nat.mul_mod, Nat.mul_mod, Nat.mul_mod (n.val % P0 + leV (blk ++ [1]))]
  simp
/-- The number of a text, modulo the prime. -/
def macV (r : Nat) : Nat → Nat → List UInt8 → Nat
  | 0, n, _ => n
  | k + 1, n, msg => if msg = [] then n else macV r k ((n + leV (msg.take 16 ++ [1])) * r % P0) (msg.drop 16)
theorem tagAcc_mod (r : Nm) : ∀ (k : Nat) (n : Nm) (msg : List UInt8), (tagAcc r k n msg).val % P0 = macV r.val k (n.val % P0) msg
  | 0, _, _ => rfl
  | k + 1, n, msg => by
    rw [tagAcc, macV]
    split
    · rfl
    · rw [tagAcc_mod r k, stepN_mod r n _ (by simp; omega)]
theorem carry5N_val (n : Nm) : (carry5N n).val = n.val + 5 := by simp only [carry5N, Nm.val]; omega
theorem least_low (a b c d e v : Nat) (hv : a + b * 67108864 + c * 4503599627370496 + d * 302231454903657293676544 + e * 20282409603651670423947251286016 = v + 5) (h0 : e < 67108864) (h1 : a < 67108864) (h2 : b < 67108864) (h3 : c < 67108864) (h4 : d < 67108864) : v < 1361129467683753853853498429727072845819 := by omega
theorem least_high (a b c d e v : Nat) (hv : a + b * 67108864 + c * 4503599627370496 + d * 302231454903657293676544 + e * 20282409603651670423947251286016 = v + 5) (hm : v < 1361129467683753853853498429727072845824) (h0 : 67108864 ≤ e) (h1 : a < 67108864) (h2 : b < 67108864) (h3 : c < 67108864) (h4 : d < 67108864) : v = 1361129467683753853853498429727072845819 + (a + b * 67108864 + c * 4503599627370496 + d * 302231454903657293676544 + e % 67108864 * 20282409603651670423947251286016) ∧ v < 2 * 1361129467683753853853498429727072845819 := by
  have : e < 67108865 := by omega
  have h5 : e = 67108864 := by omega
  subst h5
  omega
theorem Nm.val_lt (m : Nm) (h : m.a < 67108864 ∧ m.b < 67108864 ∧ m.c < 67108864 ∧ m.d < 67108864 ∧ m.e < 67108864) : m.val < 1361129467683753853853498429727072845824 := by simp only [Nm.val]; omega
theorem Nm.le_of_lt {m : Nm} (h : m.a < 67108864 ∧ m.b < 67108864 ∧ m.c < 67108864 ∧ m.d < 67108864 ∧ m.e < 67108864) : m.le 1152921504606846976 := ⟨by omega, by omega, by omega, by omega, by omega⟩
theorem leastN_val (n : Nm) (h : n.le 1152921504606846976) : (leastN n).val = n.val % P0 := by
  have h1 := carryN_lt _ (carryN_le n h)
  have e : (carryN (carryN n)).val % P0 = n.val % P0 := by rw [carryN_mod, carryN_mod]
  rw [← e]
  unfold leastN
  simp only
  generalize carryN (carryN n) = m at h1 e
  clear e h n
  obtain ⟨i1, i2, i3, i4, i5⟩ := carry5N_le m (Nm.le_of_lt h1)
  have hq := carry5N_val m
  have hm := m.val_lt h1
  generalize carry5N m = q at *
  split
  · rename_i h0
    rw [P0, Nat.mod_eq_of_lt (least_low q.a q.b q.c q.d q.e m.val hq (by omega) i1 i2 i3 i4)]
  · rename_i h0
    obtain ⟨k1, k2⟩ := least_high q.a q.b q.c q.d q.e m.val hq hm (by omega) i1 i2 i3 i4
    show q.a + q.b * 67108864 + q.c * 4503599627370496 + q.d * 302231454903657293676544 + q.e % 67108864 * 20282409603651670423947251286016 = m.val % P0
    rw [P0]
    generalize q.a + q.b * 67108864 + q.c * 4503599627370496 + q.d * 302231454903657293676544 + q.e % 67108864 * 20282409603651670423947251286016 = t at *
    rw [k1, Nat.add_mod_left, Nat.mod_eq_of_lt (by omega)]
theorem Okn.le {n : Nm} (h : Okn n) : n.le 1152921504606846976 := by
  obtain ⟨h1, h2, h3, h4, h5⟩ := h
  exact ⟨by omega, by omega, by omega, by omega, by omega⟩
def leB (n k : Nat) : List UInt8 := (List.range k).map fun i => UInt8.ofNat (n / 256 ^ i)
theorem writeB_eq (n : Nm) : writeB n = leB n.val 16 := rfl
theorem okn0 : Okn ⟨0, 0, 0, 0, 0⟩ := by simp [Okn]
/-- The tag, by the number. -/
theorem tagB_val (key msg : List UInt8) : tagB key msg = sumP (leB (macV (leV (clampB key) % 1361129467683753853853498429727072845824) msg.length 0 msg) 16) (key.drop 16) := by
  have hr : (polyKey key).val = leV (clampB key) % 1361129467683753853853498429727072845824 := by
    rw [polyKey, ← readN_val (leV (clampB key) % _) (Nat.mod_lt _ (by decide))]
    simp only [readN, Nm.val]; omega
  rw [tagB, writeB_eq, leastN_val _ (Okn.le (tagAcc_lt (polyKey key) (readN_lt _) _ _ _ okn0)), tagAcc_mod, hr]
  rfl

/-! Layer 7, by the document: numbers by their digits. -/
def dV : List Nat → Nat
  | [] => 0
  | x :: l => x + 256 * dV l
theorem dV_app : ∀ l m : List Nat, dV (l ++ m) = dV l + 256 ^ l.length * dV m
  | [], m => by simp [dV]
  | x :: l, m => by simp only [List.cons_append, dV, dV_app l m, List.length_cons, Nat.pow_succ]; grind
theorem dV_rep (k : Nat) : dV (List.replicate k 0) = 0 := by
  induction k with
  | zero => rfl
  | succ k ih => simp [List.replicate_succ, dV, ih]
def Dg (l : List Nat) : Prop := ∀ x ∈ l, x < 256
theorem dV_lt : ∀ l : List Nat, Dg l → dV l < 256 ^ l.length
  | [], _ => by simp [dV]
  | x :: l, h => by
    have h1 := dV_lt l (fun y hy => h y (List.mem_cons_of_mem _ hy))
    have h2 := h x (by simp)
    simp only [dV, List.length_cons, Nat.pow_succ]
    generalize 256 ^ l.length = q at *
    omega
theorem dV_get : ∀ (l : List Nat) (i : Nat) (_ : Dg l) (hi : i < l.length), l[i] = dV l / 256 ^ i % 256
  | [], _, _, hi => by simp at hi
  | x :: l, 0, h, _ => by have := h x (by simp); simp [dV]; omega
  | x :: l, i + 1, h, hi => by
    have := dV_get l i (fun y hy => h y (List.mem_cons_of_mem _ hy)) (by simpa using hi)
    have h2 := h x (by simp)
    have e : (x + 256 * dV l) / 256 = dV l := by omega
    simp only [List.getElem_cons_succ, dV, this, Nat.pow_succ]
    rw [Nat.mul_comm (256 ^ i) 256, ← Nat.div_div_eq_div_mul, e]
theorem dV_take (l : List Nat) (k : Nat) (h : Dg l) : dV (l.take k) = dV l % 256 ^ k := by
  by_cases hk : k ≤ l.length
  · have e := dV_app (l.take k) (l.drop k)
    rw [List.take_append_drop, List.length_take, Nat.min_eq_left hk] at e
    have h1 := dV_lt (l.take k) (fun x hx => h x (List.mem_of_mem_take hx))
    rw [List.length_take, Nat.min_eq_left hk] at h1
    rw [e, Nat.add_mul_mod_self_left, Nat.mod_eq_of_lt h1]
  · rw [List.take_of_length_le (by omega), Nat.mod_eq_of_lt (Nat.lt_of_lt_of_le (dV_lt l h) (Nat.pow_le_pow_right (by decide) (by omega)))]
theorem dV_set : ∀ (l : List Nat) (j v : Nat) (h : j < l.length), dV (l.set j (l[j] + v)) = dV l + v * 256 ^ j
  | [], _, _, h => by simp at h
  | x :: l, 0, v, _ => by simp [dV]; omega
  | x :: l, j + 1, v, h => by
    have := dV_set l j v (by simpa using h)
    simp only [List.getElem_cons_succ, List.set_cons_succ, dV, this, Nat.pow_succ]
    grind
theorem dV_bytes (b : List UInt8) : dV (b.map UInt8.toNat) = leV b := by
  induction b with
  | nil => rfl
  | cons x b ih => simp [dV, leV, ih]
def carrG : Nat → List Nat → List Nat
  | _, [] => []
  | o, x :: l => (o + x) % 256 :: carrG ((o + x) / 256) l
theorem carrG_len : ∀ (l : List Nat) (o : Nat), (carrG o l).length = l.length
  | [], _ => rfl
  | _ :: l, o => by simp [carrG, carrG_len l]
theorem carrG_dg : ∀ (l : List Nat) (o : Nat), Dg (carrG o l)
  | [], _ => by simp [carrG, Dg]
  | x :: l, o => by
    intro y hy
    simp only [carrG, List.mem_cons] at hy
    rcases hy with rfl | hy
    · omega
    · exact carrG_dg l _ y hy
theorem carrG_val : ∀ (l : List Nat) (o : Nat), dV (carrG o l) = (o + dV l) % 256 ^ l.length
  | [], o => by simp [carrG, dV, Nat.mod_one]
  | x :: l, o => by
    simp only [carrG, dV, carrG_val l, List.length_cons, Nat.pow_succ]
    rw [Nat.mul_comm (256 ^ l.length) 256, Nat.mod_mul]
    congr 1
    · omega
    · rw [show (o + (x + 256 * dV l)) / 256 = (o + x) / 256 + dV l by omega]
/-- Carried. -/
def carrR (n : List Nat) : List Nat := carrG 0 (n ++ [0, 0, 0, 0])
theorem carrR_len (n : List Nat) : (carrR n).length = n.length + 4 := by simp [carrR, carrG_len]
theorem carrR_dg (n : List Nat) : Dg (carrR n) := carrG_dg _ _
theorem carrR_val (n : List Nat) (h : dV n < 256 ^ (n.length + 4)) : dV (carrR n) = dV n := by
  rw [carrR, carrG_val, dV_app, Nat.zero_add]
  simp only [dV, Nat.mul_zero, Nat.add_zero, List.length_append]
  exact Nat.mod_eq_of_lt h
/-- A row of products. -/
def rowG (x : Nat) : List Nat → Nat → List Nat → List Nat
  | out, _, [] => out
  | out, j, y :: bs => rowG x (out.set j (out.getD j 0 + x * y)) (j + 1) bs
theorem getD_at (l : List Nat) (j : Nat) (h : j < l.length) : l.getD j 0 = l[j] := by simp [List.getD_eq_getElem?_getD, h]
theorem rowG_len (x : Nat) : ∀ (bs out : List Nat) (j : Nat), (rowG x out j bs).length = out.length
  | [], _, _ => rfl
  | _ :: bs, out, j => by simp [rowG, rowG_len x bs]
theorem rowG_val (x : Nat) : ∀ (bs out : List Nat) (j : Nat), j + bs.length ≤ out.length → dV (rowG x out j bs) = dV out + x * 256 ^ j * dV bs
  | [], _, _, _ => by simp [rowG, dV]
  | y :: bs, out, j, h => by
    simp only [List.length_cons] at h
    rw [rowG, rowG_val x bs _ _ (by simp; omega), getD_at _ _ (by omega), dV_set, dV, Nat.pow_succ]
    grind
def convG (b : List Nat) : List Nat → Nat → List Nat → List Nat
  | out, _, [] => out
  | out, i, x :: cs => convG b (rowG x out i b) (i + 1) cs
theorem convG_len (b : List Nat) : ∀ (cs out : List Nat) (i : Nat), (convG b out i cs).length = out.length
  | [], _, _ => rfl
  | _ :: cs, out, i => by simp [convG, convG_len b cs, rowG_len]
theorem convG_val (b : List Nat) : ∀ (cs out : List Nat) (i : Nat), i + cs.length + b.length ≤ out.length + 1 → dV (convG b out i cs) = dV out + 256 ^ i * dV cs * dV b
  | [], _, _, _ => by simp [convG, dV]
  | x :: cs, out, i, h => by
    simp only [List.length_cons] at h
    rw [convG, convG_val b cs _ _ (by rw [rowG_len]; omega), rowG_val _ _ _ _ (by omega), dV, Nat.pow_succ]
    grind
/-- Folded. -/
def foldR (n : List Nat) : List Nat := rowG 320 ((n.take 16 ++ ((n.getD 16 0 % 4) :: List.replicate 7 0)).set 0 (n.getD 0 0 + n.getD 16 0 / 4 * 5)) 0 (n.drop 17)
theorem foldR_len (n : List Nat) (h : 16 ≤ n.length) : (foldR n).length = 24 := by simp [foldR, rowG_len]; omega
theorem foldR_val (n : List Nat) (hd : Dg n) (h : 17 ≤ n.length) (h2 : n.length ≤ 41) : dV (foldR n) = dV n % 1361129467683753853853498429727072845824 + 5 * (dV n / 1361129467683753853853498429727072845824) := by
  have hl : (n.take 16 ++ ((n.getD 16 0 % 4) :: List.replicate 7 0)).length = 24 := by simp; omega
  have e0 : (n.take 16 ++ ((n.getD 16 0 % 4) :: List.replicate 7 0))[0]'(by omega) = n.getD 0 0 := by
    rw [List.getElem_append_left (by simp; omega), List.getElem_take, getD_at _ _ (by omega)]
  have es := dV_set (n.take 16 ++ ((n.getD 16 0 % 4) :: List.replicate 7 0)) 0 (n.getD 16 0 / 4 * 5) (by omega)
  rw [e0, Nat.pow_zero, Nat.mul_one] at es
  rw [foldR, rowG_val _ _ _ _ (by rw [List.length_set, hl]; simp; omega), es, dV_app, dV, dV_rep, List.length_take, Nat.min_eq_left (by omega), Nat.pow_zero]
  have e1 := dV_app (n.take 16) (n.drop 16)
  rw [List.take_append_drop, List.length_take, Nat.min_eq_left (by omega), List.drop_eq_getElem_cons (by omega), dV, ← getD_at n 16 (by omega)] at e1
  have h1 := dV_lt (n.take 16) (fun x hx => hd x (List.mem_of_mem_take hx))
  rw [List.length_take, Nat.min_eq_left (by omega)] at h1
  clear e0 es hl
  generalize dV (List.take 16 n) = t at *
  generalize n.getD 16 0 = q at *
  have ep : (256 : Nat) ^ 16 = 340282366920938463463374607431768211456 := by decide
  rw [ep] at *
  rw [show 16 + 1 = 17 from rfl] at e1
  generalize dV (List.drop 17 n) = u at *
  rw [e1]
  omega

end Go.Proofs.YtccfjidpdlfenaaDoor
namespace Go.Proofs.YtccfjidpdlfenaaDoor
open Go.Am
set_option linter.unusedSimpArgs false
set_option linter.unusedVariables false
set_option maxRecDepth 100000
/-! Layer 7, by the document: the code. -/
def nR (n : Nat) : List AVal := [.int .i64 (n : Int)]
@[go_sem] theorem nR_eq (n : Nat) : nR n = [.int .i64 (n : Int)] := rfl
@[go_sem] theorem nR_ones (l : List Nat) : ones (l.map nR) = true := ones_map _ _ fun x => rfl
@[go_sem] theorem nR_clos (l : List Nat) : (l.map nR).all clos = true := allclos_map _ (fun _ => rfl) l
@[go_sem] theorem nR_flat (l : List Nat) : flatss (l.map nR) = true := flatss_map _ (fun _ => rfl) l
@[go_sem] theorem set_nR (l : List Nat) (j : Nat) (x : Nat) : (l.map nR).set j [.int .i64 (x : Int)] = (l.set j x).map nR := by rw [List.map_set]; rfl
@[go_sem] theorem set_nRl (l : List Nat) (j : Nat) (x : Nat) : (l.map nR).set j [.int .i64 (no_index (OfNat.ofNat x : Int))] = (l.set j (OfNat.ofNat x)).map nR := by rw [List.map_set]; rfl
def fillN (l : List Nat) (m : Nat) : List Nat := l.take m ++ List.replicate (l.length - m) 0
theorem fillN_len (l : List Nat) (m : Nat) (h : m ≤ l.length) : (fillN l m).length = l.length := by simp [fillN]; omega
theorem fillN_zero (l : List Nat) : fillN l 0 = List.replicate l.length 0 := by simp [fillN]
theorem fillN_all (l : List Nat) (m : Nat) (h : l.length ≤ m) : fillN l m = l := by simp [fillN, List.take_of_length_le h, show l.length - m = 0 by omega]
theorem fillN_set (l : List Nat) (m : Nat) (h : m < l.length) : (fillN l m).set m l[m] = fillN l (m + 1) := by
  unfold fillN
  rw [List.set_append_right _ _ (by simp; omega), List.length_take, Nat.min_eq_left (by omega), Nat.sub_self, show l.length - m = (l.length - (m + 1)) + 1 by omega, List.replicate_succ, List.set_cons_zero, List.take_succ_eq_append_getElem h, List.append_assoc]
  rfl
theorem fillN_tail (l : List Nat) (m k : Nat) (h : m ≤ l.length) (hk : k = l.length - m) : fillN (l.take m ++ List.replicate k 0) m = l.take m ++ List.replicate k 0 := by
  subst hk
  unfold fillN
  rw [List.take_left' (by simp; omega)]
  congr 2
  simp; omega

def carG : Nat → List Nat → Nat → Nat
  | o, _, 0 => o
  | o, l, i + 1 => (carG o l i + l.getD i 0) / 256
theorem carG_cons (o x : Nat) (l : List Nat) : ∀ i, carG o (x :: l) (i + 1) = carG ((o + x) / 256) l i
  | 0 => rfl
  | i + 1 => by rw [carG, carG_cons o x l i, carG]; rfl
theorem carrG_get : ∀ (l : List Nat) (o i : Nat) (h : i < (carrG o l).length), (carrG o l)[i] = (carG o l i + l.getD i 0) % 256
  | [], _, _, h => by simp [carrG] at h
  | x :: l, o, 0, _ => rfl
  | x :: l, o, i + 1, h => by
    simp only [carrG, List.getElem_cons_succ]
    rw [carrG_get l _ i, carG_cons]; rfl
theorem carG_le (o : Nat) (l : List Nat) (ho : o ≤ 1000000000000) (hl : ∀ x ∈ l, x ≤ 1000000000000) : ∀ i, carG o l i ≤ 1000000000000
  | 0 => ho
  | i + 1 => by
    have h1 := carG_le o l ho hl i
    have h2 : l.getD i 0 ≤ 1000000000000 := by
      by_cases h : i < l.length
      · rw [getD_at _ _ h]; exact hl _ (List.getElem_mem h)
      · simp [List.getD_eq_getElem?_getD, List.getElem?_eq_none (Nat.le_of_not_lt h)]
    rw [carG]; omega
theorem pad4 (n : List Nat) (i : Nat) (h : n.length ≤ i) : (n ++ [0, 0, 0, 0]).getD i 0 = 0 := by
  rw [List.getD_eq_getElem?_getD, List.getElem?_append_right h]
  generalize i - n.length = k
  match k with
  | 0 => rfl
  | 1 => rfl
  | 2 => rfl
  | 3 => rfl
  | k + 4 => rfl
end Go.Proofs.YtccfjidpdlfenaaDoor
namespace Go.Proofs.YtccfjidpdlfenaaDoor
open Go.Am
set_option linter.unusedSimpArgs false
set_option linter.unusedVariables false
set_option maxRecDepth 100000

end Go.Proofs.YtccfjidpdlfenaaDoor
namespace Go.Proofs.YtccfjidpdlfenaaDoor
open Go.Am
set_option linter.unusedSimpArgs false
set_option linter.unusedVariables false
set_option maxRecDepth 100000

end Go.Proofs.YtccfjidpdlfenaaDoor
namespace Go.Proofs.YtccfjidpdlfenaaDoor
open Go.Am
set_option linter.unusedSimpArgs false
set_option linter.unusedVariables false
set_option maxRecDepth 100000

end Go.Proofs.YtccfjidpdlfenaaDoor
namespace Go.Proofs.YtccfjidpdlfenaaDoor
open Go.Am
set_option linter.unusedSimpArgs false
set_option linter.unusedVariables false
set_option maxRecDepth 100000
/-! Layer 8: boxes. -/
def padB (l : List UInt8) : List UInt8 := l ++ List.replicate ((16 - l.length % 16) % 16) 0
theorem padB_done (l : List UInt8) (h : l.length % 16 = 0) : padB l = l := by simp [padB, h]
theorem padB_more (l : List UInt8) (h : l.length % 16 ≠ 0) : padB (l ++ [0]) = padB l := by
  unfold padB
  rw [List.append_assoc]
  congr 1
  rw [show [(0 : UInt8)] = List.replicate 1 0 from rfl, List.replicate_append_replicate]
  congr 1
  simp; omega
theorem padB_len (l : List UInt8) : (padB l).length ≤ l.length + 15 := by simp [padB]; omega
def le8 (n : Nat) : List UInt8 := [UInt8.ofNat (n / 1), UInt8.ofNat (n / 256), UInt8.ofNat (n / 65536), UInt8.ofNat (n / 16777216), UInt8.ofNat (n / 4294967296), UInt8.ofNat (n / 1099511627776), UInt8.ofNat (n / 281474976710656), UInt8.ofNat (n / 72057594037927936)]
@[go_sem] theorem le8_len (n : Nat) : (le8 n).length = 8 := rfl
theorem row0 (l : List UInt8) : l.map byteRow ++ [[AVal.int .u8 0]] = (l ++ [0]).map byteRow := by simp [byteRow]

@[go_sem] theorem e107 (l : List UInt8) (hl : l.length ≤ 1000000000) : fn C 107 [] [.usl 1 (l.map byteRow)] = some (.usl 1 ((padB l).map byteRow), []) := by
  rw [fn_text Tryd.func107 rfl rfl Tryd.results107 fq107.1 rfl rfl (by kernel_rfl)]
  simp -implicitDefEqProofs -dsimp +contextual (maxSteps := 9999999) (disch := first | omega | simp only [go_sem] <;> omega | refine ib ?_; kernel_rfl) only [go_sem, seval, ↓reduceIte]
  refine kLoop_rec2 (fun (g : Nat) (m : List UInt8) f H => f 0 = .osl 1 g 0 m.length ∧ (∃ e, H 1 = ⟨g, .live, 1, m.map byteRow, e⟩) ∧ m.length ≤ 1000000016) (fun _ m => (16 - m.length % 16) % 16) (fun _ m => some (.usl 1 ((padB m).map byteRow), [])) ?_ 1 l _ _ ⟨rfl, ⟨_, rfl⟩, by omega⟩
  rintro g m f H ⟨f0, ⟨e, H1⟩, hm⟩ ih
  by_cases h : m.length % 16 = 0
  · simp -implicitDefEqProofs -dsimp +contextual (maxSteps := 9999999) (disch := first | omega | simp only [go_sem] <;> omega | refine ib ?_; kernel_rfl) only [go_sem, seval, ↓reduceIte, f0, H1, h]
    rw [padB_done m h]
  · simp -implicitDefEqProofs -dsimp +contextual (maxSteps := 9999999) (disch := first | omega | simp only [go_sem] <;> omega | refine ib ?_; kernel_rfl) only [go_sem, seval, ↓reduceIte, f0, H1, h, row0]
    rw [← padB_more m h]
    exact ih (g + 1) (m ++ [0]) _ _ ⟨by simp [upd, restr], ⟨_, rfl⟩, by simp; omega⟩ (by simp; omega)

theorem boxLength (ex : List Nat) (hex : ex = [] ∨ ex = [0]) (l : List UInt8) (n : Nat) (hn : n ≤ 1000000000) (hl : l.length ≤ 1000000000) : fn C 109 ex [.usl 1 (l.map byteRow), .int .i64 (n : Int)] = some (.usl 1 ((l ++ le8 n).map byteRow), []) := by
  rcases hex with rfl | rfl
  · rw [fn_text Tryd.func109 rfl rfl Tryd.results109 fq109.1 rfl rfl (by kernel_rfl)]
    simp -implicitDefEqProofs -dsimp +contextual (maxSteps := 9999999) (disch := first | omega | simp only [go_sem] <;> omega | refine ib ?_; kernel_rfl) only [go_sem, seval, ↓reduceIte, kLoop_eq, u8_wrap]
    simp only [le8, List.append_assoc, List.cons_append, List.nil_append]
  · rw [fn_text Tryd.func109 rfl rfl Tryd.results109 fq109.1 rfl rfl (by kernel_rfl)]
    simp -implicitDefEqProofs -dsimp +contextual (maxSteps := 9999999) (disch := first | omega | simp only [go_sem] <;> omega | refine ib ?_; kernel_rfl) only [go_sem, seval, ↓reduceIte, kLoop_eq, u8_wrap]
    simp only [le8, List.append_assoc, List.cons_append, List.nil_append]

@[go_sem] theorem e109 (l : List UInt8) (n : Nat) (hn : n ≤ 1000000000) (hl : l.length ≤ 1000000000) : fn C 109 [] [.usl 1 (l.map byteRow), .int .i64 (n : Int)] = some (.usl 1 ((l ++ le8 n).map byteRow), []) := boxLength [] (.inl rfl) l n hn hl

@[go_sem] theorem e100 (key nonce : List UInt8) : fn C 100 [] [.slice 1 (key.map byteRow), .slice 1 (nonce.map byteRow)] = some (.bool (decide (key.length = 32) && decide (nonce.length = 12)), []) := by
  rw [fn_text Tryd.func100 rfl rfl Tryd.results100 fq100.1 rfl rfl (by kernel_rfl)]
  simp -implicitDefEqProofs -dsimp +contextual (maxSteps := 9999999) (disch := first | omega | simp only [go_sem] <;> omega | refine ib ?_; kernel_rfl) only [go_sem, seval, ↓reduceIte]
  (repeat' (refine kD_intro (fun _ => ?_) (fun _ => ?_))) <;> exact Res_bool (by simp [*])

theorem ofNat0 : ((0 : UInt32).toNat : Int) = 0 := rfl
@[go_sem] theorem eBlock0 (key nonce : List UInt8) : fn C 106 [] [.slice 1 (key.map byteRow), .slice 1 (nonce.map byteRow), .int .u32 0] = some (if key.length = 32 ∧ nonce.length = 12 then .tup [.slice 1 ((blockB key nonce 0).map byteRow), .int .i64 0] else .tup [.slice 1 [], .int .i64 2], []) := e106 key nonce 0
@[go_sem] theorem eXor1 (key nonce msg : List UInt8) (hm : msg.length ≤ 1000000000) : fn C 101 [] [.slice 1 (key.map byteRow), .slice 1 (nonce.map byteRow), .int .u32 1, .slice 1 (msg.map byteRow)] = some (xorR .usl key nonce 1 msg) := e101 key nonce 1 msg hm

def tagX (key nonce wth text : List UInt8) : List UInt8 := tagB ((blockB key nonce 0).take 32) (padB (padB wth ++ text) ++ le8 wth.length ++ le8 text.length)
@[go_sem] theorem tagX_len (key nonce wth text : List UInt8) : (tagX key nonce wth text).length = 16 := by simp [tagX, tagB_len]
set_option maxHeartbeats 4000000 in
@[go_sem] theorem e102 (key nonce wth text : List UInt8) (hk : key.length = 32) (hn : nonce.length = 12) (hw : wth.length ≤ 100000000) (ht : text.length ≤ 100000000) : fn C 102 [] [.slice 1 (key.map byteRow), .slice 1 (nonce.map byteRow), .slice 1 (wth.map byteRow), .slice 1 (text.map byteRow)] = some (.usl 1 ((tagX key nonce wth text).map byteRow), []) := by
  have hp := padB_len wth
  have hp2 := padB_len (padB wth ++ text)
  simp only [List.length_append] at hp2
  rw [fn_text Tryd.func102 rfl rfl Tryd.results102 fq102.1 rfl rfl (by kernel_rfl)]
  have hne : ¬ (wth.length = wth.length + text.length + 64) := by omega
  simp -implicitDefEqProofs -dsimp +contextual (maxSteps := 9999999) (disch := first | omega | simp only [go_sem] <;> omega | refine ib ?_; kernel_rfl) only [go_sem, seval, ↓reduceIte, hk, hn, hne]
  rfl

end Go.Proofs.YtccfjidpdlfenaaDoor
namespace Go.Proofs.YtccfjidpdlfenaaDoor
open Go.Am
set_option linter.unusedSimpArgs false
set_option linter.unusedVariables false
set_option maxRecDepth 100000
/-! Layer 8: boxes, sealed and opened. -/
def z4B : List UInt8 := [0, 0, 0, 0]
@[go_sem] theorem z4B_len : z4B.length = 4 := rfl
def nonceB (n : Nat) : List UInt8 := z4B ++ beN 8 n
@[go_sem] theorem nonceB_len (n : Nat) : (nonceB n).length = 12 := by simp [nonceB, z4B, beN_len]
theorem z4rows : [[AVal.int .u8 (((0 : UInt8).toNat : Nat) : Int)], [AVal.int .u8 (((0 : UInt8).toNat : Nat) : Int)], [AVal.int .u8 (((0 : UInt8).toNat : Nat) : Int)], [AVal.int .u8 (((0 : UInt8).toNat : Nat) : Int)]] = z4B.map byteRow := rfl
theorem z4lits : [[AVal.int .u8 0], [AVal.int .u8 0], [AVal.int .u8 0], [AVal.int .u8 0]] = z4B.map byteRow := rfl
@[go_sem] theorem e67 (n : Nat) (hn : n ≤ 18446744073709551615) : fn C 67 [] [.int .u64 (n : Int)] = some (.slice 1 ((nonceB n).map byteRow), []) := by
  rw [fn_text Tryd.func67 rfl rfl Tryd.results67 fq67.1 rfl rfl (by kernel_rfl)]
  simp -implicitDefEqProofs -dsimp +contextual (maxSteps := 5000000) (disch := first | omega | simp only [go_sem] <;> omega | refine ib ?_; kernel_rfl) only [go_sem, Nat.reduceBEq, Int.reduceNeg, Int.reduceLT, Int.reduceLE, Int.reduceAdd, Int.reduceSub, Int.reduceToNat, Int.reduceMul, Int.reduceMod, Int.reduceTMod, Int.reduceTDiv, Int.reduceEq, Nat.reducePow, Nat.reduceDiv, Nat.reduceShiftRight, Nat.reduceMod, List.reduceReplicate, ↓reduceIte, Nat.reduceEqDiff, Nat.reduceAdd, Nat.reduceSub, Nat.reduceLeDiff, Nat.reduceLT, Nat.reduceMul, z4rows]
  rfl

def sealB (key nonce wth msg : List UInt8) : List UInt8 := xorB key nonce 1 msg ++ tagX key nonce wth (xorB key nonce 1 msg)
theorem sealB_len (key nonce wth msg : List UInt8) : (sealB key nonce wth msg).length = msg.length + 16 := by simp [sealB, xorB_len, tagX_len]
def sealR (mk : Nat → List (List AVal) → AVal) (key nonce wth msg : List UInt8) : Res :=
  if key.length = 32 ∧ nonce.length = 12 then (.tup [mk 1 ((sealB key nonce wth msg).map byteRow), .int .i64 0], []) else (.tup [mk 1 [], .int .i64 2], [])
theorem xorR_ok (mk : Nat → List (List AVal) → AVal) (key nonce msg : List UInt8) (hk : key.length = 32) (hn : nonce.length = 12) (hm : msg.length ≤ 100000000) : xorR mk key nonce 1 msg = (.tup [mk 1 ((xorB key nonce 1 msg).map byteRow), .int .i64 0], []) := by
  rw [xorR, if_pos ⟨hk, hn⟩, if_pos]
  have : (1 : UInt32).toNat = 1 := rfl
  rw [this]; omega

set_option maxHeartbeats 4000000 in
@[go_sem] theorem e65 (key nonce wth msg : List UInt8) (hw : wth.length ≤ 100000000) (hm : msg.length ≤ 100000000) : fn C 65 [] [.slice 1 (key.map byteRow), .slice 1 (nonce.map byteRow), .slice 1 (wth.map byteRow), .slice 1 (msg.map byteRow)] = some (sealR .usl key nonce wth msg) := by
  rw [fn_text Tryd.func65 rfl rfl Tryd.results65 fq65.1 rfl rfl (by kernel_rfl)]
  by_cases hk : key.length = 32
  · by_cases hn : nonce.length = 12
    · have hx := eXor1 key nonce msg (by omega)
      rw [xorR_ok _ _ _ _ hk hn hm] at hx
      rw [sealR, if_pos ⟨hk, hn⟩, sealB]
      have hl := xorB_len key nonce 1 msg
      have ht := e102 key nonce wth (xorB key nonce 1 msg) hk hn hw (by omega)
      have htl := tagX_len key nonce wth (xorB key nonce 1 msg)
      generalize xorB key nonce 1 msg = x at *
      generalize tagX key nonce wth x = t at *
      simp -implicitDefEqProofs -dsimp +contextual (maxSteps := 5000000) (disch := first | omega | simp only [go_sem] <;> omega | refine ib ?_; kernel_rfl) only [go_sem, Nat.reduceBEq, Int.reduceNeg, Int.reduceLT, Int.reduceLE, Int.reduceAdd, Int.reduceSub, Int.reduceToNat, Int.reduceMul, Int.reduceMod, Int.reduceTMod, Int.reduceTDiv, Int.reduceEq, Nat.reducePow, Nat.reduceDiv, Nat.reduceShiftRight, Nat.reduceMod, List.reduceReplicate, ↓reduceIte, Nat.reduceEqDiff, Nat.reduceAdd, Nat.reduceSub, Nat.reduceLeDiff, Nat.reduceLT, Nat.reduceMul, hk, hn, hx, ht, hl, htl]
    · simp -implicitDefEqProofs -dsimp +contextual (maxSteps := 5000000) (disch := first | omega | simp only [go_sem] <;> omega | refine ib ?_; kernel_rfl) only [go_sem, Nat.reduceBEq, Int.reduceNeg, Int.reduceLT, Int.reduceLE, Int.reduceAdd, Int.reduceSub, Int.reduceToNat, Int.reduceMul, Int.reduceMod, Int.reduceTMod, Int.reduceTDiv, Int.reduceEq, Nat.reducePow, Nat.reduceDiv, Nat.reduceShiftRight, Nat.reduceMod, List.reduceReplicate, ↓reduceIte, Nat.reduceEqDiff, Nat.reduceAdd, Nat.reduceSub, Nat.reduceLeDiff, Nat.reduceLT, Nat.reduceMul, hk, hn]
      simp [sealR, hn]
  · simp -implicitDefEqProofs -dsimp +contextual (maxSteps := 5000000) (disch := first | omega | simp only [go_sem] <;> omega | refine ib ?_; kernel_rfl) only [go_sem, Nat.reduceBEq, Int.reduceNeg, Int.reduceLT, Int.reduceLE, Int.reduceAdd, Int.reduceSub, Int.reduceToNat, Int.reduceMul, Int.reduceMod, Int.reduceTMod, Int.reduceTDiv, Int.reduceEq, Nat.reducePow, Nat.reduceDiv, Nat.reduceShiftRight, Nat.reduceMod, List.reduceReplicate, ↓reduceIte, Nat.reduceEqDiff, Nat.reduceAdd, Nat.reduceSub, Nat.reduceLeDiff, Nat.reduceLT, Nat.reduceMul, hk]
    simp [sealR, hk]

def openR (mk : Nat → List (List AVal) → AVal) (key nonce wth sealed : List UInt8) : Res :=
  if key.length = 32 ∧ nonce.length = 12 then
    if sealed.length < 16 then (.tup [mk 1 [], .int .i64 10], [])
    else if tagX key nonce wth (sealed.take (sealed.length - 16)) = sealed.drop (sealed.length - 16) then (.tup [mk 1 ((xorB key nonce 1 (sealed.take (sealed.length - 16))).map byteRow), .int .i64 0], [])
    else (.tup [mk 1 [], .int .i64 21], [])
  else (.tup [mk 1 [], .int .i64 2], [])
theorem len_sub (n m : Nat) (h : ¬ n < m) : ((n : Int) - (m : Int)) = ((n - m : Nat) : Int) := by omega

set_option maxHeartbeats 4000000 in
@[go_sem] theorem e70 (key nonce wth sealed : List UInt8) (hw : wth.length ≤ 100000000) (hm : sealed.length ≤ 100000000) : fn C 70 [] [.slice 1 (key.map byteRow), .slice 1 (nonce.map byteRow), .slice 1 (wth.map byteRow), .slice 1 (sealed.map byteRow)] = some (openR .usl key nonce wth sealed) := by
  rw [fn_text Tryd.func70 rfl rfl Tryd.results70 fq70.1 rfl rfl (by kernel_rfl)]
  by_cases hk : key.length = 32
  · by_cases hn : nonce.length = 12
    · by_cases hs : sealed.length < 16
      · simp -implicitDefEqProofs -dsimp +contextual (maxSteps := 5000000) (disch := first | omega | simp only [go_sem] <;> omega | refine ib ?_; kernel_rfl) only [go_sem, Nat.reduceBEq, Int.reduceNeg, Int.reduceLT, Int.reduceLE, Int.reduceAdd, Int.reduceSub, Int.reduceToNat, Int.reduceMul, Int.reduceMod, Int.reduceTMod, Int.reduceTDiv, Int.reduceEq, Nat.reducePow, Nat.reduceDiv, Nat.reduceShiftRight, Nat.reduceMod, List.reduceReplicate, ↓reduceIte, Nat.reduceEqDiff, Nat.reduceAdd, Nat.reduceSub, Nat.reduceLeDiff, Nat.reduceLT, Nat.reduceMul, hk, hn, hs]
        simp [openR, hk, hn, hs]
      · have e1 : (sealed.length : Int) - 16 = ((sealed.length - 16 : Nat) : Int) := by omega
        have el : (sealed.take (sealed.length - 16)).length = sealed.length - 16 := by simp
        have hx := eXor1 key nonce (sealed.take (sealed.length - 16)) (by omega)
        rw [xorR_ok _ _ _ _ hk hn (by omega)] at hx
        rw [openR, if_pos ⟨hk, hn⟩, if_neg hs]
        have htx : tagX key nonce wth (sealed.take (sealed.length - 16)) = tagB ((blockB key nonce 0).take 32) (padB (padB wth ++ sealed.take (sealed.length - 16)) ++ le8 wth.length ++ le8 (sealed.take (sealed.length - 16)).length) := rfl
        have hp := padB_len wth
        have hp2 := padB_len (padB wth ++ sealed.take (sealed.length - 16))
        simp only [List.length_append] at hp2
        generalize hT : sealed.take (sealed.length - 16) = T at *
        generalize hD : sealed.drop (sealed.length - 16) = D at *
        have hl1 := boxLength [] (.inl rfl) (padB (padB wth ++ T)) wth.length (by omega) (by omega)
        simp -implicitDefEqProofs -dsimp +contextual (maxSteps := 5000000) (disch := first | omega | simp only [go_sem] <;> omega | refine ib ?_; kernel_rfl) only [go_sem, Nat.reduceBEq, Int.reduceNeg, Int.reduceLT, Int.reduceLE, Int.reduceAdd, Int.reduceSub, Int.reduceToNat, Int.reduceMul, Int.reduceMod, Int.reduceTMod, Int.reduceTDiv, Int.reduceEq, Nat.reducePow, Nat.reduceDiv, Nat.reduceShiftRight, Nat.reduceMod, List.reduceReplicate, ↓reduceIte, Nat.reduceEqDiff, Nat.reduceAdd, Nat.reduceSub, Nat.reduceLeDiff, Nat.reduceLT, Nat.reduceMul, hk, hn, hs, e1, el, hx, hT, hD]
        have eD : List.take (sealed.length - (sealed.length - 16)) D = D := List.take_of_length_le (by rw [← hD]; simp)
        rw [htx, el, eD]
        unfold kD
        split <;> rfl
    · simp -implicitDefEqProofs -dsimp +contextual (maxSteps := 5000000) (disch := first | omega | simp only [go_sem] <;> omega | refine ib ?_; kernel_rfl) only [go_sem, Nat.reduceBEq, Int.reduceNeg, Int.reduceLT, Int.reduceLE, Int.reduceAdd, Int.reduceSub, Int.reduceToNat, Int.reduceMul, Int.reduceMod, Int.reduceTMod, Int.reduceTDiv, Int.reduceEq, Nat.reducePow, Nat.reduceDiv, Nat.reduceShiftRight, Nat.reduceMod, List.reduceReplicate, ↓reduceIte, Nat.reduceEqDiff, Nat.reduceAdd, Nat.reduceSub, Nat.reduceLeDiff, Nat.reduceLT, Nat.reduceMul, hk, hn]
      simp [openR, hn]
  · simp -implicitDefEqProofs -dsimp +contextual (maxSteps := 5000000) (disch := first | omega | simp only [go_sem] <;> omega | refine ib ?_; kernel_rfl) only [go_sem, Nat.reduceBEq, Int.reduceNeg, Int.reduceLT, Int.reduceLE, Int.reduceAdd, Int.reduceSub, Int.reduceToNat, Int.reduceMul, Int.reduceMod, Int.reduceTMod, Int.reduceTDiv, Int.reduceEq, Nat.reducePow, Nat.reduceDiv, Nat.reduceShiftRight, Nat.reduceMod, List.reduceReplicate, ↓reduceIte, Nat.reduceEqDiff, Nat.reduceAdd, Nat.reduceSub, Nat.reduceLeDiff, Nat.reduceLT, Nat.reduceMul, hk]
    simp [openR, hk]


end Go.Proofs.YtccfjidpdlfenaaDoor
namespace Go.Proofs.YtccfjidpdlfenaaDoor
open Go.Am
set_option linter.unusedSimpArgs false
set_option linter.unusedVariables false
set_option maxRecDepth 100000
/-! Layer 8: what boxes come to. -/
theorem open_seal (mk : Nat → List (List AVal) → AVal) (key nonce wth msg : List UInt8) (hk : key.length = 32) (hn : nonce.length = 12) : openR mk key nonce wth (sealB key nonce wth msg) = (.tup [mk 1 (msg.map byteRow), .int .i64 0], []) := by
  have hl := xorB_len key nonce 1 msg
  have ht := tagX_len key nonce wth (xorB key nonce 1 msg)
  have e1 : (sealB key nonce wth msg).length - 16 = (xorB key nonce 1 msg).length := by rw [sealB_len, hl]; omega
  rw [openR, if_pos ⟨hk, hn⟩, if_neg (by rw [sealB_len]; omega), e1, sealB, List.take_left, List.drop_left, if_pos rfl, xorB_xorB]

theorem sealR_cases (key nonce wth msg : List UInt8) : (∃ (l : List UInt8) (e : Int), (∀ mk, sealR mk key nonce wth msg = (.tup [mk 1 (l.map byteRow), .int .i64 e], []))) := by
  by_cases h : key.length = 32 ∧ nonce.length = 12
  · exact ⟨sealB key nonce wth msg, 0, fun mk => by rw [sealR, if_pos h]⟩
  · exact ⟨[], 2, fun mk => by rw [sealR, if_neg h]; rfl⟩
theorem openR_cases (key nonce wth sealed : List UInt8) : (∃ (l : List UInt8) (e : Int), (∀ mk, openR mk key nonce wth sealed = (.tup [mk 1 (l.map byteRow), .int .i64 e], []))) := by
  by_cases h : key.length = 32 ∧ nonce.length = 12
  · by_cases hs : sealed.length < 16
    · exact ⟨[], 10, fun mk => by rw [openR, if_pos h, if_pos hs]; rfl⟩
    · by_cases ht : tagX key nonce wth (sealed.take (sealed.length - 16)) = sealed.drop (sealed.length - 16)
      · exact ⟨_, 0, fun mk => by rw [openR, if_pos h, if_neg hs, if_pos ht]⟩
      · exact ⟨[], 21, fun mk => by rw [openR, if_pos h, if_neg hs, if_neg ht]; rfl⟩
  · exact ⟨[], 2, fun mk => by rw [openR, if_neg h]; rfl⟩

theorem xor_ne (x y : UInt8) (h : y ≠ 0) : x ^^^ y ≠ x := by
  intro e
  apply h
  have : x ^^^ (x ^^^ y) = x ^^^ x := by rw [e]
  rwa [← UInt8.xor_assoc, UInt8.xor_self, UInt8.zero_xor] at this
theorem open_changed (mk : Nat → List (List AVal) → AVal) (key nonce wth msg : List UInt8) (hk : key.length = 32) (hn : nonce.length = 12) (i : Nat) (hi : i < 16) (y : UInt8) (hy : y ≠ 0) (hx : msg.length + i < (sealB key nonce wth msg).length) :
    openR mk key nonce wth ((sealB key nonce wth msg).set (msg.length + i) ((sealB key nonce wth msg)[msg.length + i] ^^^ y)) = (.tup [mk 1 [], .int .i64 21], []) := by
  have hl := xorB_len key nonce 1 msg
  have ht := tagX_len key nonce wth (xorB key nonce 1 msg)
  have hsl := sealB_len key nonce wth msg
  have e1 : ((sealB key nonce wth msg).set (msg.length + i) ((sealB key nonce wth msg)[msg.length + i] ^^^ y)).length - 16 = (xorB key nonce 1 msg).length := by rw [List.length_set, sealB_len, hl]; omega
  rw [openR, if_pos ⟨hk, hn⟩, if_neg (by rw [List.length_set, sealB_len]; omega), e1, if_neg]
  have e2 : (sealB key nonce wth msg)[msg.length + i] = (tagX key nonce wth (xorB key nonce 1 msg))[i]'(by omega) := by
    simp only [sealB]
    rw [List.getElem_append_right (by omega)]
    congr 1; omega
  rw [e2]
  rw [sealB, List.set_append_right _ _ (by omega), List.take_left, List.drop_left, show msg.length + i - (xorB key nonce 1 msg).length = i by omega]
  intro h
  have h2 := congrArg (fun l => l[i]?) h
  simp only [List.getElem?_set_self (show i < (tagX key nonce wth (xorB key nonce 1 msg)).length by omega), List.getElem?_eq_getElem (show i < (tagX key nonce wth (xorB key nonce 1 msg)).length by omega), Option.some.injEq] at h2
  exact xor_ne _ _ hy h2.symm


end Go.Proofs.YtccfjidpdlfenaaDoor
namespace Go.Proofs.YtccfjidpdlfenaaDoor
open Go.Am
set_option linter.unusedSimpArgs false
set_option linter.unusedVariables false
set_option maxRecDepth 100000
/-! Layer 8: what boxes are opened to, as a text and an error. -/
def openE (key nonce wth sealed : List UInt8) : List UInt8 × Int :=
  match openR .usl key nonce wth sealed with
  | (.tup [.usl 1 es, .int .i64 e], _) => ((unbyte es).getD [], e)
  | _ => ([], 0)
theorem openE_eq (mk : Nat → List (List AVal) → AVal) (key nonce wth sealed : List UInt8) : openR mk key nonce wth sealed = (.tup [mk 1 ((openE key nonce wth sealed).1.map byteRow), .int .i64 (openE key nonce wth sealed).2], []) := by
  obtain ⟨l, e, h⟩ := openR_cases key nonce wth sealed
  rw [h, openE, h]
  simp [unbyte_map]
theorem openE_le (key nonce wth sealed : List UInt8) : (openE key nonce wth sealed).1.length ≤ sealed.length := by
  have h := openE_eq .usl key nonce wth sealed
  unfold openR at h
  split at h
  · split at h
    · simp only [Prod.mk.injEq, AVal.tup.injEq, List.cons.injEq, AVal.usl.injEq, true_and] at h
      have := congrArg List.length h.1.1; simp at this; omega
    · split at h
      · simp only [Prod.mk.injEq, AVal.tup.injEq, List.cons.injEq, AVal.usl.injEq, true_and] at h
        have := congrArg List.length h.1.1
        simp [xorB_len] at this; omega
      · simp only [Prod.mk.injEq, AVal.tup.injEq, List.cons.injEq, AVal.usl.injEq, true_and] at h
        have := congrArg List.length h.1.1; simp at this; omega
  · simp only [Prod.mk.injEq, AVal.tup.injEq, List.cons.injEq, AVal.usl.injEq, true_and] at h
    have := congrArg List.length h.1.1; simp at this; omega

theorem openE_seal (key nonce wth msg : List UInt8) (hk : key.length = 32) (hn : nonce.length = 12) : openE key nonce wth (sealB key nonce wth msg) = (msg, 0) := by
  rw [openE, open_seal _ _ _ _ _ hk hn]
  simp [unbyte_map]
theorem openE_changed (key nonce wth msg : List UInt8) (hk : key.length = 32) (hn : nonce.length = 12) (i : Nat) (hi : i < 16) (y : UInt8) (hy : y ≠ 0) (hx : msg.length + i < (sealB key nonce wth msg).length) :
    openE key nonce wth ((sealB key nonce wth msg).set (msg.length + i) ((sealB key nonce wth msg)[msg.length + i] ^^^ y)) = ([], 21) := by
  rw [openE, open_changed _ _ _ _ _ hk hn i hi y hy hx]
  simp [unbyte]

end Go.Proofs.YtccfjidpdlfenaaDoor
namespace Go.Proofs.YtccfjidpdlfenaaDoor
open Go.Am
set_option linter.unusedSimpArgs false
set_option linter.unusedVariables false
set_option maxRecDepth 100000
/-! Layer 49: vaults, locked and unlocked. -/
theorem chainR_mem (p : Option It) (l : List It) (h : chainR p l = true) : ∀ x ∈ l, itemR x = true := by
  induction l generalizing p with
  | nil => intro x hx; cases hx
  | cons y l ih =>
    simp only [chainR, Bool.and_eq_true] at h
    intro x hx
    rcases List.mem_cons.1 hx with rfl | hx
    · exact h.1.1
    · exact ih _ h.2 x hx
theorem rightR_le (l : List It) (h : rightR l = true) : l.length ≤ 16 ∧ ∀ x ∈ l, x.k.length ≤ 300 ∧ x.v.length ≤ 300 := by
  simp only [rightR, Bool.and_eq_true, decide_eq_true_eq] at h
  refine ⟨h.2, fun x hx => ?_⟩
  have := chainR_mem _ _ h.1 x hx
  simp only [itemR, keyR, Bool.and_eq_true, decide_eq_true_eq] at this
  omega
theorem vtextB_le (l : List It) (h : rightR l = true) : (vtextB l).length ≤ 10000 := by
  obtain ⟨h1, h2⟩ := rightR_le l h
  have := flat_le l h2
  simp only [vtextB, List.length_cons]
  omega
def nameV : List UInt8 := [118, 97, 117, 108, 116]
@[go_sem] theorem nameV_len : nameV.length = 5 := rfl
theorem nameV_fold : ([118, 97, 117, 108, 116] : List UInt8) = nameV := rfl
def secB (key : List UInt8) : List UInt8 := namedB key nameV
@[go_sem] theorem secB_len (key : List UInt8) : (secB key).length = 32 := namedB_len _ _
def lockB (key : List UInt8) (v : Vt) : List UInt8 := vheadB v ++ sealB (secB key) (nonceB v.n) (vheadB v) (vtextB v.items)
@[go_sem] theorem lockB_len (key : List UInt8) (v : Vt) : (lockB key v).length = v.owner.length + 42 + (vtextB v.items).length := by simp [lockB, vheadB_len, sealB_len]; omega
def vlockR (key : List UInt8) (v : Vt) : List UInt8 × Int := if vrightB v = true then (lockB key v, 0) else ([], 2)

@[go_sem] theorem e66 (key : List UInt8) (hk : key.length ≤ 10000) : fn C 66 [] [.str key] = some (.slice 1 ((secB key).map byteRow), []) := by
  rw [fn_text Tryd.func66 rfl rfl Tryd.results66 fq66.1 rfl rfl (by kernel_rfl)]
  have e := e60 key nameV hk (by decide)
  simp -implicitDefEqProofs -dsimp +contextual (maxSteps := 9999999) (disch := first | omega | simp only [go_sem] <;> omega | refine ib ?_; kernel_rfl) only [go_sem, seval, ↓reduceIte, nameV_fold, e]
  rfl

structure Vt.ok (v : Vt) : Prop where
  n : v.n ≤ 18446744073709551615
  o : v.owner.length ≤ 9223372036854775807
  l : v.items.length ≤ 9223372036854775807
  k : ∀ x ∈ v.items, x.k.length ≤ 9223372036854775807 ∧ x.v.length ≤ 9223372036854775807

set_option maxHeartbeats 4000000 in
@[go_sem] theorem e26 (key : List UInt8) (v : Vt) (hk : key.length ≤ 10000) (hv : v.ok) : fn C 26 [] [.str key, .agg [.str v.owner, .int .u64 (v.n : Int), .slice 4 (v.items.map It.cs)]] = some (.tup [.usl 1 ((vlockR key v).1.map byteRow), .int .i64 (vlockR key v).2], []) := by
  rw [fn_text Tryd.func26 rfl rfl Tryd.results26 fq26.1 rfl rfl (by kernel_rfl)]
  have e0 := e25 v hv.l (fun x hx => (hv.k x hx).1)
  rw [vlockR]
  by_cases h : vrightB v = true
  · have h' := h
    simp only [vrightB, Bool.and_eq_true, decide_eq_true_eq] at h'
    obtain ⟨h1, h2⟩ := rightR_le _ h'.1
    have h3 := vtextB_le _ h'.1
    have e1 := e64 v hv.n (by omega)
    have e2 := e68 v.items (by omega) h2
    have e3 := e65 (secB key) (nonceB v.n) (vheadB v) (vtextB v.items) (by rw [vheadB_len]; omega) (by omega)
    rw [sealR, if_pos ⟨secB_len _, nonceB_len _⟩] at e3
    have e4 := e67 v.n hv.n
    have l := sealB_len (secB key) (nonceB v.n) (vheadB v) (vtextB v.items)
    simp -implicitDefEqProofs -dsimp +contextual (maxSteps := 9999999) (disch := first | omega | simp only [go_sem] <;> omega | refine ib ?_; kernel_rfl) only [go_sem, seval, ↓reduceIte, h, e0, e1, e2, e3, e4, l]
    rfl
  · simp -implicitDefEqProofs -dsimp +contextual (maxSteps := 9999999) (disch := first | omega | simp only [go_sem] <;> omega | refine ib ?_; kernel_rfl) only [go_sem, seval, ↓reduceIte, h, e0]

/-! Items, as they are read. -/
def readIt (s : Rd) : It × Rd :=
  let a := textS s 24
  let b := textS a.2 32
  let c := numS b.2 4
  let d := numS c.2 1
  (⟨a.1, b.1, (c.1 : Int), decide (d.1 = 1)⟩, d.2)
def rdS (s : Rd) : Nat → Rd
  | 0 => s
  | k + 1 => (readIt (rdS s k)).2
def itsS (s : Rd) (k : Nat) : List It := (List.range k).map fun i => (readIt (rdS s i)).1
@[go_sem] theorem itsS_len (s : Rd) (k : Nat) : (itsS s k).length = k := by simp [itsS]
theorem itsS_succ (s : Rd) (k : Nat) : itsS s (k + 1) = itsS s k ++ [(readIt (rdS s k)).1] := by simp [itsS, List.range_succ]
theorem readIt_le (s : Rd) : (readIt s).2.rest.length ≤ s.rest.length := by
  unfold readIt
  have h1 := textS_le s 24
  have h2 := textS_le (textS s 24).2 32
  have h3 := numS_rest (textS (textS s 24).2 32).2 4
  have h4 := numS_rest (numS (textS (textS s 24).2 32).2 4).2 1
  simp only
  omega
theorem rdS_le (s : Rd) (k : Nat) : (rdS s k).rest.length ≤ s.rest.length := by
  induction k with
  | zero => exact Nat.le_refl _
  | succ k ih => exact Nat.le_trans (readIt_le _) ih
theorem textS_most (s : Rd) (k : Nat) : (textS s (k : Int)).1.length ≤ k := by
  unfold textS
  split
  · simp
  · rename_i h
    by_cases hm : (numS s 2).2.met = 0
    · have := rawS_most (numS s 2).2 (numS s 2).1
      have h2 : ¬ (k : Int) < ((numS s 2).1 : Int) := fun h3 => h ⟨hm, h3⟩
      omega
    · unfold rawS; rw [if_neg hm]; simp
theorem readIt_k (s : Rd) : (readIt s).1.k.length ≤ 300 ∧ (readIt s).1.v.length ≤ 300 := by
  unfold readIt
  have h1 := textS_most s 24
  have h2 := textS_most (textS s 24).2 32
  exact ⟨Nat.le_trans h1 (by decide), Nat.le_trans h2 (by decide)⟩
theorem itsS_mem (s : Rd) (k : Nat) : ∀ x ∈ itsS s k, x.k.length ≤ 300 ∧ x.v.length ≤ 300 := by
  intro x hx
  simp only [itsS, List.mem_map, List.mem_range] at hx
  obtain ⟨i, _, rfl⟩ := hx
  exact readIt_k _
theorem readIt_of {B : List UInt8} {s : Rd} (h : RdOf B s) : RdOf B (readIt s).2 := RdOf_num 1 (RdOf_num 4 (RdOf_text 32 (RdOf_text 24 h)))
theorem rdS_of {B : List UInt8} {s : Rd} (h : RdOf B s) (k : Nat) : RdOf B (rdS s k) := by
  induction k with
  | zero => exact h
  | succ k ih => exact readIt_of ih
/-- What is read of a vault's text. -/
def manyS (b : List UInt8) : Nat := (numS (openS b) 1).1
def headI (b : List UInt8) : Rd := (numS (openS b) 1).2
theorem manyS_lt (b : List UInt8) : manyS b < 256 := numS_lt (openS b) 1
def itemsS (b : List UInt8) (most : Nat) : List It := itsS (headI b) (min (manyS b) most)
def itemsOk (b : List UInt8) : Bool := decide (endS (rdS (headI b) (min (manyS b) 16)) = 0) && decide (vtextB (itemsS b 16) = b)

set_option maxHeartbeats 4000000 in
@[go_sem] theorem e71 (b : List UInt8) (hb : b.length ≤ 1000000) : fn C 71 [] [.slice 1 (b.map byteRow)] = some (.tup [.usl 4 ((itemsS b 16).map It.cs), .bool (itemsOk b)], []) := by
  rw [fn_text Tryd.func71 rfl rfl Tryd.results71 fq71.1 rfl rfl (by kernel_rfl)]
  have hm := manyS_lt b
  have r0 : (openS b).rest.length ≤ 1000000 := hb
  unfold manyS at hm
  have hK : (if 16 < (numS (openS b) 1).1 then (16 : Int) else ((numS (openS b) 1).1 : Int)) = ((min (manyS b) 16 : Nat) : Int) := by unfold manyS; split <;> omega
  have hK2 : min (manyS b) 16 ≤ 16 := Nat.min_le_right _ _
  simp -implicitDefEqProofs -dsimp +contextual (maxSteps := 9999999) (disch := first | omega | simp only [go_sem] <;> omega | refine ib ?_; kernel_rfl) only [go_sem, seval, ↓reduceIte, hK]
  unfold itemsOk itemsS
  have hh : (numS (openS b) 1).2 = headI b := rfl
  have hl0 : (headI b).rest.length ≤ 1000000 := Nat.le_trans (numS_rest (openS b) 1) r0
  rw [hh]
  generalize headI b = s0 at *
  generalize min (manyS b) 16 = K at *
  refine kLoop_rec (fun (i : Nat) f H => f 0 = .slice 1 (b.map byteRow) ∧ f 4 = .ptr 111 1 0 0 ∧ f 5 = .int .i64 (K : Int) ∧ f 6 = .osl 116 1 0 16 ∧ f 17 = .int .i64 (K : Int) ∧ f 18 = .int .i64 (i : Int) ∧ H 111 = ⟨1, .live, 2, [[.str (rdS s0 i).rest, .int .i64 (rdS s0 i).met]], false⟩ ∧ H 116 = ⟨1, .live, 4, (itsS s0 i ++ List.replicate (16 - i) zeroIt).map It.cs, true⟩ ∧ i ≤ K) (fun i => K - i) (fun _ => some (.tup [.usl 4 ((itsS s0 K).map It.cs), .bool (decide (endS (rdS s0 K) = 0) && decide (vtextB (itsS s0 K) = b))], [])) ?_ 0 _ _ ?_
  rotate_left
  · refine ⟨rfl, rfl, rfl, rfl, rfl, rfl, ?_, ?_, by omega⟩
    · simp [Heap.set, rdS]
    · simp [Heap.set, itsS, List.replicate, It.cs, zeroIt]
  rintro i f H ⟨f0, f4, f5, f6, f17, f18, H1, H2, hi⟩ ih
  have hle := rdS_le s0 i
  by_cases hl : i < K
  · have r1 := textS_le (rdS s0 i) 24
    have r2 := textS_le (textS (rdS s0 i) 24).2 32
    have r3 := numS_rest (textS (textS (rdS s0 i) 24).2 32).2 4
    have n4 := numS_lt (textS (textS (rdS s0 i) 24).2 32).2 4
    have hlen : (itsS s0 i ++ List.replicate (16 - i) zeroIt).length = 16 := by simp [itsS_len]; omega
    have hset : (itsS s0 i ++ List.replicate (16 - i) zeroIt).set i (readIt (rdS s0 i)).1 = itsS s0 (i + 1) ++ List.replicate (16 - (i + 1)) zeroIt := by
      rw [List.set_append_right _ _ (by rw [itsS_len]; omega), itsS_len, Nat.sub_self, show 16 - i = (16 - (i + 1)) + 1 by omega, List.replicate_succ, List.set_cons_zero, itsS_succ, List.append_assoc]; rfl
    simp -implicitDefEqProofs -dsimp +contextual (maxSteps := 9999999) (disch := first | omega | simp only [go_sem] <;> omega | refine ib ?_; kernel_rfl) only [go_sem, seval, ↓reduceIte, f0, f4, f5, f6, f17, f18, H1, H2, hl, hlen, List.set_set, List.getElem_set_self]
    refine ih (i + 1) _ _ ?_ (by omega)
    refine ⟨f0, f4, f5, f6, f17, rfl, rfl, ?_, by omega⟩
    rw [← hset]
    rfl
  · obtain rfl : i = K := by omega
    have hcut : ((itsS s0 i ++ List.replicate (16 - i) zeroIt).take i) = itsS s0 i := by rw [List.take_append_of_le_length (by rw [itsS_len]; omega), List.take_of_length_le (by rw [itsS_len]; omega)]
    have hlen : (itsS s0 i ++ List.replicate (16 - i) zeroIt).length = 16 := by simp [itsS_len]; omega
    have ht := e68 (itsS s0 i) (by rw [itsS_len]; omega) (itsS_mem s0 i)
    simp -implicitDefEqProofs -dsimp +contextual (maxSteps := 9999999) (disch := first | omega | simp only [go_sem] <;> omega | refine ib ?_; kernel_rfl) only [go_sem, seval, ↓reduceIte, f0, f4, f5, f6, f17, f18, H1, H2, hcut, hlen, ht]
    by_cases he : endS (rdS s0 i) = 0 <;> simp [kD, he]

def zeroV : Vt := ⟨[], 0, []⟩
def unlockR (key b : List UInt8) : Vt × Int :=
  if (peekS b).2.2.2 = 0 then
    let o := openE (secB key) (nonceB (peekS b).2.1) (b.take (peekS b).2.2.1) (b.drop (peekS b).2.2.1)
    if o.2 = 0 then
      if itemsOk o.1 = true then if vrightB ⟨(peekS b).1, (peekS b).2.1, itemsS o.1 16⟩ = true then (⟨(peekS b).1, (peekS b).2.1, itemsS o.1 16⟩, 0) else (zeroV, 11) else (zeroV, 11)
    else (zeroV, o.2)
  else (zeroV, (peekS b).2.2.2)
theorem peekS_le (b : List UInt8) : (peekS b).2.2.1 ≤ b.length ∧ (peekS b).2.1 ≤ 18446744073709551615 ∧ (peekS b).1.length ≤ 16 := by
  unfold peekS
  simp only
  have h := numS_lt (textS (textS (openS b) 14).2 16).2 8
  have h2 := textS_most (textS (openS b) 14).2 16
  split
  · split
    · exact ⟨Nat.sub_le _ _, Nat.le_of_lt_succ h, h2⟩
    · simp
  · simp

set_option maxHeartbeats 4000000 in
@[go_sem] theorem e27 (key b : List UInt8) (hk : key.length ≤ 10000) (hb : b.length ≤ 1000000) : fn C 27 [] [.str key, .slice 1 (b.map byteRow)] = some (.tup [.agg [.str (unlockR key b).1.owner, .int .u64 ((unlockR key b).1.n : Int), .usl 4 ((unlockR key b).1.items.map It.cs)], .int .i64 (unlockR key b).2], []) := by
  rw [fn_text Tryd.func27 rfl rfl Tryd.results27 fq27.1 rfl rfl (by kernel_rfl)]
  obtain ⟨p1, p2, p3⟩ := peekS_le b
  rw [unlockR]
  by_cases h1 : (peekS b).2.2.2 = 0
  · have e0 := e67 (peekS b).2.1 p2
    have e3 := e70 (secB key) (nonceB (peekS b).2.1) (b.take (peekS b).2.2.1) (b.drop (peekS b).2.2.1) (by simp; omega) (by simp; omega)
    rw [openE_eq] at e3
    have ho := openE_le (secB key) (nonceB (peekS b).2.1) (b.take (peekS b).2.2.1) (b.drop (peekS b).2.2.1)
    rw [List.length_drop] at ho
    generalize openE (secB key) (nonceB (peekS b).2.1) (b.take (peekS b).2.2.1) (b.drop (peekS b).2.2.1) = o at *
    have e4 := e71 o.1 (by omega)
    have e5 := e25 ⟨(peekS b).1, (peekS b).2.1, itemsS o.1 16⟩ (by simp [itemsS, itsS_len]; omega) (fun x hx => by have := itsS_mem _ _ x hx; omega)
    simp only at e5
    by_cases h2 : o.2 = 0
    · by_cases h3 : itemsOk o.1 = true
      · by_cases h4 : vrightB ⟨(peekS b).1, (peekS b).2.1, itemsS o.1 16⟩ = true
        · simp -implicitDefEqProofs -dsimp +contextual (maxSteps := 9999999) (disch := first | omega | simp only [go_sem] <;> omega | refine ib ?_; kernel_rfl) only [go_sem, seval, ↓reduceIte, h1, h2, h3, h4, e0, e3, e4, e5]
        · simp -implicitDefEqProofs -dsimp +contextual (maxSteps := 9999999) (disch := first | omega | simp only [go_sem] <;> omega | refine ib ?_; kernel_rfl) only [go_sem, seval, ↓reduceIte, h1, h2, h3, h4, e0, e3, e4, e5]
          rfl
      · simp -implicitDefEqProofs -dsimp +contextual (maxSteps := 9999999) (disch := first | omega | simp only [go_sem] <;> omega | refine ib ?_; kernel_rfl) only [go_sem, seval, ↓reduceIte, h1, h2, h3, e0, e3, e4, e5]
        rfl
    · simp -implicitDefEqProofs -dsimp +contextual (maxSteps := 9999999) (disch := first | omega | simp only [go_sem] <;> omega | refine ib ?_; kernel_rfl) only [go_sem, seval, ↓reduceIte, h1, h2, e0, e3]
      rfl
  · simp -implicitDefEqProofs -dsimp +contextual (maxSteps := 9999999) (disch := first | omega | simp only [go_sem] <;> omega | refine ib ?_; kernel_rfl) only [go_sem, seval, ↓reduceIte, h1]
    rfl

theorem manyS_first (b : List UInt8) (h : 17 ≤ manyS b) : vtextB (itemsS b 16) ≠ b := by
  intro e
  cases b with
  | nil => simp [manyS, numS, rawS, openS, beV] at h
  | cons x l =>
    have hx := u8_lt x
    have hm : manyS (x :: l) = x.toNat := by
      unfold manyS openS
      rw [numS_ok (x :: l) 1 (by simp)]
      simp [beV]
    rw [vtextB] at e
    have h1 := (List.cons.inj e).1
    have h2 : (itemsS (x :: l) 16).length = 16 := by rw [itemsS, itsS_len]; omega
    rw [h2] at h1
    rw [hm, ← h1] at h
    revert h; decide
end Go.Proofs.YtccfjidpdlfenaaDoor
namespace Go.Proofs.YtccfjidpdlfenaaDoor
open Go.Am
set_option linter.unusedSimpArgs false
set_option linter.unusedVariables false
set_option maxRecDepth 100000
/-! Layer 49: the statements. -/
theorem flat_cons (x : It) (l : List It) : (x :: l).flatMap itB = itB x ++ l.flatMap itB := by simp
theorem readIt_back (x : It) (r : List UInt8) (h : itemR x = true) : readIt ⟨itB x ++ r, 0⟩ = (x, ⟨r, 0⟩) := by
  simp only [itemR, keyR, Bool.and_eq_true, decide_eq_true_eq] at h
  obtain ⟨⟨⟨⟨⟨h1, h2⟩, _⟩, h3⟩, h4⟩, h5⟩ := h
  have e : itB x ++ r = textB x.k ++ (textB x.v ++ (beN 4 (u64V x.n) ++ (beN 1 (goneN x.g) ++ r))) := by simp [itB]
  have hu := u64V_id x.n (by omega) (by omega)
  have b1 := textS_back x.k (textB x.v ++ (beN 4 (u64V x.n) ++ (beN 1 (goneN x.g) ++ r))) 24 h2 (by omega)
  have b2 := textS_back x.v (beN 4 (u64V x.n) ++ (beN 1 (goneN x.g) ++ r)) 32 h3 (by omega)
  have b3 := numS_back 4 (u64V x.n) (beN 1 (goneN x.g) ++ r) (by rw [hu]; omega)
  have b4 := numS_back 1 (goneN x.g) r (by unfold goneN; split <;> decide)
  rw [e, readIt]
  simp only [Int.cast_ofNat_Int] at b1 b2
  simp only [b1, b2, b3, b4]
  obtain ⟨k, v, n, g⟩ := x
  simp only [Prod.mk.injEq, It.mk.injEq, and_true, true_and]
  simp only at hu h4
  refine ⟨by rw [hu]; omega, ?_⟩
  cases g <;> simp [goneN]
theorem rdS_back (l : List It) (h : ∀ x ∈ l, itemR x = true) (r : List UInt8) (i : Nat) (hi : i ≤ l.length) : rdS ⟨l.flatMap itB ++ r, 0⟩ i = ⟨(l.drop i).flatMap itB ++ r, 0⟩ := by
  induction i with
  | zero => rfl
  | succ i ih =>
    rw [rdS, ih (by omega), List.drop_eq_getElem_cons (by omega), flat_cons, List.append_assoc, readIt_back _ _ (h _ (List.getElem_mem _))]
theorem itsS_back (l : List It) (h : ∀ x ∈ l, itemR x = true) (r : List UInt8) : itsS ⟨l.flatMap itB ++ r, 0⟩ l.length = l := by
  apply List.ext_getElem (by simp [itsS_len])
  intro i h1 h2
  simp only [itsS, List.getElem_map, List.getElem_range]
  rw [rdS_back l h r i (by omega), List.drop_eq_getElem_cons h2, flat_cons, List.append_assoc, readIt_back _ _ (h _ (List.getElem_mem _))]
theorem items_back (l : List It) (h : rightR l = true) : itemsS (vtextB l) 16 = l ∧ itemsOk (vtextB l) = true := by
  obtain ⟨h1, _⟩ := rightR_le l h
  have h2 : ∀ x ∈ l, itemR x = true := by
    simp only [rightR, Bool.and_eq_true] at h
    exact chainR_mem _ _ h.1
  have e : numS (openS (vtextB l)) 1 = (l.length, ⟨l.flatMap itB ++ [], 0⟩) := by
    unfold openS
    rw [numS_ok _ 1 (by simp [vtextB])]
    simp [vtextB, beV]; omega
  have hm : manyS (vtextB l) = l.length := by rw [manyS, e]
  have hh : headI (vtextB l) = ⟨l.flatMap itB ++ [], 0⟩ := by rw [headI, e]
  have h3 : itemsS (vtextB l) 16 = l := by rw [itemsS, hm, hh, show min l.length 16 = l.length by omega, itsS_back l h2]
  refine ⟨h3, ?_⟩
  rw [itemsOk, h3, hm, hh, show min l.length 16 = l.length by omega, rdS_back l h2 [] l.length (Nat.le_refl _)]
  simp [endS]
theorem peek_pre (v : Vt) (r : List UInt8) (hn : v.n ≤ 18446744073709551615) (ho : v.owner.length ≤ 16) : peekS (vheadB v ++ r) = (v.owner, v.n, v.owner.length + 26, 0) := by
  have hl : (vheadB v ++ r).length = v.owner.length + 26 + r.length := by rw [List.length_append, vheadB_len]
  have e : vheadB v ++ r = textB titleV ++ (textB v.owner ++ (beN 8 v.n ++ r)) := by simp [vheadB]
  have b1 := textS_back titleV (textB v.owner ++ (beN 8 v.n ++ r)) 14 (by decide) (by decide)
  have b2 := textS_back v.owner (beN 8 v.n ++ r) 16 ho (by omega)
  have b3 := numS_back 8 v.n r (by omega)
  simp only [Int.cast_ofNat_Int] at b1 b2
  unfold peekS openS
  rw [e] at hl ⊢
  simp only [b1, b2, b3, if_true, Prod.mk.injEq, true_and, and_true]
  unfold atS
  rw [hl]
  dsimp only
  omega
theorem peek_back (key : List UInt8) (v : Vt) (hn : v.n ≤ 18446744073709551615) (ho : v.owner.length ≤ 16) : peekS (lockB key v) = (v.owner, v.n, v.owner.length + 26, 0) := peek_pre v _ hn ho
theorem unlock_lock (key : List UInt8) (v : Vt) (hn : v.n ≤ 18446744073709551615) (h : vrightB v = true) : unlockR key (lockB key v) = (v, 0) := by
  have h' := h
  simp only [vrightB, Bool.and_eq_true, decide_eq_true_eq] at h'
  obtain ⟨i1, i2⟩ := items_back v.items h'.1
  have e1 : (lockB key v).take (v.owner.length + 26) = vheadB v := take_pre _ _ _ (vheadB_len v)
  have e2 : (lockB key v).drop (v.owner.length + 26) = sealB (secB key) (nonceB v.n) (vheadB v) (vtextB v.items) := drop_pre _ _ _ (vheadB_len v)
  rw [unlockR, peek_back key v hn h'.2]
  simp only [if_true, e1, e2, openE_seal _ _ _ _ (secB_len _) (nonceB_len _), i1, i2]
  rw [if_pos h]
theorem unlock_changed (key : List UInt8) (v : Vt) (hn : v.n ≤ 18446744073709551615) (h : vrightB v = true) (i : Nat) (hi : i < 16) (y : UInt8) (hy : y ≠ 0) (hx : v.owner.length + 26 + ((vtextB v.items).length + i) < (lockB key v).length) :
    unlockR key ((lockB key v).set (v.owner.length + 26 + ((vtextB v.items).length + i)) ((lockB key v)[v.owner.length + 26 + ((vtextB v.items).length + i)] ^^^ y)) = (zeroV, 21) := by
  have h' := h
  simp only [vrightB, Bool.and_eq_true, decide_eq_true_eq] at h'
  have hl := vheadB_len v
  have hsl := sealB_len (secB key) (nonceB v.n) (vheadB v) (vtextB v.items)
  have e0 : ∀ w, (lockB key v).set (v.owner.length + 26 + ((vtextB v.items).length + i)) w = vheadB v ++ (sealB (secB key) (nonceB v.n) (vheadB v) (vtextB v.items)).set ((vtextB v.items).length + i) w := fun w => by
    rw [lockB, List.set_append_right _ _ (by omega), hl]
    congr 2; omega
  have e3 : (lockB key v)[v.owner.length + 26 + ((vtextB v.items).length + i)] = (sealB (secB key) (nonceB v.n) (vheadB v) (vtextB v.items))[(vtextB v.items).length + i]'(by omega) := by
    simp only [lockB]
    rw [List.getElem_append_right (by omega)]
    congr 1; omega
  have ho := openE_changed (secB key) (nonceB v.n) (vheadB v) (vtextB v.items) (secB_len _) (nonceB_len _) i hi y hy (by omega)
  rw [e0, e3, unlockR, peek_pre v _ hn h'.2]
  simp only [if_true, take_pre _ _ _ hl, drop_pre _ _ _ hl, ho, show ¬ (21 : Int) = 0 by decide, if_false]

def key3 : List UInt8 := [107, 101, 121]
theorem key3_fold : ([107, 101, 121] : List UInt8) = key3 := rfl
def it1 : It := ⟨[107], [118], 3, false⟩
def v1 : Vt := ⟨[97], 5, [it1]⟩
def v0 : Vt := ⟨[], 0, []⟩
theorem v1_right : vrightB v1 = true := by decide
theorem v0_right : vrightB v0 = true := by decide
theorem v1_ok : v1.ok := ⟨by decide, by decide, by decide, by intro x hx; simp [v1] at hx; subst hx; decide⟩
theorem v0_ok : v0.ok := ⟨by decide, by decide, by decide, by intro x hx; simp [v0] at hx⟩
theorem unlock_nil (key : List UInt8) : unlockR key [] = (zeroV, 10) := by
  have h : peekS [] = ([], 0, 0, 10) := by decide
  rw [unlockR, h]
  rfl

set_option maxHeartbeats 4000000 in
@[go_sem] theorem e24 : fn C 24 [] [] = some (.bool true, []) := by
  rw [fn_text Tryd.func24 rfl rfl Tryd.results24 fq24.1 rfl rfl (by kernel_rfl)]
  have e1 : fn C 26 [] [.str key3, .agg [.str [97], .int .u64 5, .slice 4 [[.str [107], .str [118], .int .i64 3, .bool false]]]] = some (.tup [.usl 1 ((lockB key3 v1).map byteRow), .int .i64 0], []) := by
    have h := e26 key3 v1 (by decide) v1_ok
    rw [vlockR, if_pos v1_right] at h
    exact h
  have e2 : fn C 27 [] [.str key3, .slice 1 ((lockB key3 v1).map byteRow)] = some (.tup [.agg [.str [97], .int .u64 5, .usl 4 [[.str [107], .str [118], .int .i64 3, .bool false]]], .int .i64 0], []) := by
    have h := e27 key3 (lockB key3 v1) (by decide) (by rw [lockB_len]; decide)
    rw [unlock_lock key3 v1 (by decide) v1_right] at h
    exact h
  have e3 : fn C 26 [] [.str key3, .agg [.str [], .int .u64 0, .slice 4 []]] = some (.tup [.usl 1 ((lockB key3 v0).map byteRow), .int .i64 0], []) := by
    have h := e26 key3 v0 (by decide) v0_ok
    rw [vlockR, if_pos v0_right] at h
    exact h
  have e4 : fn C 27 [] [.str key3, .slice 1 []] = some (.tup [.agg [.str [], .int .u64 0, .usl 4 []], .int .i64 10], []) := by
    have h := e27 key3 [] (by decide) (by decide)
    rw [unlock_nil] at h
    exact h
  have e5 : fn C 13 [] [.slice 4 [[.str [107], .str [118], .int .i64 3, .bool false]], .slice 4 [[.str [107], .str [118], .int .i64 3, .bool false]]] = some (.bool true, []) := by
    have h := e13 [it1] [it1] (by decide)
    rw [decide_eq_true rfl] at h
    exact h
  have hl : (lockB key3 v0).length = 43 := by rw [lockB_len]; rfl
  have hl2 : (lockB key3 v1).length = 55 := by rw [lockB_len]; rfl
  simp -implicitDefEqProofs -dsimp +contextual (maxSteps := 9999999) (disch := first | omega | simp only [go_sem] <;> omega | refine ib ?_; kernel_rfl) only [go_sem, seval, ↓reduceIte, key3_fold, e1, e2, e3, e4, e5, hl, hl2]

theorem lock_le (key : List UInt8) (v : Vt) : (vlockR key v).1.length ≤ 20000 := by
  unfold vlockR
  split
  · rename_i h
    simp only [vrightB, Bool.and_eq_true, decide_eq_true_eq] at h
    have := vtextB_le _ h.1
    simp only [lockB_len]; omega
  · simp

theorem unlock_le (key b : List UInt8) : (unlockR key b).1.items.length ≤ 16 := by
  unfold unlockR
  split
  · dsimp only
    split
    · split
      · split
        · simp [itemsS, itsS_len]; omega
        · simp [zeroV]
      · simp [zeroV]
    · simp [zeroV]
  · simp [zeroV]

set_option maxHeartbeats 4000000 in
@[go_sem] theorem e6 (key : List UInt8) (v : Vt) (x y : UInt8) (hk : key.length ≤ 9223372036854775807) (hv : v.ok) : fn C 6 [] [.str key, .agg [.str v.owner, .int .u64 (v.n : Int), .slice 4 (v.items.map It.cs)], .int .u8 (x.toNat : Int), .int .u8 (y.toNat : Int)] = some (.bool true, []) := by
  rw [fn_text Tryd.func6 rfl rfl Tryd.results6 fq6.1 rfl rfl (by kernel_rfl)]
  have h1 := hv.n
  have h2 := hv.o
  have eg := e9 v.items hv.l hv.k
  by_cases g1 : 300 < key.length
  · simp -implicitDefEqProofs -dsimp +contextual (maxSteps := 9999999) (disch := first | omega | simp only [go_sem] <;> omega | refine ib ?_; kernel_rfl) only [go_sem, seval, ↓reduceIte, g1]
  by_cases g2 : 300 < v.owner.length
  · simp -implicitDefEqProofs -dsimp +contextual (maxSteps := 9999999) (disch := first | omega | simp only [go_sem] <;> omega | refine ib ?_; kernel_rfl) only [go_sem, seval, ↓reduceIte, g1, g2]
  by_cases g3 : greatR v.items = true
  · simp -implicitDefEqProofs -dsimp +contextual (maxSteps := 9999999) (disch := first | omega | simp only [go_sem] <;> omega | refine ib ?_; kernel_rfl) only [go_sem, seval, ↓reduceIte, g1, g2, eg, g3]
  have e5 := e25 v hv.l (fun x hx => (hv.k x hx).1)
  by_cases g4 : vrightB v = true
  · have g4' := g4
    simp only [vrightB, Bool.and_eq_true, decide_eq_true_eq] at g4'
    have hvt := vtextB_le _ g4'.1
    have hl := lockB_len key v
    have e1 := e26 key v (by omega) hv
    rw [vlockR, if_pos g4] at e1
    have e2 := e27 key (lockB key v) (by omega) (by omega)
    rw [unlock_lock key v h1 g4] at e2
    have e3 := e28 (lockB key v) (by omega)
    rw [peek_back key v h1 g4'.2] at e3
    have e6 := e13 v.items v.items hv.l
    have hx := u8_lt x
    have hb : x.toNat % 16 < 16 := Nat.mod_lt _ (by decide)
    have hch : ∀ j, j = v.owner.length + 42 + (vtextB v.items).length - 1 - x.toNat % 16 → ∀ hj : j < (lockB key v).length, y ≠ 0 → unlockR key ((lockB key v).set j ((lockB key v)[j] ^^^ y)) = (zeroV, 21) := by
      intro j hj hj' hy
      obtain rfl : j = v.owner.length + 26 + ((vtextB v.items).length + (15 - x.toNat % 16)) := by omega
      exact unlock_changed key v h1 g4 (15 - x.toNat % 16) (by omega) y hy (by omega)
    by_cases hy : y = 0
    · subst hy
      have es : (lockB key v).set (v.owner.length + 42 + (vtextB v.items).length - 1 - x.toNat % 16) ((lockB key v)[v.owner.length + 42 + (vtextB v.items).length - 1 - x.toNat % 16]'(by omega) ^^^ 0) = lockB key v := by rw [UInt8.xor_zero, List.set_getElem_self]
      simp -implicitDefEqProofs -dsimp +contextual (maxSteps := 9999999) (disch := first | omega | simp only [go_sem] <;> omega | refine ib ?_; kernel_rfl) only [go_sem, seval, ↓reduceIte, g1, g2, eg, g3, e5, g4, e1, e2, e3, e6, hl, es] <;> simp [kD]
    · have hy2 : y.toNat ≠ 0 := fun h => hy (UInt8.toNat_inj.1 (by simpa using h))
      simp -implicitDefEqProofs -dsimp +contextual (maxSteps := 9999999) (disch := first | omega | simp only [go_sem] <;> omega | refine ib ?_; kernel_rfl) only [go_sem, seval, ↓reduceIte, g1, g2, eg, g3, e5, g4, e1, e2, e3, e6, hl]
      rw [hch _ rfl (by omega) hy]
      simp [kD, hy2]
  · simp -implicitDefEqProofs -dsimp +contextual (maxSteps := 9999999) (disch := first | omega | simp only [go_sem] <;> omega | refine ib ?_; kernel_rfl) only [go_sem, seval, ↓reduceIte, g1, g2, eg, g3, e5, g4]

end Go.Proofs.YtccfjidpdlfenaaDoor
