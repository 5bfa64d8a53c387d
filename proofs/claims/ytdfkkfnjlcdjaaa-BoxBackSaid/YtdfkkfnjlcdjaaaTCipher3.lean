import Derived.Test.YtdfkkfnjlcdjaaaTCipher2
namespace Go.Proofs.Ytdfkkfnjlcdjaaa
open Go.Am
set_option linter.unusedSimpArgs false
set_option linter.unusedVariables false
set_option maxRecDepth 100000
/-! Layer 6, by the document; texts changed. -/
theorem first_take (key nonce : List UInt8) (ctr : UInt32) (n : Nat) (h : n < 8) : (firstW key nonce ctr).take (4 + n) ++ [wordOf (key.drop (4 * n))] = (firstW key nonce ctr).take (4 + (n + 1)) := by
  match n, h with
  | 0, _ => rfl
  | 1, _ => rfl
  | 2, _ => rfl
  | 3, _ => rfl
  | 4, _ => rfl
  | 5, _ => rfl
  | 6, _ => rfl
  | 7, _ => rfl

def Pl : List Int := [0, 4, 8, 12, 1, 5, 9, 13, 2, 6, 10, 14, 3, 7, 11, 15, 0, 5, 10, 15, 1, 6, 11, 12, 2, 7, 8, 13, 3, 4, 9, 14]
def rI (n : Int) : List AVal := [.int .i64 n]
@[go_sem] theorem rI_eq (n : Int) : rI n = [.int .i64 n] := rfl
@[go_sem] theorem Pl_0 : Pl[0]? = some 0 := rfl
@[go_sem] theorem Pl_1 : Pl[1]? = some 4 := rfl
@[go_sem] theorem Pl_2 : Pl[2]? = some 8 := rfl
@[go_sem] theorem Pl_3 : Pl[3]? = some 12 := rfl
@[go_sem] theorem Pl_4 : Pl[4]? = some 1 := rfl
@[go_sem] theorem Pl_5 : Pl[5]? = some 5 := rfl
@[go_sem] theorem Pl_6 : Pl[6]? = some 9 := rfl
@[go_sem] theorem Pl_7 : Pl[7]? = some 13 := rfl
@[go_sem] theorem Pl_8 : Pl[8]? = some 2 := rfl
@[go_sem] theorem Pl_9 : Pl[9]? = some 6 := rfl
@[go_sem] theorem Pl_10 : Pl[10]? = some 10 := rfl
@[go_sem] theorem Pl_11 : Pl[11]? = some 14 := rfl
@[go_sem] theorem Pl_12 : Pl[12]? = some 3 := rfl
@[go_sem] theorem Pl_13 : Pl[13]? = some 7 := rfl
@[go_sem] theorem Pl_14 : Pl[14]? = some 11 := rfl
@[go_sem] theorem Pl_15 : Pl[15]? = some 15 := rfl
@[go_sem] theorem Pl_16 : Pl[16]? = some 0 := rfl
@[go_sem] theorem Pl_17 : Pl[17]? = some 5 := rfl
@[go_sem] theorem Pl_18 : Pl[18]? = some 10 := rfl
@[go_sem] theorem Pl_19 : Pl[19]? = some 15 := rfl
@[go_sem] theorem Pl_20 : Pl[20]? = some 1 := rfl
@[go_sem] theorem Pl_21 : Pl[21]? = some 6 := rfl
@[go_sem] theorem Pl_22 : Pl[22]? = some 11 := rfl
@[go_sem] theorem Pl_23 : Pl[23]? = some 12 := rfl
@[go_sem] theorem Pl_24 : Pl[24]? = some 2 := rfl
@[go_sem] theorem Pl_25 : Pl[25]? = some 7 := rfl
@[go_sem] theorem Pl_26 : Pl[26]? = some 8 := rfl
@[go_sem] theorem Pl_27 : Pl[27]? = some 13 := rfl
@[go_sem] theorem Pl_28 : Pl[28]? = some 3 := rfl
@[go_sem] theorem Pl_29 : Pl[29]? = some 4 := rfl
@[go_sem] theorem Pl_30 : Pl[30]? = some 9 := rfl
@[go_sem] theorem Pl_31 : Pl[31]? = some 14 := rfl
@[go_sem] theorem Pl_len : Pl.length = 32 := rfl
set_option maxHeartbeats 4000000 in
@[go_sem] theorem e28 (key nonce : List UInt8) (ctr : UInt32) : fn C 28 [] [.slice 1 (key.map byteRow), .slice 1 (nonce.map byteRow), .int .u32 (ctr.toNat : Int)] = some (if key.length = 32 ∧ nonce.length = 12 then .tup [.slice 1 ((blockB key nonce ctr).map byteRow), .int .i64 0] else .tup [.slice 1 [], .int .i64 2], []) := by
  rw [fn_text Try.func28 rfl rfl Try.results28 locM28 rfl rfl (by kernel_rfl)]
  by_cases hk : key.length = 32
  · by_cases hn : nonce.length = 12
    · simp -implicitDefEqProofs -dsimp +contextual (maxSteps := 5000000) (disch := first | omega | (simp only [go_sem] <;> omega) | (show indepB _ _ = true; refine id ?_; kernel_rfl)) only [go_sem, ↓reduceIte, Nat.reduceEqDiff, Nat.reduceBEq, Nat.reduceAdd, Nat.reduceSub, Nat.reduceLeDiff, Nat.reduceLT, Nat.reduceMul, Int.reduceNeg, Int.reduceLT, Int.reduceLE, Int.reduceAdd, Int.reduceSub, Int.reduceToNat, Int.reduceMul, Int.reduceMod, Int.reduceTMod, Int.reduceTDiv, Int.reduceEq, Nat.reducePow, Nat.reduceDiv, Nat.reduceShiftRight, Nat.reduceMod, List.reduceReplicate, hk, hn]
      refine (kLoop_rec (fun (n : Nat) f H => f 0 = .slice 1 (key.map byteRow) ∧ f 1 = .slice 1 (nonce.map byteRow) ∧ f 2 = .int .u32 (ctr.toNat : Int) ∧ f 8 = .osl 129 (n + 1) 0 (4 + n) ∧ f 9 = .int .i64 ((4 * n : Nat) : Int) ∧ H 129 = ⟨n + 1, .live, 1, ((firstW key nonce ctr).take (4 + n)).map r32, false⟩ ∧ (∀ k, 145 ≤ k → H k = ⟨0, .dead, 0, [], false⟩) ∧ n ≤ 8) (fun n => 8 - n) (fun n => some (.tup [.slice 1 ((blockB key nonce ctr).map byteRow), .int .i64 0], [])) ?_ 0 _ _ ?_).trans rfl
      rotate_left
      · exact ⟨rfl, rfl, rfl, rfl, rfl, rfl, heap_far (m := 145) (far_nil _) (by omega), by omega⟩
      rintro n f H ⟨f0, f1, f2, f8, f9, H129, hf, hn8⟩ ih
      by_cases hl : n < 8
      · have e1 : wordOf (List.take (4 * n + 4 - 4 * n) (List.drop (4 * n) key)) = wordOf (key.drop (4 * n)) := by rw [show 4 * n + 4 - 4 * n = 4 by omega, word_take _ (by simp; omega)]
        simp -implicitDefEqProofs -dsimp +contextual (maxSteps := 5000000) (disch := first | omega | (simp only [go_sem] <;> omega) | (show indepB _ _ = true; refine id ?_; kernel_rfl)) only [go_sem, ↓reduceIte, Nat.reduceEqDiff, Nat.reduceBEq, Nat.reduceAdd, Nat.reduceSub, Nat.reduceLeDiff, Nat.reduceLT, Nat.reduceMul, Int.reduceNeg, Int.reduceLT, Int.reduceLE, Int.reduceAdd, Int.reduceSub, Int.reduceToNat, Int.reduceMul, Int.reduceMod, Int.reduceTMod, Int.reduceTDiv, Int.reduceEq, Nat.reducePow, Nat.reduceDiv, Nat.reduceShiftRight, Nat.reduceMod, List.reduceReplicate, f0, f1, f2, f8, f9, H129, hl, hk, hn]
        rw [e1, first_take key nonce ctr n hl]
        exact ih (n + 1) _ _ ⟨f0, f1, f2, rfl, rfl, rfl, heap_far (heap_far hf (by omega)) (by omega), by omega⟩ (by omega)
      · have H154 := hf 154 (by omega)
        have H156 := hf 156 (by omega)
        have H159 := hf 159 (by omega)
        obtain rfl : n = 8 := by omega
        have e2 : wordOf (List.take 4 nonce) = wordOf nonce := word_take _ (by omega)
        have e3 : wordOf (List.take 4 (List.drop 4 nonce)) = wordOf (List.drop 4 nonce) := word_take _ (by simp; omega)
        have e4 : List.map r32 (List.take 12 (firstW key nonce ctr)) ++ [[AVal.int IntKind.u32 ↑ctr.toNat], [AVal.int IntKind.u32 ↑(wordOf nonce).toNat], [AVal.int IntKind.u32 ↑(wordOf (List.drop 4 nonce)).toNat], [AVal.int IntKind.u32 ↑(wordOf (List.drop 8 nonce)).toNat]] = List.map r32 (firstW key nonce ctr) := rfl
        simp -implicitDefEqProofs -dsimp +contextual (maxSteps := 5000000) (disch := first | omega | (simp only [go_sem] <;> omega) | (show indepB _ _ = true; refine id ?_; kernel_rfl)) only [go_sem, ↓reduceIte, Nat.reduceEqDiff, Nat.reduceBEq, Nat.reduceAdd, Nat.reduceSub, Nat.reduceLeDiff, Nat.reduceLT, Nat.reduceMul, Int.reduceNeg, Int.reduceLT, Int.reduceLE, Int.reduceAdd, Int.reduceSub, Int.reduceToNat, Int.reduceMul, Int.reduceMod, Int.reduceTMod, Int.reduceTDiv, Int.reduceEq, Nat.reducePow, Nat.reduceDiv, Nat.reduceShiftRight, Nat.reduceMod, List.reduceReplicate, f0, f1, f2, f8, f9, H129, H154, H156, H159, hl, hk, hn, e2, e3, e4]
        have e5 : (blockB key nonce ctr) = outW (roundsW (10 - 0) (firstW key nonce ctr)) (firstW key nonce ctr) := rfl
        rw [e5]
        have hlen := firstW_len key nonce ctr
        generalize firstW key nonce ctr = bg at hlen ⊢
        refine (kLoop_rec2 (fun (n : Nat) (ws : List UInt32) f H => f 8 = .osl 129 10 0 16 ∧ f 10 = .osl 156 2 0 16 ∧ f 11 = .osl 159 1 0 32 ∧ f 12 = .int .i64 (n : Int) ∧ H 129 = ⟨10, .live, 1, ws.map r32, false⟩ ∧ H 156 = ⟨2, .live, 1, bg.map r32, false⟩ ∧ H 159 = ⟨1, .live, 1, Pl.map rI, false⟩ ∧ (∀ k, 160 ≤ k → H k = ⟨0, .dead, 0, [], false⟩) ∧ n ≤ 10 ∧ ws.length = 16) (fun n _ => 10 - n) (fun n ws => some (.tup [.slice 1 ((outW (roundsW (10 - n) ws) bg).map byteRow), .int .i64 0], [])) ?_ 0 bg _ _ ?_)
        rotate_left
        · refine ⟨rfl, rfl, rfl, rfl, rfl, rfl, rfl, heap_far (heap_far (heap_far (heap_far (far_le hf (by omega)) (by omega)) (by omega)) (by omega)) (by omega), by omega, hlen⟩
        rintro n ws f H ⟨f8, f10, f11, f12, H129, H156, H159, hf, hn10, hw⟩ ih
        by_cases hl : n < 10
        · simp -implicitDefEqProofs -dsimp +contextual (maxSteps := 5000000) (disch := first | omega | (simp only [go_sem] <;> omega) | (show indepB _ _ = true; refine id ?_; kernel_rfl)) only [go_sem, ↓reduceIte, Nat.reduceEqDiff, Nat.reduceBEq, Nat.reduceAdd, Nat.reduceSub, Nat.reduceLeDiff, Nat.reduceLT, Nat.reduceMul, Int.reduceNeg, Int.reduceLT, Int.reduceLE, Int.reduceAdd, Int.reduceSub, Int.reduceToNat, Int.reduceMul, Int.reduceMod, Int.reduceTMod, Int.reduceTDiv, Int.reduceEq, Nat.reducePow, Nat.reduceDiv, Nat.reduceShiftRight, Nat.reduceMod, List.reduceReplicate, f8, f10, f11, f12, H129, H156, H159, hl, hw]
          rw [show 10 - n = (10 - (n + 1)) + 1 by omega, roundsW]
          refine (kLoop_rec2 (fun (m : Nat) (vs : List UInt32) f H => f 8 = .osl 129 10 0 16 ∧ f 10 = .osl 156 2 0 16 ∧ f 11 = .osl 159 1 0 32 ∧ f 12 = .int .i64 (n : Int) ∧ f 13 = .int .i64 ((4 * m : Nat) : Int) ∧ H 129 = ⟨10, .live, 1, vs.map r32, false⟩ ∧ H 156 = ⟨2, .live, 1, bg.map r32, false⟩ ∧ H 159 = ⟨1, .live, 1, Pl.map rI, false⟩ ∧ (∀ k, 160 ≤ k → H k = ⟨0, .dead, 0, [], false⟩) ∧ m ≤ 8 ∧ vs.length = 16) (fun m _ => 8 - m) (fun m vs => some (.tup [.slice 1 ((outW (roundsW (10 - (n + 1)) ((places.drop m).foldl qP vs)) bg).map byteRow), .int .i64 0], [])) ?_ 0 ws _ _ ?_)
          rotate_left
          · exact ⟨f8, f10, f11, f12, rfl, H129, H156, H159, hf, by omega, hw⟩
          clear f8 f10 f11 f12 H129 H156 H159 hf hw
          rintro m vs f H ⟨f8, f10, f11, f12, f13, H129, H156, H159, hf, hm8, hw⟩ ihm
          by_cases hm : m < 8
          · match m, hm with
            | 0, _ =>
              simp -implicitDefEqProofs -dsimp +contextual (maxSteps := 5000000) (disch := first | omega | (simp only [go_sem] <;> omega) | (show indepB _ _ = true; refine id ?_; kernel_rfl)) only [go_sem, ↓reduceIte, Nat.reduceEqDiff, Nat.reduceBEq, Nat.reduceAdd, Nat.reduceSub, Nat.reduceLeDiff, Nat.reduceLT, Nat.reduceMul, Int.reduceNeg, Int.reduceLT, Int.reduceLE, Int.reduceAdd, Int.reduceSub, Int.reduceToNat, Int.reduceMul, Int.reduceMod, Int.reduceTMod, Int.reduceTDiv, Int.reduceEq, Nat.reducePow, Nat.reduceDiv, Nat.reduceShiftRight, Nat.reduceMod, List.reduceReplicate, f8, f10, f11, f12, f13, H129, H156, H159, hw]
              rw [qAt_eq]
              refine (ihm 1 (qAt vs 0 4 8 12) _ _ (by exact ⟨f8, f10, f11, f12, rfl, rfl, H156, H159, (by repeat (first | exact hf | refine heap_far ?_ (by omega))), by omega, by rw [qAt_len]; exact hw⟩) (by omega)).trans ?_
              simp only [places, List.drop_succ_cons, List.drop_zero, List.foldl_cons, qP]
            | 1, _ =>
              simp -implicitDefEqProofs -dsimp +contextual (maxSteps := 5000000) (disch := first | omega | (simp only [go_sem] <;> omega) | (show indepB _ _ = true; refine id ?_; kernel_rfl)) only [go_sem, ↓reduceIte, Nat.reduceEqDiff, Nat.reduceBEq, Nat.reduceAdd, Nat.reduceSub, Nat.reduceLeDiff, Nat.reduceLT, Nat.reduceMul, Int.reduceNeg, Int.reduceLT, Int.reduceLE, Int.reduceAdd, Int.reduceSub, Int.reduceToNat, Int.reduceMul, Int.reduceMod, Int.reduceTMod, Int.reduceTDiv, Int.reduceEq, Nat.reducePow, Nat.reduceDiv, Nat.reduceShiftRight, Nat.reduceMod, List.reduceReplicate, f8, f10, f11, f12, f13, H129, H156, H159, hw]
              rw [qAt_eq]
              refine (ihm 2 (qAt vs 1 5 9 13) _ _ (by exact ⟨f8, f10, f11, f12, rfl, rfl, H156, H159, (by repeat (first | exact hf | refine heap_far ?_ (by omega))), by omega, by rw [qAt_len]; exact hw⟩) (by omega)).trans ?_
              simp only [places, List.drop_succ_cons, List.drop_zero, List.foldl_cons, qP]
            | 2, _ =>
              simp -implicitDefEqProofs -dsimp +contextual (maxSteps := 5000000) (disch := first | omega | (simp only [go_sem] <;> omega) | (show indepB _ _ = true; refine id ?_; kernel_rfl)) only [go_sem, ↓reduceIte, Nat.reduceEqDiff, Nat.reduceBEq, Nat.reduceAdd, Nat.reduceSub, Nat.reduceLeDiff, Nat.reduceLT, Nat.reduceMul, Int.reduceNeg, Int.reduceLT, Int.reduceLE, Int.reduceAdd, Int.reduceSub, Int.reduceToNat, Int.reduceMul, Int.reduceMod, Int.reduceTMod, Int.reduceTDiv, Int.reduceEq, Nat.reducePow, Nat.reduceDiv, Nat.reduceShiftRight, Nat.reduceMod, List.reduceReplicate, f8, f10, f11, f12, f13, H129, H156, H159, hw]
              rw [qAt_eq]
              refine (ihm 3 (qAt vs 2 6 10 14) _ _ (by exact ⟨f8, f10, f11, f12, rfl, rfl, H156, H159, (by repeat (first | exact hf | refine heap_far ?_ (by omega))), by omega, by rw [qAt_len]; exact hw⟩) (by omega)).trans ?_
              simp only [places, List.drop_succ_cons, List.drop_zero, List.foldl_cons, qP]
            | 3, _ =>
              simp -implicitDefEqProofs -dsimp +contextual (maxSteps := 5000000) (disch := first | omega | (simp only [go_sem] <;> omega) | (show indepB _ _ = true; refine id ?_; kernel_rfl)) only [go_sem, ↓reduceIte, Nat.reduceEqDiff, Nat.reduceBEq, Nat.reduceAdd, Nat.reduceSub, Nat.reduceLeDiff, Nat.reduceLT, Nat.reduceMul, Int.reduceNeg, Int.reduceLT, Int.reduceLE, Int.reduceAdd, Int.reduceSub, Int.reduceToNat, Int.reduceMul, Int.reduceMod, Int.reduceTMod, Int.reduceTDiv, Int.reduceEq, Nat.reducePow, Nat.reduceDiv, Nat.reduceShiftRight, Nat.reduceMod, List.reduceReplicate, f8, f10, f11, f12, f13, H129, H156, H159, hw]
              rw [qAt_eq]
              refine (ihm 4 (qAt vs 3 7 11 15) _ _ (by exact ⟨f8, f10, f11, f12, rfl, rfl, H156, H159, (by repeat (first | exact hf | refine heap_far ?_ (by omega))), by omega, by rw [qAt_len]; exact hw⟩) (by omega)).trans ?_
              simp only [places, List.drop_succ_cons, List.drop_zero, List.foldl_cons, qP]
            | 4, _ =>
              simp -implicitDefEqProofs -dsimp +contextual (maxSteps := 5000000) (disch := first | omega | (simp only [go_sem] <;> omega) | (show indepB _ _ = true; refine id ?_; kernel_rfl)) only [go_sem, ↓reduceIte, Nat.reduceEqDiff, Nat.reduceBEq, Nat.reduceAdd, Nat.reduceSub, Nat.reduceLeDiff, Nat.reduceLT, Nat.reduceMul, Int.reduceNeg, Int.reduceLT, Int.reduceLE, Int.reduceAdd, Int.reduceSub, Int.reduceToNat, Int.reduceMul, Int.reduceMod, Int.reduceTMod, Int.reduceTDiv, Int.reduceEq, Nat.reducePow, Nat.reduceDiv, Nat.reduceShiftRight, Nat.reduceMod, List.reduceReplicate, f8, f10, f11, f12, f13, H129, H156, H159, hw]
              rw [qAt_eq]
              refine (ihm 5 (qAt vs 0 5 10 15) _ _ (by exact ⟨f8, f10, f11, f12, rfl, rfl, H156, H159, (by repeat (first | exact hf | refine heap_far ?_ (by omega))), by omega, by rw [qAt_len]; exact hw⟩) (by omega)).trans ?_
              simp only [places, List.drop_succ_cons, List.drop_zero, List.foldl_cons, qP]
            | 5, _ =>
              simp -implicitDefEqProofs -dsimp +contextual (maxSteps := 5000000) (disch := first | omega | (simp only [go_sem] <;> omega) | (show indepB _ _ = true; refine id ?_; kernel_rfl)) only [go_sem, ↓reduceIte, Nat.reduceEqDiff, Nat.reduceBEq, Nat.reduceAdd, Nat.reduceSub, Nat.reduceLeDiff, Nat.reduceLT, Nat.reduceMul, Int.reduceNeg, Int.reduceLT, Int.reduceLE, Int.reduceAdd, Int.reduceSub, Int.reduceToNat, Int.reduceMul, Int.reduceMod, Int.reduceTMod, Int.reduceTDiv, Int.reduceEq, Nat.reducePow, Nat.reduceDiv, Nat.reduceShiftRight, Nat.reduceMod, List.reduceReplicate, f8, f10, f11, f12, f13, H129, H156, H159, hw]
              rw [qAt_eq]
              refine (ihm 6 (qAt vs 1 6 11 12) _ _ (by exact ⟨f8, f10, f11, f12, rfl, rfl, H156, H159, (by repeat (first | exact hf | refine heap_far ?_ (by omega))), by omega, by rw [qAt_len]; exact hw⟩) (by omega)).trans ?_
              simp only [places, List.drop_succ_cons, List.drop_zero, List.foldl_cons, qP]
            | 6, _ =>
              simp -implicitDefEqProofs -dsimp +contextual (maxSteps := 5000000) (disch := first | omega | (simp only [go_sem] <;> omega) | (show indepB _ _ = true; refine id ?_; kernel_rfl)) only [go_sem, ↓reduceIte, Nat.reduceEqDiff, Nat.reduceBEq, Nat.reduceAdd, Nat.reduceSub, Nat.reduceLeDiff, Nat.reduceLT, Nat.reduceMul, Int.reduceNeg, Int.reduceLT, Int.reduceLE, Int.reduceAdd, Int.reduceSub, Int.reduceToNat, Int.reduceMul, Int.reduceMod, Int.reduceTMod, Int.reduceTDiv, Int.reduceEq, Nat.reducePow, Nat.reduceDiv, Nat.reduceShiftRight, Nat.reduceMod, List.reduceReplicate, f8, f10, f11, f12, f13, H129, H156, H159, hw]
              rw [qAt_eq]
              refine (ihm 7 (qAt vs 2 7 8 13) _ _ (by exact ⟨f8, f10, f11, f12, rfl, rfl, H156, H159, (by repeat (first | exact hf | refine heap_far ?_ (by omega))), by omega, by rw [qAt_len]; exact hw⟩) (by omega)).trans ?_
              simp only [places, List.drop_succ_cons, List.drop_zero, List.foldl_cons, qP]
            | 7, _ =>
              simp -implicitDefEqProofs -dsimp +contextual (maxSteps := 5000000) (disch := first | omega | (simp only [go_sem] <;> omega) | (show indepB _ _ = true; refine id ?_; kernel_rfl)) only [go_sem, ↓reduceIte, Nat.reduceEqDiff, Nat.reduceBEq, Nat.reduceAdd, Nat.reduceSub, Nat.reduceLeDiff, Nat.reduceLT, Nat.reduceMul, Int.reduceNeg, Int.reduceLT, Int.reduceLE, Int.reduceAdd, Int.reduceSub, Int.reduceToNat, Int.reduceMul, Int.reduceMod, Int.reduceTMod, Int.reduceTDiv, Int.reduceEq, Nat.reducePow, Nat.reduceDiv, Nat.reduceShiftRight, Nat.reduceMod, List.reduceReplicate, f8, f10, f11, f12, f13, H129, H156, H159, hw]
              rw [qAt_eq]
              refine (ihm 8 (qAt vs 3 4 9 14) _ _ (by exact ⟨f8, f10, f11, f12, rfl, rfl, H156, H159, (by repeat (first | exact hf | refine heap_far ?_ (by omega))), by omega, by rw [qAt_len]; exact hw⟩) (by omega)).trans ?_
              simp only [places, List.drop_succ_cons, List.drop_zero, List.foldl_cons, qP]
          · obtain rfl : m = 8 := by omega
            simp -implicitDefEqProofs -dsimp +contextual (maxSteps := 5000000) (disch := first | omega | (simp only [go_sem] <;> omega) | (show indepB _ _ = true; refine id ?_; kernel_rfl)) only [go_sem, ↓reduceIte, Nat.reduceEqDiff, Nat.reduceBEq, Nat.reduceAdd, Nat.reduceSub, Nat.reduceLeDiff, Nat.reduceLT, Nat.reduceMul, Int.reduceNeg, Int.reduceLT, Int.reduceLE, Int.reduceAdd, Int.reduceSub, Int.reduceToNat, Int.reduceMul, Int.reduceMod, Int.reduceTMod, Int.reduceTDiv, Int.reduceEq, Nat.reducePow, Nat.reduceDiv, Nat.reduceShiftRight, Nat.reduceMod, List.reduceReplicate, f8, f10, f11, f12, f13, H129, H156, H159, hw]
            exact ih (n + 1) vs _ _ ⟨f8, f10, f11, rfl, H129, H156, H159, hf, by omega, hw⟩ (by omega)
        · simp -implicitDefEqProofs -dsimp +contextual (maxSteps := 5000000) (disch := first | omega | (simp only [go_sem] <;> omega) | (show indepB _ _ = true; refine id ?_; kernel_rfl)) only [go_sem, ↓reduceIte, Nat.reduceEqDiff, Nat.reduceBEq, Nat.reduceAdd, Nat.reduceSub, Nat.reduceLeDiff, Nat.reduceLT, Nat.reduceMul, Int.reduceNeg, Int.reduceLT, Int.reduceLE, Int.reduceAdd, Int.reduceSub, Int.reduceToNat, Int.reduceMul, Int.reduceMod, Int.reduceTMod, Int.reduceTDiv, Int.reduceEq, Nat.reducePow, Nat.reduceDiv, Nat.reduceShiftRight, Nat.reduceMod, List.reduceReplicate, f8, f10, f11, f12, H129, H156, H159, hl, hw]
          have H246 := hf 246 (by omega)
          have H247 := hf 247 (by omega)
          rw [show 10 - n = 0 by omega, roundsW, kLoop_eq]
          simp -implicitDefEqProofs -dsimp +contextual (maxSteps := 5000000) (disch := first | omega | (simp only [go_sem] <;> omega) | (show indepB _ _ = true; refine id ?_; kernel_rfl)) only [go_sem, ↓reduceIte, Nat.reduceEqDiff, Nat.reduceBEq, Nat.reduceAdd, Nat.reduceSub, Nat.reduceLeDiff, Nat.reduceLT, Nat.reduceMul, Int.reduceNeg, Int.reduceLT, Int.reduceLE, Int.reduceAdd, Int.reduceSub, Int.reduceToNat, Int.reduceMul, Int.reduceMod, Int.reduceTMod, Int.reduceTDiv, Int.reduceEq, Nat.reducePow, Nat.reduceDiv, Nat.reduceShiftRight, Nat.reduceMod, List.reduceReplicate, f8, f10, f11, f12, H129, H156, H159, H246, H247, hlen, hw]
          refine (kLoop_rec2 (fun (m : Nat) (out : List UInt8) f H => f 8 = .osl 129 10 0 16 ∧ f 10 = .osl 156 2 0 16 ∧ f 18 = .osl 247 m 0 (4 * m) ∧ f 19 = .int .i64 (m : Int) ∧ H 129 = ⟨10, .live, 1, ws.map r32, false⟩ ∧ H 156 = ⟨2, .live, 1, bg.map r32, false⟩ ∧ H 247 = ⟨m, .live, 1, out.map byteRow, false⟩ ∧ out.length = 4 * m ∧ m ≤ 16) (fun m _ => 16 - m) (fun m out => some (.tup [.slice 1 ((out ++ outW (ws.drop m) (bg.drop m)).map byteRow), .int .i64 0], [])) ?_ 1 (bytes4 (ws[0] + bg[0])) _ _ ?_).trans ?_
          rotate_left
          · exact ⟨f8, f10, rfl, rfl, H129, H156, rfl, rfl, by omega⟩
          · rw [show outW ws bg = outW (ws[0] :: ws.drop 1) (bg[0] :: bg.drop 1) by rw [← List.drop_eq_getElem_cons, ← List.drop_eq_getElem_cons]; rfl, outW]
          clear f8 f10 f11 f12 H129 H156 H159 hf H246 H247
          rintro m out f H ⟨f8, f10, f18, f19, H129, H156, H247, ho, hm⟩ ih
          by_cases hl : m < 16
          · simp -implicitDefEqProofs -dsimp +contextual (maxSteps := 5000000) (disch := first | omega | (simp only [go_sem] <;> omega) | (show indepB _ _ = true; refine id ?_; kernel_rfl)) only [go_sem, ↓reduceIte, Nat.reduceEqDiff, Nat.reduceBEq, Nat.reduceAdd, Nat.reduceSub, Nat.reduceLeDiff, Nat.reduceLT, Nat.reduceMul, Int.reduceNeg, Int.reduceLT, Int.reduceLE, Int.reduceAdd, Int.reduceSub, Int.reduceToNat, Int.reduceMul, Int.reduceMod, Int.reduceTMod, Int.reduceTDiv, Int.reduceEq, Nat.reducePow, Nat.reduceDiv, Nat.reduceShiftRight, Nat.reduceMod, List.reduceReplicate, f8, f10, f18, f19, H129, H156, H247, hl, hlen, hw, ho]
            rw [List.drop_eq_getElem_cons (by omega : m < ws.length), List.drop_eq_getElem_cons (by omega : m < bg.length), outW, ← List.append_assoc]
            exact ih (m + 1) (out ++ bytes4 (ws[m] + bg[m])) _ _ ⟨f8, f10, rfl, rfl, H129, H156, rfl, by simp [ho, bytes4]; omega, by omega⟩ (by omega)
          · simp -implicitDefEqProofs -dsimp +contextual (maxSteps := 5000000) (disch := first | omega | (simp only [go_sem] <;> omega) | (show indepB _ _ = true; refine id ?_; kernel_rfl)) only [go_sem, ↓reduceIte, Nat.reduceEqDiff, Nat.reduceBEq, Nat.reduceAdd, Nat.reduceSub, Nat.reduceLeDiff, Nat.reduceLT, Nat.reduceMul, Int.reduceNeg, Int.reduceLT, Int.reduceLE, Int.reduceAdd, Int.reduceSub, Int.reduceToNat, Int.reduceMul, Int.reduceMod, Int.reduceTMod, Int.reduceTDiv, Int.reduceEq, Nat.reducePow, Nat.reduceDiv, Nat.reduceShiftRight, Nat.reduceMod, List.reduceReplicate, f8, f10, f18, f19, H129, H156, H247, hl, hlen, hw, ho]
            simp only [outW, List.append_nil]
    · simp -implicitDefEqProofs -dsimp +contextual (maxSteps := 5000000) (disch := first | omega | (simp only [go_sem] <;> omega) | (show indepB _ _ = true; refine id ?_; kernel_rfl)) only [go_sem, ↓reduceIte, Nat.reduceEqDiff, Nat.reduceBEq, Nat.reduceAdd, Nat.reduceSub, Nat.reduceLeDiff, Nat.reduceLT, Nat.reduceMul, Int.reduceNeg, Int.reduceLT, Int.reduceLE, Int.reduceAdd, Int.reduceSub, Int.reduceToNat, Int.reduceMul, Int.reduceMod, Int.reduceTMod, Int.reduceTDiv, Int.reduceEq, Nat.reducePow, Nat.reduceDiv, Nat.reduceShiftRight, Nat.reduceMod, List.reduceReplicate, hk, hn]
  · simp -implicitDefEqProofs -dsimp +contextual (maxSteps := 5000000) (disch := first | omega | (simp only [go_sem] <;> omega) | (show indepB _ _ = true; refine id ?_; kernel_rfl)) only [go_sem, ↓reduceIte, Nat.reduceEqDiff, Nat.reduceBEq, Nat.reduceAdd, Nat.reduceSub, Nat.reduceLeDiff, Nat.reduceLT, Nat.reduceMul, Int.reduceNeg, Int.reduceLT, Int.reduceLE, Int.reduceAdd, Int.reduceSub, Int.reduceToNat, Int.reduceMul, Int.reduceMod, Int.reduceTMod, Int.reduceTDiv, Int.reduceEq, Nat.reducePow, Nat.reduceDiv, Nat.reduceShiftRight, Nat.reduceMod, List.reduceReplicate, hk]

end Go.Proofs.Ytdfkkfnjlcdjaaa
