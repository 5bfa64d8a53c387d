import Derived.Test.YtdfkkfnjlcdjaaaTCipher
namespace Go.Proofs.Ytdfkkfnjlcdjaaa
open Go.Am
set_option linter.unusedSimpArgs false
set_option linter.unusedVariables false
set_option maxRecDepth 100000
/-! Layer 6: blocks. -/
def bytes4 (x : UInt32) : List UInt8 := [x.toUInt8, (W32.shr x 8).toUInt8, (W32.shr x 16).toUInt8, (W32.shr x 24).toUInt8]
def outW : List UInt32 → List UInt32 → List UInt8
  | a :: us, b :: bs => bytes4 (a + b) ++ outW us bs
  | _, _ => []
theorem outW_len : ∀ (us bs : List UInt32), us.length = bs.length → (outW us bs).length = 4 * us.length
  | [], [], _ => rfl
  | a :: us, b :: bs, h => by
    have := outW_len us bs (by simpa using h)
    simp [outW, bytes4, this]; omega
def blockW (ws : List UInt32) : List UInt8 := outW (roundsW 10 ws) ws
@[go_sem] theorem blockW_len (ws : List UInt32) : (blockW ws).length = 4 * ws.length := by rw [blockW, outW_len _ _ (roundsW_len ..), roundsW_len]
theorem set4_take (bs : List UInt8) (n : Nat) (a b c d : UInt8) (h : 4 * n + 4 ≤ bs.length) : ((((bs.set (4 * n) a).set (4 * n + 1) b).set (4 * n + 2) c).set (4 * n + 3) d).take (4 * (n + 1)) = bs.take (4 * n) ++ [a, b, c, d] := by
  apply List.ext_getElem?
  intro i
  simp only [List.getElem?_take, List.getElem?_set, List.getElem?_append, List.length_set, List.length_take]
  rw [Nat.min_eq_left (by omega)]
  by_cases h0 : i < 4 * n
  · rw [if_pos (by omega), if_neg (by omega), if_neg (by omega), if_neg (by omega), if_neg (by omega), if_pos h0, if_pos h0]
  · by_cases h1 : i < 4 * (n + 1)
    · obtain ⟨k, rfl⟩ : ∃ k, i = 4 * n + k := ⟨i - 4 * n, by omega⟩
      rw [if_pos h1, if_neg h0]
      have hk : k < 4 := by omega
      rw [Nat.add_sub_cancel_left]
      match k, hk with
      | 0, _ => simp; omega
      | 1, _ => simp; omega
      | 2, _ => simp; omega
      | 3, _ => simp; omega
    · rw [if_neg h1, if_neg h0]; simp; omega

def Z64 : List AVal := (List.replicate 64 (0 : UInt8)).map w8
@[go_sem] theorem Z64_len : Z64.length = 64 := rfl
@[go_sem] theorem Z64_drop : Z64.drop 64 = [] := rfl
set_option maxHeartbeats 4000000 in
@[go_sem] theorem e26 (ws : List UInt32) (h : ws.length = 16) : fn C 26 [] [.agg (ws.map w32)] = some (.agg ((blockW ws).map w8), []) := by
  rw [fn_text Try.func26 rfl rfl Try.results26 locM26 rfl rfl (okArgs_of (by kernel_rfl) (by kernel_rfl) (by simp only [go_sem]) rfl)]
  simp -implicitDefEqProofs -dsimp +contextual (maxSteps := 5000000) (disch := first | omega | (simp only [go_sem] <;> omega) | (show indepB _ _ = true; refine id ?_; kernel_rfl)) only [go_sem, ↓reduceIte, Nat.reduceEqDiff, Nat.reduceBEq, Nat.reduceAdd, Nat.reduceSub, Nat.reduceLeDiff, Nat.reduceLT, Nat.reduceMul, Int.reduceNeg, Int.reduceLT, Int.reduceLE, Int.reduceAdd, Int.reduceSub, Int.reduceToNat, Int.reduceMul, Int.reduceMod, Int.reduceTMod, Int.reduceTDiv, Int.reduceEq, Nat.reducePow, Nat.reduceDiv, Nat.reduceShiftRight, Nat.reduceMod, List.reduceReplicate, h]
  refine (kLoop_rec2 (fun (i : Nat) (vs : List UInt32) f H => f 1 = .ptr 101 1 0 0 ∧ f 2 = .ptr 102 1 0 0 ∧ f 3 = .ptr 103 1 0 0 ∧ f 8 = .int .i64 (i : Int) ∧ H 101 = ⟨1, .live, 16, [ws.map w32], false⟩ ∧ H 102 = ⟨1, .live, 64, [Z64], false⟩ ∧ H 103 = ⟨1, .live, 16, [vs.map w32], false⟩ ∧ H 104 = ⟨0, .dead, 0, [], false⟩ ∧ i ≤ 10 ∧ vs.length = 16) (fun i _ => 10 - i) (fun i vs => some (.agg ((outW (roundsW (10 - i) vs) ws).map w8), [])) ?_ 0 ws _ _ ⟨rfl, rfl, rfl, rfl, rfl, rfl, rfl, rfl, by omega, h⟩).trans (by simp only [blockW, Nat.sub_zero])
  rintro i vs f H ⟨f1, f2, f3, f8, H1, H2, H3, H4, hi, hv⟩ ih
  by_cases hl : i < 10
  · simp -implicitDefEqProofs -dsimp +contextual (maxSteps := 5000000) (disch := first | omega | (simp only [go_sem] <;> omega) | (show indepB _ _ = true; refine id ?_; kernel_rfl)) only [go_sem, ↓reduceIte, Nat.reduceEqDiff, Nat.reduceBEq, Nat.reduceAdd, Nat.reduceSub, Nat.reduceLeDiff, Nat.reduceLT, Nat.reduceMul, Int.reduceNeg, Int.reduceLT, Int.reduceLE, Int.reduceAdd, Int.reduceSub, Int.reduceToNat, Int.reduceMul, Int.reduceMod, Int.reduceTMod, Int.reduceTDiv, Int.reduceEq, Nat.reducePow, Nat.reduceDiv, Nat.reduceShiftRight, Nat.reduceMod, List.reduceReplicate, f1, f2, f3, f8, H1, H3, hl, hv]
    rw [show 10 - i = (10 - (i + 1)) + 1 by omega, roundsW]
    exact ih (i + 1) (roundW vs) _ _ ⟨f1, f2, f3, rfl, H1, H2, rfl, H4, by omega, by rw [roundW_len]; exact hv⟩ (by omega)
  · simp -implicitDefEqProofs -dsimp +contextual (maxSteps := 5000000) (disch := first | omega | (simp only [go_sem] <;> omega) | (show indepB _ _ = true; refine id ?_; kernel_rfl)) only [go_sem, ↓reduceIte, Nat.reduceEqDiff, Nat.reduceBEq, Nat.reduceAdd, Nat.reduceSub, Nat.reduceLeDiff, Nat.reduceLT, Nat.reduceMul, Int.reduceNeg, Int.reduceLT, Int.reduceLE, Int.reduceAdd, Int.reduceSub, Int.reduceToNat, Int.reduceMul, Int.reduceMod, Int.reduceTMod, Int.reduceTDiv, Int.reduceEq, Nat.reducePow, Nat.reduceDiv, Nat.reduceShiftRight, Nat.reduceMod, List.reduceReplicate, f1, f2, f3, f8, H1, H3, H4, hl, hv]
    rw [show 10 - i = 0 by omega, roundsW]
    refine (kLoop_rec2 (fun (n : Nat) (bs : List UInt8) f H => f 1 = .ptr 101 1 0 0 ∧ f 2 = .ptr 102 1 0 0 ∧ f 3 = .ptr 103 1 0 0 ∧ f 4 = .ptr 104 1 0 0 ∧ f 13 = .int .i64 (n : Int) ∧ H 101 = ⟨1, .live, 16, [ws.map w32], false⟩ ∧ H 102 = ⟨1, .live, 64, [Z64], false⟩ ∧ H 103 = ⟨1, .live, 16, [vs.map w32], false⟩ ∧ H 104 = ⟨1, .live, 64, [bs.map w8], false⟩ ∧ n ≤ 16 ∧ bs.length = 64) (fun n _ => 16 - n) (fun n bs => some (.agg ((bs.take (4 * n) ++ outW (vs.drop n) (ws.drop n)).map w8), [])) ?_ 0 (List.replicate 64 0) _ _ ?_).trans ?_
    rotate_left
    · exact ⟨f1, f2, f3, rfl, rfl, H1, H2, H3, rfl, by omega, rfl⟩
    · simp only [Nat.mul_zero, List.take_zero, List.drop_zero, List.nil_append]
    rintro n bs f H ⟨f1, f2, f3, f4, f13, H1, H2, H3, H4, hn, hb⟩ ih
    by_cases hl : n < 16
    · simp -implicitDefEqProofs -dsimp +contextual (maxSteps := 5000000) (disch := first | omega | (simp only [go_sem] <;> omega) | (show indepB _ _ = true; refine id ?_; kernel_rfl)) only [go_sem, ↓reduceIte, Nat.reduceEqDiff, Nat.reduceBEq, Nat.reduceAdd, Nat.reduceSub, Nat.reduceLeDiff, Nat.reduceLT, Nat.reduceMul, Int.reduceNeg, Int.reduceLT, Int.reduceLE, Int.reduceAdd, Int.reduceSub, Int.reduceToNat, Int.reduceMul, Int.reduceMod, Int.reduceTMod, Int.reduceTDiv, Int.reduceEq, Nat.reducePow, Nat.reduceDiv, Nat.reduceShiftRight, Nat.reduceMod, List.reduceReplicate, f1, f2, f3, f4, f13, H1, H2, H3, H4, hl, hv, hb, h]
      rw [List.drop_eq_getElem_cons (by omega : n < vs.length), List.drop_eq_getElem_cons (by omega : n < ws.length)]
      refine (ih (n + 1) ((((bs.set (4 * n) (vs[n] + ws[n]).toUInt8).set (4 * n + 1) (W32.shr (vs[n] + ws[n]) 8).toUInt8).set (4 * n + 2) (W32.shr (vs[n] + ws[n]) 16).toUInt8).set (4 * n + 3) (W32.shr (vs[n] + ws[n]) 24).toUInt8) _ _ (by exact ⟨f1, f2, f3, f4, rfl, H1, H2, H3, rfl, by omega, by simpa using hb⟩) (by omega)).trans ?_
      rw [set4_take _ _ _ _ _ _ (by omega)]
      simp only [outW, bytes4, List.append_assoc]
    · simp -implicitDefEqProofs -dsimp +contextual (maxSteps := 5000000) (disch := first | omega | (simp only [go_sem] <;> omega) | (show indepB _ _ = true; refine id ?_; kernel_rfl)) only [go_sem, ↓reduceIte, Nat.reduceEqDiff, Nat.reduceBEq, Nat.reduceAdd, Nat.reduceSub, Nat.reduceLeDiff, Nat.reduceLT, Nat.reduceMul, Int.reduceNeg, Int.reduceLT, Int.reduceLE, Int.reduceAdd, Int.reduceSub, Int.reduceToNat, Int.reduceMul, Int.reduceMod, Int.reduceTMod, Int.reduceTDiv, Int.reduceEq, Nat.reducePow, Nat.reduceDiv, Nat.reduceShiftRight, Nat.reduceMod, List.reduceReplicate, f1, f2, f3, f4, f13, H1, H2, H3, H4, hl, hv, hb, h]
      simp [show n = 16 by omega, hb, hv, h, List.take_of_length_le, outW]

theorem blockW_len64 (ws : List UInt32) (h : ws.length = 16) : (blockW ws).length = 64 := by rw [blockW_len, h]
theorem firstW_len (key nonce : List UInt8) (ctr : UInt32) : (firstW key nonce ctr).length = 16 := rfl
attribute [go_sem] firstW_len
def blockB (key nonce : List UInt8) (ctr : UInt32) : List UInt8 := blockW (firstW key nonce ctr)
@[go_sem] theorem blockB_len (key nonce : List UInt8) (ctr : UInt32) : (blockB key nonce ctr).length = 64 := blockW_len64 _ rfl
@[go_sem] theorem blockB_eq (key nonce : List UInt8) (ctr : UInt32) : blockW (firstW key nonce ctr) = blockB key nonce ctr := rfl

set_option maxHeartbeats 4000000 in
@[go_sem] theorem e20 (key nonce : List UInt8) (ctr : UInt32) : fn C 20 [] [.slice 1 (key.map byteRow), .slice 1 (nonce.map byteRow), .int .u32 (ctr.toNat : Int)] = some (if key.length = 32 ∧ nonce.length = 12 then .tup [.slice 1 ((blockB key nonce ctr).map byteRow), .int .i64 0] else .tup [.slice 1 [], .int .i64 2], []) := by
  rw [fn_text Try.func20 rfl rfl Try.results20 locM20 rfl rfl (by kernel_rfl)]
  by_cases hk : key.length = 32
  · by_cases hn : nonce.length = 12
    · have hb := e26 (firstW key nonce ctr) rfl
      simp -implicitDefEqProofs -dsimp +contextual (maxSteps := 5000000) (disch := first | omega | (simp only [go_sem] <;> omega) | (show indepB _ _ = true; refine id ?_; kernel_rfl)) only [go_sem, ↓reduceIte, Nat.reduceEqDiff, Nat.reduceBEq, Nat.reduceAdd, Nat.reduceSub, Nat.reduceLeDiff, Nat.reduceLT, Nat.reduceMul, Int.reduceNeg, Int.reduceLT, Int.reduceLE, Int.reduceAdd, Int.reduceSub, Int.reduceToNat, Int.reduceMul, Int.reduceMod, Int.reduceTMod, Int.reduceTDiv, Int.reduceEq, Nat.reducePow, Nat.reduceDiv, Nat.reduceShiftRight, Nat.reduceMod, List.reduceReplicate, hk, hn, hb]
    · simp -implicitDefEqProofs -dsimp +contextual (maxSteps := 5000000) (disch := first | omega | (simp only [go_sem] <;> omega) | (show indepB _ _ = true; refine id ?_; kernel_rfl)) only [go_sem, ↓reduceIte, Nat.reduceEqDiff, Nat.reduceBEq, Nat.reduceAdd, Nat.reduceSub, Nat.reduceLeDiff, Nat.reduceLT, Nat.reduceMul, Int.reduceNeg, Int.reduceLT, Int.reduceLE, Int.reduceAdd, Int.reduceSub, Int.reduceToNat, Int.reduceMul, Int.reduceMod, Int.reduceTMod, Int.reduceTDiv, Int.reduceEq, Nat.reducePow, Nat.reduceDiv, Nat.reduceShiftRight, Nat.reduceMod, List.reduceReplicate, hk, hn]
  · simp -implicitDefEqProofs -dsimp +contextual (maxSteps := 5000000) (disch := first | omega | (simp only [go_sem] <;> omega) | (show indepB _ _ = true; refine id ?_; kernel_rfl)) only [go_sem, ↓reduceIte, Nat.reduceEqDiff, Nat.reduceBEq, Nat.reduceAdd, Nat.reduceSub, Nat.reduceLeDiff, Nat.reduceLT, Nat.reduceMul, Int.reduceNeg, Int.reduceLT, Int.reduceLE, Int.reduceAdd, Int.reduceSub, Int.reduceToNat, Int.reduceMul, Int.reduceMod, Int.reduceTMod, Int.reduceTDiv, Int.reduceEq, Nat.reducePow, Nat.reduceDiv, Nat.reduceShiftRight, Nat.reduceMod, List.reduceReplicate, hk]

end Go.Proofs.Ytdfkkfnjlcdjaaa
