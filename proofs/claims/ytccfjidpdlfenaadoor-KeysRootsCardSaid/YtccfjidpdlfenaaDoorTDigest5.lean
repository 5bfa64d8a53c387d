import Derived.Test.YtccfjidpdlfenaaDoorTDigest4
namespace Go.Proofs.YtccfjidpdlfenaaDoor
open Go.Am
set_option linter.unusedSimpArgs false
set_option linter.unusedVariables false
set_option maxRecDepth 100000
/-! Layer 3: what stands behind a text. -/
def padD (n : Nat) : List UInt8 := 128 :: (List.replicate ((119 - n % 64) % 64) 0 ++ beN 8 (n * 8))
set_option maxHeartbeats 1000000 in
@[go_sem] theorem e131 (n : Nat) (h : n ≤ 1000000000000) : fn C 131 [] [.int .i64 (n : Int)] = some (.slice 1 ((padD n).map byteRow), []) := by
  rw [fn_text Tryd.func131 rfl rfl Tryd.results131 locM131 rfl rfl (by kernel_rfl)]
  have h119 : (119 : Int) - ((n % 64 : Nat) : Int) = ((119 - n % 64 : Nat) : Int) := by omega
  simp -implicitDefEqProofs -dsimp +contextual (maxSteps := 5000000) (disch := first | omega | (simp only [go_sem] <;> omega) | (show indepB _ _ = true; refine id ?_; kernel_rfl)) only [go_sem, ↓reduceIte, Nat.reduceEqDiff, Nat.reduceBEq, Nat.reduceAdd, Nat.reduceSub, Nat.reduceLeDiff, Nat.reduceLT, Nat.reduceMul, Int.reduceNeg, Int.reduceLT, Int.reduceLE, Int.reduceAdd, Int.reduceSub, Int.reduceToNat, Int.reduceMul, Int.reduceMod, Int.reduceTMod, Int.reduceTDiv, Int.reduceEq, Nat.reducePow, Nat.reduceDiv, Nat.reduceShiftRight, Nat.reduceMod, List.reduceReplicate, h119, kLoop_eq, Nat.not_lt_zero]
  have b1 : ((n * 8 / 72057594037927936 : Nat) : Int) = ((UInt8.ofNat (n * 8 / 72057594037927936)).toNat : Int) := by simp only [UInt8.toNat_ofNat']; omega
  have b2 : ((n * 8 / 281474976710656 : Nat) : Int) = ((UInt8.ofNat (n * 8 / 281474976710656)).toNat : Int) := by simp only [UInt8.toNat_ofNat']; omega
  have b3 : ((n * 8 / 1099511627776 : Nat) : Int) = ((UInt8.ofNat (n * 8 / 1099511627776)).toNat : Int) := by simp only [UInt8.toNat_ofNat']; omega
  rw [b1, b2, b3, u8_wrap, u8_wrap, u8_wrap, u8_wrap, u8_wrap]
  simp only [padD, beN, show List.range 8 = [0, 1, 2, 3, 4, 5, 6, 7] from rfl, List.map_cons, List.map_nil, List.map_append, List.append_assoc, List.cons_append, List.nil_append, List.append_nil]
  rfl
set_option maxHeartbeats 1000000 in
@[go_sem] theorem e134 (n : Nat) (h : n ≤ 1000000000000) : fn C 134 [] [.int .i64 (n : Int)] = some (.slice 1 ((padD n).map byteRow), []) := by
  rw [fn_text Tryd.func134 rfl rfl Tryd.results134 locM134 rfl rfl (by kernel_rfl)]
  simp -implicitDefEqProofs -dsimp +contextual (maxSteps := 5000000) (disch := first | omega | (simp only [go_sem] <;> omega) | (show indepB _ _ = true; refine id ?_; kernel_rfl)) only [go_sem, ↓reduceIte, Nat.reduceEqDiff, Nat.reduceBEq, Nat.reduceAdd, Nat.reduceSub, Nat.reduceLeDiff, Nat.reduceLT, Nat.reduceMul, Int.reduceNeg, Int.reduceLT, Int.reduceLE, Int.reduceAdd, Int.reduceSub, Int.reduceToNat, Int.reduceMul, Int.reduceMod, Int.reduceTMod, Int.reduceTDiv, Int.reduceEq, Nat.reducePow, Nat.reduceDiv, Nat.reduceShiftRight, Nat.reduceMod, List.reduceReplicate, Nat.not_lt_zero]
  obtain ⟨Z, hZ⟩ : ∃ Z, Z = (119 - n % 64) % 64 := ⟨_, rfl⟩
  refine (kLoop_rec (fun (k : Nat) f H => f 0 = .int .i64 (n : Int) ∧ f 3 = .osl 108 (k + 1) 0 (k + 1) ∧ H 108 = ⟨k + 1, .live, 1, (128 :: List.replicate k (0 : UInt8)).map byteRow, false⟩ ∧ k ≤ Z) (fun k => Z - k) (fun _ => some (.slice 1 ((padD n).map byteRow), [])) ?_ 0 _ _ ⟨rfl, rfl, rfl, by omega⟩)
  rintro k f H ⟨f0, f3, H8, hk⟩ ih
  by_cases hl : (n % 64 + (k + 1) + 8) % 64 = 0
  · obtain rfl : k = Z := by omega
    simp -implicitDefEqProofs -dsimp +contextual (maxSteps := 5000000) (disch := first | omega | (simp only [go_sem] <;> omega) | (show indepB _ _ = true; refine id ?_; kernel_rfl)) only [go_sem, ↓reduceIte, Nat.reduceEqDiff, Nat.reduceBEq, Nat.reduceAdd, Nat.reduceSub, Nat.reduceLeDiff, Nat.reduceLT, Nat.reduceMul, Int.reduceNeg, Int.reduceLT, Int.reduceLE, Int.reduceAdd, Int.reduceSub, Int.reduceToNat, Int.reduceMul, Int.reduceMod, Int.reduceTMod, Int.reduceTDiv, Int.reduceEq, Nat.reducePow, Nat.reduceDiv, Nat.reduceShiftRight, Nat.reduceMod, List.reduceReplicate, f0, f3, H8, hl, kLoop_eq]
    have hm : ∀ m : Nat, ((m % 256 : Nat) : Int) = ((UInt8.ofNat m).toNat : Int) := fun m => by simp [UInt8.toNat_ofNat']
    rw [hm, hm, hm, hm, hm, hm, hm, hm, hZ]
    simp only [padD, beN, show List.range 8 = [0, 1, 2, 3, 4, 5, 6, 7] from rfl, List.map_cons, List.map_nil, List.map_append, List.append_assoc, List.cons_append, List.nil_append, List.append_nil]
    rfl
  · simp -implicitDefEqProofs -dsimp +contextual (maxSteps := 5000000) (disch := first | omega | (simp only [go_sem] <;> omega) | (show indepB _ _ = true; refine id ?_; kernel_rfl)) only [go_sem, ↓reduceIte, Nat.reduceEqDiff, Nat.reduceBEq, Nat.reduceAdd, Nat.reduceSub, Nat.reduceLeDiff, Nat.reduceLT, Nat.reduceMul, Int.reduceNeg, Int.reduceLT, Int.reduceLE, Int.reduceAdd, Int.reduceSub, Int.reduceToNat, Int.reduceMul, Int.reduceMod, Int.reduceTMod, Int.reduceTDiv, Int.reduceEq, Nat.reducePow, Nat.reduceDiv, Nat.reduceShiftRight, Nat.reduceMod, List.reduceReplicate, f0, f3, H8, hl]
    refine ih (k + 1) _ _ ⟨f0, rfl, ?_, by omega⟩ (by omega)
    rw [List.replicate_succ', List.map_cons, List.map_append]
    rfl

end Go.Proofs.YtccfjidpdlfenaaDoor
