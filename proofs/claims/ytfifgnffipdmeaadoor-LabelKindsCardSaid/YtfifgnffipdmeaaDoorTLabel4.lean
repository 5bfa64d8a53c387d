import Derived.Test.YtfifgnffipdmeaaDoorTLabel3
namespace Go.Proofs.YtfifgnffipdmeaaDoor
open Go.Am
set_option linter.unusedSimpArgs false
set_option linter.unusedVariables false
set_option maxRecDepth 100000
/-! Layer 10: bytes, both ways. -/
def noneS : List UInt8 := [45]
theorem str_not_len {l : List UInt8} {n : Nat} (m : List UInt8) (h : l.length ≠ m.length) : ¬ l = m := fun e => h (by rw [e])
def readBytesR (l : List UInt8) : AVal :=
  if l = [45] then .tup [.slice 1 [], .bool true]
  else if l.length = 0 ∨ l.length % 2 = 1 ∨ 8192 < l.length then .tup [.slice 1 [], .bool false]
  else match unpR l with
    | some m => .tup [.slice 1 (m.map byteRow), .bool true]
    | none => .tup [.slice 1 [], .bool false]
set_option maxHeartbeats 4000000 in
@[go_sem] theorem e16 (l : List UInt8) (hl : l.length ≤ 1000000000000) : fn C 16 [] [.str l] = some (readBytesR l, []) := by
  rw [fn_text Tryd.func16 rfl rfl Tryd.results16 locM16 rfl rfl (by kernel_rfl)]
  by_cases h1 : l = [45]
  · simp -implicitDefEqProofs -dsimp +contextual (maxSteps := 5000000) (disch := first | omega | (simp only [go_sem] <;> omega) | (show indepB _ _ = true; refine id ?_; kernel_rfl)) only [go_sem, ↓reduceIte, Nat.reduceEqDiff, Nat.reduceBEq, Nat.reduceAdd, Nat.reduceSub, Nat.reduceLeDiff, Nat.reduceLT, Nat.reduceMul, Int.reduceNeg, Int.reduceLT, Int.reduceLE, Int.reduceAdd, Int.reduceSub, Int.reduceToNat, Int.reduceMul, Int.reduceMod, Int.reduceTMod, Int.reduceTDiv, Int.reduceEq, Nat.reducePow, Nat.reduceDiv, Nat.reduceShiftRight, Nat.reduceMod, List.reduceReplicate, h1]
    rfl
  · rw [readBytesR, if_neg h1]
    by_cases h0 : l = []
    · subst h0
      simp -implicitDefEqProofs -dsimp +contextual (maxSteps := 5000000) (disch := first | omega | (simp only [go_sem] <;> omega) | (show indepB _ _ = true; refine id ?_; kernel_rfl)) only [go_sem, ↓reduceIte, Nat.reduceEqDiff, Nat.reduceBEq, Nat.reduceAdd, Nat.reduceSub, Nat.reduceLeDiff, Nat.reduceLT, Nat.reduceMul, Int.reduceNeg, Int.reduceLT, Int.reduceLE, Int.reduceAdd, Int.reduceSub, Int.reduceToNat, Int.reduceMul, Int.reduceMod, Int.reduceTMod, Int.reduceTDiv, Int.reduceEq, Nat.reducePow, Nat.reduceDiv, Nat.reduceShiftRight, Nat.reduceMod, List.reduceReplicate]
    · have h0' : l.length ≠ 0 := by simpa using h0
      by_cases h8 : 8192 < l.length
      · simp -implicitDefEqProofs -dsimp +contextual (maxSteps := 5000000) (disch := first | omega | (simp only [go_sem] <;> omega) | (show indepB _ _ = true; refine id ?_; kernel_rfl)) only [go_sem, ↓reduceIte, Nat.reduceEqDiff, Nat.reduceBEq, Nat.reduceAdd, Nat.reduceSub, Nat.reduceLeDiff, Nat.reduceLT, Nat.reduceMul, Int.reduceNeg, Int.reduceLT, Int.reduceLE, Int.reduceAdd, Int.reduceSub, Int.reduceToNat, Int.reduceMul, Int.reduceMod, Int.reduceTMod, Int.reduceTDiv, Int.reduceEq, Nat.reducePow, Nat.reduceDiv, Nat.reduceShiftRight, Nat.reduceMod, List.reduceReplicate, h1, h0, h8]
      · by_cases h2 : l.length % 2 = 0
        · rcases unp_cases _ l (Nat.le_refl _) h2 with ⟨h3, m, h4, h5, h6⟩ | ⟨h3, h4⟩
          · have hu : unpK l [] (unpR l) = .tup [.slice 1 (m.map byteRow), .bool true] := by rw [h4]; simp [unpK, h2]
            rw [if_neg (by omega), h4]
            simp -implicitDefEqProofs -dsimp +contextual (maxSteps := 5000000) (disch := first | omega | (simp only [go_sem] <;> omega) | (show indepB _ _ = true; refine id ?_; kernel_rfl)) only [go_sem, ↓reduceIte, Nat.reduceEqDiff, Nat.reduceBEq, Nat.reduceAdd, Nat.reduceSub, Nat.reduceLeDiff, Nat.reduceLT, Nat.reduceMul, Int.reduceNeg, Int.reduceLT, Int.reduceLE, Int.reduceAdd, Int.reduceSub, Int.reduceToNat, Int.reduceMul, Int.reduceMod, Int.reduceTMod, Int.reduceTDiv, Int.reduceEq, Nat.reducePow, Nat.reduceDiv, Nat.reduceShiftRight, Nat.reduceMod, List.reduceReplicate, h1, h0, h8, hu]
          · have hu : unpK l [] (unpR l) = .tup [.slice 1 [], .bool false] := by rw [h4]; rfl
            rw [if_neg (by omega), h4]
            simp -implicitDefEqProofs -dsimp +contextual (maxSteps := 5000000) (disch := first | omega | (simp only [go_sem] <;> omega) | (show indepB _ _ = true; refine id ?_; kernel_rfl)) only [go_sem, ↓reduceIte, Nat.reduceEqDiff, Nat.reduceBEq, Nat.reduceAdd, Nat.reduceSub, Nat.reduceLeDiff, Nat.reduceLT, Nat.reduceMul, Int.reduceNeg, Int.reduceLT, Int.reduceLE, Int.reduceAdd, Int.reduceSub, Int.reduceToNat, Int.reduceMul, Int.reduceMod, Int.reduceTMod, Int.reduceTDiv, Int.reduceEq, Nat.reducePow, Nat.reduceDiv, Nat.reduceShiftRight, Nat.reduceMod, List.reduceReplicate, h1, h0, h8, hu]
        · obtain ⟨m, hu, _⟩ := unp_odd _ l (Nat.le_refl _) (by omega) []
          simp -implicitDefEqProofs -dsimp +contextual (maxSteps := 5000000) (disch := first | omega | (simp only [go_sem] <;> omega) | (show indepB _ _ = true; refine id ?_; kernel_rfl)) only [go_sem, ↓reduceIte, Nat.reduceEqDiff, Nat.reduceBEq, Nat.reduceAdd, Nat.reduceSub, Nat.reduceLeDiff, Nat.reduceLT, Nat.reduceMul, Int.reduceNeg, Int.reduceLT, Int.reduceLE, Int.reduceAdd, Int.reduceSub, Int.reduceToNat, Int.reduceMul, Int.reduceMod, Int.reduceTMod, Int.reduceTDiv, Int.reduceEq, Nat.reducePow, Nat.reduceDiv, Nat.reduceShiftRight, Nat.reduceMod, List.reduceReplicate, h1, h0, h8, hu, show l.length % 2 = 1 by omega]

theorem digw (a b : Nat) (ha : a ≤ 16) (hb : b ≤ 16) : IntKind.u8.wrap (IntKind.i64.wrap (IntKind.i64.wrap ((16 * a : Nat) : Int) + (b : Int))) = ((UInt8.ofNat (16 * a + b)).toNat : Int) := by
  rw [IntKind.wrap_u8, IntKind.wrap_i64, IntKind.wrap_i64]
  simp only [UInt8.toNat_ofNat']
  omega
def rbK (acc : List UInt8) : Option (List UInt8) → AVal
  | some m => .tup [.slice 1 ((acc ++ m).map byteRow), .bool true]
  | none => .tup [.slice 1 [], .bool false]
set_option maxHeartbeats 4000000 in
@[go_sem] theorem e17 (l : List UInt8) (hl : l.length ≤ 1000000000000) : fn C 17 [] [.str l] = some (readBytesR l, []) := by
  rw [fn_text Tryd.func17 rfl rfl Tryd.results17 locM17 rfl rfl (by kernel_rfl)]
  by_cases h1 : l = [45]
  · simp -implicitDefEqProofs -dsimp +contextual (maxSteps := 5000000) (disch := first | omega | (simp only [go_sem] <;> omega) | (show indepB _ _ = true; refine id ?_; kernel_rfl)) only [go_sem, ↓reduceIte, Nat.reduceEqDiff, Nat.reduceBEq, Nat.reduceAdd, Nat.reduceSub, Nat.reduceLeDiff, Nat.reduceLT, Nat.reduceMul, Int.reduceNeg, Int.reduceLT, Int.reduceLE, Int.reduceAdd, Int.reduceSub, Int.reduceToNat, Int.reduceMul, Int.reduceMod, Int.reduceTMod, Int.reduceTDiv, Int.reduceEq, Nat.reducePow, Nat.reduceDiv, Nat.reduceShiftRight, Nat.reduceMod, List.reduceReplicate, h1]
    rfl
  · rw [readBytesR, if_neg h1]
    by_cases h0 : l.length = 0
    · obtain rfl : l = [] := by simpa using h0
      simp -implicitDefEqProofs -dsimp +contextual (maxSteps := 5000000) (disch := first | omega | (simp only [go_sem] <;> omega) | (show indepB _ _ = true; refine id ?_; kernel_rfl)) only [go_sem, ↓reduceIte, Nat.reduceEqDiff, Nat.reduceBEq, Nat.reduceAdd, Nat.reduceSub, Nat.reduceLeDiff, Nat.reduceLT, Nat.reduceMul, Int.reduceNeg, Int.reduceLT, Int.reduceLE, Int.reduceAdd, Int.reduceSub, Int.reduceToNat, Int.reduceMul, Int.reduceMod, Int.reduceTMod, Int.reduceTDiv, Int.reduceEq, Nat.reducePow, Nat.reduceDiv, Nat.reduceShiftRight, Nat.reduceMod, List.reduceReplicate]
    · by_cases h2 : l.length % 2 = 1
      · simp -implicitDefEqProofs -dsimp +contextual (maxSteps := 5000000) (disch := first | omega | (simp only [go_sem] <;> omega) | (show indepB _ _ = true; refine id ?_; kernel_rfl)) only [go_sem, ↓reduceIte, Nat.reduceEqDiff, Nat.reduceBEq, Nat.reduceAdd, Nat.reduceSub, Nat.reduceLeDiff, Nat.reduceLT, Nat.reduceMul, Int.reduceNeg, Int.reduceLT, Int.reduceLE, Int.reduceAdd, Int.reduceSub, Int.reduceToNat, Int.reduceMul, Int.reduceMod, Int.reduceTMod, Int.reduceTDiv, Int.reduceEq, Nat.reducePow, Nat.reduceDiv, Nat.reduceShiftRight, Nat.reduceMod, List.reduceReplicate, h1, h0, h2]
      · by_cases h8 : 8192 < l.length
        · simp -implicitDefEqProofs -dsimp +contextual (maxSteps := 5000000) (disch := first | omega | (simp only [go_sem] <;> omega) | (show indepB _ _ = true; refine id ?_; kernel_rfl)) only [go_sem, ↓reduceIte, Nat.reduceEqDiff, Nat.reduceBEq, Nat.reduceAdd, Nat.reduceSub, Nat.reduceLeDiff, Nat.reduceLT, Nat.reduceMul, Int.reduceNeg, Int.reduceLT, Int.reduceLE, Int.reduceAdd, Int.reduceSub, Int.reduceToNat, Int.reduceMul, Int.reduceMod, Int.reduceTMod, Int.reduceTDiv, Int.reduceEq, Nat.reducePow, Nat.reduceDiv, Nat.reduceShiftRight, Nat.reduceMod, List.reduceReplicate, h1, h0, h2, h8]
        · simp -implicitDefEqProofs -dsimp +contextual (maxSteps := 5000000) (disch := first | omega | (simp only [go_sem] <;> omega) | (show indepB _ _ = true; refine id ?_; kernel_rfl)) only [go_sem, ↓reduceIte, Nat.reduceEqDiff, Nat.reduceBEq, Nat.reduceAdd, Nat.reduceSub, Nat.reduceLeDiff, Nat.reduceLT, Nat.reduceMul, Int.reduceNeg, Int.reduceLT, Int.reduceLE, Int.reduceAdd, Int.reduceSub, Int.reduceToNat, Int.reduceMul, Int.reduceMod, Int.reduceTMod, Int.reduceTDiv, Int.reduceEq, Nat.reducePow, Nat.reduceDiv, Nat.reduceShiftRight, Nat.reduceMod, List.reduceReplicate, h1, h0, h2, h8]
          refine (kLoop_rec2 (fun (i : Nat) (acc : List UInt8) f H => f 0 = .str l ∧ ((i = 0 ∧ acc = [] ∧ f 4 = .sc (.slice none 0 0) ∧ H 155 = ⟨0, .dead, 0, [], false⟩) ∨ (i ≠ 0 ∧ f 4 = .osl 155 i 0 acc.length ∧ H 155 = ⟨i, .live, 1, acc.map byteRow, false⟩)) ∧ f 5 = .int .i64 ((2 * i : Nat) : Int) ∧ (H 154).gen = i ∧ acc.length = i ∧ 2 * i ≤ l.length) (fun i _ => l.length - 2 * i) (fun i acc => some (rbK acc (unpR (l.drop (2 * i))), [])) ?_ 0 [] _ _ ⟨rfl, .inl ⟨rfl, rfl, rfl, rfl⟩, rfl, rfl, rfl, by omega⟩).trans (by simp [rbK])
          rintro i acc f H ⟨f0, hc, f5, g, ha, hi⟩ ih
          by_cases h2 : 2 * i < l.length
          · have h3 : 2 * i + 1 < l.length := by omega
            have hd1 := digV_le l[2 * i]
            have hd2 := digV_le l[2 * i + 1]
            rw [unpR_drop l (2 * i) h3]
            by_cases d1 : digV l[2 * i] = 16
            · rw [if_neg (by omega)]
              simp -implicitDefEqProofs -dsimp +contextual (maxSteps := 5000000) (disch := first | omega | (simp only [go_sem] <;> omega) | (show indepB _ _ = true; refine id ?_; kernel_rfl)) only [go_sem, ↓reduceIte, Nat.reduceEqDiff, Nat.reduceBEq, Nat.reduceAdd, Nat.reduceSub, Nat.reduceLeDiff, Nat.reduceLT, Nat.reduceMul, Int.reduceNeg, Int.reduceLT, Int.reduceLE, Int.reduceAdd, Int.reduceSub, Int.reduceToNat, Int.reduceMul, Int.reduceMod, Int.reduceTMod, Int.reduceTDiv, Int.reduceEq, Nat.reducePow, Nat.reduceDiv, Nat.reduceShiftRight, Nat.reduceMod, List.reduceReplicate, f0, f5, g, h2, h3, d1]
              rfl
            · by_cases d2 : digV l[2 * i + 1] = 16
              · rw [if_neg (by omega)]
                simp -implicitDefEqProofs -dsimp +contextual (maxSteps := 5000000) (disch := first | omega | (simp only [go_sem] <;> omega) | (show indepB _ _ = true; refine id ?_; kernel_rfl)) only [go_sem, ↓reduceIte, Nat.reduceEqDiff, Nat.reduceBEq, Nat.reduceAdd, Nat.reduceSub, Nat.reduceLeDiff, Nat.reduceLT, Nat.reduceMul, Int.reduceNeg, Int.reduceLT, Int.reduceLE, Int.reduceAdd, Int.reduceSub, Int.reduceToNat, Int.reduceMul, Int.reduceMod, Int.reduceTMod, Int.reduceTDiv, Int.reduceEq, Nat.reducePow, Nat.reduceDiv, Nat.reduceShiftRight, Nat.reduceMod, List.reduceReplicate, f0, f5, g, h2, h3, d1, d2]
                rfl
              · rw [if_pos (by omega)]
                have fin : some (rbK (acc ++ [UInt8.ofNat (16 * digV l[2 * i] + digV l[2 * i + 1])]) (unpR (l.drop (2 * (i + 1)))), ([] : List AVal)) = some (rbK acc ((unpR (l.drop (2 * i + 2))).map fun m => UInt8.ofNat (16 * digV l[2 * i] + digV l[2 * i + 1]) :: m), []) := by
                  rw [show 2 * (i + 1) = 2 * i + 2 by omega]
                  cases unpR (l.drop (2 * i + 2)) <;> simp [rbK]
                rcases hc with ⟨rfl, rfl, f4, H137⟩ | ⟨h0, f4, H137⟩
                · simp -implicitDefEqProofs -dsimp +contextual (maxSteps := 5000000) (disch := first | omega | (simp only [go_sem] <;> omega) | (show indepB _ _ = true; refine id ?_; kernel_rfl)) only [go_sem, ↓reduceIte, Nat.reduceEqDiff, Nat.reduceBEq, Nat.reduceAdd, Nat.reduceSub, Nat.reduceLeDiff, Nat.reduceLT, Nat.reduceMul, Int.reduceNeg, Int.reduceLT, Int.reduceLE, Int.reduceAdd, Int.reduceSub, Int.reduceToNat, Int.reduceMul, Int.reduceMod, Int.reduceTMod, Int.reduceTDiv, Int.reduceEq, Nat.reducePow, Nat.reduceDiv, Nat.reduceShiftRight, Nat.reduceMod, List.reduceReplicate, f0, f4, f5, H137, g, h2, h3, d1, d2, digw, u8_wrap]
                  refine Eq.trans (ih (0 + 1) ([] ++ [UInt8.ofNat (16 * digV l[0] + digV l[1])]) _ _ (by exact ⟨f0, .inr ⟨by omega, rfl, rfl⟩, rfl, rfl, rfl, by omega⟩) (by omega)) fin
                · simp -implicitDefEqProofs -dsimp +contextual (maxSteps := 5000000) (disch := first | omega | (simp only [go_sem] <;> omega) | (show indepB _ _ = true; refine id ?_; kernel_rfl)) only [go_sem, ↓reduceIte, Nat.reduceEqDiff, Nat.reduceBEq, Nat.reduceAdd, Nat.reduceSub, Nat.reduceLeDiff, Nat.reduceLT, Nat.reduceMul, Int.reduceNeg, Int.reduceLT, Int.reduceLE, Int.reduceAdd, Int.reduceSub, Int.reduceToNat, Int.reduceMul, Int.reduceMod, Int.reduceTMod, Int.reduceTDiv, Int.reduceEq, Nat.reducePow, Nat.reduceDiv, Nat.reduceShiftRight, Nat.reduceMod, List.reduceReplicate, f0, f4, f5, H137, g, h2, h3, d1, d2, digw, u8_wrap, ha]
                  refine Eq.trans (ih (i + 1) (acc ++ [UInt8.ofNat (16 * digV l[2 * i] + digV l[2 * i + 1])]) _ _ (by exact ⟨f0, .inr ⟨by omega, by simp [ha, upd, restr], rfl⟩, rfl, rfl, by simp [ha], by omega⟩) (by omega)) fin
          · rw [unpR_end l (2 * i) (by omega)]
            rcases hc with ⟨rfl, rfl, f4, H137⟩ | ⟨h0, f4, H137⟩
            · simp -implicitDefEqProofs -dsimp +contextual (maxSteps := 5000000) (disch := first | omega | (simp only [go_sem] <;> omega) | (show indepB _ _ = true; refine id ?_; kernel_rfl)) only [go_sem, ↓reduceIte, Nat.reduceEqDiff, Nat.reduceBEq, Nat.reduceAdd, Nat.reduceSub, Nat.reduceLeDiff, Nat.reduceLT, Nat.reduceMul, Int.reduceNeg, Int.reduceLT, Int.reduceLE, Int.reduceAdd, Int.reduceSub, Int.reduceToNat, Int.reduceMul, Int.reduceMod, Int.reduceTMod, Int.reduceTDiv, Int.reduceEq, Nat.reducePow, Nat.reduceDiv, Nat.reduceShiftRight, Nat.reduceMod, List.reduceReplicate, f0, f4, f5, h2]
              simp [rbK]
            · simp -implicitDefEqProofs -dsimp +contextual (maxSteps := 5000000) (disch := first | omega | (simp only [go_sem] <;> omega) | (show indepB _ _ = true; refine id ?_; kernel_rfl)) only [go_sem, ↓reduceIte, Nat.reduceEqDiff, Nat.reduceBEq, Nat.reduceAdd, Nat.reduceSub, Nat.reduceLeDiff, Nat.reduceLT, Nat.reduceMul, Int.reduceNeg, Int.reduceLT, Int.reduceLE, Int.reduceAdd, Int.reduceSub, Int.reduceToNat, Int.reduceMul, Int.reduceMod, Int.reduceTMod, Int.reduceTDiv, Int.reduceEq, Nat.reducePow, Nat.reduceDiv, Nat.reduceShiftRight, Nat.reduceMod, List.reduceReplicate, f0, f4, f5, H137, h2, ha]
              simp [rbK]

end Go.Proofs.YtfifgnffipdmeaaDoor
