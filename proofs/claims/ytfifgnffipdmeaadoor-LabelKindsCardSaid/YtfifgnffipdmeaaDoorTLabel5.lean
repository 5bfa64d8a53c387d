import Derived.Test.YtfifgnffipdmeaaDoorTLabel4
namespace Go.Proofs.YtfifgnffipdmeaaDoor
open Go.Am
set_option linter.unusedSimpArgs false
set_option linter.unusedVariables false
set_option maxRecDepth 100000
/-! Layer 10: bytes written, numbers in decimal digits. -/
def fillTo (l : List UInt8) (m : Nat) : List UInt8 := l.take m ++ List.replicate (l.length - m) 0
theorem fillTo_len (l : List UInt8) (m : Nat) (h : m ≤ l.length) : (fillTo l m).length = l.length := by simp [fillTo]; omega
theorem fillTo_zero (l : List UInt8) : fillTo l 0 = List.replicate l.length 0 := by simp [fillTo]
theorem fillTo_all (l : List UInt8) (m : Nat) (h : l.length ≤ m) : fillTo l m = l := by simp [fillTo, List.take_of_length_le h, show l.length - m = 0 by omega]
theorem fillTo_set (l : List UInt8) (m : Nat) (h : m < l.length) : (fillTo l m).set m l[m] = fillTo l (m + 1) := by
  unfold fillTo
  rw [List.set_append_right _ _ (by simp; omega), show l.length - m = (l.length - (m + 1)) + 1 by omega, List.replicate_succ, List.length_take, Nat.min_eq_left (by omega), Nat.sub_self, List.set_cons_zero, List.take_succ_eq_append_getElem h, List.append_assoc]
  rfl
@[go_sem] theorem rep_byte (n : Nat) : List.replicate n [AVal.int .u8 0] = (List.replicate n (0 : UInt8)).map byteRow := by rw [List.map_replicate]; rfl

def bytesR (l : List UInt8) : List UInt8 := if l = [] then [45] else pairsR l
@[go_sem] theorem e12 (l : List UInt8) (hl : l.length ≤ 1000000000000) : fn C 12 [] [.slice 1 (l.map byteRow)] = some (.str (bytesR l), []) := by
  rw [fn_text Tryd.func12 rfl rfl Tryd.results12 locM12 rfl rfl (by kernel_rfl)]
  by_cases h : l = []
  · subst h
    simp -implicitDefEqProofs -dsimp +contextual (maxSteps := 5000000) (disch := first | omega | (simp only [go_sem] <;> omega) | (show indepB _ _ = true; refine id ?_; kernel_rfl)) only [go_sem, ↓reduceIte, Nat.reduceEqDiff, Nat.reduceBEq, Nat.reduceAdd, Nat.reduceSub, Nat.reduceLeDiff, Nat.reduceLT, Nat.reduceMul, Int.reduceNeg, Int.reduceLT, Int.reduceLE, Int.reduceAdd, Int.reduceSub, Int.reduceToNat, Int.reduceMul, Int.reduceMod, Int.reduceTMod, Int.reduceTDiv, Int.reduceEq, Nat.reducePow, Nat.reduceDiv, Nat.reduceShiftRight, Nat.reduceMod, List.reduceReplicate]
    rfl
  · have h0 : ¬ l.length = 0 := by simpa using h
    simp -implicitDefEqProofs -dsimp +contextual (maxSteps := 5000000) (disch := first | omega | (simp only [go_sem] <;> omega) | (show indepB _ _ = true; refine id ?_; kernel_rfl)) only [go_sem, ↓reduceIte, Nat.reduceEqDiff, Nat.reduceBEq, Nat.reduceAdd, Nat.reduceSub, Nat.reduceLeDiff, Nat.reduceLT, Nat.reduceMul, Int.reduceNeg, Int.reduceLT, Int.reduceLE, Int.reduceAdd, Int.reduceSub, Int.reduceToNat, Int.reduceMul, Int.reduceMod, Int.reduceTMod, Int.reduceTDiv, Int.reduceEq, Nat.reducePow, Nat.reduceDiv, Nat.reduceShiftRight, Nat.reduceMod, List.reduceReplicate, h0]
    rw [bytesR, if_neg h]
theorem pairsR_get (l : List UInt8) (i : Nat) (h : i < l.length) : (pairsR l)[2 * i]'(by rw [pairsR_len]; omega) = hexd (l[i].toNat / 16) ∧ (pairsR l)[2 * i + 1]'(by rw [pairsR_len]; omega) = hexd (l[i].toNat % 16) := by
  have e : pairsR l = pairsR (l.take i) ++ ([hexd (l[i].toNat / 16), hexd (l[i].toNat % 16)] ++ pairsR (l.drop (i + 1))) := by
    rw [← List.append_assoc, ← pairsR_take l i h]
    unfold pairsR
    rw [← List.flatMap_append, List.take_append_drop]
  have hl : (pairsR (l.take i)).length = 2 * i := by rw [pairsR_len, List.length_take]; omega
  constructor
  · rw [List.getElem_of_eq e, List.getElem_append_right (by omega)]; simp [hl]
  · rw [List.getElem_of_eq e, List.getElem_append_right (by omega)]; simp [hl]
set_option maxHeartbeats 4000000 in
@[go_sem] theorem e13 (l : List UInt8) (hl : l.length ≤ 1000000000000) : fn C 13 [] [.slice 1 (l.map byteRow)] = some (.str (bytesR l), []) := by
  rw [fn_text Tryd.func13 rfl rfl Tryd.results13 locM13 rfl rfl (by kernel_rfl)]
  by_cases h : l = []
  · subst h
    simp -implicitDefEqProofs -dsimp +contextual (maxSteps := 5000000) (disch := first | omega | (simp only [go_sem] <;> omega) | (show indepB _ _ = true; refine id ?_; kernel_rfl)) only [go_sem, ↓reduceIte, Nat.reduceEqDiff, Nat.reduceBEq, Nat.reduceAdd, Nat.reduceSub, Nat.reduceLeDiff, Nat.reduceLT, Nat.reduceMul, Int.reduceNeg, Int.reduceLT, Int.reduceLE, Int.reduceAdd, Int.reduceSub, Int.reduceToNat, Int.reduceMul, Int.reduceMod, Int.reduceTMod, Int.reduceTDiv, Int.reduceEq, Nat.reducePow, Nat.reduceDiv, Nat.reduceShiftRight, Nat.reduceMod, List.reduceReplicate]
    rfl
  · have h0 : ¬ l.length = 0 := by simpa using h
    simp -implicitDefEqProofs -dsimp +contextual (maxSteps := 5000000) (disch := first | omega | (simp only [go_sem] <;> omega) | (show indepB _ _ = true; refine id ?_; kernel_rfl)) only [go_sem, ↓reduceIte, Nat.reduceEqDiff, Nat.reduceBEq, Nat.reduceAdd, Nat.reduceSub, Nat.reduceLeDiff, Nat.reduceLT, Nat.reduceMul, Int.reduceNeg, Int.reduceLT, Int.reduceLE, Int.reduceAdd, Int.reduceSub, Int.reduceToNat, Int.reduceMul, Int.reduceMod, Int.reduceTMod, Int.reduceTDiv, Int.reduceEq, Nat.reducePow, Nat.reduceDiv, Nat.reduceShiftRight, Nat.reduceMod, List.reduceReplicate, h0]
    rw [bytesR, if_neg h]
    obtain ⟨A, hA⟩ : ∃ A, A = pairsR l := ⟨_, rfl⟩
    have hlen : A.length = 2 * l.length := by rw [hA, pairsR_len]
    have hg : ∀ i (h : i < l.length), A[2 * i]'(by omega) = hexd (l[i].toNat / 16) ∧ A[2 * i + 1]'(by omega) = hexd (l[i].toNat % 16) := by subst hA; exact pairsR_get l
    rw [← hA]
    have z1 := fillTo_zero A
    rw [hlen] at z1
    refine kLoop_rec (fun (i : Nat) f H => f 0 = .slice 1 (l.map byteRow) ∧ f 3 = .osl 111 1 0 (2 * l.length) ∧ f 4 = .int .i64 (i : Int) ∧ H 111 = ⟨1, .live, 1, (fillTo A (2 * i)).map byteRow, true⟩ ∧ i ≤ l.length) (fun i => l.length - i) (fun _ => some (.str A, [])) ?_ 0 _ _ ?_
    · rintro i f H ⟨f0, f3, f4, H111, hi⟩ ih
      have hf := fillTo_len A (2 * i) (by omega)
      have hf2 := fillTo_len A (2 * i + 1)
      by_cases hl : i < l.length
      · have hc := u8_lt (l[i]'(by omega))
        obtain ⟨g1, g2⟩ := hg i hl
        simp -implicitDefEqProofs -dsimp +contextual (maxSteps := 5000000) (disch := first | omega | (simp only [go_sem] <;> omega) | (show indepB _ _ = true; refine id ?_; kernel_rfl)) only [go_sem, ↓reduceIte, Nat.reduceEqDiff, Nat.reduceBEq, Nat.reduceAdd, Nat.reduceSub, Nat.reduceLeDiff, Nat.reduceLT, Nat.reduceMul, Int.reduceNeg, Int.reduceLT, Int.reduceLE, Int.reduceAdd, Int.reduceSub, Int.reduceToNat, Int.reduceMul, Int.reduceMod, Int.reduceTMod, Int.reduceTDiv, Int.reduceEq, Nat.reducePow, Nat.reduceDiv, Nat.reduceShiftRight, Nat.reduceMod, List.reduceReplicate, f0, f3, f4, H111, hl, hf, hlen, h0]
        rw [← g1, fillTo_set _ _ (by omega), ← g2, fillTo_set _ _ (by omega), show 2 * i + 1 + 1 = 2 * (i + 1) by omega]
        exact ih (i + 1) _ _ ⟨f0, f3, rfl, rfl, by omega⟩ (by omega)
      · obtain rfl : i = l.length := by omega
        rw [fillTo_all _ _ (by omega)] at H111
        simp -implicitDefEqProofs -dsimp +contextual (maxSteps := 5000000) (disch := first | omega | (simp only [go_sem] <;> omega) | (show indepB _ _ = true; refine id ?_; kernel_rfl)) only [go_sem, ↓reduceIte, Nat.reduceEqDiff, Nat.reduceBEq, Nat.reduceAdd, Nat.reduceSub, Nat.reduceLeDiff, Nat.reduceLT, Nat.reduceMul, Int.reduceNeg, Int.reduceLT, Int.reduceLE, Int.reduceAdd, Int.reduceSub, Int.reduceToNat, Int.reduceMul, Int.reduceMod, Int.reduceTMod, Int.reduceTDiv, Int.reduceEq, Nat.reducePow, Nat.reduceDiv, Nat.reduceShiftRight, Nat.reduceMod, List.reduceReplicate, f0, f3, f4, H111, hl, hf, hlen, h0]
    · refine ⟨rfl, rfl, rfl, ?_, by omega⟩
      rw [show 2 * 0 = 0 from rfl, z1]
      rfl

end Go.Proofs.YtfifgnffipdmeaaDoor
