import Derived.Test.YtdfkkfnjlcdjaaaTPoly9
namespace Go.Proofs.Ytdfkkfnjlcdjaaa
open Go.Am
set_option linter.unusedSimpArgs false
set_option linter.unusedVariables false
set_option maxRecDepth 100000
/-! Layer 7, by the document: products, least numbers, tags. -/
def foldsR (n : List Nat) : List Nat := carrR (foldR (carrR (foldR (carrR (foldR (carrR (foldR (carrR n))))))))
def mulR (a b : List Nat) : List Nat := (foldsR (convG b (List.replicate 34 0) 0 a)).take 17
theorem convG_drop (b out a : List Nat) (i : Nat) (h : i < a.length) : convG b out i (a.drop i) = convG b (rowG a[i] out i b) (i + 1) (a.drop (i + 1)) := by
  rw [List.drop_eq_getElem_cons h, convG]
set_option maxHeartbeats 8000000 in
@[go_sem] theorem e47 (a b : List Nat) (ha : a.length = 17) (hb : b.length = 17) (ha2 : ∀ x ∈ a, x ≤ 1000) (hb2 : Dg b) : fn C 47 [] [.slice 1 (a.map nR), .slice 1 (b.map nR)] = some (.slice 1 ((mulR a b).map nR), []) := by
  rw [fn_text Try.func47 rfl rfl Try.results47 locM47 rfl rfl (by kernel_rfl)]
  simp -implicitDefEqProofs -dsimp +contextual (maxSteps := 5000000) (disch := first | omega | (simp only [go_sem] <;> omega) | (show indepB _ _ = true; refine id ?_; kernel_rfl)) only [go_sem, ↓reduceIte, Nat.reduceEqDiff, Nat.reduceBEq, Nat.reduceAdd, Nat.reduceSub, Nat.reduceLeDiff, Nat.reduceLT, Nat.reduceMul, Int.reduceNeg, Int.reduceLT, Int.reduceLE, Int.reduceAdd, Int.reduceSub, Int.reduceToNat, Int.reduceMul, Int.reduceMod, Int.reduceTMod, Int.reduceTDiv, Int.reduceEq, Nat.reducePow, Nat.reduceDiv, Nat.reduceShiftRight, Nat.reduceMod, List.reduceReplicate]
  rw [mulR]
  refine kLoop_rec2 (fun (i : Nat) (out : List Nat) f H => f 0 = .slice 1 (a.map nR) ∧ f 1 = .slice 1 (b.map nR) ∧ f 5 = .osl 110 1 0 34 ∧ f 6 = .int .i64 (i : Int) ∧ H 110 = ⟨1, .live, 1, out.map nR, true⟩ ∧ (∀ k, 111 ≤ k → H k = ⟨0, .dead, 0, [], false⟩) ∧ i ≤ 17 ∧ out.length = 34 ∧ ∀ z ∈ out, z ≤ 10000000 * i) (fun i _ => 17 - i) (fun i out => some (.slice 1 (((foldsR (convG b out i (a.drop i))).take 17).map nR), [])) ?_ 0 (List.replicate 34 0) _ _ ?_
  rotate_left
  · exact ⟨rfl, rfl, rfl, rfl, rfl, heap_far (m := 111) (far_nil _) (by omega), by omega, rfl, by simp⟩
  rintro i out f H ⟨f0, f1, f5, f6, H110, hf, hi, ho, hob⟩ ih
  by_cases hl : i < 17
  · rw [convG_drop b out a i (by omega)]
    simp -implicitDefEqProofs -dsimp +contextual (maxSteps := 5000000) (disch := first | omega | (simp only [go_sem] <;> omega) | (show indepB _ _ = true; refine id ?_; kernel_rfl)) only [go_sem, ↓reduceIte, Nat.reduceEqDiff, Nat.reduceBEq, Nat.reduceAdd, Nat.reduceSub, Nat.reduceLeDiff, Nat.reduceLT, Nat.reduceMul, Int.reduceNeg, Int.reduceLT, Int.reduceLE, Int.reduceAdd, Int.reduceSub, Int.reduceToNat, Int.reduceMul, Int.reduceMod, Int.reduceTMod, Int.reduceTDiv, Int.reduceEq, Nat.reducePow, Nat.reduceDiv, Nat.reduceShiftRight, Nat.reduceMod, List.reduceReplicate, f0, f1, f5, f6, H110, hl, ho]
    have hR : rowG a[i] out i b = rowG a[i] out (i + 0) (b.drop 0) := rfl
    rw [hR]
    have hai := ha2 _ (List.getElem_mem (show i < a.length by omega))
    refine kLoop_rec2 (fun (k : Nat) (out : List Nat) f H => f 0 = .slice 1 (a.map nR) ∧ f 1 = .slice 1 (b.map nR) ∧ f 5 = .osl 110 1 0 34 ∧ f 6 = .int .i64 (i : Int) ∧ f 7 = .int .i64 (k : Int) ∧ H 110 = ⟨1, .live, 1, out.map nR, true⟩ ∧ (∀ k, 111 ≤ k → H k = ⟨0, .dead, 0, [], false⟩) ∧ k ≤ 17 ∧ out.length = 34 ∧ ∀ z ∈ out, z ≤ 10000000 * i + 300000 * k) (fun k _ => 17 - k) (fun k out => some (.slice 1 (((foldsR (convG b (rowG a[i] out (i + k) (b.drop k)) (i + 1) (a.drop (i + 1)))).take 17).map nR), [])) ?_ 0 out _ _ ⟨f0, f1, f5, f6, rfl, H110, hf, by omega, ho, by simpa using hob⟩
    clear f0 f1 f5 f6 H110 hf ho hob hR
    rintro k out f H ⟨f0, f1, f5, f6, f7, H110, hf, hk, ho, hob⟩ ih2
    by_cases hl2 : k < 17
    · have hx := hob _ (List.getElem_mem (show i + k < out.length by omega))
      have hbk := hb2 _ (List.getElem_mem (show k < b.length by omega))
      have hm : a[i] * b[k] ≤ 255000 := Nat.le_trans (Nat.mul_le_mul hai (show b[k] ≤ 255 by omega)) (by decide)
      have hs := set_le (j := i + k) (le_weak hob (show 10000000 * i + 300000 * k ≤ 10000000 * i + 300000 * (k + 1) by omega)) (show out[i + k] + a[i] * b[k] ≤ _ by omega)
      simp -implicitDefEqProofs -dsimp +contextual (maxSteps := 5000000) (disch := first | omega | (simp only [go_sem] <;> omega) | (show indepB _ _ = true; refine id ?_; kernel_rfl)) only [go_sem, ↓reduceIte, Nat.reduceEqDiff, Nat.reduceBEq, Nat.reduceAdd, Nat.reduceSub, Nat.reduceLeDiff, Nat.reduceLT, Nat.reduceMul, Int.reduceNeg, Int.reduceLT, Int.reduceLE, Int.reduceAdd, Int.reduceSub, Int.reduceToNat, Int.reduceMul, Int.reduceMod, Int.reduceTMod, Int.reduceTDiv, Int.reduceEq, Nat.reducePow, Nat.reduceDiv, Nat.reduceShiftRight, Nat.reduceMod, List.reduceReplicate, f0, f1, f5, f6, f7, H110, hl, hl2, ho, ha, hb]
      refine Eq.trans (ih2 (k + 1) (out.set (i + k) (out[i + k] + a[i] * b[k])) _ _ (by exact ⟨f0, f1, f5, f6, rfl, rfl, heap_far hf (by omega), by omega, by simpa using ho, hs⟩) (by omega)) ?_
      rw [← rowG_drop _ _ _ _ _ (by omega) (by omega)]
    · obtain rfl : k = 17 := by omega
      simp -implicitDefEqProofs -dsimp +contextual (maxSteps := 5000000) (disch := first | omega | (simp only [go_sem] <;> omega) | (show indepB _ _ = true; refine id ?_; kernel_rfl)) only [go_sem, ↓reduceIte, Nat.reduceEqDiff, Nat.reduceBEq, Nat.reduceAdd, Nat.reduceSub, Nat.reduceLeDiff, Nat.reduceLT, Nat.reduceMul, Int.reduceNeg, Int.reduceLT, Int.reduceLE, Int.reduceAdd, Int.reduceSub, Int.reduceToNat, Int.reduceMul, Int.reduceMod, Int.reduceTMod, Int.reduceTDiv, Int.reduceEq, Nat.reducePow, Nat.reduceDiv, Nat.reduceShiftRight, Nat.reduceMod, List.reduceReplicate, f0, f1, f5, f6, f7, H110, hl, hl2, ho, ha, hb]
      refine Eq.trans (ih (i + 1) out _ _ (by exact ⟨f0, f1, f5, rfl, H110, hf, by omega, ho, le_weak hob (show 10000000 * i + 300000 * 17 ≤ 10000000 * (i + 1) by omega)⟩) (by omega)) ?_
      rw [rowG]
  · obtain rfl : i = 17 := by omega
    rw [List.drop_of_length_le (show a.length ≤ 17 by omega), convG]
    have H141 := hf 141 (by omega)
    have H147 := hf 147 (by omega)
    have H148 := hf 148 (by omega)
    have hob2 : ∀ z ∈ out, z ≤ 1000000000000 := le_weak hob (by omega)
    have s1 := carrR_len out
    have d1 := carrR_dg out
    have w1 := foldR_len (carrR out) (by omega)
    have v1 := le_weak (foldR_le (carrR out) d1 (by omega)) (show _ ≤ 1000000000000 by omega)
    have s2 := carrR_len (foldR (carrR out))
    have d2 := carrR_dg (foldR (carrR out))
    have w2 := foldR_len (carrR (foldR (carrR out))) (by omega)
    have v2 := le_weak (foldR_le (carrR (foldR (carrR out))) d2 (by omega)) (show _ ≤ 1000000000000 by omega)
    have s3 := carrR_len (foldR (carrR (foldR (carrR out))))
    have d3 := carrR_dg (foldR (carrR (foldR (carrR out))))
    have w3 := foldR_len (carrR (foldR (carrR (foldR (carrR out))))) (by omega)
    have v3 := le_weak (foldR_le (carrR (foldR (carrR (foldR (carrR out))))) d3 (by omega)) (show _ ≤ 1000000000000 by omega)
    have s4 := carrR_len (foldR (carrR (foldR (carrR (foldR (carrR out))))))
    have d4 := carrR_dg (foldR (carrR (foldR (carrR (foldR (carrR out))))))
    have w4 := foldR_len (carrR (foldR (carrR (foldR (carrR (foldR (carrR out))))))) (by omega)
    have v4 := le_weak (foldR_le (carrR (foldR (carrR (foldR (carrR (foldR (carrR out))))))) d4 (by omega)) (show _ ≤ 1000000000000 by omega)
    have s5 := carrR_len (foldR (carrR (foldR (carrR (foldR (carrR (foldR (carrR out))))))))
    simp -implicitDefEqProofs -dsimp +contextual (maxSteps := 5000000) (disch := first | omega | (simp only [go_sem] <;> omega) | (show indepB _ _ = true; refine id ?_; kernel_rfl)) only [go_sem, ↓reduceIte, Nat.reduceEqDiff, Nat.reduceBEq, Nat.reduceAdd, Nat.reduceSub, Nat.reduceLeDiff, Nat.reduceLT, Nat.reduceMul, Int.reduceNeg, Int.reduceLT, Int.reduceLE, Int.reduceAdd, Int.reduceSub, Int.reduceToNat, Int.reduceMul, Int.reduceMod, Int.reduceTMod, Int.reduceTDiv, Int.reduceEq, Nat.reducePow, Nat.reduceDiv, Nat.reduceShiftRight, Nat.reduceMod, List.reduceReplicate, f0, f1, f5, f6, H110, hl, ho, H141, H147, H148, kLoop_eq, s1, w1, s2, w2, s3, w3, s4, w4, s5]
    rfl

/-- The least number of its kind. -/
def leastR (n : List Nat) : List Nat :=
  let m := carrR (n.set 0 (n.getD 0 0 + 5))
  if m.getD 16 0 < 4 ∧ m.getD 17 0 = 0 then n else (m.set 16 (m.getD 16 0 % 4)).take 17
theorem lt_of_getElem {α : Type} (l : List α) (k n : Nat) (h : l.length = n) (hk : k < n) : k < l.length := by omega
set_option maxHeartbeats 4000000 in
@[go_sem] theorem e48 (n : List Nat) (hn : n.length = 17) (hd : Dg n) : fn C 48 [] [.slice 1 (n.map nR)] = some (.slice 1 ((leastR n).map nR), []) := by
  rw [fn_text Try.func48 rfl rfl Try.results48 locM48 rfl rfl (by kernel_rfl)]
  have h0 := hd _ (List.getElem_mem (show 0 < n.length by omega))
  have hl := carrR_len (n.set 0 (n[0] + 5))
  have hl2 : (carrR (n.set 0 (n[0] + 5))).length = 21 := by rw [hl]; simp; omega
  have hb : ∀ x ∈ n.set 0 (n[0] + 5), x ≤ 1000000000000 := set_le (fun z hz => by have := hd z hz; omega) (by omega)
  have hs : (n.set 0 (n[0] + 5)).length = 17 := by simp; omega
  have e0 : leastR n = if (carrR (n.set 0 (n[0] + 5)))[16] < 4 ∧ (carrR (n.set 0 (n[0] + 5)))[17] = 0 then n else ((carrR (n.set 0 (n[0] + 5))).set 16 ((carrR (n.set 0 (n[0] + 5)))[16] % 4)).take 17 := by
    simp only [leastR]
    rw [getD_at n 0 (by omega), getD_at _ 16 (by omega), getD_at _ 17 (by omega)]
  rw [e0]
  have hd2 := carrR_dg (n.set 0 (n[0] + 5))
  have h16 := hd2 _ (List.getElem_mem (show 16 < (carrR (n.set 0 (n[0] + 5))).length by omega))
  by_cases c1 : (carrR (n.set 0 (n[0] + 5)))[16] < 4
  · by_cases c2 : (carrR (n.set 0 (n[0] + 5)))[17] = 0
    · simp -implicitDefEqProofs -dsimp +contextual (maxSteps := 5000000) (disch := first | omega | (simp only [go_sem] <;> omega) | (show indepB _ _ = true; refine id ?_; kernel_rfl)) only [go_sem, ↓reduceIte, Nat.reduceEqDiff, Nat.reduceBEq, Nat.reduceAdd, Nat.reduceSub, Nat.reduceLeDiff, Nat.reduceLT, Nat.reduceMul, Int.reduceNeg, Int.reduceLT, Int.reduceLE, Int.reduceAdd, Int.reduceSub, Int.reduceToNat, Int.reduceMul, Int.reduceMod, Int.reduceTMod, Int.reduceTDiv, Int.reduceEq, Nat.reducePow, Nat.reduceDiv, Nat.reduceShiftRight, Nat.reduceMod, List.reduceReplicate, hn, hs, hl2, c1, c2]
    · simp -implicitDefEqProofs -dsimp +contextual (maxSteps := 5000000) (disch := first | omega | (simp only [go_sem] <;> omega) | (show indepB _ _ = true; refine id ?_; kernel_rfl)) only [go_sem, ↓reduceIte, Nat.reduceEqDiff, Nat.reduceBEq, Nat.reduceAdd, Nat.reduceSub, Nat.reduceLeDiff, Nat.reduceLT, Nat.reduceMul, Int.reduceNeg, Int.reduceLT, Int.reduceLE, Int.reduceAdd, Int.reduceSub, Int.reduceToNat, Int.reduceMul, Int.reduceMod, Int.reduceTMod, Int.reduceTDiv, Int.reduceEq, Nat.reducePow, Nat.reduceDiv, Nat.reduceShiftRight, Nat.reduceMod, List.reduceReplicate, hn, hs, hl2, c1, c2]
  · simp -implicitDefEqProofs -dsimp +contextual (maxSteps := 5000000) (disch := first | omega | (simp only [go_sem] <;> omega) | (show indepB _ _ = true; refine id ?_; kernel_rfl)) only [go_sem, ↓reduceIte, Nat.reduceEqDiff, Nat.reduceBEq, Nat.reduceAdd, Nat.reduceSub, Nat.reduceLeDiff, Nat.reduceLT, Nat.reduceMul, Int.reduceNeg, Int.reduceLT, Int.reduceLE, Int.reduceAdd, Int.reduceSub, Int.reduceToNat, Int.reduceMul, Int.reduceMod, Int.reduceTMod, Int.reduceTDiv, Int.reduceEq, Nat.reducePow, Nat.reduceDiv, Nat.reduceShiftRight, Nat.reduceMod, List.reduceReplicate, hn, hs, hl2, c1]

end Go.Proofs.Ytdfkkfnjlcdjaaa
