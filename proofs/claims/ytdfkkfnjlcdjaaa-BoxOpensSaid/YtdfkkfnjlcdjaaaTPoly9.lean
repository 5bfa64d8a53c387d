import Derived.Test.YtdfkkfnjlcdjaaaTPoly8
namespace Go.Proofs.Ytdfkkfnjlcdjaaa
open Go.Am
set_option linter.unusedSimpArgs false
set_option linter.unusedVariables false
set_option maxRecDepth 100000
/-! Layer 7, by the document: folding, products. -/
theorem rowG_le (x M : Nat) : ∀ (bs out : List Nat) (j B : Nat), (∀ z ∈ out, z ≤ B) → (∀ y ∈ bs, x * y ≤ M) → ∀ z ∈ rowG x out j bs, z ≤ B + M * bs.length
  | [], out, j, B, h, _ => by simpa [rowG] using h
  | y :: bs, out, j, B, h, hy => by
    intro z hz
    rw [rowG] at hz
    have hM := hy y (by simp)
    have := rowG_le x M bs (out.set j (out.getD j 0 + x * y)) (j + 1) (B + M) (fun w hw => by
      rcases List.mem_or_eq_of_mem_set hw with hw | rfl
      · have := h w hw; omega
      · by_cases hj : j < out.length
        · rw [getD_at _ _ hj]; have := h _ (List.getElem_mem hj); omega
        · have : out.getD j 0 = 0 := by simp [List.getD_eq_getElem?_getD, List.getElem?_eq_none (Nat.le_of_not_lt hj)]
          omega) (fun w hw => hy w (List.mem_cons_of_mem _ hw)) z hz
    rw [List.length_cons, Nat.mul_succ]; omega
theorem rowG_drop (x : Nat) (out b : List Nat) (i k : Nat) (h : k < b.length) (hj : i + k < out.length) : rowG x out (i + k) (b.drop k) = rowG x (out.set (i + k) (out[i + k] + x * b[k])) (i + (k + 1)) (b.drop (k + 1)) := by
  rw [List.drop_eq_getElem_cons h, rowG, getD_at _ _ hj]; rfl
theorem set_le {out : List Nat} {j v B : Nat} (h : ∀ z ∈ out, z ≤ B) (hv : v ≤ B) : ∀ z ∈ out.set j v, z ≤ B := fun w hw => by
  rcases List.mem_or_eq_of_mem_set hw with hw | rfl
  · exact h w hw
  · exact hv
theorem le_weak {out : List Nat} {B B' : Nat} (h : ∀ z ∈ out, z ≤ B) (hb : B ≤ B') : ∀ z ∈ out, z ≤ B' := fun z hz => Nat.le_trans (h z hz) hb
def fold0 (n : List Nat) : List Nat := n.take 16 ++ ((n.getD 16 0 % 4) :: List.replicate 7 0)
theorem fold0_len (n : List Nat) (h : 17 ≤ n.length) : (fold0 n).length = 24 := by simp [fold0]; omega
theorem fold0_set (n : List Nat) (h : 17 ≤ n.length) : (n.take 17 ++ List.replicate 7 0).set 16 (n[16] % 4) = fold0 n := by
  unfold fold0
  rw [List.take_succ_eq_append_getElem (by omega), getD_at _ _ (by omega), List.append_assoc, List.set_append_right _ _ (by simp; omega), List.length_take, Nat.min_eq_left (by omega)]
  rfl
theorem fold0_zero (n : List Nat) (h : 17 ≤ n.length) (h2 : 0 < (fold0 n).length) : (fold0 n)[0] = n[0] := by
  simp only [fold0]
  rw [List.getElem_append_left (by simp; omega), List.getElem_take]
theorem foldR_eq (n : List Nat) (h : 17 ≤ n.length) : foldR n = rowG 320 ((fold0 n).set 0 (n[0] + n[16] / 4 * 5)) 0 (n.drop 17) := by
  rw [foldR, getD_at n 0 (by omega), getD_at n 16 (by omega)]
  congr 2
  rw [fold0, getD_at n 16 (by omega)]
theorem fold0_le (n : List Nat) (h : Dg n) : ∀ z ∈ fold0 n, z ≤ 1000 := by
  intro z hz
  simp only [fold0, List.mem_append, List.mem_cons, List.mem_replicate] at hz
  rcases hz with hz | rfl | ⟨_, rfl⟩
  · have := h z (List.mem_of_mem_take hz); omega
  · omega
  · omega
theorem foldR_le (n : List Nat) (h : Dg n) (hl : 17 ≤ n.length) : ∀ z ∈ foldR n, z ≤ 2000 + 90000 * n.length := by
  rw [foldR_eq n hl]
  intro z hz
  have := rowG_le 320 90000 (n.drop 17) _ 0 2000 (set_le (le_weak (fold0_le n h) (by omega)) (by
    have h1 := h _ (List.getElem_mem (show 0 < n.length by omega))
    have h2 := h _ (List.getElem_mem (show 16 < n.length by omega))
    omega)) (fun y hy => by have := h y (List.mem_of_mem_drop hy); omega) z hz
  rw [List.length_drop] at this
  have : 90000 * (n.length - 17) ≤ 90000 * n.length := Nat.mul_le_mul_left _ (by omega)
  omega
def foldT (n : List Nat) (i : Nat) (out : List Nat) : List Nat := if i = 16 then rowG 320 (out.set 0 (out.getD 0 0 + n.getD 16 0 / 4 * 5)) 0 (n.drop 17) else rowG 320 out (i - 17) (n.drop i)
set_option maxHeartbeats 4000000 in
@[go_sem] theorem e56 (n : List Nat) (h17 : 17 ≤ n.length) (hn : n.length ≤ 41) (hd : Dg n) : fn C 56 [] [.slice 1 (n.map nR)] = some (.slice 1 ((foldR n).map nR), []) := by
  rw [fn_text Try.func56 rfl rfl Try.results56 locM56 rfl rfl (by kernel_rfl)]
  simp -implicitDefEqProofs -dsimp +contextual (maxSteps := 5000000) (disch := first | omega | (simp only [go_sem] <;> omega) | (show indepB _ _ = true; refine id ?_; kernel_rfl)) only [go_sem, ↓reduceIte, Nat.reduceEqDiff, Nat.reduceBEq, Nat.reduceAdd, Nat.reduceSub, Nat.reduceLeDiff, Nat.reduceLT, Nat.reduceMul, Int.reduceNeg, Int.reduceLT, Int.reduceLE, Int.reduceAdd, Int.reduceSub, Int.reduceToNat, Int.reduceMul, Int.reduceMod, Int.reduceTMod, Int.reduceTDiv, Int.reduceEq, Nat.reducePow, Nat.reduceDiv, Nat.reduceShiftRight, Nat.reduceMod, List.reduceReplicate]
  have hA : (n.take 17 ++ List.replicate 7 0).length = 24 := by simp; omega
  have hget : ∀ (i : Nat) (_ : i < 17) (h2 : i < (n.take 17 ++ List.replicate 7 0).length) (h3 : i < n.length), (n.take 17 ++ List.replicate 7 0)[i] = n[i] := fun i hi h2 h3 => by
    rw [List.getElem_append_left (by simp; omega), List.getElem_take]
  have hfl : fillN (n.take 17 ++ List.replicate 7 0) 17 = n.take 17 ++ List.replicate 7 0 := by
    have := fillN_tail (n.take 17 ++ List.replicate 7 0) 17 7 (by omega) (by omega)
    rw [List.take_left' (by simp; omega)] at this
    exact this
  have hset := fold0_set n h17
  have h0 := fold0_zero n h17
  have h0l := fold0_len n h17
  have hfe := foldR_eq n h17
  have hfb := fold0_le n hd
  generalize n.take 17 ++ List.replicate 7 0 = A at *
  generalize fold0 n = B at *
  have z1 := fillN_zero A
  rw [hA] at z1
  refine kLoop_rec (fun (i : Nat) f H => f 0 = .slice 1 (n.map nR) ∧ f 3 = .osl 107 1 0 24 ∧ f 4 = .int .i64 (i : Int) ∧ H 107 = ⟨1, .live, 1, (fillN A i).map nR, true⟩ ∧ i ≤ 17) (fun i => 17 - i) (fun _ => some (.slice 1 ((foldR n).map nR), [])) ?_ 0 _ _ ?_
  rotate_left
  · refine ⟨rfl, rfl, rfl, ?_, by omega⟩
    rw [z1]; rfl
  rintro i f H ⟨f0, f3, f4, H107, hi⟩ ih
  have hf := fillN_len A i (by omega)
  by_cases hl : i < 17
  · have hAi := hget i hl (by omega) (by omega)
    simp -implicitDefEqProofs -dsimp +contextual (maxSteps := 5000000) (disch := first | omega | (simp only [go_sem] <;> omega) | (show indepB _ _ = true; refine id ?_; kernel_rfl)) only [go_sem, ↓reduceIte, Nat.reduceEqDiff, Nat.reduceBEq, Nat.reduceAdd, Nat.reduceSub, Nat.reduceLeDiff, Nat.reduceLT, Nat.reduceMul, Int.reduceNeg, Int.reduceLT, Int.reduceLE, Int.reduceAdd, Int.reduceSub, Int.reduceToNat, Int.reduceMul, Int.reduceMod, Int.reduceTMod, Int.reduceTDiv, Int.reduceEq, Nat.reducePow, Nat.reduceDiv, Nat.reduceShiftRight, Nat.reduceMod, List.reduceReplicate, f0, f3, f4, H107, hl, hf, hA]
    rw [← hAi, fillN_set _ _ (by omega)]
    exact ih (i + 1) _ _ ⟨f0, f3, rfl, rfl, by omega⟩ (by omega)
  · obtain rfl : i = 17 := by omega
    rw [hfl] at H107
    simp -implicitDefEqProofs -dsimp +contextual (maxSteps := 5000000) (disch := first | omega | (simp only [go_sem] <;> omega) | (show indepB _ _ = true; refine id ?_; kernel_rfl)) only [go_sem, ↓reduceIte, Nat.reduceEqDiff, Nat.reduceBEq, Nat.reduceAdd, Nat.reduceSub, Nat.reduceLeDiff, Nat.reduceLT, Nat.reduceMul, Int.reduceNeg, Int.reduceLT, Int.reduceLE, Int.reduceAdd, Int.reduceSub, Int.reduceToNat, Int.reduceMul, Int.reduceMod, Int.reduceTMod, Int.reduceTDiv, Int.reduceEq, Nat.reducePow, Nat.reduceDiv, Nat.reduceShiftRight, Nat.reduceMod, List.reduceReplicate, f0, f3, f4, H107, hl, hA, hset]
    clear H107 f4 ih
    have hR : foldR n = foldT n 16 B := by
      rw [hfe, foldT, if_pos rfl, getD_at _ _ (by omega), getD_at _ _ (by omega), h0]
    rw [hR]
    refine kLoop_rec2 (fun (i : Nat) (out : List Nat) f H => f 0 = .slice 1 (n.map nR) ∧ f 3 = .osl 107 1 0 24 ∧ f 5 = .int .i64 (i : Int) ∧ H 107 = ⟨1, .live, 1, out.map nR, true⟩ ∧ 16 ≤ i ∧ i ≤ n.length ∧ out.length = 24 ∧ ∀ z ∈ out, z ≤ 1000 + 100000 * (i - 16)) (fun i _ => n.length - i) (fun i out => some (.slice 1 ((foldT n i out).map nR), [])) ?_ 16 B _ _ ⟨f0, f3, rfl, rfl, by omega, by omega, h0l, by simpa using hfb⟩
    clear f0 f3
    rintro i out f H ⟨f0, f3, f5, H107, hi1, hi2, ho, hob⟩ ih
    by_cases hl : i < n.length
    · have hb := hd _ (List.getElem_mem hl)
      by_cases h16 : i = 16
      · subst h16
        have ho0 := hob _ (List.getElem_mem (show 0 < out.length by omega))
        have e1 : n[16] - n[16] % 4 = n[16] / 4 * 4 := by omega
        have e2 : n[16] / 4 * 4 / 4 = n[16] / 4 := by omega
        simp -implicitDefEqProofs -dsimp +contextual (maxSteps := 5000000) (disch := first | omega | (simp only [go_sem] <;> omega) | (show indepB _ _ = true; refine id ?_; kernel_rfl)) only [go_sem, ↓reduceIte, Nat.reduceEqDiff, Nat.reduceBEq, Nat.reduceAdd, Nat.reduceSub, Nat.reduceLeDiff, Nat.reduceLT, Nat.reduceMul, Int.reduceNeg, Int.reduceLT, Int.reduceLE, Int.reduceAdd, Int.reduceSub, Int.reduceToNat, Int.reduceMul, Int.reduceMod, Int.reduceTMod, Int.reduceTDiv, Int.reduceEq, Nat.reducePow, Nat.reduceDiv, Nat.reduceShiftRight, Nat.reduceMod, List.reduceReplicate, f0, f3, f5, H107, hl, ho, e1, e2]
        have hs := set_le (j := 0) (le_weak hob (show 1000 + 100000 * (16 - 16) ≤ 1000 + 100000 * (17 - 16) by omega)) (show out[0] + n[16] / 4 * 5 ≤ _ by omega)
        refine Eq.trans (ih 17 (out.set 0 (out[0] + n[16] / 4 * 5)) _ _ (by exact ⟨f0, f3, rfl, rfl, by omega, by omega, by simpa using ho, hs⟩) (by omega)) ?_
        rw [foldT, foldT, if_pos rfl, if_neg (by omega), getD_at _ _ (by omega), getD_at _ _ (by omega)]
      · have hoi := hob _ (List.getElem_mem (show i - 17 < out.length by omega))
        have e5 : (i : Int) - 17 = ((i - 17 : Nat) : Int) := by omega
        simp -implicitDefEqProofs -dsimp +contextual (maxSteps := 5000000) (disch := first | omega | (simp only [go_sem] <;> omega) | (show indepB _ _ = true; refine id ?_; kernel_rfl)) only [go_sem, ↓reduceIte, Nat.reduceEqDiff, Nat.reduceBEq, Nat.reduceAdd, Nat.reduceSub, Nat.reduceLeDiff, Nat.reduceLT, Nat.reduceMul, Int.reduceNeg, Int.reduceLT, Int.reduceLE, Int.reduceAdd, Int.reduceSub, Int.reduceToNat, Int.reduceMul, Int.reduceMod, Int.reduceTMod, Int.reduceTDiv, Int.reduceEq, Nat.reducePow, Nat.reduceDiv, Nat.reduceShiftRight, Nat.reduceMod, List.reduceReplicate, f0, f3, f5, H107, hl, h16, ho, e5]
        have hs := set_le (j := i - 17) (le_weak hob (show 1000 + 100000 * (i - 16) ≤ 1000 + 100000 * (i + 1 - 16) by omega)) (show out[i - 17] + n[i] * 64 * 5 ≤ _ by omega)
        refine Eq.trans (ih (i + 1) (out.set (i - 17) (out[i - 17] + n[i] * 64 * 5)) _ _ (by exact ⟨f0, f3, rfl, rfl, by omega, by omega, by simpa using ho, hs⟩) (by omega)) ?_
        rw [foldT, foldT, if_neg h16, if_neg (by omega)]
        rw [List.drop_eq_getElem_cons hl, rowG, getD_at _ _ (by omega), show 320 * n[i] = n[i] * 64 * 5 by omega, show i + 1 - 17 = i - 17 + 1 by omega]
    · obtain rfl : i = n.length := by omega
      simp -implicitDefEqProofs -dsimp +contextual (maxSteps := 5000000) (disch := first | omega | (simp only [go_sem] <;> omega) | (show indepB _ _ = true; refine id ?_; kernel_rfl)) only [go_sem, ↓reduceIte, Nat.reduceEqDiff, Nat.reduceBEq, Nat.reduceAdd, Nat.reduceSub, Nat.reduceLeDiff, Nat.reduceLT, Nat.reduceMul, Int.reduceNeg, Int.reduceLT, Int.reduceLE, Int.reduceAdd, Int.reduceSub, Int.reduceToNat, Int.reduceMul, Int.reduceMod, Int.reduceTMod, Int.reduceTDiv, Int.reduceEq, Nat.reducePow, Nat.reduceDiv, Nat.reduceShiftRight, Nat.reduceMod, List.reduceReplicate, f0, f3, f5, H107, hl, ho]
      rw [foldT]
      split
      · omega
      · simp [rowG]

end Go.Proofs.Ytdfkkfnjlcdjaaa
