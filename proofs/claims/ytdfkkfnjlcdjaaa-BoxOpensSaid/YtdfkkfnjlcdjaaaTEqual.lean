import Derived.Test.YtdfkkfnjlcdjaaaTPack
namespace Go.Proofs.Ytdfkkfnjlcdjaaa
open Go.Am
set_option linter.unusedSimpArgs false
set_option linter.unusedVariables false
set_option maxRecDepth 100000
/-! Layer 2: bytes held against one another. -/
def gatherB (l : List UInt8) : UInt8 := l.foldl (· ||| ·) 0
theorem or_zero8 (a b : UInt8) : a ||| b = 0 ↔ a = 0 ∧ b = 0 := by
  have h := @UInt8.toBitVec_inj (a ||| b) 0
  rw [← h, ← @UInt8.toBitVec_inj a 0, ← @UInt8.toBitVec_inj b 0]
  simp [UInt8.toBitVec_or]
theorem gather_foldl (l : List UInt8) : ∀ a : UInt8, l.foldl (· ||| ·) a = 0 ↔ a = 0 ∧ ∀ x ∈ l, x = 0 := by
  induction l with
  | nil => intro a; simp
  | cons x l ih => intro a; rw [List.foldl_cons, ih, or_zero8]; simp [and_assoc]
theorem gather_zero (l : List UInt8) : gatherB l = 0 ↔ ∀ x ∈ l, x = 0 := by rw [gatherB, gather_foldl]; simp

@[go_sem] theorem e57 (l : List UInt8) (hm : l.length ≤ 1000000000) : fn C 57 [] [.slice 1 (l.map byteRow)] = some (.int .u8 ((gatherB l).toNat : Int), []) := by
  rw [fn_text Try.func57 rfl rfl Try.results57 locM57 rfl rfl (by kernel_rfl)]
  simp -implicitDefEqProofs -dsimp +contextual (maxSteps := 5000000) (disch := first | omega | (simp only [go_sem] <;> omega) | (show indepB _ _ = true; refine id ?_; kernel_rfl)) only [go_sem, ↓reduceIte, Nat.reduceEqDiff, Nat.reduceBEq, Nat.reduceAdd, Nat.reduceSub, Nat.reduceLeDiff, Nat.reduceLT, Nat.reduceMul, Int.reduceNeg, Int.reduceLT, Int.reduceLE, Int.reduceAdd, Int.reduceSub, Int.reduceToNat, Int.reduceMul, Int.reduceMod, Int.reduceTMod, Int.reduceTDiv, Int.reduceEq, Nat.reducePow, Nat.reduceDiv, Nat.reduceShiftRight, Nat.reduceMod, List.reduceReplicate]
  refine (kLoop_rec (fun i f H => f 3 = .int .u8 ((gatherB (l.take i)).toNat : Int) ∧ f 6 = .slice 1 (l.map byteRow) ∧ f 7 = .int .i64 l.length ∧ f 8 = .int .i64 (i : Nat) ∧ i ≤ l.length) (fun i => l.length - i) (fun _ => some (.int .u8 ((gatherB l).toNat : Int), [])) ?_ 0 _ _ ⟨rfl, rfl, rfl, rfl, by omega⟩)
  rintro i f H ⟨f3, f6, f7, f8, hi⟩ ih
  by_cases hl : i < l.length
  · simp -implicitDefEqProofs -dsimp +contextual (maxSteps := 5000000) (disch := first | omega | (simp only [go_sem] <;> omega) | (show indepB _ _ = true; refine id ?_; kernel_rfl)) only [go_sem, ↓reduceIte, Nat.reduceEqDiff, Nat.reduceBEq, Nat.reduceAdd, Nat.reduceSub, Nat.reduceLeDiff, Nat.reduceLT, Nat.reduceMul, Int.reduceNeg, Int.reduceLT, Int.reduceLE, Int.reduceAdd, Int.reduceSub, Int.reduceToNat, Int.reduceMul, Int.reduceMod, Int.reduceTMod, Int.reduceTDiv, Int.reduceEq, Nat.reducePow, Nat.reduceDiv, Nat.reduceShiftRight, Nat.reduceMod, List.reduceReplicate, f3, f6, f7, f8, hl]
    refine ih (i + 1) _ _ ⟨?_, f6, f7, rfl, by omega⟩ (by omega)
    have e : gatherB (l.take (i + 1)) = gatherB (l.take i) ||| l[i] := by
      rw [List.take_succ_eq_append_getElem hl]; simp only [gatherB, List.foldl_append, List.foldl_cons, List.foldl_nil]
    rw [e]; rfl
  · obtain rfl : i = l.length := by omega
    simp -implicitDefEqProofs -dsimp +contextual (maxSteps := 5000000) (disch := first | omega | (simp only [go_sem] <;> omega) | (show indepB _ _ = true; refine id ?_; kernel_rfl)) only [go_sem, ↓reduceIte, Nat.reduceEqDiff, Nat.reduceBEq, Nat.reduceAdd, Nat.reduceSub, Nat.reduceLeDiff, Nat.reduceLT, Nat.reduceMul, Int.reduceNeg, Int.reduceLT, Int.reduceLE, Int.reduceAdd, Int.reduceSub, Int.reduceToNat, Int.reduceMul, Int.reduceMod, Int.reduceTMod, Int.reduceTDiv, Int.reduceEq, Nat.reducePow, Nat.reduceDiv, Nat.reduceShiftRight, Nat.reduceMod, List.reduceReplicate, f3, f6, f7, f8, hl]

@[go_sem] theorem e49 (l : List UInt8) (hm : l.length ≤ 1000000000) : fn C 49 [] [.slice 1 (l.map byteRow)] = some (.bool (l.all (· == 0)), []) := by
  rw [fn_text Try.func49 rfl rfl Try.results49 locM49 rfl rfl (by kernel_rfl)]
  simp -implicitDefEqProofs -dsimp +contextual (maxSteps := 5000000) (disch := first | omega | (simp only [go_sem] <;> omega) | (show indepB _ _ = true; refine id ?_; kernel_rfl)) only [go_sem, ↓reduceIte, Nat.reduceEqDiff, Nat.reduceBEq, Nat.reduceAdd, Nat.reduceSub, Nat.reduceLeDiff, Nat.reduceLT, Nat.reduceMul, Int.reduceNeg, Int.reduceLT, Int.reduceLE, Int.reduceAdd, Int.reduceSub, Int.reduceToNat, Int.reduceMul, Int.reduceMod, Int.reduceTMod, Int.reduceTDiv, Int.reduceEq, Nat.reducePow, Nat.reduceDiv, Nat.reduceShiftRight, Nat.reduceMod, List.reduceReplicate]
  refine Res_bool ?_
  rw [decide_eq_true_eq, List.all_eq_true]
  have := gather_zero l
  rw [← UInt8.toNat_inj] at this
  simpa using this

@[go_sem] theorem e50 (a b : List UInt8) (h : a.length = b.length) (hm : a.length ≤ 1000000000) : fn C 50 [] [.slice 1 (a.map byteRow), .slice 1 (b.map byteRow)] = some (.slice 1 ((List.zipWith (· ^^^ ·) a b).map byteRow), []) := by
  rw [fn_text Try.func50 rfl rfl Try.results50 locM50 rfl rfl (by kernel_rfl)]
  simp -implicitDefEqProofs -dsimp +contextual (maxSteps := 5000000) (disch := first | omega | (simp only [go_sem] <;> omega) | (show indepB _ _ = true; refine id ?_; kernel_rfl)) only [go_sem, ↓reduceIte, Nat.reduceEqDiff, Nat.reduceBEq, Nat.reduceAdd, Nat.reduceSub, Nat.reduceLeDiff, Nat.reduceLT, Nat.reduceMul, Int.reduceNeg, Int.reduceLT, Int.reduceLE, Int.reduceAdd, Int.reduceSub, Int.reduceToNat, Int.reduceMul, Int.reduceMod, Int.reduceTMod, Int.reduceTDiv, Int.reduceEq, Nat.reducePow, Nat.reduceDiv, Nat.reduceShiftRight, Nat.reduceMod, List.reduceReplicate, h, ite_self]
  obtain ⟨A, hA⟩ : ∃ A, A = List.zipWith (· ^^^ ·) a b := ⟨_, rfl⟩
  have hl : A.length = b.length := by rw [hA]; simp [h]
  have hget : ∀ (i : Nat) (h1 : i < A.length) (h2 : i < a.length) (h3 : i < b.length), A[i] = a[i] ^^^ b[i] := fun i h1 h2 h3 => by subst hA; simp
  have z1 := fillTo_zero A
  rw [hl] at z1
  rw [← z1, ← hA]
  refine kLoop_rec (fun i f H => f 0 = .slice 1 (a.map byteRow) ∧ f 1 = .slice 1 (b.map byteRow) ∧ f 6 = .osl 114 1 0 b.length ∧ f 15 = .int .i64 b.length ∧ f 16 = .int .i64 (i : Nat) ∧ H 114 = ⟨1, .live, 1, (fillTo A i).map byteRow, true⟩ ∧ i ≤ b.length) (fun i => b.length - i) (fun _ => some (.slice 1 (A.map byteRow), [])) ?_ 0 _ _ ⟨rfl, rfl, rfl, rfl, rfl, rfl, by omega⟩
  rintro i f H ⟨f0, f1, f6, f15, f16, H114, hi⟩ ih
  have hf := fillTo_len A i (by omega)
  by_cases hlt : i < b.length
  · simp -implicitDefEqProofs -dsimp +contextual (maxSteps := 5000000) (disch := first | omega | (simp only [go_sem] <;> omega) | (show indepB _ _ = true; refine id ?_; kernel_rfl)) only [go_sem, ↓reduceIte, Nat.reduceEqDiff, Nat.reduceBEq, Nat.reduceAdd, Nat.reduceSub, Nat.reduceLeDiff, Nat.reduceLT, Nat.reduceMul, Int.reduceNeg, Int.reduceLT, Int.reduceLE, Int.reduceAdd, Int.reduceSub, Int.reduceToNat, Int.reduceMul, Int.reduceMod, Int.reduceTMod, Int.reduceTDiv, Int.reduceEq, Nat.reducePow, Nat.reduceDiv, Nat.reduceShiftRight, Nat.reduceMod, List.reduceReplicate, f0, f1, f6, f15, f16, H114, hlt, hf]
    rw [← hget i (by omega) (by omega) hlt, fillTo_set _ _ (by omega)]
    exact ih (i + 1) _ _ ⟨f0, f1, f6, f15, rfl, rfl, by omega⟩ (by omega)
  · have e : fillTo A b.length = A := fillTo_all _ _ (by omega)
    obtain rfl : i = b.length := by omega
    simp -implicitDefEqProofs -dsimp +contextual (maxSteps := 5000000) (disch := first | omega | (simp only [go_sem] <;> omega) | (show indepB _ _ = true; refine id ?_; kernel_rfl)) only [go_sem, ↓reduceIte, Nat.reduceEqDiff, Nat.reduceBEq, Nat.reduceAdd, Nat.reduceSub, Nat.reduceLeDiff, Nat.reduceLT, Nat.reduceMul, Int.reduceNeg, Int.reduceLT, Int.reduceLE, Int.reduceAdd, Int.reduceSub, Int.reduceToNat, Int.reduceMul, Int.reduceMod, Int.reduceTMod, Int.reduceTDiv, Int.reduceEq, Nat.reducePow, Nat.reduceDiv, Nat.reduceShiftRight, Nat.reduceMod, List.reduceReplicate, f0, f1, f6, f15, f16, H114, hlt, hf, e]

theorem xor_zip (a b : List UInt8) (h : a.length = b.length) : (List.zipWith (· ^^^ ·) a b).all (· == 0) = decide (a = b) := by
  induction a generalizing b with
  | nil => cases b <;> simp at h ⊢
  | cons x a ih =>
    cases b with
    | nil => simp at h
    | cons y b =>
      simp only [List.zipWith_cons_cons, List.all_cons, ih b (by simpa using h), List.cons.injEq]
      rw [Bool.eq_iff_iff]
      simp [UInt8.xor_eq_zero_iff]

@[go_sem] theorem e32 (a b : List UInt8) (hm : a.length ≤ 1000000000) : fn C 32 [] [.slice 1 (a.map byteRow), .slice 1 (b.map byteRow)] = some (.bool (decide (a = b)), []) := by
  rw [fn_text Try.func32 rfl rfl Try.results32 locM32 rfl rfl (by kernel_rfl)]
  by_cases h : a.length = b.length
  · have hz : (List.zipWith (· ^^^ ·) a b).length ≤ 1000000000 := by simp; omega
    simp -implicitDefEqProofs -dsimp +contextual (maxSteps := 5000000) (disch := first | omega | (simp only [go_sem] <;> omega) | (show indepB _ _ = true; refine id ?_; kernel_rfl)) only [go_sem, ↓reduceIte, Nat.reduceEqDiff, Nat.reduceBEq, Nat.reduceAdd, Nat.reduceSub, Nat.reduceLeDiff, Nat.reduceLT, Nat.reduceMul, Int.reduceNeg, Int.reduceLT, Int.reduceLE, Int.reduceAdd, Int.reduceSub, Int.reduceToNat, Int.reduceMul, Int.reduceMod, Int.reduceTMod, Int.reduceTDiv, Int.reduceEq, Nat.reducePow, Nat.reduceDiv, Nat.reduceShiftRight, Nat.reduceMod, List.reduceReplicate, h]
    rw [xor_zip a b h]
  · simp -implicitDefEqProofs -dsimp +contextual (maxSteps := 5000000) (disch := first | omega | (simp only [go_sem] <;> omega) | (show indepB _ _ = true; refine id ?_; kernel_rfl)) only [go_sem, ↓reduceIte, Nat.reduceEqDiff, Nat.reduceBEq, Nat.reduceAdd, Nat.reduceSub, Nat.reduceLeDiff, Nat.reduceLT, Nat.reduceMul, Int.reduceNeg, Int.reduceLT, Int.reduceLE, Int.reduceAdd, Int.reduceSub, Int.reduceToNat, Int.reduceMul, Int.reduceMod, Int.reduceTMod, Int.reduceTDiv, Int.reduceEq, Nat.reducePow, Nat.reduceDiv, Nat.reduceShiftRight, Nat.reduceMod, List.reduceReplicate, h]
    have : a ≠ b := fun e => h (by rw [e])
    simp [this]

end Go.Proofs.Ytdfkkfnjlcdjaaa
