import Derived.Test.YtccfjidpdlfenaaDoorTDigest6
namespace Go.Proofs.YtccfjidpdlfenaaDoor
open Go.Am
set_option linter.unusedSimpArgs false
set_option linter.unusedVariables false
set_option maxRecDepth 100000
/-! Layers 3 and 10: identifiers. -/
attribute [local irreducible] sumB
theorem be8_len (x : UInt32) : (be8 x).length = 4 := rfl
@[go_sem] theorem sumB_len (b : List UInt8) : (sumB b).length = 32 := by rw [sumB]; rfl
def idB (b : List UInt8) : Nat := beV ((sumB b).take 8)
set_option maxHeartbeats 1000000 in
@[go_sem] theorem e91 (b : List UInt8) (h : b.length ≤ 1000000) : fn C 91 [] [.slice 1 (b.map byteRow)] = some (.int .u64 (idB b : Int), []) := by
  rw [fn_text Tryd.func91 rfl rfl Tryd.results91 locM91 rfl rfl (by kernel_rfl)]
  have hl := sumB_len b
  simp -implicitDefEqProofs -dsimp +contextual (maxSteps := 5000000) (disch := first | omega | (simp only [go_sem] <;> omega) | (show indepB _ _ = true; refine id ?_; kernel_rfl)) only [go_sem, ↓reduceIte, Nat.reduceEqDiff, Nat.reduceBEq, Nat.reduceAdd, Nat.reduceSub, Nat.reduceLeDiff, Nat.reduceLT, Nat.reduceMul, Int.reduceNeg, Int.reduceLT, Int.reduceLE, Int.reduceAdd, Int.reduceSub, Int.reduceToNat, Int.reduceMul, Int.reduceMod, Int.reduceTMod, Int.reduceTDiv, Int.reduceEq, Nat.reducePow, Nat.reduceDiv, Nat.reduceShiftRight, Nat.reduceMod, List.reduceReplicate, h, hl]
  generalize hm : (sumB b).take 8 = m
  have h8 : m.length = 8 := by rw [← hm, List.length_take, hl]; rfl
  rw [idB, hm]
  refine (kLoop_rec (fun (i : Nat) f H => f 3 = .int .u64 (beV (m.take i) : Int) ∧ f 8 = .slice 1 (m.map byteRow) ∧ f 9 = .int .i64 8 ∧ f 10 = .int .i64 (i : Int) ∧ i ≤ 8) (fun i => 8 - i) (fun _ => some (.int .u64 (beV m : Int), [])) ?_ 0 _ _ ⟨rfl, rfl, rfl, rfl, by omega⟩)
  rintro i f H ⟨f3, f8, f9, f10, hi⟩ ih
  by_cases hl : i < 8
  · have hb := beV_lt (m.take i)
    have h7 : beV (m.take i) < 72057594037927936 := Nat.lt_of_lt_of_le hb (by
      rw [List.length_take, Nat.min_eq_left (by omega)]
      exact Nat.le_trans (Nat.pow_le_pow_right (by decide) (show i ≤ 7 by omega)) (by decide))
    have hc := u8_lt (m[i]'(by omega))
    have ht := beV_take m i (by omega)
    simp -implicitDefEqProofs -dsimp +contextual (maxSteps := 5000000) (disch := first | omega | (simp only [go_sem] <;> omega) | (show indepB _ _ = true; refine id ?_; kernel_rfl)) only [go_sem, ↓reduceIte, Nat.reduceEqDiff, Nat.reduceBEq, Nat.reduceAdd, Nat.reduceSub, Nat.reduceLeDiff, Nat.reduceLT, Nat.reduceMul, Int.reduceNeg, Int.reduceLT, Int.reduceLE, Int.reduceAdd, Int.reduceSub, Int.reduceToNat, Int.reduceMul, Int.reduceMod, Int.reduceTMod, Int.reduceTDiv, Int.reduceEq, Nat.reducePow, Nat.reduceDiv, Nat.reduceShiftRight, Nat.reduceMod, List.reduceReplicate, f3, f8, f9, f10, hl, h8, u64_shl8, u64_or8, UInt8.toNat_toUInt64]
    rw [← ht]
    exact ih (i + 1) _ _ ⟨rfl, f8, f9, rfl, by omega⟩ (by omega)
  · obtain rfl : i = 8 := by omega
    rw [List.take_of_length_le (by omega)] at f3
    simp -implicitDefEqProofs -dsimp +contextual (maxSteps := 5000000) (disch := first | omega | (simp only [go_sem] <;> omega) | (show indepB _ _ = true; refine id ?_; kernel_rfl)) only [go_sem, ↓reduceIte, Nat.reduceEqDiff, Nat.reduceBEq, Nat.reduceAdd, Nat.reduceSub, Nat.reduceLeDiff, Nat.reduceLT, Nat.reduceMul, Int.reduceNeg, Int.reduceLT, Int.reduceLE, Int.reduceAdd, Int.reduceSub, Int.reduceToNat, Int.reduceMul, Int.reduceMod, Int.reduceTMod, Int.reduceTDiv, Int.reduceEq, Nat.reducePow, Nat.reduceDiv, Nat.reduceShiftRight, Nat.reduceMod, List.reduceReplicate, f3, f8, f9, f10, hl, h8]
theorem num_be (l : List UInt8) (h : 8 ≤ l.length) : (numB (l.take 4)).toNat * 4294967296 + (numB ((l.drop 4).take 4)).toNat = beV (l.take 8) := by
  match l, h with
  | a :: b :: c :: d :: e :: f :: g :: i :: r, _ =>
    have h1 : numB ((a :: b :: c :: d :: e :: f :: g :: i :: r).take 4) = be4 a b c d := rfl
    have h2 : numB (((a :: b :: c :: d :: e :: f :: g :: i :: r).drop 4).take 4) = be4 e f g i := rfl
    rw [h1, h2, be4_sum, be4_sum]
    simp only [beV, List.take_succ_cons, List.take_zero, List.foldl_cons, List.foldl_nil]
    omega
set_option maxHeartbeats 1000000 in
@[go_sem] theorem e92 (b : List UInt8) (h : b.length ≤ 1000000) : fn C 92 [] [.slice 1 (b.map byteRow)] = some (.int .u64 (idB b : Int), []) := by
  rw [fn_text Tryd.func92 rfl rfl Tryd.results92 locM92 rfl rfl (by kernel_rfl)]
  have hl := sumB_len b
  have hn := num_be (sumB b) (by omega)
  simp -implicitDefEqProofs -dsimp +contextual (maxSteps := 5000000) (disch := first | omega | (simp only [go_sem] <;> omega) | (show indepB _ _ = true; refine id ?_; kernel_rfl)) only [go_sem, ↓reduceIte, Nat.reduceEqDiff, Nat.reduceBEq, Nat.reduceAdd, Nat.reduceSub, Nat.reduceLeDiff, Nat.reduceLT, Nat.reduceMul, Int.reduceNeg, Int.reduceLT, Int.reduceLE, Int.reduceAdd, Int.reduceSub, Int.reduceToNat, Int.reduceMul, Int.reduceMod, Int.reduceTMod, Int.reduceTDiv, Int.reduceEq, Nat.reducePow, Nat.reduceDiv, Nat.reduceShiftRight, Nat.reduceMod, List.reduceReplicate, h, hl]
  have e : ((numB (List.take 4 (sumB b))).toUInt64 * UInt64.ofNat 4294967296 + (numB (List.take 4 (List.drop 4 (sumB b)))).toUInt64).toNat = idB b := by
    have h1 := u32_lt (numB (List.take 4 (sumB b)))
    have h2 := u32_lt (numB (List.take 4 (List.drop 4 (sumB b))))
    rw [idB, ← hn]
    simp only [UInt64.toNat_add, UInt64.toNat_mul, UInt32.toNat_toUInt64, UInt64.toNat_ofNat']
    omega
  rw [e]
def keyS : List UInt8 := [107, 101, 121, 32]
@[go_sem] theorem e49 (b : List UInt8) (h : b.length ≤ 10000) : fn C 49 [] [.str b] = some (.int .u64 (idB (keyS ++ b) : Int), []) := by
  rw [fn_text Tryd.func49 rfl rfl Tryd.results49 locM49 rfl rfl (by kernel_rfl)]
  have e : fn C 91 [] [.slice 1 ([.int .u8 (UInt8.toNat 107 : Int)] :: [.int .u8 (UInt8.toNat 101 : Int)] :: [.int .u8 (UInt8.toNat 121 : Int)] :: [.int .u8 (UInt8.toNat 32 : Int)] :: b.map byteRow)] = some (.int .u64 (idB (keyS ++ b) : Int), []) := e91 (keyS ++ b) (by simp [keyS]; omega)
  simp -implicitDefEqProofs -dsimp +contextual (maxSteps := 5000000) (disch := first | omega | (simp only [go_sem] <;> omega) | (show indepB _ _ = true; refine id ?_; kernel_rfl)) only [go_sem, ↓reduceIte, Nat.reduceEqDiff, Nat.reduceBEq, Nat.reduceAdd, Nat.reduceSub, Nat.reduceLeDiff, Nat.reduceLT, Nat.reduceMul, Int.reduceNeg, Int.reduceLT, Int.reduceLE, Int.reduceAdd, Int.reduceSub, Int.reduceToNat, Int.reduceMul, Int.reduceMod, Int.reduceTMod, Int.reduceTDiv, Int.reduceEq, Nat.reducePow, Nat.reduceDiv, Nat.reduceShiftRight, Nat.reduceMod, List.reduceReplicate, e]
@[go_sem] theorem e51 (b : List UInt8) (h : b.length ≤ 10000) : fn C 51 [] [.str b] = some (.int .u64 (idB (keyS ++ b) : Int), []) := by
  rw [fn_text Tryd.func51 rfl rfl Tryd.results51 locM51 rfl rfl (by kernel_rfl)]
  have e : fn C 92 [] [.slice 1 ([.int .u8 (UInt8.toNat 107 : Int)] :: [.int .u8 (UInt8.toNat 101 : Int)] :: [.int .u8 (UInt8.toNat 121 : Int)] :: [.int .u8 (UInt8.toNat 32 : Int)] :: b.map byteRow)] = some (.int .u64 (idB (keyS ++ b) : Int), []) := e92 (keyS ++ b) (by simp [keyS]; omega)
  simp -implicitDefEqProofs -dsimp +contextual (maxSteps := 5000000) (disch := first | omega | (simp only [go_sem] <;> omega) | (show indepB _ _ = true; refine id ?_; kernel_rfl)) only [go_sem, ↓reduceIte, Nat.reduceEqDiff, Nat.reduceBEq, Nat.reduceAdd, Nat.reduceSub, Nat.reduceLeDiff, Nat.reduceLT, Nat.reduceMul, Int.reduceNeg, Int.reduceLT, Int.reduceLE, Int.reduceAdd, Int.reduceSub, Int.reduceToNat, Int.reduceMul, Int.reduceMod, Int.reduceTMod, Int.reduceTDiv, Int.reduceEq, Nat.reducePow, Nat.reduceDiv, Nat.reduceShiftRight, Nat.reduceMod, List.reduceReplicate, e]
end Go.Proofs.YtccfjidpdlfenaaDoor
