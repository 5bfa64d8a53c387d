import Derived.Test.YtccfjidpdlfenaaDoorTNumber
import Derived.Lib.ItoaLen
namespace Go.Proofs.YtccfjidpdlfenaaDoor
open Go.Am
set_option linter.unusedSimpArgs false
set_option linter.unusedVariables false
set_option maxRecDepth 100000
open Lib
def d10S : List UInt8 := [48, 49, 50, 51, 52, 53, 54, 55, 56, 57]
@[go_sem] theorem d10S_fold : ([48, 49, 50, 51, 52, 53, 54, 55, 56, 57] : List UInt8) = d10S := rfl
@[go_sem] theorem d10S_len : d10S.length = 10 := rfl
@[go_sem] theorem d10S_cut (d : Nat) (h : d < 10) : (d10S.drop d).take (d + 1 - d) = decDigits d := by
  have : ∀ n : Fin 10, (d10S.drop n.val).take (n.val + 1 - n.val) = [UInt8.ofNat (48 + n.val)] := by decide
  rw [decDigits_one h]
  exact this ⟨d, h⟩
theorem dec_len (n : Nat) (h : n ≤ 9223372036854775808) : (decDigits n).length ≤ 21 := by
  have := itoa_length_le (-(n : Int)) (by omega) (by omega)
  by_cases h0 : n = 0
  · subst h0; rw [decDigits_one (by decide)]; decide
  · rw [itoa, if_pos (by omega)] at this
    simp at this; omega
theorem dec_step (n : Nat) (h : 10 ≤ n) : decDigits (n / 10) ++ decDigits (n % 10) = decDigits n := by
  rw [decDigits_one (show n % 10 < 10 by omega)]
  conv => rhs; rw [decDigits, dif_neg (by omega)]
set_option maxHeartbeats 4000000 in
theorem refNum_nat (n : Nat) (hn : n ≤ 9223372036854775807) : fn C 63 [] [.int .i64 (n : Int)] = some (.str (decDigits n), []) := by
  induction n using Nat.strongRecOn with
  | ind n ih =>
    rw [fn_text Tryd.func63 rfl rfl Tryd.results63 locM63 rfl rfl (by kernel_rfl)]
    by_cases h : 9 < n
    · have h1 := ih (n / 10) (by omega) (by omega)
      have h2 := ih (n % 10) (by omega) (by omega)
      have l1 := dec_len (n / 10) (by omega)
      have l2 := dec_len (n % 10) (by omega)
      simp -implicitDefEqProofs -dsimp +contextual (maxSteps := 5000000) (disch := first | omega | (simp only [go_sem] <;> omega) | (show indepB _ _ = true; refine id ?_; kernel_rfl)) only [go_sem, ↓reduceIte, Nat.reduceEqDiff, Nat.reduceBEq, Nat.reduceAdd, Nat.reduceSub, Nat.reduceLeDiff, Nat.reduceLT, Nat.reduceMul, Int.reduceNeg, Int.reduceLT, Int.reduceLE, Int.reduceAdd, Int.reduceSub, Int.reduceToNat, Int.reduceMul, Int.reduceMod, Int.reduceTMod, Int.reduceTDiv, Int.reduceEq, Nat.reducePow, Nat.reduceDiv, Nat.reduceShiftRight, Nat.reduceMod, List.reduceReplicate, h, h1, h2, Nat.not_lt_zero]
      rw [dec_step n (by omega)]
    · simp -implicitDefEqProofs -dsimp +contextual (maxSteps := 5000000) (disch := first | omega | (simp only [go_sem] <;> omega) | (show indepB _ _ = true; refine id ?_; kernel_rfl)) only [go_sem, ↓reduceIte, Nat.reduceEqDiff, Nat.reduceBEq, Nat.reduceAdd, Nat.reduceSub, Nat.reduceLeDiff, Nat.reduceLT, Nat.reduceMul, Int.reduceNeg, Int.reduceLT, Int.reduceLE, Int.reduceAdd, Int.reduceSub, Int.reduceToNat, Int.reduceMul, Int.reduceMod, Int.reduceTMod, Int.reduceTDiv, Int.reduceEq, Nat.reducePow, Nat.reduceDiv, Nat.reduceShiftRight, Nat.reduceMod, List.reduceReplicate, h, Nat.not_lt_zero]
set_option maxHeartbeats 4000000 in
theorem refNum_neg (n : Nat) (h1 : 1 ≤ n) (hn : n ≤ 9223372036854775808) : fn C 63 [] [.int .i64 (-(n : Int))] = some (.str (45 :: decDigits n), []) := by
  induction n using Nat.strongRecOn with
  | ind n ih =>
    rw [fn_text Tryd.func63 rfl rfl Tryd.results63 locM63 rfl rfl (by kernel_rfl)]
    by_cases h : n < 10
    · have h1 := refNum_nat n (by omega)
      have l1 := dec_len n (by omega)
      have hz : -(n : Int) < 0 := by omega
      have hz2 : -10 < -(n : Int) := by omega
      simp -implicitDefEqProofs -dsimp +contextual (maxSteps := 5000000) (disch := first | omega | (simp only [go_sem] <;> omega) | (show indepB _ _ = true; refine id ?_; kernel_rfl)) only [go_sem, ↓reduceIte, Nat.reduceEqDiff, Nat.reduceBEq, Nat.reduceAdd, Nat.reduceSub, Nat.reduceLeDiff, Nat.reduceLT, Nat.reduceMul, Int.reduceNeg, Int.reduceLT, Int.reduceLE, Int.reduceAdd, Int.reduceSub, Int.reduceToNat, Int.reduceMul, Int.reduceMod, Int.reduceTMod, Int.reduceTDiv, Int.reduceEq, Nat.reducePow, Nat.reduceDiv, Nat.reduceShiftRight, Nat.reduceMod, List.reduceReplicate, h, h1, hz, hz2, Int.sub_neg, Int.zero_add]
    · have h2 := ih (n / 10) (by omega) (by omega) (by omega)
      have h3 := refNum_nat (n % 10) (by omega)
      have l1 := dec_len (n / 10) (by omega)
      have l2 := dec_len (n % 10) (by omega)
      have hz : -(n : Int) < 0 := by omega
      have hz2 : ¬ -10 < -(n : Int) := by omega
      have e1 : IntKind.i64.wrap ((-(n : Int)).tdiv 10) = -((n / 10 : Nat) : Int) := by
        rw [IntKind.wrap_i64, Int.neg_tdiv, show (n : Int).tdiv 10 = ((n / 10 : Nat) : Int) from rfl]; omega
      have e2 : (-(n : Int)).tmod 10 = -((n % 10 : Nat) : Int) := by
        rw [Int.neg_tmod, show (n : Int).tmod 10 = ((n % 10 : Nat) : Int) from rfl]
      simp -implicitDefEqProofs -dsimp +contextual (maxSteps := 5000000) (disch := first | omega | (simp only [go_sem] <;> omega) | (show indepB _ _ = true; refine id ?_; kernel_rfl)) only [go_sem, ↓reduceIte, Nat.reduceEqDiff, Nat.reduceBEq, Nat.reduceAdd, Nat.reduceSub, Nat.reduceLeDiff, Nat.reduceLT, Nat.reduceMul, Int.reduceNeg, Int.reduceLT, Int.reduceLE, Int.reduceAdd, Int.reduceSub, Int.reduceToNat, Int.reduceMul, Int.reduceMod, Int.reduceTMod, Int.reduceTDiv, Int.reduceEq, Nat.reducePow, Nat.reduceDiv, Nat.reduceShiftRight, Nat.reduceMod, List.reduceReplicate, h, h2, h3, hz, hz2, e1, e2, Int.sub_neg, Int.zero_add]
      rw [dec_step n (by omega)]
@[go_sem] theorem e63 (n : Int) (h1 : -9223372036854775808 ≤ n) (h2 : n ≤ 9223372036854775807) : fn C 63 [] [.int .i64 n] = some (.str (itoa n), []) := by
  by_cases h : n < 0
  · have := refNum_neg n.natAbs (by omega) (by omega)
    rw [show -((n.natAbs : Nat) : Int) = n by omega] at this
    rw [this, itoa, if_pos h]
  · have := refNum_nat n.toNat (by omega)
    rw [show ((n.toNat : Nat) : Int) = n by omega] at this
    rw [this, itoa, if_neg h]

end Go.Proofs.YtccfjidpdlfenaaDoor
