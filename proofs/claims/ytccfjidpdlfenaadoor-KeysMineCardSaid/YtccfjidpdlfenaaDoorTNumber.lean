import Derived.Test.YtccfjidpdlfenaaDoorTOwn_g1
namespace Go.Proofs.YtccfjidpdlfenaaDoor
open Go.Am
set_option linter.unusedSimpArgs false
set_option linter.unusedVariables false
set_option maxRecDepth 100000
/-! Numbers as texts. -/
@[go_sem] theorem e61 (n : Int) (h1 : -9223372036854775808 ≤ n) (h2 : n ≤ 9223372036854775807) : fn C 61 [] [.int .i64 n] = some (.str (Lib.itoa n), []) := by
  rw [fn_text Tryd.func61 rfl rfl Tryd.results61 locM61 rfl rfl (by kernel_rfl)]
  simp -implicitDefEqProofs -dsimp +contextual (maxSteps := 5000000) (disch := first | omega | (simp only [go_sem] <;> omega) | (show indepB _ _ = true; refine id ?_; kernel_rfl)) only [go_sem, ↓reduceIte, Nat.reduceEqDiff, Nat.reduceBEq, Nat.reduceAdd, Nat.reduceSub, Nat.reduceLeDiff, Nat.reduceLT, Nat.reduceMul, Int.reduceNeg, Int.reduceLT, Int.reduceLE, Int.reduceAdd, Int.reduceSub, Int.reduceToNat, Int.reduceMul, Int.reduceMod, Int.reduceTMod, Int.reduceTDiv, Int.reduceEq, Nat.reducePow, Nat.reduceDiv, Nat.reduceShiftRight, Nat.reduceMod, List.reduceReplicate, h1, h2]

end Go.Proofs.YtccfjidpdlfenaaDoor
