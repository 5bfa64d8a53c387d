import Derived.Test.YtfifgnffipdmeaaDoorTLabel9
namespace Go.Proofs.YtfifgnffipdmeaaDoor
open Go.Am
set_option linter.unusedSimpArgs false
set_option linter.unusedVariables false
set_option maxRecDepth 100000

open Lib
/-! Layer 10: the laws. -/
set_option maxHeartbeats 4000000 in
@[go_sem] theorem e7 : fn C 7 [] [] = some (.bool true, []) := by
  rw [fn_text Tryd.func7 rfl rfl Tryd.results7 locM7 rfl rfl (by kernel_rfl)]
  have r1 : readHexR [48, 48, 48, 48, 48, 48, 48, 48, 48, 48, 48, 48, 48, 48, 102, 102] = .tup [.int .u64 255, .bool true] := rfl
  have r2 : readHexR [102, 102] = .tup [.int .u64 0, .bool false] := rfl
  have r3 : fn C 8 [] [.int .u64 255] = some (.str [48, 48, 48, 48, 48, 48, 48, 48, 48, 48, 48, 48, 48, 48, 102, 102], []) := e8 255 (by decide)
  have r4 : fn C 12 [] [.slice 1 [[.int .u8 1], [.int .u8 255]]] = some (.str [48, 49, 102, 102], []) := e12 [1, 255] (by decide)
  have r5 : nameR [97, 45, 49] = true := rfl
  have r6 : nameR [49] = false := rfl
  have r7 : keyR [75] = true := rfl
  have r8 : keyR [] = false := rfl
  have r9 : itoa (-5) = [45, 53] := by
    rw [itoa, if_pos (by decide), show (-5 : Int).natAbs = 5 from rfl, decDigits_one (by decide)]; rfl
  simp -implicitDefEqProofs -dsimp +contextual (maxSteps := 5000000) (disch := first | omega | (simp only [go_sem] <;> omega) | (show indepB _ _ = true; refine id ?_; kernel_rfl)) only [go_sem, ↓reduceIte, Nat.reduceEqDiff, Nat.reduceBEq, Nat.reduceAdd, Nat.reduceSub, Nat.reduceLeDiff, Nat.reduceLT, Nat.reduceMul, Int.reduceNeg, Int.reduceLT, Int.reduceLE, Int.reduceAdd, Int.reduceSub, Int.reduceToNat, Int.reduceMul, Int.reduceMod, Int.reduceTMod, Int.reduceTDiv, Int.reduceEq, Nat.reducePow, Nat.reduceDiv, Nat.reduceShiftRight, Nat.reduceMod, List.reduceReplicate, r1, r2, r3, r4, r5, r6, r7, r8, r9]

end Go.Proofs.YtfifgnffipdmeaaDoor
