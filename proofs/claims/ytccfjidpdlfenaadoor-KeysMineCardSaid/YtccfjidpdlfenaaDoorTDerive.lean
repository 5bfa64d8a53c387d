import Derived.Test.YtccfjidpdlfenaaDoorTMac
namespace Go.Proofs.YtccfjidpdlfenaaDoor
open Go.Am
set_option linter.unusedSimpArgs false
set_option linter.unusedVariables false
set_option maxRecDepth 100000
/-! Layer 5: keys made of others. -/
def exp1 (key info : List UInt8) : List UInt8 := macB key (info ++ [1])
def exp2 (key info : List UInt8) : List UInt8 := macB key (exp1 key info ++ info ++ [2])
def exp64 (key info : List UInt8) : List UInt8 := exp1 key info ++ exp2 key info
@[go_sem] theorem exp1_len (k i : List UInt8) : (exp1 k i).length = 32 := macB_len _ _
@[go_sem] theorem exp2_len (k i : List UInt8) : (exp2 k i).length = 32 := macB_len _ _
@[go_sem] theorem exp64_len (k i : List UInt8) : (exp64 k i).length = 64 := by simp [exp64, exp1_len, exp2_len]

theorem exp_first (key info : List UInt8) (hk : key.length ≤ 100000) (hi : info.length ≤ 100000) : fn C 119 [] [.slice 1 (key.map byteRow), .slice 1 [[.sc (.slice none 0 0)], [.slice 1 (info.map byteRow)], [.slice 1 [[.int .u8 1]]]]] = some (.slice 1 ((exp1 key info).map byteRow), []) := by
  have h := e119 key [[.sc (.slice none 0 0)], [.slice 1 (info.map byteRow)], [.slice 1 [[.int .u8 1]]]] [[], info, [1]] rfl rfl (by simp only [go_sem]) (by simp) (by omega) (by simp; omega)
  simpa [exp1] using h
theorem exp_second (key info : List UInt8) (hk : key.length ≤ 100000) (hi : info.length ≤ 100000) : fn C 119 [] [.slice 1 (key.map byteRow), .slice 1 [[.slice 1 ((exp1 key info).map byteRow)], [.slice 1 (info.map byteRow)], [.slice 1 [[.int .u8 2]]]]] = some (.slice 1 ((exp2 key info).map byteRow), []) := by
  have h := e119 key [[.slice 1 ((exp1 key info).map byteRow)], [.slice 1 (info.map byteRow)], [.slice 1 [[.int .u8 2]]]] [exp1 key info, info, [2]] rfl rfl (by simp only [go_sem]) (by simp) (by omega) (by simp [exp1_len]; omega)
  simpa [exp2] using h

attribute [local irreducible] exp1 exp2
set_option maxHeartbeats 1000000 in
@[go_sem] theorem eExpand32 (key info : List UInt8) (hk : key.length ≤ 100000) (hi : info.length ≤ 100000) : fn C 93 [] [.slice 1 (key.map byteRow), .slice 1 (info.map byteRow), .int .i64 32] = some (.tup [.slice 1 ((exp1 key info).map byteRow), .int .i64 0], []) := by
  rw [fn_text Tryd.func93 rfl rfl Tryd.results93 locM93 rfl rfl (by kernel_rfl)]
  have h1 := exp_first key info hk hi
  have l1 := exp1_len key info
  simp -implicitDefEqProofs -dsimp +contextual (maxSteps := 5000000) (disch := first | omega | (simp only [go_sem] <;> omega) | (show indepB _ _ = true; refine id ?_; kernel_rfl)) only [go_sem, ↓reduceIte, Nat.reduceEqDiff, Nat.reduceBEq, Nat.reduceAdd, Nat.reduceSub, Nat.reduceLeDiff, Nat.reduceLT, Nat.reduceMul, Int.reduceNeg, Int.reduceLT, Int.reduceLE, Int.reduceAdd, Int.reduceSub, Int.reduceToNat, Int.reduceMul, Int.reduceMod, Int.reduceTMod, Int.reduceTDiv, Int.reduceEq, Nat.reducePow, Nat.reduceDiv, Nat.reduceShiftRight, Nat.reduceMod, List.reduceReplicate, kLoop_eq, h1, l1]

set_option maxHeartbeats 1000000 in
@[go_sem] theorem eExpand64 (key info : List UInt8) (hk : key.length ≤ 100000) (hi : info.length ≤ 100000) : fn C 93 [] [.slice 1 (key.map byteRow), .slice 1 (info.map byteRow), .int .i64 64] = some (.tup [.slice 1 ((exp64 key info).map byteRow), .int .i64 0], []) := by
  rw [fn_text Tryd.func93 rfl rfl Tryd.results93 locM93 rfl rfl (by kernel_rfl)]
  have h1 := exp_first key info hk hi
  have h2 := exp_second key info hk hi
  have l1 := exp1_len key info
  have l2 := exp2_len key info
  simp -implicitDefEqProofs -dsimp +contextual (maxSteps := 5000000) (disch := first | omega | (simp only [go_sem] <;> omega) | (show indepB _ _ = true; refine id ?_; kernel_rfl)) only [go_sem, ↓reduceIte, Nat.reduceEqDiff, Nat.reduceBEq, Nat.reduceAdd, Nat.reduceSub, Nat.reduceLeDiff, Nat.reduceLT, Nat.reduceMul, Int.reduceNeg, Int.reduceLT, Int.reduceLE, Int.reduceAdd, Int.reduceSub, Int.reduceToNat, Int.reduceMul, Int.reduceMod, Int.reduceTMod, Int.reduceTDiv, Int.reduceEq, Nat.reducePow, Nat.reduceDiv, Nat.reduceShiftRight, Nat.reduceMod, List.reduceReplicate, kLoop_eq, h1, h2, l1, l2]
  rfl

set_option maxHeartbeats 1000000 in
@[go_sem] theorem eRExpand32 (key info : List UInt8) (hk : key.length ≤ 100000) (hi : info.length ≤ 100000) : fn C 58 [] [.slice 1 (key.map byteRow), .slice 1 (info.map byteRow), .int .i64 32] = some (.tup [.slice 1 ((exp1 key info).map byteRow), .int .i64 0], []) := by
  rw [fn_text Tryd.func58 rfl rfl Tryd.results58 locM58 rfl rfl (by kernel_rfl)]
  have h1 : fn C 98 [] [.slice 1 (key.map byteRow), .slice 1 (info.map byteRow ++ [[.int .u8 1]])] = some (.slice 1 ((exp1 key info).map byteRow), []) := by
    have h := e98 key (info ++ [1]) (by omega) (by simp; omega)
    simpa [exp1, byteRow] using h
  have l1 := exp1_len key info
  simp -implicitDefEqProofs -dsimp +contextual (maxSteps := 5000000) (disch := first | omega | (simp only [go_sem] <;> omega) | (show indepB _ _ = true; refine id ?_; kernel_rfl)) only [go_sem, ↓reduceIte, Nat.reduceEqDiff, Nat.reduceBEq, Nat.reduceAdd, Nat.reduceSub, Nat.reduceLeDiff, Nat.reduceLT, Nat.reduceMul, Int.reduceNeg, Int.reduceLT, Int.reduceLE, Int.reduceAdd, Int.reduceSub, Int.reduceToNat, Int.reduceMul, Int.reduceMod, Int.reduceTMod, Int.reduceTDiv, Int.reduceEq, Nat.reducePow, Nat.reduceDiv, Nat.reduceShiftRight, Nat.reduceMod, List.reduceReplicate, kLoop_eq, h1, l1]

set_option maxHeartbeats 1000000 in
@[go_sem] theorem eRExpand64 (key info : List UInt8) (hk : key.length ≤ 100000) (hi : info.length ≤ 100000) : fn C 58 [] [.slice 1 (key.map byteRow), .slice 1 (info.map byteRow), .int .i64 64] = some (.tup [.slice 1 ((exp64 key info).map byteRow), .int .i64 0], []) := by
  rw [fn_text Tryd.func58 rfl rfl Tryd.results58 locM58 rfl rfl (by kernel_rfl)]
  have h1 : fn C 98 [] [.slice 1 (key.map byteRow), .slice 1 (info.map byteRow ++ [[.int .u8 1]])] = some (.slice 1 ((exp1 key info).map byteRow), []) := by
    have h := e98 key (info ++ [1]) (by omega) (by simp; omega)
    simpa [exp1, byteRow] using h
  have h2 : fn C 98 [] [.slice 1 (key.map byteRow), .slice 1 ((exp1 key info ++ info).map byteRow ++ [[.int .u8 2]])] = some (.slice 1 ((exp2 key info).map byteRow), []) := by
    have h := e98 key (exp1 key info ++ info ++ [2]) (by omega) (by simp [exp1_len]; omega)
    simpa [exp2, byteRow] using h
  have l1 := exp1_len key info
  have l2 := exp2_len key info
  simp -implicitDefEqProofs -dsimp +contextual (maxSteps := 5000000) (disch := first | omega | (simp only [go_sem] <;> omega) | (show indepB _ _ = true; refine id ?_; kernel_rfl)) only [go_sem, ↓reduceIte, Nat.reduceEqDiff, Nat.reduceBEq, Nat.reduceAdd, Nat.reduceSub, Nat.reduceLeDiff, Nat.reduceLT, Nat.reduceMul, Int.reduceNeg, Int.reduceLT, Int.reduceLE, Int.reduceAdd, Int.reduceSub, Int.reduceToNat, Int.reduceMul, Int.reduceMod, Int.reduceTMod, Int.reduceTDiv, Int.reduceEq, Nat.reducePow, Nat.reduceDiv, Nat.reduceShiftRight, Nat.reduceMod, List.reduceReplicate, kLoop_eq, h1, h2, l1, l2]
  rfl

def extB (salt secret : List UInt8) : List UInt8 := macB salt secret
@[go_sem] theorem extB_len (k i : List UInt8) : (extB k i).length = 32 := macB_len _ _
set_option maxHeartbeats 1000000 in
@[go_sem] theorem e94 (salt secret : List UInt8) (h0 : 1 ≤ salt.length) (hk : salt.length ≤ 100000) (hi : secret.length ≤ 100000) : fn C 94 [] [.slice 1 (salt.map byteRow), .slice 1 (secret.map byteRow)] = some (.slice 1 ((extB salt secret).map byteRow), []) := by
  rw [fn_text Tryd.func94 rfl rfl Tryd.results94 locM94 rfl rfl (by kernel_rfl)]
  simp -implicitDefEqProofs -dsimp +contextual (maxSteps := 5000000) (disch := first | omega | (simp only [go_sem] <;> omega) | (show indepB _ _ = true; refine id ?_; kernel_rfl)) only [go_sem, ↓reduceIte, Nat.reduceEqDiff, Nat.reduceBEq, Nat.reduceAdd, Nat.reduceSub, Nat.reduceLeDiff, Nat.reduceLT, Nat.reduceMul, Int.reduceNeg, Int.reduceLT, Int.reduceLE, Int.reduceAdd, Int.reduceSub, Int.reduceToNat, Int.reduceMul, Int.reduceMod, Int.reduceTMod, Int.reduceTDiv, Int.reduceEq, Nat.reducePow, Nat.reduceDiv, Nat.reduceShiftRight, Nat.reduceMod, List.reduceReplicate, show ¬ salt.length = 0 by omega]
  rfl
set_option maxHeartbeats 1000000 in
@[go_sem] theorem e59 (salt secret : List UInt8) (h0 : 1 ≤ salt.length) (hk : salt.length ≤ 100000) (hi : secret.length ≤ 100000) : fn C 59 [] [.slice 1 (salt.map byteRow), .slice 1 (secret.map byteRow)] = some (.slice 1 ((extB salt secret).map byteRow), []) := by
  rw [fn_text Tryd.func59 rfl rfl Tryd.results59 locM59 rfl rfl (by kernel_rfl)]
  simp -implicitDefEqProofs -dsimp +contextual (maxSteps := 5000000) (disch := first | omega | (simp only [go_sem] <;> omega) | (show indepB _ _ = true; refine id ?_; kernel_rfl)) only [go_sem, ↓reduceIte, Nat.reduceEqDiff, Nat.reduceBEq, Nat.reduceAdd, Nat.reduceSub, Nat.reduceLeDiff, Nat.reduceLT, Nat.reduceMul, Int.reduceNeg, Int.reduceLT, Int.reduceLE, Int.reduceAdd, Int.reduceSub, Int.reduceToNat, Int.reduceMul, Int.reduceMod, Int.reduceTMod, Int.reduceTDiv, Int.reduceEq, Nat.reducePow, Nat.reduceDiv, Nat.reduceShiftRight, Nat.reduceMod, List.reduceReplicate, show ¬ salt.length = 0 by omega]
  rfl

set_option maxHeartbeats 1000000 in
@[go_sem] theorem e53 (salt secret info : List UInt8) (h0 : 1 ≤ salt.length) (hk : salt.length ≤ 100000) (hs : secret.length ≤ 100000) (hi : info.length ≤ 100000) : fn C 53 [] [.slice 1 (salt.map byteRow), .slice 1 (secret.map byteRow), .slice 1 (info.map byteRow), .int .i64 64] = some (.tup [.slice 1 ((exp64 (extB salt secret) info).map byteRow), .int .i64 0], []) := by
  rw [fn_text Tryd.func53 rfl rfl Tryd.results53 locM53 rfl rfl (by kernel_rfl)]
  simp -implicitDefEqProofs -dsimp +contextual (maxSteps := 5000000) (disch := first | omega | (simp only [go_sem] <;> omega) | (show indepB _ _ = true; refine id ?_; kernel_rfl)) only [go_sem, ↓reduceIte, Nat.reduceEqDiff, Nat.reduceBEq, Nat.reduceAdd, Nat.reduceSub, Nat.reduceLeDiff, Nat.reduceLT, Nat.reduceMul, Int.reduceNeg, Int.reduceLT, Int.reduceLE, Int.reduceAdd, Int.reduceSub, Int.reduceToNat, Int.reduceMul, Int.reduceMod, Int.reduceTMod, Int.reduceTDiv, Int.reduceEq, Nat.reducePow, Nat.reduceDiv, Nat.reduceShiftRight, Nat.reduceMod, List.reduceReplicate]

def titleC : List UInt8 := [99, 97, 114, 99, 97, 110, 101, 116, 32]
@[go_sem] theorem titleC_len : titleC.length = 9 := rfl
theorem titleC_fold : ([99, 97, 114, 99, 97, 110, 101, 116, 32] : List UInt8) = titleC := rfl
def namedB (key name : List UInt8) : List UInt8 := exp1 key (titleC ++ name)
@[go_sem] theorem namedB_len (k i : List UInt8) : (namedB k i).length = 32 := exp1_len _ _
set_option maxHeartbeats 1000000 in
@[go_sem] theorem e60 (key name : List UInt8) (hk : key.length ≤ 10000) (hi : name.length ≤ 10000) : fn C 60 [] [.slice 1 (key.map byteRow), .str name] = some (.slice 1 ((namedB key name).map byteRow), []) := by
  rw [fn_text Tryd.func60 rfl rfl Tryd.results60 locM60 rfl rfl (by kernel_rfl)]
  simp -implicitDefEqProofs -dsimp +contextual (maxSteps := 5000000) (disch := first | omega | (simp only [go_sem] <;> omega) | (show indepB _ _ = true; refine id ?_; kernel_rfl)) only [go_sem, ↓reduceIte, Nat.reduceEqDiff, Nat.reduceBEq, Nat.reduceAdd, Nat.reduceSub, Nat.reduceLeDiff, Nat.reduceLT, Nat.reduceMul, Int.reduceNeg, Int.reduceLT, Int.reduceLE, Int.reduceAdd, Int.reduceSub, Int.reduceToNat, Int.reduceMul, Int.reduceMod, Int.reduceTMod, Int.reduceTDiv, Int.reduceEq, Nat.reducePow, Nat.reduceDiv, Nat.reduceShiftRight, Nat.reduceMod, List.reduceReplicate, titleC_fold]
  rfl
set_option maxHeartbeats 1000000 in
@[go_sem] theorem e62 (key name : List UInt8) (hk : key.length ≤ 10000) (hi : name.length ≤ 10000) : fn C 62 [] [.slice 1 (key.map byteRow), .str name] = some (.slice 1 ((namedB key name).map byteRow), []) := by
  rw [fn_text Tryd.func62 rfl rfl Tryd.results62 locM62 rfl rfl (by kernel_rfl)]
  simp -implicitDefEqProofs -dsimp +contextual (maxSteps := 5000000) (disch := first | omega | (simp only [go_sem] <;> omega) | (show indepB _ _ = true; refine id ?_; kernel_rfl)) only [go_sem, ↓reduceIte, Nat.reduceEqDiff, Nat.reduceBEq, Nat.reduceAdd, Nat.reduceSub, Nat.reduceLeDiff, Nat.reduceLT, Nat.reduceMul, Int.reduceNeg, Int.reduceLT, Int.reduceLE, Int.reduceAdd, Int.reduceSub, Int.reduceToNat, Int.reduceMul, Int.reduceMod, Int.reduceTMod, Int.reduceTDiv, Int.reduceEq, Nat.reducePow, Nat.reduceDiv, Nat.reduceShiftRight, Nat.reduceMod, List.reduceReplicate, titleC_fold]
  rfl

end Go.Proofs.YtccfjidpdlfenaaDoor
