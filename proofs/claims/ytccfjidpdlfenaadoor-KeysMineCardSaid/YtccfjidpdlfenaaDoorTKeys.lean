import Derived.Test.YtccfjidpdlfenaaDoorTEntry
namespace Go.Proofs.YtccfjidpdlfenaaDoor
open Go.Am
set_option linter.unusedSimpArgs false
set_option linter.unusedVariables false
set_option maxRecDepth 100000
/-! Layer 18: keys of sessions. -/
def titleS : List UInt8 := [99, 97, 114, 99, 97, 110, 101, 116, 32, 115, 101, 115, 115, 105, 111, 110]
@[go_sem] theorem titleS_len : titleS.length = 16 := rfl
def infoB (a b : En) : List UInt8 := titleS ++ textB (entB a) ++ textB (entB b)
def saltB (m n : Nat) : List UInt8 := beN 8 m ++ beN 8 n
def rootsB (psk : List UInt8) (m n : Nat) (a b : En) : List UInt8 := exp64 (extB (saltB m n) psk) (infoB a b)
@[go_sem] theorem rootsB_len (psk : List UInt8) (m n : Nat) (a b : En) : (rootsB psk m n a b).length = 64 := exp64_len _ _
@[go_sem] theorem infoB_len (a b : En) : (infoB a b).length = a.name.length + a.tag.length + (b.name.length + b.tag.length) + 60 := by simp [infoB, textB_len, entB_len, titleS_len]; omega
@[go_sem] theorem saltB_len (m n : Nat) : (saltB m n).length = 16 := by simp [saltB, beN_len]
theorem titleS_rows : [[AVal.int .u8 99], [AVal.int .u8 97], [AVal.int .u8 114], [AVal.int .u8 99], [AVal.int .u8 97], [AVal.int .u8 110], [AVal.int .u8 101], [AVal.int .u8 116], [AVal.int .u8 32], [AVal.int .u8 115], [AVal.int .u8 101], [AVal.int .u8 115], [AVal.int .u8 115], [AVal.int .u8 105], [AVal.int .u8 111], [AVal.int .u8 110]] = titleS.map byteRow := rfl

open Lib in
def epochB (root : List UInt8) (n : Int) : List UInt8 := namedB root ([101, 112, 111, 99, 104, 32] ++ itoa n)
@[go_sem] theorem epochB_len (root : List UInt8) (n : Int) : (epochB root n).length = 32 := namedB_len _ _

set_option maxHeartbeats 2000000 in
@[go_sem] theorem e54 (a b : En) (ha : a.ok) (hb : b.ok) (h1 : a.name.length ≤ 10000) (h2 : a.tag.length ≤ 10000) (h3 : b.name.length ≤ 10000) (h4 : b.tag.length ≤ 10000) : fn C 54 [] [.slice 6 [[.str a.name, .int .u64 (a.id : Int), .int .i64 a.fr, .int .i64 a.un, .int .i64 a.ix, .str a.tag], [.str b.name, .int .u64 (b.id : Int), .int .i64 b.fr, .int .i64 b.un, .int .i64 b.ix, .str b.tag]]] = some (.slice 1 ((infoB a b).map byteRow), []) := by
  rw [fn_text Tryd.func54 rfl rfl Tryd.results54 locM54 rfl rfl (by kernel_rfl)]
  have e1 := e96 a ha (by omega) (by omega)
  have e2 := e96 b hb (by omega) (by omega)
  simp -implicitDefEqProofs -dsimp +contextual (maxSteps := 5000000) (disch := first | omega | (simp only [go_sem] <;> omega) | (show indepB _ _ = true; refine id ?_; kernel_rfl)) only [go_sem, ↓reduceIte, Nat.reduceEqDiff, Nat.reduceBEq, Nat.reduceAdd, Nat.reduceSub, Nat.reduceLeDiff, Nat.reduceLT, Nat.reduceMul, Int.reduceNeg, Int.reduceLT, Int.reduceLE, Int.reduceAdd, Int.reduceSub, Int.reduceToNat, Int.reduceMul, Int.reduceMod, Int.reduceTMod, Int.reduceTDiv, Int.reduceEq, Nat.reducePow, Nat.reduceDiv, Nat.reduceShiftRight, Nat.reduceMod, List.reduceReplicate, kLoop_eq, e1, e2, titleS_rows]
  rfl

set_option maxHeartbeats 2000000 in
@[go_sem] theorem e18 (psk : List UInt8) (m n : Nat) (a b : En) (hp : psk.length ≤ 100000) (hm : m ≤ 18446744073709551615) (hn : n ≤ 18446744073709551615) (ha : a.ok) (hb : b.ok) (h1 : a.name.length ≤ 10000) (h2 : a.tag.length ≤ 10000) (h3 : b.name.length ≤ 10000) (h4 : b.tag.length ≤ 10000) : fn C 18 [] [.str psk, .int .u64 (m : Int), .int .u64 (n : Int), .agg [.str a.name, .int .u64 (a.id : Int), .int .i64 a.fr, .int .i64 a.un, .int .i64 a.ix, .str a.tag], .agg [.str b.name, .int .u64 (b.id : Int), .int .i64 b.fr, .int .i64 b.un, .int .i64 b.ix, .str b.tag]] = some (.tup [.str ((rootsB psk m n a b).take 32), .str ((rootsB psk m n a b).drop 32)], []) := by
  rw [fn_text Tryd.func18 rfl rfl Tryd.results18 locM18 rfl rfl (by kernel_rfl)]
  have e1 := e54 a b ha hb h1 h2 h3 h4
  have e2 := e53 (saltB m n) psk (infoB a b) (by rw [saltB_len]; decide) (by rw [saltB_len]; decide) hp (by rw [infoB_len]; omega)
  rw [← rootsB, saltB] at e2
  have hl := rootsB_len psk m n a b
  simp -implicitDefEqProofs -dsimp +contextual (maxSteps := 5000000) (disch := first | omega | (simp only [go_sem] <;> omega) | (show indepB _ _ = true; refine id ?_; kernel_rfl)) only [go_sem, ↓reduceIte, Nat.reduceEqDiff, Nat.reduceBEq, Nat.reduceAdd, Nat.reduceSub, Nat.reduceLeDiff, Nat.reduceLT, Nat.reduceMul, Int.reduceNeg, Int.reduceLT, Int.reduceLE, Int.reduceAdd, Int.reduceSub, Int.reduceToNat, Int.reduceMul, Int.reduceMod, Int.reduceTMod, Int.reduceTDiv, Int.reduceEq, Nat.reducePow, Nat.reduceDiv, Nat.reduceShiftRight, Nat.reduceMod, List.reduceReplicate, e1, e2, hl]

set_option maxHeartbeats 2000000 in
@[go_sem] theorem e20 (root : List UInt8) (n : Int) (hr : root.length ≤ 10000) (h1 : -9223372036854775808 ≤ n) (h2 : n ≤ 9223372036854775807) : fn C 20 [] [.str root, .int .i64 n] = some (.str (epochB root n), []) := by
  rw [fn_text Tryd.func20 rfl rfl Tryd.results20 locM20 rfl rfl (by kernel_rfl)]
  have hl := Lib.itoa_length_le n h1 h2
  simp -implicitDefEqProofs -dsimp +contextual (maxSteps := 5000000) (disch := first | omega | (simp only [go_sem] <;> omega) | (show indepB _ _ = true; refine id ?_; kernel_rfl)) only [go_sem, ↓reduceIte, Nat.reduceEqDiff, Nat.reduceBEq, Nat.reduceAdd, Nat.reduceSub, Nat.reduceLeDiff, Nat.reduceLT, Nat.reduceMul, Int.reduceNeg, Int.reduceLT, Int.reduceLE, Int.reduceAdd, Int.reduceSub, Int.reduceToNat, Int.reduceMul, Int.reduceMod, Int.reduceTMod, Int.reduceTDiv, Int.reduceEq, Nat.reducePow, Nat.reduceDiv, Nat.reduceShiftRight, Nat.reduceMod, List.reduceReplicate]
  rfl

@[go_sem] theorem e22 (r : Int) (x y : List UInt8) : fn C 22 [] [.int .i64 r, .str x, .str y] = some (if r = 1 then .tup [.str x, .str y] else if r = 2 then .tup [.str y, .str x] else .tup [.str [], .str []], []) := by
  rw [fn_text Tryd.func22 rfl rfl Tryd.results22 locM22 rfl rfl (by kernel_rfl)]
  by_cases h1 : r = 1
  · simp -implicitDefEqProofs -dsimp +contextual (maxSteps := 5000000) (disch := first | omega | (simp only [go_sem] <;> omega) | (show indepB _ _ = true; refine id ?_; kernel_rfl)) only [go_sem, ↓reduceIte, Nat.reduceEqDiff, Nat.reduceBEq, Nat.reduceAdd, Nat.reduceSub, Nat.reduceLeDiff, Nat.reduceLT, Nat.reduceMul, Int.reduceNeg, Int.reduceLT, Int.reduceLE, Int.reduceAdd, Int.reduceSub, Int.reduceToNat, Int.reduceMul, Int.reduceMod, Int.reduceTMod, Int.reduceTDiv, Int.reduceEq, Nat.reducePow, Nat.reduceDiv, Nat.reduceShiftRight, Nat.reduceMod, List.reduceReplicate, h1]
  · by_cases h2 : r = 2
    · simp -implicitDefEqProofs -dsimp +contextual (maxSteps := 5000000) (disch := first | omega | (simp only [go_sem] <;> omega) | (show indepB _ _ = true; refine id ?_; kernel_rfl)) only [go_sem, ↓reduceIte, Nat.reduceEqDiff, Nat.reduceBEq, Nat.reduceAdd, Nat.reduceSub, Nat.reduceLeDiff, Nat.reduceLT, Nat.reduceMul, Int.reduceNeg, Int.reduceLT, Int.reduceLE, Int.reduceAdd, Int.reduceSub, Int.reduceToNat, Int.reduceMul, Int.reduceMod, Int.reduceTMod, Int.reduceTDiv, Int.reduceEq, Nat.reducePow, Nat.reduceDiv, Nat.reduceShiftRight, Nat.reduceMod, List.reduceReplicate, h1, h2]
    · simp -implicitDefEqProofs -dsimp +contextual (maxSteps := 5000000) (disch := first | omega | (simp only [go_sem] <;> omega) | (show indepB _ _ = true; refine id ?_; kernel_rfl)) only [go_sem, ↓reduceIte, Nat.reduceEqDiff, Nat.reduceBEq, Nat.reduceAdd, Nat.reduceSub, Nat.reduceLeDiff, Nat.reduceLT, Nat.reduceMul, Int.reduceNeg, Int.reduceLT, Int.reduceLE, Int.reduceAdd, Int.reduceSub, Int.reduceToNat, Int.reduceMul, Int.reduceMod, Int.reduceTMod, Int.reduceTDiv, Int.reduceEq, Nat.reducePow, Nat.reduceDiv, Nat.reduceShiftRight, Nat.reduceMod, List.reduceReplicate, h1, h2]

set_option maxHeartbeats 2000000 in
@[go_sem] theorem e19 (psk : List UInt8) (m n : Nat) (a b : En) (hp : psk.length ≤ 100000) (hm : m ≤ 18446744073709551615) (hn : n ≤ 18446744073709551615) (ha : a.ok) (hb : b.ok) (h1 : a.name.length ≤ 10000) (h2 : a.tag.length ≤ 10000) (h3 : b.name.length ≤ 10000) (h4 : b.tag.length ≤ 10000) : fn C 19 [] [.str psk, .int .u64 (m : Int), .int .u64 (n : Int), .agg [.str a.name, .int .u64 (a.id : Int), .int .i64 a.fr, .int .i64 a.un, .int .i64 a.ix, .str a.tag], .agg [.str b.name, .int .u64 (b.id : Int), .int .i64 b.fr, .int .i64 b.un, .int .i64 b.ix, .str b.tag]] = some (.tup [.str ((rootsB psk m n a b).take 32), .str ((rootsB psk m n a b).drop 32)], []) := by
  rw [fn_text Tryd.func19 rfl rfl Tryd.results19 locM19 rfl rfl (by kernel_rfl)]
  have e3 := e57 a ha (by omega) (by omega)
  have e4 := e57 b hb (by omega) (by omega)
  have e2 := e59 (saltB m n) psk (by rw [saltB_len]; decide) (by rw [saltB_len]; decide) hp
  have e5 := eRExpand64 (extB (saltB m n) psk) (infoB a b) (by rw [extB_len]; decide) (by rw [infoB_len]; omega)
  rw [← rootsB] at e5
  rw [saltB] at e2 e5
  rw [infoB] at e5
  have hl := rootsB_len psk m n a b
  simp -implicitDefEqProofs -dsimp +contextual (maxSteps := 5000000) (disch := first | omega | (simp only [go_sem] <;> omega) | (show indepB _ _ = true; refine id ?_; kernel_rfl)) only [go_sem, ↓reduceIte, Nat.reduceEqDiff, Nat.reduceBEq, Nat.reduceAdd, Nat.reduceSub, Nat.reduceLeDiff, Nat.reduceLT, Nat.reduceMul, Int.reduceNeg, Int.reduceLT, Int.reduceLE, Int.reduceAdd, Int.reduceSub, Int.reduceToNat, Int.reduceMul, Int.reduceMod, Int.reduceTMod, Int.reduceTDiv, Int.reduceEq, Nat.reducePow, Nat.reduceDiv, Nat.reduceShiftRight, Nat.reduceMod, List.reduceReplicate, e2, e3, e4, e5, hl, titleS_rows]

set_option maxHeartbeats 2000000 in
@[go_sem] theorem e21 (root : List UInt8) (n : Int) (hr : root.length ≤ 10000) (h1 : -9223372036854775808 ≤ n) (h2 : n ≤ 9223372036854775807) : fn C 21 [] [.str root, .int .i64 n] = some (.str (epochB root n), []) := by
  rw [fn_text Tryd.func21 rfl rfl Tryd.results21 locM21 rfl rfl (by kernel_rfl)]
  have hl := Lib.itoa_length_le n h1 h2
  simp -implicitDefEqProofs -dsimp +contextual (maxSteps := 5000000) (disch := first | omega | (simp only [go_sem] <;> omega) | (show indepB _ _ = true; refine id ?_; kernel_rfl)) only [go_sem, ↓reduceIte, Nat.reduceEqDiff, Nat.reduceBEq, Nat.reduceAdd, Nat.reduceSub, Nat.reduceLeDiff, Nat.reduceLT, Nat.reduceMul, Int.reduceNeg, Int.reduceLT, Int.reduceLE, Int.reduceAdd, Int.reduceSub, Int.reduceToNat, Int.reduceMul, Int.reduceMod, Int.reduceTMod, Int.reduceTDiv, Int.reduceEq, Nat.reducePow, Nat.reduceDiv, Nat.reduceShiftRight, Nat.reduceMod, List.reduceReplicate]
  rfl

@[go_sem] theorem e23 (r : Int) (x y : List UInt8) : fn C 23 [] [.int .i64 r, .str x, .str y] = some (if r = 1 then .tup [.str x, .str y] else if r = 2 then .tup [.str y, .str x] else .tup [.str [], .str []], []) := by
  rw [fn_text Tryd.func23 rfl rfl Tryd.results23 locM23 rfl rfl (by kernel_rfl)]
  by_cases h1 : r = 1
  · simp -implicitDefEqProofs -dsimp +contextual (maxSteps := 5000000) (disch := first | omega | (simp only [go_sem] <;> omega) | (show indepB _ _ = true; refine id ?_; kernel_rfl)) only [go_sem, ↓reduceIte, Nat.reduceEqDiff, Nat.reduceBEq, Nat.reduceAdd, Nat.reduceSub, Nat.reduceLeDiff, Nat.reduceLT, Nat.reduceMul, Int.reduceNeg, Int.reduceLT, Int.reduceLE, Int.reduceAdd, Int.reduceSub, Int.reduceToNat, Int.reduceMul, Int.reduceMod, Int.reduceTMod, Int.reduceTDiv, Int.reduceEq, Nat.reducePow, Nat.reduceDiv, Nat.reduceShiftRight, Nat.reduceMod, List.reduceReplicate, h1]
  · by_cases h2 : r = 2
    · simp -implicitDefEqProofs -dsimp +contextual (maxSteps := 5000000) (disch := first | omega | (simp only [go_sem] <;> omega) | (show indepB _ _ = true; refine id ?_; kernel_rfl)) only [go_sem, ↓reduceIte, Nat.reduceEqDiff, Nat.reduceBEq, Nat.reduceAdd, Nat.reduceSub, Nat.reduceLeDiff, Nat.reduceLT, Nat.reduceMul, Int.reduceNeg, Int.reduceLT, Int.reduceLE, Int.reduceAdd, Int.reduceSub, Int.reduceToNat, Int.reduceMul, Int.reduceMod, Int.reduceTMod, Int.reduceTDiv, Int.reduceEq, Nat.reducePow, Nat.reduceDiv, Nat.reduceShiftRight, Nat.reduceMod, List.reduceReplicate, h1, h2]
    · simp -implicitDefEqProofs -dsimp +contextual (maxSteps := 5000000) (disch := first | omega | (simp only [go_sem] <;> omega) | (show indepB _ _ = true; refine id ?_; kernel_rfl)) only [go_sem, ↓reduceIte, Nat.reduceEqDiff, Nat.reduceBEq, Nat.reduceAdd, Nat.reduceSub, Nat.reduceLeDiff, Nat.reduceLT, Nat.reduceMul, Int.reduceNeg, Int.reduceLT, Int.reduceLE, Int.reduceAdd, Int.reduceSub, Int.reduceToNat, Int.reduceMul, Int.reduceMod, Int.reduceTMod, Int.reduceTDiv, Int.reduceEq, Nat.reducePow, Nat.reduceDiv, Nat.reduceShiftRight, Nat.reduceMod, List.reduceReplicate, h1, h2]

@[go_sem] theorem e16 (e : En) (hn : e.name.length ≤ 9223372036854775807) (ht : e.tag.length ≤ 9223372036854775807) : fn C 16 [] [.agg [.str e.name, .int .u64 (e.id : Int), .int .i64 e.fr, .int .i64 e.un, .int .i64 e.ix, .str e.tag]] = some (.bool (decide (1000 < e.name.length) || decide (1000 < e.tag.length)), []) := by
  rw [fn_text Tryd.func16 rfl rfl Tryd.results16 locM16 rfl rfl (by kernel_rfl)]
  by_cases h1 : 1000 < e.name.length
  · simp -implicitDefEqProofs -dsimp +contextual (maxSteps := 5000000) (disch := first | omega | (simp only [go_sem] <;> omega) | (show indepB _ _ = true; refine id ?_; kernel_rfl)) only [go_sem, ↓reduceIte, Nat.reduceEqDiff, Nat.reduceBEq, Nat.reduceAdd, Nat.reduceSub, Nat.reduceLeDiff, Nat.reduceLT, Nat.reduceMul, Int.reduceNeg, Int.reduceLT, Int.reduceLE, Int.reduceAdd, Int.reduceSub, Int.reduceToNat, Int.reduceMul, Int.reduceMod, Int.reduceTMod, Int.reduceTDiv, Int.reduceEq, Nat.reducePow, Nat.reduceDiv, Nat.reduceShiftRight, Nat.reduceMod, List.reduceReplicate, h1]
  · by_cases h2 : 1000 < e.tag.length
    · simp -implicitDefEqProofs -dsimp +contextual (maxSteps := 5000000) (disch := first | omega | (simp only [go_sem] <;> omega) | (show indepB _ _ = true; refine id ?_; kernel_rfl)) only [go_sem, ↓reduceIte, Nat.reduceEqDiff, Nat.reduceBEq, Nat.reduceAdd, Nat.reduceSub, Nat.reduceLeDiff, Nat.reduceLT, Nat.reduceMul, Int.reduceNeg, Int.reduceLT, Int.reduceLE, Int.reduceAdd, Int.reduceSub, Int.reduceToNat, Int.reduceMul, Int.reduceMod, Int.reduceTMod, Int.reduceTDiv, Int.reduceEq, Nat.reducePow, Nat.reduceDiv, Nat.reduceShiftRight, Nat.reduceMod, List.reduceReplicate, h1, h2]
    · simp -implicitDefEqProofs -dsimp +contextual (maxSteps := 5000000) (disch := first | omega | (simp only [go_sem] <;> omega) | (show indepB _ _ = true; refine id ?_; kernel_rfl)) only [go_sem, ↓reduceIte, Nat.reduceEqDiff, Nat.reduceBEq, Nat.reduceAdd, Nat.reduceSub, Nat.reduceLeDiff, Nat.reduceLT, Nat.reduceMul, Int.reduceNeg, Int.reduceLT, Int.reduceLE, Int.reduceAdd, Int.reduceSub, Int.reduceToNat, Int.reduceMul, Int.reduceMod, Int.reduceTMod, Int.reduceTDiv, Int.reduceEq, Nat.reducePow, Nat.reduceDiv, Nat.reduceShiftRight, Nat.reduceMod, List.reduceReplicate, h1, h2]

set_option maxHeartbeats 2000000 in
@[go_sem] theorem e17 : fn C 17 [] [] = some (.bool true, []) := by
  rw [fn_text Tryd.func17 rfl rfl Tryd.results17 locM17 rfl rfl (by kernel_rfl)]
  have h := e20 [114, 111, 111, 116] 0 (by decide) (by decide) (by decide)
  have hl := epochB_len [114, 111, 111, 116] 0
  simp -implicitDefEqProofs -dsimp +contextual (maxSteps := 5000000) (disch := first | omega | (simp only [go_sem] <;> omega) | (show indepB _ _ = true; refine id ?_; kernel_rfl)) only [go_sem, ↓reduceIte, Nat.reduceEqDiff, Nat.reduceBEq, Nat.reduceAdd, Nat.reduceSub, Nat.reduceLeDiff, Nat.reduceLT, Nat.reduceMul, Int.reduceNeg, Int.reduceLT, Int.reduceLE, Int.reduceAdd, Int.reduceSub, Int.reduceToNat, Int.reduceMul, Int.reduceMod, Int.reduceTMod, Int.reduceTDiv, Int.reduceEq, Nat.reducePow, Nat.reduceDiv, Nat.reduceShiftRight, Nat.reduceMod, List.reduceReplicate, h, hl]

set_option maxHeartbeats 2000000 in
@[go_sem] theorem e4 (psk : List UInt8) (m n : Nat) (a b : En) (k : Int) (hm : m ≤ 18446744073709551615) (hn : n ≤ 18446744073709551615) (ha : a.ok) (hb : b.ok) (hk1 : -9223372036854775808 ≤ k) (hk2 : k ≤ 9223372036854775807) (hp : psk.length ≤ 9223372036854775807) (h1 : a.name.length ≤ 9223372036854775807) (h2 : a.tag.length ≤ 9223372036854775807) (h3 : b.name.length ≤ 9223372036854775807) (h4 : b.tag.length ≤ 9223372036854775807) : fn C 4 [] [.str psk, .int .u64 (m : Int), .int .u64 (n : Int), .agg [.str a.name, .int .u64 (a.id : Int), .int .i64 a.fr, .int .i64 a.un, .int .i64 a.ix, .str a.tag], .agg [.str b.name, .int .u64 (b.id : Int), .int .i64 b.fr, .int .i64 b.un, .int .i64 b.ix, .str b.tag], .int .i64 k] = some (.bool true, []) := by
  rw [fn_text Tryd.func4 rfl rfl Tryd.results4 locM4 rfl rfl (by kernel_rfl)]
  have e1 := e16 a h1 h2
  have e2 := e16 b h3 h4
  by_cases g1 : 300 < psk.length
  · simp -implicitDefEqProofs -dsimp +contextual (maxSteps := 5000000) (disch := first | omega | (simp only [go_sem] <;> omega) | (show indepB _ _ = true; refine id ?_; kernel_rfl)) only [go_sem, ↓reduceIte, Nat.reduceEqDiff, Nat.reduceBEq, Nat.reduceAdd, Nat.reduceSub, Nat.reduceLeDiff, Nat.reduceLT, Nat.reduceMul, Int.reduceNeg, Int.reduceLT, Int.reduceLE, Int.reduceAdd, Int.reduceSub, Int.reduceToNat, Int.reduceMul, Int.reduceMod, Int.reduceTMod, Int.reduceTDiv, Int.reduceEq, Nat.reducePow, Nat.reduceDiv, Nat.reduceShiftRight, Nat.reduceMod, List.reduceReplicate, g1]
  by_cases g2 : 1000 < a.name.length
  · simp only [g2, decide_true, Bool.true_or] at e1; simp -implicitDefEqProofs -dsimp +contextual (maxSteps := 5000000) (disch := first | omega | (simp only [go_sem] <;> omega) | (show indepB _ _ = true; refine id ?_; kernel_rfl)) only [go_sem, ↓reduceIte, Nat.reduceEqDiff, Nat.reduceBEq, Nat.reduceAdd, Nat.reduceSub, Nat.reduceLeDiff, Nat.reduceLT, Nat.reduceMul, Int.reduceNeg, Int.reduceLT, Int.reduceLE, Int.reduceAdd, Int.reduceSub, Int.reduceToNat, Int.reduceMul, Int.reduceMod, Int.reduceTMod, Int.reduceTDiv, Int.reduceEq, Nat.reducePow, Nat.reduceDiv, Nat.reduceShiftRight, Nat.reduceMod, List.reduceReplicate, g1, e1]
  by_cases g3 : 1000 < a.tag.length
  · simp only [g3, decide_true, Bool.or_true] at e1; simp -implicitDefEqProofs -dsimp +contextual (maxSteps := 5000000) (disch := first | omega | (simp only [go_sem] <;> omega) | (show indepB _ _ = true; refine id ?_; kernel_rfl)) only [go_sem, ↓reduceIte, Nat.reduceEqDiff, Nat.reduceBEq, Nat.reduceAdd, Nat.reduceSub, Nat.reduceLeDiff, Nat.reduceLT, Nat.reduceMul, Int.reduceNeg, Int.reduceLT, Int.reduceLE, Int.reduceAdd, Int.reduceSub, Int.reduceToNat, Int.reduceMul, Int.reduceMod, Int.reduceTMod, Int.reduceTDiv, Int.reduceEq, Nat.reducePow, Nat.reduceDiv, Nat.reduceShiftRight, Nat.reduceMod, List.reduceReplicate, g1, e1]
  simp only [g2, g3, decide_false, Bool.or_false] at e1
  by_cases g4 : 1000 < b.name.length
  · simp only [g4, decide_true, Bool.true_or] at e2; simp -implicitDefEqProofs -dsimp +contextual (maxSteps := 5000000) (disch := first | omega | (simp only [go_sem] <;> omega) | (show indepB _ _ = true; refine id ?_; kernel_rfl)) only [go_sem, ↓reduceIte, Nat.reduceEqDiff, Nat.reduceBEq, Nat.reduceAdd, Nat.reduceSub, Nat.reduceLeDiff, Nat.reduceLT, Nat.reduceMul, Int.reduceNeg, Int.reduceLT, Int.reduceLE, Int.reduceAdd, Int.reduceSub, Int.reduceToNat, Int.reduceMul, Int.reduceMod, Int.reduceTMod, Int.reduceTDiv, Int.reduceEq, Nat.reducePow, Nat.reduceDiv, Nat.reduceShiftRight, Nat.reduceMod, List.reduceReplicate, g1, e1, e2]
  by_cases g5 : 1000 < b.tag.length
  · simp only [g5, decide_true, Bool.or_true] at e2; simp -implicitDefEqProofs -dsimp +contextual (maxSteps := 5000000) (disch := first | omega | (simp only [go_sem] <;> omega) | (show indepB _ _ = true; refine id ?_; kernel_rfl)) only [go_sem, ↓reduceIte, Nat.reduceEqDiff, Nat.reduceBEq, Nat.reduceAdd, Nat.reduceSub, Nat.reduceLeDiff, Nat.reduceLT, Nat.reduceMul, Int.reduceNeg, Int.reduceLT, Int.reduceLE, Int.reduceAdd, Int.reduceSub, Int.reduceToNat, Int.reduceMul, Int.reduceMod, Int.reduceTMod, Int.reduceTDiv, Int.reduceEq, Nat.reducePow, Nat.reduceDiv, Nat.reduceShiftRight, Nat.reduceMod, List.reduceReplicate, g1, e1, e2]
  simp only [g4, g5, decide_false, Bool.or_false] at e2
  have r1 := e18 psk m n a b (by omega) hm hn ha hb (by omega) (by omega) (by omega) (by omega)
  have r2 := e19 psk m n a b (by omega) hm hn ha hb (by omega) (by omega) (by omega) (by omega)
  have r3 := e20 psk k (by omega) hk1 hk2
  have r4 := e21 psk k (by omega) hk1 hk2
  simp -implicitDefEqProofs -dsimp +contextual (maxSteps := 5000000) (disch := first | omega | (simp only [go_sem] <;> omega) | (show indepB _ _ = true; refine id ?_; kernel_rfl)) only [go_sem, ↓reduceIte, Nat.reduceEqDiff, Nat.reduceBEq, Nat.reduceAdd, Nat.reduceSub, Nat.reduceLeDiff, Nat.reduceLT, Nat.reduceMul, Int.reduceNeg, Int.reduceLT, Int.reduceLE, Int.reduceAdd, Int.reduceSub, Int.reduceToNat, Int.reduceMul, Int.reduceMod, Int.reduceTMod, Int.reduceTDiv, Int.reduceEq, Nat.reducePow, Nat.reduceDiv, Nat.reduceShiftRight, Nat.reduceMod, List.reduceReplicate, g1, e1, e2, r1, r2, r3, r4]

set_option maxHeartbeats 2000000 in
@[go_sem] theorem e5 (psk : List UInt8) (m n : Nat) (a b : En) (k : Int) (hm : m ≤ 18446744073709551615) (hn : n ≤ 18446744073709551615) (ha : a.ok) (hb : b.ok) (hk1 : -9223372036854775808 ≤ k) (hk2 : k ≤ 9223372036854775807) (hp : psk.length ≤ 9223372036854775807) (h1 : a.name.length ≤ 9223372036854775807) (h2 : a.tag.length ≤ 9223372036854775807) (h3 : b.name.length ≤ 9223372036854775807) (h4 : b.tag.length ≤ 9223372036854775807) : fn C 5 [] [.str psk, .int .u64 (m : Int), .int .u64 (n : Int), .agg [.str a.name, .int .u64 (a.id : Int), .int .i64 a.fr, .int .i64 a.un, .int .i64 a.ix, .str a.tag], .agg [.str b.name, .int .u64 (b.id : Int), .int .i64 b.fr, .int .i64 b.un, .int .i64 b.ix, .str b.tag], .int .i64 k] = some (.bool true, []) := by
  rw [fn_text Tryd.func5 rfl rfl Tryd.results5 locM5 rfl rfl (by kernel_rfl)]
  have e1 := e16 a h1 h2
  have e2 := e16 b h3 h4
  by_cases g1 : 300 < psk.length
  · simp -implicitDefEqProofs -dsimp +contextual (maxSteps := 5000000) (disch := first | omega | (simp only [go_sem] <;> omega) | (show indepB _ _ = true; refine id ?_; kernel_rfl)) only [go_sem, ↓reduceIte, Nat.reduceEqDiff, Nat.reduceBEq, Nat.reduceAdd, Nat.reduceSub, Nat.reduceLeDiff, Nat.reduceLT, Nat.reduceMul, Int.reduceNeg, Int.reduceLT, Int.reduceLE, Int.reduceAdd, Int.reduceSub, Int.reduceToNat, Int.reduceMul, Int.reduceMod, Int.reduceTMod, Int.reduceTDiv, Int.reduceEq, Nat.reducePow, Nat.reduceDiv, Nat.reduceShiftRight, Nat.reduceMod, List.reduceReplicate, g1]
  by_cases g2 : 1000 < a.name.length
  · simp only [g2, decide_true, Bool.true_or] at e1; simp -implicitDefEqProofs -dsimp +contextual (maxSteps := 5000000) (disch := first | omega | (simp only [go_sem] <;> omega) | (show indepB _ _ = true; refine id ?_; kernel_rfl)) only [go_sem, ↓reduceIte, Nat.reduceEqDiff, Nat.reduceBEq, Nat.reduceAdd, Nat.reduceSub, Nat.reduceLeDiff, Nat.reduceLT, Nat.reduceMul, Int.reduceNeg, Int.reduceLT, Int.reduceLE, Int.reduceAdd, Int.reduceSub, Int.reduceToNat, Int.reduceMul, Int.reduceMod, Int.reduceTMod, Int.reduceTDiv, Int.reduceEq, Nat.reducePow, Nat.reduceDiv, Nat.reduceShiftRight, Nat.reduceMod, List.reduceReplicate, g1, e1]
  by_cases g3 : 1000 < a.tag.length
  · simp only [g3, decide_true, Bool.or_true] at e1; simp -implicitDefEqProofs -dsimp +contextual (maxSteps := 5000000) (disch := first | omega | (simp only [go_sem] <;> omega) | (show indepB _ _ = true; refine id ?_; kernel_rfl)) only [go_sem, ↓reduceIte, Nat.reduceEqDiff, Nat.reduceBEq, Nat.reduceAdd, Nat.reduceSub, Nat.reduceLeDiff, Nat.reduceLT, Nat.reduceMul, Int.reduceNeg, Int.reduceLT, Int.reduceLE, Int.reduceAdd, Int.reduceSub, Int.reduceToNat, Int.reduceMul, Int.reduceMod, Int.reduceTMod, Int.reduceTDiv, Int.reduceEq, Nat.reducePow, Nat.reduceDiv, Nat.reduceShiftRight, Nat.reduceMod, List.reduceReplicate, g1, e1]
  simp only [g2, g3, decide_false, Bool.or_false] at e1
  by_cases g4 : 1000 < b.name.length
  · simp only [g4, decide_true, Bool.true_or] at e2; simp -implicitDefEqProofs -dsimp +contextual (maxSteps := 5000000) (disch := first | omega | (simp only [go_sem] <;> omega) | (show indepB _ _ = true; refine id ?_; kernel_rfl)) only [go_sem, ↓reduceIte, Nat.reduceEqDiff, Nat.reduceBEq, Nat.reduceAdd, Nat.reduceSub, Nat.reduceLeDiff, Nat.reduceLT, Nat.reduceMul, Int.reduceNeg, Int.reduceLT, Int.reduceLE, Int.reduceAdd, Int.reduceSub, Int.reduceToNat, Int.reduceMul, Int.reduceMod, Int.reduceTMod, Int.reduceTDiv, Int.reduceEq, Nat.reducePow, Nat.reduceDiv, Nat.reduceShiftRight, Nat.reduceMod, List.reduceReplicate, g1, e1, e2]
  by_cases g5 : 1000 < b.tag.length
  · simp only [g5, decide_true, Bool.or_true] at e2; simp -implicitDefEqProofs -dsimp +contextual (maxSteps := 5000000) (disch := first | omega | (simp only [go_sem] <;> omega) | (show indepB _ _ = true; refine id ?_; kernel_rfl)) only [go_sem, ↓reduceIte, Nat.reduceEqDiff, Nat.reduceBEq, Nat.reduceAdd, Nat.reduceSub, Nat.reduceLeDiff, Nat.reduceLT, Nat.reduceMul, Int.reduceNeg, Int.reduceLT, Int.reduceLE, Int.reduceAdd, Int.reduceSub, Int.reduceToNat, Int.reduceMul, Int.reduceMod, Int.reduceTMod, Int.reduceTDiv, Int.reduceEq, Nat.reducePow, Nat.reduceDiv, Nat.reduceShiftRight, Nat.reduceMod, List.reduceReplicate, g1, e1, e2]
  simp only [g4, g5, decide_false, Bool.or_false] at e2
  have r1 := e18 psk m n a b (by omega) hm hn ha hb (by omega) (by omega) (by omega) (by omega)
  have hl := rootsB_len psk m n a b
  have e5 := e22 k ((rootsB psk m n a b).take 32) ((rootsB psk m n a b).drop 32)
  have e6 := e23 k ((rootsB psk m n a b).take 32) ((rootsB psk m n a b).drop 32)
  by_cases k1 : k = 1
  · simp only [k1, if_true] at e5 e6; simp -implicitDefEqProofs -dsimp +contextual (maxSteps := 5000000) (disch := first | omega | (simp only [go_sem] <;> omega) | (show indepB _ _ = true; refine id ?_; kernel_rfl)) only [go_sem, ↓reduceIte, Nat.reduceEqDiff, Nat.reduceBEq, Nat.reduceAdd, Nat.reduceSub, Nat.reduceLeDiff, Nat.reduceLT, Nat.reduceMul, Int.reduceNeg, Int.reduceLT, Int.reduceLE, Int.reduceAdd, Int.reduceSub, Int.reduceToNat, Int.reduceMul, Int.reduceMod, Int.reduceTMod, Int.reduceTDiv, Int.reduceEq, Nat.reducePow, Nat.reduceDiv, Nat.reduceShiftRight, Nat.reduceMod, List.reduceReplicate, g1, e1, e2, r1, hl, e5, e6, k1]
  by_cases k2 : k = 2
  · simp only [k2, if_true, show ¬ (2 : Int) = 1 by decide, if_false] at e5 e6; simp -implicitDefEqProofs -dsimp +contextual (maxSteps := 5000000) (disch := first | omega | (simp only [go_sem] <;> omega) | (show indepB _ _ = true; refine id ?_; kernel_rfl)) only [go_sem, ↓reduceIte, Nat.reduceEqDiff, Nat.reduceBEq, Nat.reduceAdd, Nat.reduceSub, Nat.reduceLeDiff, Nat.reduceLT, Nat.reduceMul, Int.reduceNeg, Int.reduceLT, Int.reduceLE, Int.reduceAdd, Int.reduceSub, Int.reduceToNat, Int.reduceMul, Int.reduceMod, Int.reduceTMod, Int.reduceTDiv, Int.reduceEq, Nat.reducePow, Nat.reduceDiv, Nat.reduceShiftRight, Nat.reduceMod, List.reduceReplicate, g1, e1, e2, r1, hl, e5, e6, k2]
  simp only [k1, k2, if_false] at e5 e6
  simp -implicitDefEqProofs -dsimp +contextual (maxSteps := 5000000) (disch := first | omega | (simp only [go_sem] <;> omega) | (show indepB _ _ = true; refine id ?_; kernel_rfl)) only [go_sem, ↓reduceIte, Nat.reduceEqDiff, Nat.reduceBEq, Nat.reduceAdd, Nat.reduceSub, Nat.reduceLeDiff, Nat.reduceLT, Nat.reduceMul, Int.reduceNeg, Int.reduceLT, Int.reduceLE, Int.reduceAdd, Int.reduceSub, Int.reduceToNat, Int.reduceMul, Int.reduceMod, Int.reduceTMod, Int.reduceTDiv, Int.reduceEq, Nat.reducePow, Nat.reduceDiv, Nat.reduceShiftRight, Nat.reduceMod, List.reduceReplicate, g1, e1, e2, r1, hl, e5, e6]

end Go.Proofs.YtccfjidpdlfenaaDoor
