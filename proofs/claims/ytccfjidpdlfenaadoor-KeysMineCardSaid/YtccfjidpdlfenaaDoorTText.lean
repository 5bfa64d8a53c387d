import Derived.Test.YtccfjidpdlfenaaDoorTPack
namespace Go.Proofs.YtccfjidpdlfenaaDoor
open Go.Am
set_option linter.unusedSimpArgs false
set_option linter.unusedVariables false
set_option maxRecDepth 100000
/-! Layer 1: texts as bytes. -/
def textB (s : List UInt8) : List UInt8 := beN 2 s.length ++ s
@[go_sem] theorem textB_len (s : List UInt8) : (textB s).length = s.length + 2 := by simp [textB, beN_len]; omega
theorem beN_2 (n : Nat) : beN 2 n = [UInt8.ofNat (n / 256), UInt8.ofNat n] := by simp [beN, List.range, List.range.loop]
theorem beN_8 (n : Nat) : beN 8 n = [UInt8.ofNat (n / 72057594037927936), UInt8.ofNat (n / 281474976710656), UInt8.ofNat (n / 1099511627776), UInt8.ofNat (n / 4294967296), UInt8.ofNat (n / 16777216), UInt8.ofNat (n / 65536), UInt8.ofNat (n / 256), UInt8.ofNat n] := by simp [beN, List.range, List.range.loop]

theorem numNil (ex : List Nat) (hex : ex = [] ∨ ex = [0]) (n s : Nat) (hn : n ≤ 18446744073709551615) (hs1 : 1 ≤ s) (hs : s ≤ 8) : fn C 52 ex [.usl 1 [], .int .u64 (n : Int), .int .i64 (s : Int)] = some (.usl 1 ((beN s n).map byteRow), []) := by
  have h := packNum ex hex [] n s hn hs1 hs (by simp)
  simpa using h
@[go_sem] theorem numNil_lit (n s : Nat) (hn : n ≤ 18446744073709551615) (hs1 : 1 ≤ OfNat.ofNat s) (hs : OfNat.ofNat s ≤ 8) : fn C 52 [] [.usl 1 [], .int .u64 (n : Int), .int .i64 (no_index (OfNat.ofNat s : Int))] = some (.usl 1 ((beN (OfNat.ofNat s) n).map byteRow), []) := numNil [] (.inl rfl) n _ hn hs1 hs
@[go_sem] theorem numNil_lit0 (n s : Nat) (hn : n ≤ 18446744073709551615) (hs1 : 1 ≤ OfNat.ofNat s) (hs : OfNat.ofNat s ≤ 8) : fn C 52 [0] [.usl 1 [], .int .u64 (n : Int), .int .i64 (no_index (OfNat.ofNat s : Int))] = some (.usl 1 ((beN (OfNat.ofNat s) n).map byteRow), []) := numNil [0] (.inr rfl) n _ hn hs1 hs
@[go_sem] theorem refNumNil_lit (n s : Nat) (hn : n ≤ 18446744073709551615) (hs1 : 1 ≤ OfNat.ofNat s) (hs : OfNat.ofNat s ≤ 8) : fn C 55 [] [.slice 1 [], .int .u64 (n : Int), .int .i64 (no_index (OfNat.ofNat s : Int))] = some (.usl 1 ((beN (OfNat.ofNat s) n).map byteRow), []) := by
  have h := refNum [] n (OfNat.ofNat s) hn hs1 hs (by simp)
  simpa using h

theorem packText (ex : List Nat) (hex : ex = [] ∨ ex = [0]) (l s : List UInt8) (hl : l.length ≤ 10000000) (hs : s.length ≤ 65535) : fn C 95 ex [.usl 1 (l.map byteRow), .str s] = some (.usl 1 ((l ++ textB s).map byteRow), []) := by
  rcases hex with rfl | rfl
  · rw [fn_text Tryd.func95 rfl rfl Tryd.results95 locM95 rfl rfl (by kernel_rfl)]
    simp -implicitDefEqProofs -dsimp +contextual (maxSteps := 5000000) (disch := first | omega | (simp only [go_sem] <;> omega) | (show indepB _ _ = true; refine id ?_; kernel_rfl)) only [go_sem, ↓reduceIte, Nat.reduceEqDiff, Nat.reduceBEq, Nat.reduceAdd, Nat.reduceSub, Nat.reduceLeDiff, Nat.reduceLT, Nat.reduceMul, Int.reduceNeg, Int.reduceLT, Int.reduceLE, Int.reduceAdd, Int.reduceSub, Int.reduceToNat, Int.reduceMul, Int.reduceMod, Int.reduceTMod, Int.reduceTDiv, Int.reduceEq, Nat.reducePow, Nat.reduceDiv, Nat.reduceShiftRight, Nat.reduceMod, List.reduceReplicate, Nat.min_eq_left hs]
    rw [textB, List.append_assoc]
  · rw [fn_text Tryd.func95 rfl rfl Tryd.results95 locM95 rfl rfl (by kernel_rfl)]
    simp -implicitDefEqProofs -dsimp +contextual (maxSteps := 5000000) (disch := first | omega | (simp only [go_sem] <;> omega) | (show indepB _ _ = true; refine id ?_; kernel_rfl)) only [go_sem, ↓reduceIte, Nat.reduceEqDiff, Nat.reduceBEq, Nat.reduceAdd, Nat.reduceSub, Nat.reduceLeDiff, Nat.reduceLT, Nat.reduceMul, Int.reduceNeg, Int.reduceLT, Int.reduceLE, Int.reduceAdd, Int.reduceSub, Int.reduceToNat, Int.reduceMul, Int.reduceMod, Int.reduceTMod, Int.reduceTDiv, Int.reduceEq, Nat.reducePow, Nat.reduceDiv, Nat.reduceShiftRight, Nat.reduceMod, List.reduceReplicate, Nat.min_eq_left hs]
    rw [textB, List.append_assoc]
@[go_sem] theorem e95 (l s : List UInt8) (hl : l.length ≤ 10000000) (hs : s.length ≤ 65535) : fn C 95 [] [.usl 1 (l.map byteRow), .str s] = some (.usl 1 ((l ++ textB s).map byteRow), []) := packText [] (.inl rfl) l s hl hs
@[go_sem] theorem eText0 (l s : List UInt8) (hl : l.length ≤ 10000000) (hs : s.length ≤ 65535) : fn C 95 [0] [.usl 1 (l.map byteRow), .str s] = some (.usl 1 ((l ++ textB s).map byteRow), []) := packText [0] (.inr rfl) l s hl hs
@[go_sem] theorem eTextNil (s : List UInt8) (hs : s.length ≤ 65535) : fn C 95 [] [.usl 1 [], .str s] = some (.usl 1 ((textB s).map byteRow), []) := packText [] (.inl rfl) [] s (by simp) hs

@[go_sem] theorem e56 (l s : List UInt8) (hl : l.length ≤ 10000000) (hs : s.length ≤ 65535) : fn C 56 [] [.slice 1 (l.map byteRow), .str s] = some (.usl 1 ((l ++ textB s).map byteRow), []) := by
  rw [fn_text Tryd.func56 rfl rfl Tryd.results56 locM56 rfl rfl (by kernel_rfl)]
  simp -implicitDefEqProofs -dsimp +contextual (maxSteps := 5000000) (disch := first | omega | (simp only [go_sem] <;> omega) | (show indepB _ _ = true; refine id ?_; kernel_rfl)) only [go_sem, ↓reduceIte, Nat.reduceEqDiff, Nat.reduceBEq, Nat.reduceAdd, Nat.reduceSub, Nat.reduceLeDiff, Nat.reduceLT, Nat.reduceMul, Int.reduceNeg, Int.reduceLT, Int.reduceLE, Int.reduceAdd, Int.reduceSub, Int.reduceToNat, Int.reduceMul, Int.reduceMod, Int.reduceTMod, Int.reduceTDiv, Int.reduceEq, Nat.reducePow, Nat.reduceDiv, Nat.reduceShiftRight, Nat.reduceMod, List.reduceReplicate, show ¬ 65535 < s.length by omega]
  rw [textB, List.append_assoc]
@[go_sem] theorem eRTextNil (s : List UInt8) (hs : s.length ≤ 65535) : fn C 56 [] [.slice 1 [], .str s] = some (.usl 1 ((textB s).map byteRow), []) := e56 [] s (by simp) hs

end Go.Proofs.YtccfjidpdlfenaaDoor
