import Derived.Test.YtccfjidpdlfenaaDoorTDerive
namespace Go.Proofs.YtccfjidpdlfenaaDoor
open Go.Am
set_option linter.unusedSimpArgs false
set_option linter.unusedVariables false
set_option maxRecDepth 100000
/-! Layer 11: certificates as bytes. -/
structure En where
  name : List UInt8
  id : Nat
  fr : Int
  un : Int
  ix : Int
  tag : List UInt8
deriving DecidableEq
def En.cs (e : En) : List AVal := [.str e.name, .int .u64 (e.id : Int), .int .i64 e.fr, .int .i64 e.un, .int .i64 e.ix, .str e.tag]
@[go_sem] theorem En.cs_eq (e : En) : e.cs = [.str e.name, .int .u64 (e.id : Int), .int .i64 e.fr, .int .i64 e.un, .int .i64 e.ix, .str e.tag] := rfl
def u64V (n : Int) : Nat := (n % 18446744073709551616).toNat
theorem wrap_u64V (n : Int) : IntKind.u64.wrap n = (u64V n : Int) := by rw [IntKind.wrap_u64, u64V]; omega
theorem u64V_le (n : Int) : u64V n ≤ 18446744073709551615 := by rw [u64V]; omega
structure En.ok (e : En) : Prop where
  id : e.id ≤ 18446744073709551615
  f1 : -9223372036854775808 ≤ e.fr
  f2 : e.fr ≤ 9223372036854775807
  u1 : -9223372036854775808 ≤ e.un
  u2 : e.un ≤ 9223372036854775807
  i1 : -9223372036854775808 ≤ e.ix
  i2 : e.ix ≤ 9223372036854775807
def bodyB (e : En) : List UInt8 := textB e.name ++ beN 8 e.id ++ beN 4 (u64V e.fr) ++ beN 4 (u64V e.un) ++ beN 2 (u64V e.ix)
@[go_sem] theorem bodyB_len (e : En) : (bodyB e).length = e.name.length + 20 := by simp [bodyB, beN_len, textB_len]
def entB (e : En) : List UInt8 := bodyB e ++ e.tag
@[go_sem] theorem entB_len (e : En) : (entB e).length = e.name.length + 20 + e.tag.length := by simp [entB, bodyB_len]

set_option maxHeartbeats 1000000 in
@[go_sem] theorem e121 (e : En) (h : e.ok) (hn : e.name.length ≤ 60000) : fn C 121 [] [.agg [.str e.name, .int .u64 (e.id : Int), .int .i64 e.fr, .int .i64 e.un, .int .i64 e.ix, .str e.tag]] = some (.usl 1 ((bodyB e).map byteRow), []) := by
  rw [fn_text Tryd.func121 rfl rfl Tryd.results121 locM121 rfl rfl (by kernel_rfl)]
  have h1 := u64V_le e.fr; have h2 := u64V_le e.un; have h3 := u64V_le e.ix
  have h4 := h.id
  simp -implicitDefEqProofs -dsimp +contextual (maxSteps := 5000000) (disch := first | omega | (simp only [go_sem] <;> omega) | (show indepB _ _ = true; refine id ?_; kernel_rfl)) only [go_sem, ↓reduceIte, Nat.reduceEqDiff, Nat.reduceBEq, Nat.reduceAdd, Nat.reduceSub, Nat.reduceLeDiff, Nat.reduceLT, Nat.reduceMul, Int.reduceNeg, Int.reduceLT, Int.reduceLE, Int.reduceAdd, Int.reduceSub, Int.reduceToNat, Int.reduceMul, Int.reduceMod, Int.reduceTMod, Int.reduceTDiv, Int.reduceEq, Nat.reducePow, Nat.reduceDiv, Nat.reduceShiftRight, Nat.reduceMod, List.reduceReplicate, wrap_u64V e.fr, wrap_u64V e.un, wrap_u64V e.ix]
  rfl
set_option maxHeartbeats 1000000 in
@[go_sem] theorem e96 (e : En) (h : e.ok) (hn : e.name.length ≤ 60000) (ht : e.tag.length ≤ 60000) : fn C 96 [] [.agg [.str e.name, .int .u64 (e.id : Int), .int .i64 e.fr, .int .i64 e.un, .int .i64 e.ix, .str e.tag]] = some (.slice 1 ((entB e).map byteRow), []) := by
  rw [fn_text Tryd.func96 rfl rfl Tryd.results96 locM96 rfl rfl (by kernel_rfl)]
  simp -implicitDefEqProofs -dsimp +contextual (maxSteps := 5000000) (disch := first | omega | (simp only [go_sem] <;> omega) | (show indepB _ _ = true; refine id ?_; kernel_rfl)) only [go_sem, ↓reduceIte, Nat.reduceEqDiff, Nat.reduceBEq, Nat.reduceAdd, Nat.reduceSub, Nat.reduceLeDiff, Nat.reduceLT, Nat.reduceMul, Int.reduceNeg, Int.reduceLT, Int.reduceLE, Int.reduceAdd, Int.reduceSub, Int.reduceToNat, Int.reduceMul, Int.reduceMod, Int.reduceTMod, Int.reduceTDiv, Int.reduceEq, Nat.reducePow, Nat.reduceDiv, Nat.reduceShiftRight, Nat.reduceMod, List.reduceReplicate, e121 e h hn]
  rfl
set_option maxHeartbeats 1000000 in
@[go_sem] theorem e97 (e : En) (h : e.ok) (hn : e.name.length ≤ 60000) : fn C 97 [] [.agg [.str e.name, .int .u64 (e.id : Int), .int .i64 e.fr, .int .i64 e.un, .int .i64 e.ix, .str e.tag]] = some (.usl 1 ((bodyB e).map byteRow), []) := by
  rw [fn_text Tryd.func97 rfl rfl Tryd.results97 locM97 rfl rfl (by kernel_rfl)]
  have h1 := u64V_le e.fr; have h2 := u64V_le e.un; have h3 := u64V_le e.ix
  have h4 := h.id
  simp -implicitDefEqProofs -dsimp +contextual (maxSteps := 5000000) (disch := first | omega | (simp only [go_sem] <;> omega) | (show indepB _ _ = true; refine id ?_; kernel_rfl)) only [go_sem, ↓reduceIte, Nat.reduceEqDiff, Nat.reduceBEq, Nat.reduceAdd, Nat.reduceSub, Nat.reduceLeDiff, Nat.reduceLT, Nat.reduceMul, Int.reduceNeg, Int.reduceLT, Int.reduceLE, Int.reduceAdd, Int.reduceSub, Int.reduceToNat, Int.reduceMul, Int.reduceMod, Int.reduceTMod, Int.reduceTDiv, Int.reduceEq, Nat.reducePow, Nat.reduceDiv, Nat.reduceShiftRight, Nat.reduceMod, List.reduceReplicate, wrap_u64V e.fr, wrap_u64V e.un, wrap_u64V e.ix]
  rfl
set_option maxHeartbeats 1000000 in
@[go_sem] theorem e57 (e : En) (h : e.ok) (hn : e.name.length ≤ 60000) (ht : e.tag.length ≤ 60000) : fn C 57 [] [.agg [.str e.name, .int .u64 (e.id : Int), .int .i64 e.fr, .int .i64 e.un, .int .i64 e.ix, .str e.tag]] = some (.slice 1 ((entB e).map byteRow), []) := by
  rw [fn_text Tryd.func57 rfl rfl Tryd.results57 locM57 rfl rfl (by kernel_rfl)]
  simp -implicitDefEqProofs -dsimp +contextual (maxSteps := 5000000) (disch := first | omega | (simp only [go_sem] <;> omega) | (show indepB _ _ = true; refine id ?_; kernel_rfl)) only [go_sem, ↓reduceIte, Nat.reduceEqDiff, Nat.reduceBEq, Nat.reduceAdd, Nat.reduceSub, Nat.reduceLeDiff, Nat.reduceLT, Nat.reduceMul, Int.reduceNeg, Int.reduceLT, Int.reduceLE, Int.reduceAdd, Int.reduceSub, Int.reduceToNat, Int.reduceMul, Int.reduceMod, Int.reduceTMod, Int.reduceTDiv, Int.reduceEq, Nat.reducePow, Nat.reduceDiv, Nat.reduceShiftRight, Nat.reduceMod, List.reduceReplicate, e97 e h hn]
  rfl

end Go.Proofs.YtccfjidpdlfenaaDoor
