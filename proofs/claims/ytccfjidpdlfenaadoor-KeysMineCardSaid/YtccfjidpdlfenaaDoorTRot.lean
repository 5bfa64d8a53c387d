import Derived.Test.YtccfjidpdlfenaaDoorTBev
namespace Go.Proofs.YtccfjidpdlfenaaDoor
open Go.Am
set_option linter.unusedSimpArgs false
set_option linter.unusedVariables false
set_option maxRecDepth 100000
/-! Words turned. -/
def rotl (x : UInt32) (m : Nat) : UInt32 := W32.shl x m ||| W32.shr x (32 - m)

theorem and31 (n : Int) (h : 0 ≤ n) (h2 : n ≤ 18446744073709551615) (P : Program) (t : TypeId) : binV P .and t (.int .u64 n) (.int .u64 31) = some (.int .u64 (n % 32)) := by
  obtain ⟨m, rfl⟩ := Int.eq_ofNat_of_zero_le h
  have e : binV P .and t (.int .u64 (m : Int)) (.int .u64 31) = some (.int .u64 (IntKind.u64.wrap (((BitVec.ofInt 64 (m : Int)) &&& (BitVec.ofInt 64 ((31 : Nat) : Int))).toNat : Int))) := rfl
  rw [e, BitVec.ofInt_natCast, BitVec.ofInt_natCast, BitVec.toNat_and, BitVec.toNat_ofNat, BitVec.toNat_ofNat, Nat.mod_eq_of_lt (show m < 2 ^ 64 by omega), show (31 : Nat) % 2 ^ 64 = 2 ^ 5 - 1 by decide, Nat.and_two_pow_sub_one_eq_mod, IntKind.wrap_u64]
  congr 2; omega

@[go_sem] theorem e167 (x : UInt32) (n : Int) (h1 : -1000 ≤ n) (h2 : n ≤ 1000) : fn C 167 [] [.int .u32 (x.toNat : Int), .int .i64 n] = some (.int .u32 ((rotl x (n % 32).toNat).toNat : Int), []) := by
  have hw : IntKind.u64.wrap n % 32 = n % 32 := by rw [IntKind.wrap_u64]; omega
  have hw1 : 0 ≤ IntKind.u64.wrap n := by rw [IntKind.wrap_u64]; omega
  have hw2 : IntKind.u64.wrap n ≤ 18446744073709551615 := by rw [IntKind.wrap_u64]; omega
  obtain ⟨m, hm⟩ := Int.eq_ofNat_of_zero_le (show 0 ≤ n % 32 by omega)
  have a31 := fun P t => and31 (IntKind.u64.wrap n) hw1 hw2 P t
  rw [hw, hm] at a31
  have hm32 : m < 32 := by omega
  have e32 : (32 : Int) - (m : Int) = ((32 - m : Nat) : Int) := by omega
  rw [fn_text Tryd.func167 rfl rfl Tryd.results167 locM167 rfl rfl (by kernel_rfl)]
  simp -implicitDefEqProofs -dsimp +contextual (maxSteps := 5000000) (disch := first | omega | (simp only [go_sem] <;> omega) | (show indepB _ _ = true; refine id ?_; kernel_rfl)) only [go_sem, ↓reduceIte, Nat.reduceEqDiff, Nat.reduceBEq, Nat.reduceAdd, Nat.reduceSub, Nat.reduceLeDiff, Nat.reduceLT, Nat.reduceMul, Int.reduceNeg, Int.reduceLT, Int.reduceLE, Int.reduceAdd, Int.reduceSub, Int.reduceToNat, Int.reduceMul, Int.reduceMod, Int.reduceTMod, Int.reduceTDiv, Int.reduceEq, Nat.reducePow, Nat.reduceDiv, Nat.reduceShiftRight, Nat.reduceMod, List.reduceReplicate, a31, hm, e32]
  rfl

end Go.Proofs.YtccfjidpdlfenaaDoor
