import Derived.Test.YtdfkkfnjlcdjaaaTEqual
namespace Go.Proofs.Ytdfkkfnjlcdjaaa
open Go.Am
set_option linter.unusedSimpArgs false
set_option linter.unusedVariables false
set_option maxRecDepth 100000
/-! Layer 7: numbers of five parts. -/
structure Nm where
  a : Nat
  b : Nat
  c : Nat
  d : Nat
  e : Nat
def Nm.cs (n : Nm) : List AVal := [.int .u64 (n.a : Int), .int .u64 (n.b : Int), .int .u64 (n.c : Int), .int .u64 (n.d : Int), .int .u64 (n.e : Int)]
@[go_sem] theorem Nm.cs_eq (n : Nm) : n.cs = [.int .u64 (n.a : Int), .int .u64 (n.b : Int), .int .u64 (n.c : Int), .int .u64 (n.d : Int), .int .u64 (n.e : Int)] := rfl
def Nm.le (n : Nm) (m : Nat) : Prop := n.a ≤ m ∧ n.b ≤ m ∧ n.c ≤ m ∧ n.d ≤ m ∧ n.e ≤ m
def Nm.val (n : Nm) : Nat := n.a + n.b * 67108864 + n.c * 4503599627370496 + n.d * 302231454903657293676544 + n.e * 20282409603651670423947251286016
@[go_sem] theorem and26 (P : Program) (t : TypeId) (n : Nat) (h : n < 18446744073709551616) : binV P .and t (.int .u64 (n : Int)) (.int .u64 67108863) = some (.int .u64 ((n % 67108864 : Nat) : Int)) := by
  have e : binV P .and t (.int .u64 (n : Int)) (.int .u64 67108863) = some (.int .u64 (IntKind.u64.wrap (((BitVec.ofInt 64 (n : Int)) &&& (BitVec.ofInt 64 ((67108863 : Nat) : Int))).toNat : Int))) := rfl
  rw [e, BitVec.ofInt_natCast, BitVec.ofInt_natCast, BitVec.toNat_and, BitVec.toNat_ofNat, BitVec.toNat_ofNat, Nat.mod_eq_of_lt (show n < 2 ^ 64 by omega), show (67108863 : Nat) % 2 ^ 64 = 2 ^ 26 - 1 by decide, Nat.and_two_pow_sub_one_eq_mod, IntKind.wrap_u64]
  congr 2; omega

def carryN (n : Nm) : Nm :=
  let b := n.b + n.a / 67108864
  let c := n.c + b / 67108864
  let d := n.d + c / 67108864
  let e := n.e + d / 67108864
  let a := n.a % 67108864 + e / 67108864 * 5
  ⟨a % 67108864, b % 67108864 + a / 67108864, c % 67108864, d % 67108864, e % 67108864⟩
theorem carryN_val (n : Nm) : (carryN n).val + (n.e + (n.d + (n.c + (n.b + n.a / 67108864) / 67108864) / 67108864) / 67108864) / 67108864 * 1361129467683753853853498429727072845819 = n.val := by
  simp only [carryN, Nm.val]; omega
theorem carryN_le (n : Nm) (h : n.le 1152921504606846976) : (carryN n).a < 67108864 ∧ (carryN n).b < 67110864 ∧ (carryN n).c < 67108864 ∧ (carryN n).d < 67108864 ∧ (carryN n).e < 67108864 := by
  obtain ⟨h1, h2, h3, h4, h5⟩ := h
  simp only [carryN]; omega

set_option maxHeartbeats 4000000 in
@[go_sem] theorem e38 (a b c d e : Nat) (h1 : a ≤ 1152921504606846976) (h2 : b ≤ 1152921504606846976) (h3 : c ≤ 1152921504606846976) (h4 : d ≤ 1152921504606846976) (h5 : e ≤ 1152921504606846976) : fn C 38 [] [.agg [.int .u64 (a : Int), .int .u64 (b : Int), .int .u64 (c : Int), .int .u64 (d : Int), .int .u64 (e : Int)]] = some (.agg (carryN ⟨a, b, c, d, e⟩).cs, []) := by
  rw [fn_text Try.func38 rfl rfl Try.results38 locM38 rfl rfl (by kernel_rfl)]
  simp -implicitDefEqProofs -dsimp +contextual (maxSteps := 5000000) (disch := first | omega | (simp only [go_sem] <;> omega) | (show indepB _ _ = true; refine id ?_; kernel_rfl)) only [go_sem, ↓reduceIte, Nat.reduceEqDiff, Nat.reduceBEq, Nat.reduceAdd, Nat.reduceSub, Nat.reduceLeDiff, Nat.reduceLT, Nat.reduceMul, Int.reduceNeg, Int.reduceLT, Int.reduceLE, Int.reduceAdd, Int.reduceSub, Int.reduceToNat, Int.reduceMul, Int.reduceMod, Int.reduceTMod, Int.reduceTDiv, Int.reduceEq, Nat.reducePow, Nat.reduceDiv, Nat.reduceShiftRight, Nat.reduceMod, List.reduceReplicate, kLoop_eq]
  rfl

@[go_sem] theorem Nm.eta (n : Nm) : (⟨n.a, n.b, n.c, n.d, n.e⟩ : Nm) = n := rfl
def addN (n m : Nm) : Nm := ⟨n.a + m.a, n.b + m.b, n.c + m.c, n.d + m.d, n.e + m.e⟩
set_option maxHeartbeats 4000000 in
@[go_sem] theorem e39 (a b c d e a' b' c' d' e' : Nat) (h1 : a ≤ 1152921504606846976) (h2 : b ≤ 1152921504606846976) (h3 : c ≤ 1152921504606846976) (h4 : d ≤ 1152921504606846976) (h5 : e ≤ 1152921504606846976) (k1 : a' ≤ 1152921504606846976) (k2 : b' ≤ 1152921504606846976) (k3 : c' ≤ 1152921504606846976) (k4 : d' ≤ 1152921504606846976) (k5 : e' ≤ 1152921504606846976) : fn C 39 [] [.agg [.int .u64 (a : Int), .int .u64 (b : Int), .int .u64 (c : Int), .int .u64 (d : Int), .int .u64 (e : Int)], .agg [.int .u64 (a' : Int), .int .u64 (b' : Int), .int .u64 (c' : Int), .int .u64 (d' : Int), .int .u64 (e' : Int)]] = some (.agg (addN ⟨a, b, c, d, e⟩ ⟨a', b', c', d', e'⟩).cs, []) := by
  rw [fn_text Try.func39 rfl rfl Try.results39 locM39 rfl rfl (by kernel_rfl)]
  simp -implicitDefEqProofs -dsimp +contextual (maxSteps := 5000000) (disch := first | omega | (simp only [go_sem] <;> omega) | (show indepB _ _ = true; refine id ?_; kernel_rfl)) only [go_sem, ↓reduceIte, Nat.reduceEqDiff, Nat.reduceBEq, Nat.reduceAdd, Nat.reduceSub, Nat.reduceLeDiff, Nat.reduceLT, Nat.reduceMul, Int.reduceNeg, Int.reduceLT, Int.reduceLE, Int.reduceAdd, Int.reduceSub, Int.reduceToNat, Int.reduceMul, Int.reduceMod, Int.reduceTMod, Int.reduceTDiv, Int.reduceEq, Nat.reducePow, Nat.reduceDiv, Nat.reduceShiftRight, Nat.reduceMod, List.reduceReplicate, kLoop_eq]
  rfl

def carry5N (n : Nm) : Nm :=
  let a := n.a + 5
  let b := n.b + a / 67108864
  let c := n.c + b / 67108864
  let d := n.d + c / 67108864
  let e := n.e + d / 67108864
  ⟨a % 67108864, b % 67108864, c % 67108864, d % 67108864, e⟩
set_option maxHeartbeats 4000000 in
@[go_sem] theorem e53 (a b c d e : Nat) (h1 : a ≤ 1152921504606846976) (h2 : b ≤ 1152921504606846976) (h3 : c ≤ 1152921504606846976) (h4 : d ≤ 1152921504606846976) (h5 : e ≤ 1152921504606846976) : fn C 53 [] [.agg [.int .u64 (a : Int), .int .u64 (b : Int), .int .u64 (c : Int), .int .u64 (d : Int), .int .u64 (e : Int)]] = some (.agg (carry5N ⟨a, b, c, d, e⟩).cs, []) := by
  rw [fn_text Try.func53 rfl rfl Try.results53 locM53 rfl rfl (by kernel_rfl)]
  simp -implicitDefEqProofs -dsimp +contextual (maxSteps := 5000000) (disch := first | omega | (simp only [go_sem] <;> omega) | (show indepB _ _ = true; refine id ?_; kernel_rfl)) only [go_sem, ↓reduceIte, Nat.reduceEqDiff, Nat.reduceBEq, Nat.reduceAdd, Nat.reduceSub, Nat.reduceLeDiff, Nat.reduceLT, Nat.reduceMul, Int.reduceNeg, Int.reduceLT, Int.reduceLE, Int.reduceAdd, Int.reduceSub, Int.reduceToNat, Int.reduceMul, Int.reduceMod, Int.reduceTMod, Int.reduceTDiv, Int.reduceEq, Nat.reducePow, Nat.reduceDiv, Nat.reduceShiftRight, Nat.reduceMod, List.reduceReplicate, kLoop_eq]
  rfl

def timesP (n m : Nm) : Nm := ⟨n.a * m.a + n.b * m.e * 5 + n.c * m.d * 5 + n.d * m.c * 5 + n.e * m.b * 5, n.a * m.b + n.b * m.a + n.c * m.e * 5 + n.d * m.d * 5 + n.e * m.c * 5, n.a * m.c + n.b * m.b + n.c * m.a + n.d * m.e * 5 + n.e * m.d * 5, n.a * m.d + n.b * m.c + n.c * m.b + n.d * m.a + n.e * m.e * 5, n.a * m.e + n.b * m.d + n.c * m.c + n.d * m.b + n.e * m.a⟩
set_option maxHeartbeats 4000000 in
@[go_sem] theorem e37 (a b c d e a' b' c' d' e' : Nat) (h1 : a ≤ 67110864) (h2 : b ≤ 67110864) (h3 : c ≤ 67110864) (h4 : d ≤ 67110864) (h5 : e ≤ 67110864) (k1 : a' ≤ 67108864) (k2 : b' ≤ 67108864) (k3 : c' ≤ 67108864) (k4 : d' ≤ 67108864) (k5 : e' ≤ 67108864) : fn C 37 [] [.agg [.int .u64 (a : Int), .int .u64 (b : Int), .int .u64 (c : Int), .int .u64 (d : Int), .int .u64 (e : Int)], .agg [.int .u64 (a' : Int), .int .u64 (b' : Int), .int .u64 (c' : Int), .int .u64 (d' : Int), .int .u64 (e' : Int)]] = some (.agg (carryN (timesP ⟨a, b, c, d, e⟩ ⟨a', b', c', d', e'⟩)).cs, []) := by
  have paa : a * a' ≤ 4503733845098496 := Nat.le_trans (Nat.mul_le_mul h1 k1) (by decide)
  have pab : a * b' ≤ 4503733845098496 := Nat.le_trans (Nat.mul_le_mul h1 k2) (by decide)
  have pac : a * c' ≤ 4503733845098496 := Nat.le_trans (Nat.mul_le_mul h1 k3) (by decide)
  have pad : a * d' ≤ 4503733845098496 := Nat.le_trans (Nat.mul_le_mul h1 k4) (by decide)
  have pae : a * e' ≤ 4503733845098496 := Nat.le_trans (Nat.mul_le_mul h1 k5) (by decide)
  have pba : b * a' ≤ 4503733845098496 := Nat.le_trans (Nat.mul_le_mul h2 k1) (by decide)
  have pbb : b * b' ≤ 4503733845098496 := Nat.le_trans (Nat.mul_le_mul h2 k2) (by decide)
  have pbc : b * c' ≤ 4503733845098496 := Nat.le_trans (Nat.mul_le_mul h2 k3) (by decide)
  have pbd : b * d' ≤ 4503733845098496 := Nat.le_trans (Nat.mul_le_mul h2 k4) (by decide)
  have pbe : b * e' ≤ 4503733845098496 := Nat.le_trans (Nat.mul_le_mul h2 k5) (by decide)
  have pca : c * a' ≤ 4503733845098496 := Nat.le_trans (Nat.mul_le_mul h3 k1) (by decide)
  have pcb : c * b' ≤ 4503733845098496 := Nat.le_trans (Nat.mul_le_mul h3 k2) (by decide)
  have pcc : c * c' ≤ 4503733845098496 := Nat.le_trans (Nat.mul_le_mul h3 k3) (by decide)
  have pcd : c * d' ≤ 4503733845098496 := Nat.le_trans (Nat.mul_le_mul h3 k4) (by decide)
  have pce : c * e' ≤ 4503733845098496 := Nat.le_trans (Nat.mul_le_mul h3 k5) (by decide)
  have pda : d * a' ≤ 4503733845098496 := Nat.le_trans (Nat.mul_le_mul h4 k1) (by decide)
  have pdb : d * b' ≤ 4503733845098496 := Nat.le_trans (Nat.mul_le_mul h4 k2) (by decide)
  have pdc : d * c' ≤ 4503733845098496 := Nat.le_trans (Nat.mul_le_mul h4 k3) (by decide)
  have pdd : d * d' ≤ 4503733845098496 := Nat.le_trans (Nat.mul_le_mul h4 k4) (by decide)
  have pde : d * e' ≤ 4503733845098496 := Nat.le_trans (Nat.mul_le_mul h4 k5) (by decide)
  have pea : e * a' ≤ 4503733845098496 := Nat.le_trans (Nat.mul_le_mul h5 k1) (by decide)
  have peb : e * b' ≤ 4503733845098496 := Nat.le_trans (Nat.mul_le_mul h5 k2) (by decide)
  have pec : e * c' ≤ 4503733845098496 := Nat.le_trans (Nat.mul_le_mul h5 k3) (by decide)
  have ped : e * d' ≤ 4503733845098496 := Nat.le_trans (Nat.mul_le_mul h5 k4) (by decide)
  have pee : e * e' ≤ 4503733845098496 := Nat.le_trans (Nat.mul_le_mul h5 k5) (by decide)
  rw [fn_text Try.func37 rfl rfl Try.results37 locM37 rfl rfl (by kernel_rfl)]
  simp -implicitDefEqProofs -dsimp +contextual (maxSteps := 5000000) (disch := first | omega | (simp only [go_sem] <;> omega) | (show indepB _ _ = true; refine id ?_; kernel_rfl)) only [go_sem, ↓reduceIte, Nat.reduceEqDiff, Nat.reduceBEq, Nat.reduceAdd, Nat.reduceSub, Nat.reduceLeDiff, Nat.reduceLT, Nat.reduceMul, Int.reduceNeg, Int.reduceLT, Int.reduceLE, Int.reduceAdd, Int.reduceSub, Int.reduceToNat, Int.reduceMul, Int.reduceMod, Int.reduceTMod, Int.reduceTDiv, Int.reduceEq, Nat.reducePow, Nat.reduceDiv, Nat.reduceShiftRight, Nat.reduceMod, List.reduceReplicate, kLoop_eq]
  rfl

end Go.Proofs.Ytdfkkfnjlcdjaaa
