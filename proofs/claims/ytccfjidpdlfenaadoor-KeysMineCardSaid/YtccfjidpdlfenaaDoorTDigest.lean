import Derived.Test.YtccfjidpdlfenaaDoorTRot
namespace Go.Proofs.YtccfjidpdlfenaaDoor
open Go.Am
set_option linter.unusedSimpArgs false
set_option linter.unusedVariables false
set_option maxRecDepth 100000
/-! Layer 3: words. -/
def rr (x : UInt32) (k : Nat) : UInt32 := rotl x (32 - k)
def sg0 (x : UInt32) : UInt32 := rr x 7 ^^^ rr x 18 ^^^ W32.shr x 3
def sg1 (x : UInt32) : UInt32 := rr x 17 ^^^ rr x 19 ^^^ W32.shr x 10
def wRow (x : UInt32) : List AVal := [.int .u32 (x.toNat : Int)]
@[go_sem] theorem e155 (x : UInt32) (k : Nat) (h1 : 1 ≤ k) (h2 : k ≤ 31) : fn C 155 [] [.int .u32 (x.toNat : Int), .int .i64 (k : Int)] = some (.int .u32 ((rr x k).toNat : Int), []) := by
  have e := e167 x (-(k : Int)) (by omega) (by omega)
  rw [show ((-(k : Int)) % 32).toNat = 32 - k by omega] at e
  rw [fn_text Tryd.func155 rfl rfl Tryd.results155 locM155 rfl rfl (by kernel_rfl)]
  simp -implicitDefEqProofs -dsimp +contextual (maxSteps := 5000000) (disch := first | omega | (simp only [go_sem] <;> omega) | (show indepB _ _ = true; refine id ?_; kernel_rfl)) only [go_sem, ↓reduceIte, Nat.reduceEqDiff, Nat.reduceBEq, Nat.reduceAdd, Nat.reduceSub, Nat.reduceLeDiff, Nat.reduceLT, Nat.reduceMul, Int.reduceNeg, Int.reduceLT, Int.reduceLE, Int.reduceAdd, Int.reduceSub, Int.reduceToNat, Int.reduceMul, Int.reduceMod, Int.reduceTMod, Int.reduceTDiv, Int.reduceEq, Nat.reducePow, Nat.reduceDiv, Nat.reduceShiftRight, Nat.reduceMod, List.reduceReplicate, e, Int.zero_sub]
  rfl

@[go_sem] theorem e_dright_lit (x : UInt32) (k : Nat) (h1 : 1 ≤ OfNat.ofNat k) (h2 : OfNat.ofNat k ≤ 31) : fn C 155 [] [.int .u32 (x.toNat : Int), .int .i64 (no_index (OfNat.ofNat k : Int))] = some (.int .u32 ((rr x (OfNat.ofNat k)).toNat : Int), []) := e155 x (OfNat.ofNat k) h1 h2

@[go_sem] theorem e156 (x : UInt32) (k : Nat) (h1 : 1 ≤ k) (h2 : k ≤ 31) : fn C 156 [] [.int .u32 (x.toNat : Int), .int .u64 (k : Int)] = some (.int .u32 ((rr x k).toNat : Int), []) := by
  have e32 : (32 : Int) - (k : Int) = ((32 - k : Nat) : Int) := by omega
  rw [fn_text Tryd.func156 rfl rfl Tryd.results156 locM156 rfl rfl (by kernel_rfl)]
  simp -implicitDefEqProofs -dsimp +contextual (maxSteps := 5000000) (disch := first | omega | (simp only [go_sem] <;> omega) | (show indepB _ _ = true; refine id ?_; kernel_rfl)) only [go_sem, ↓reduceIte, Nat.reduceEqDiff, Nat.reduceBEq, Nat.reduceAdd, Nat.reduceSub, Nat.reduceLeDiff, Nat.reduceLT, Nat.reduceMul, Int.reduceNeg, Int.reduceLT, Int.reduceLE, Int.reduceAdd, Int.reduceSub, Int.reduceToNat, Int.reduceMul, Int.reduceMod, Int.reduceTMod, Int.reduceTDiv, Int.reduceEq, Nat.reducePow, Nat.reduceDiv, Nat.reduceShiftRight, Nat.reduceMod, List.reduceReplicate, e32]
  rw [show W32.shr x k ||| W32.shl x (32 - k) = rr x k by rw [rr, rotl, UInt32.or_comm, show 32 - (32 - k) = k by omega]]

@[go_sem] theorem e_r03right_lit (x : UInt32) (k : Nat) (h1 : 1 ≤ OfNat.ofNat k) (h2 : OfNat.ofNat k ≤ 31) : fn C 156 [] [.int .u32 (x.toNat : Int), .int .u64 (no_index (OfNat.ofNat k : Int))] = some (.int .u32 ((rr x (OfNat.ofNat k)).toNat : Int), []) := e156 x (OfNat.ofNat k) h1 h2

def be4 (a b c d : UInt8) : UInt32 := ((W32.shl a.toUInt32 24 ||| W32.shl b.toUInt32 16) ||| W32.shl c.toUInt32 8) ||| d.toUInt32
theorem or_add (a b k : Nat) (h : b < 2 ^ k) : a * 2 ^ k ||| b = a * 2 ^ k + b := by
  rw [← Nat.shiftLeft_eq, Nat.shiftLeft_add_eq_or_of_lt h]
theorem be4_sum (a b c d : UInt8) : (be4 a b c d).toNat = a.toNat * 16777216 + b.toNat * 65536 + c.toNat * 256 + d.toNat := by
  have ha := u8_lt a; have hb := u8_lt b; have hc := u8_lt c; have hd := u8_lt d
  simp only [be4, W32.shl, UInt32.toNat_or, UInt8.toNat_toUInt32, UInt32.toNat_ofNat']
  rw [Nat.mod_eq_of_lt (show a.toNat * 2 ^ 24 < 2 ^ 32 by omega), Nat.mod_eq_of_lt (show b.toNat * 2 ^ 16 < 2 ^ 32 by omega), Nat.mod_eq_of_lt (show c.toNat * 2 ^ 8 < 2 ^ 32 by omega)]
  rw [or_add _ _ _ (by omega), show a.toNat * 2 ^ 24 + b.toNat * 2 ^ 16 = (a.toNat * 256 + b.toNat) * 2 ^ 16 by omega, or_add _ _ _ (by omega), show (a.toNat * 256 + b.toNat) * 2 ^ 16 + c.toNat * 2 ^ 8 = ((a.toNat * 256 + b.toNat) * 256 + c.toNat) * 2 ^ 8 by omega, or_add _ _ _ (by omega)]
theorem be4_num (a b c d : UInt8) : a.toUInt32 * UInt32.ofNat 16777216 + b.toUInt32 * UInt32.ofNat 65536 + c.toUInt32 * UInt32.ofNat 256 + d.toUInt32 = be4 a b c d := by
  have ha := u8_lt a; have hb := u8_lt b; have hc := u8_lt c; have hd := u8_lt d
  apply UInt32.toNat_inj.1
  rw [be4_sum]
  simp only [UInt32.toNat_add, UInt32.toNat_mul, UInt8.toNat_toUInt32, UInt32.toNat_ofNat']
  omega
def numB (l : List UInt8) : UInt32 := be4 (l.getD 0 0) (l.getD 1 0) (l.getD 2 0) (l.getD 3 0)
theorem four_of (b : List UInt8) (h : 4 ≤ b.length) : ∃ x y z w r, b = x :: y :: z :: w :: r := by
  match b, h with
  | x :: y :: z :: w :: r, _ => exact ⟨x, y, z, w, r, rfl⟩
@[go_sem] theorem e118 (b : List UInt8) (h : 4 ≤ b.length) : fn C 118 [] [.slice 1 (b.map byteRow)] = some (.int .u32 ((numB b).toNat : Int), []) := by
  obtain ⟨x, y, z, w, r, rfl⟩ := four_of b h
  rw [fn_text Tryd.func118 rfl rfl Tryd.results118 locM118 rfl rfl (by kernel_rfl)]
  simp -implicitDefEqProofs -dsimp +contextual (maxSteps := 5000000) (disch := first | omega | (simp only [go_sem] <;> omega) | (show indepB _ _ = true; refine id ?_; kernel_rfl)) only [go_sem, ↓reduceIte, Nat.reduceEqDiff, Nat.reduceBEq, Nat.reduceAdd, Nat.reduceSub, Nat.reduceLeDiff, Nat.reduceLT, Nat.reduceMul, Int.reduceNeg, Int.reduceLT, Int.reduceLE, Int.reduceAdd, Int.reduceSub, Int.reduceToNat, Int.reduceMul, Int.reduceMod, Int.reduceTMod, Int.reduceTDiv, Int.reduceEq, Nat.reducePow, Nat.reduceDiv, Nat.reduceShiftRight, Nat.reduceMod, List.reduceReplicate]
  rw [show numB (x :: y :: z :: w :: r) = be4 x y z w from rfl, ← be4_num]

end Go.Proofs.YtccfjidpdlfenaaDoor
