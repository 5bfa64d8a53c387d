import Derived.Test.YtdfkkfnjlcdjaaaTPoly4
namespace Go.Proofs.Ytdfkkfnjlcdjaaa
open Go.Am
set_option linter.unusedSimpArgs false
set_option linter.unusedVariables false
set_option maxRecDepth 100000
/-! Layer 7: tags. -/
def writeB (n : Nm) : List UInt8 := (List.range 16).map fun i => UInt8.ofNat (n.val / 256 ^ i)
theorem ofNat8 (x y : Nat) (h : x % 256 = y % 256) : UInt8.ofNat x = UInt8.ofNat y := UInt8.toNat_inj.1 (by simpa using h)
theorem wr0 (a b c d e : Nat) (h1 : a < 67108864) (h2 : b < 67108864) (h3 : c < 67108864) (h4 : d < 67108864) (h5 : e < 67108864) : UInt8.ofNat (a / 1 ||| b * 67108864) = UInt8.ofNat ((a + b * 67108864 + c * 4503599627370496 + d * 302231454903657293676544 + e * 20282409603651670423947251286016)) := ofNat8 _ _ (by rw [or_low _ _ 26 (by omega) (by omega)]; omega)
theorem wr1 (a b c d e : Nat) (h1 : a < 67108864) (h2 : b < 67108864) (h3 : c < 67108864) (h4 : d < 67108864) (h5 : e < 67108864) : UInt8.ofNat (a / 256 ||| b * 262144) = UInt8.ofNat ((a + b * 67108864 + c * 4503599627370496 + d * 302231454903657293676544 + e * 20282409603651670423947251286016) / 256) := ofNat8 _ _ (by rw [or_low _ _ 18 (by omega) (by omega)]; omega)
theorem wr2 (a b c d e : Nat) (h1 : a < 67108864) (h2 : b < 67108864) (h3 : c < 67108864) (h4 : d < 67108864) (h5 : e < 67108864) : UInt8.ofNat (a / 65536 ||| b * 1024) = UInt8.ofNat ((a + b * 67108864 + c * 4503599627370496 + d * 302231454903657293676544 + e * 20282409603651670423947251286016) / 65536) := ofNat8 _ _ (by rw [or_low _ _ 10 (by omega) (by omega)]; omega)
theorem wr3 (a b c d e : Nat) (h1 : a < 67108864) (h2 : b < 67108864) (h3 : c < 67108864) (h4 : d < 67108864) (h5 : e < 67108864) : UInt8.ofNat (a / 16777216 ||| b * 4) = UInt8.ofNat ((a + b * 67108864 + c * 4503599627370496 + d * 302231454903657293676544 + e * 20282409603651670423947251286016) / 16777216) := ofNat8 _ _ (by rw [or_low _ _ 2 (by omega) (by omega)]; omega)
theorem wr4 (a b c d e : Nat) (h1 : a < 67108864) (h2 : b < 67108864) (h3 : c < 67108864) (h4 : d < 67108864) (h5 : e < 67108864) : UInt8.ofNat (b / 64 ||| c * 1048576) = UInt8.ofNat ((a + b * 67108864 + c * 4503599627370496 + d * 302231454903657293676544 + e * 20282409603651670423947251286016) / 4294967296) := ofNat8 _ _ (by rw [or_low _ _ 20 (by omega) (by omega)]; omega)
theorem wr5 (a b c d e : Nat) (h1 : a < 67108864) (h2 : b < 67108864) (h3 : c < 67108864) (h4 : d < 67108864) (h5 : e < 67108864) : UInt8.ofNat (b / 16384 ||| c * 4096) = UInt8.ofNat ((a + b * 67108864 + c * 4503599627370496 + d * 302231454903657293676544 + e * 20282409603651670423947251286016) / 1099511627776) := ofNat8 _ _ (by rw [or_low _ _ 12 (by omega) (by omega)]; omega)
theorem wr6 (a b c d e : Nat) (h1 : a < 67108864) (h2 : b < 67108864) (h3 : c < 67108864) (h4 : d < 67108864) (h5 : e < 67108864) : UInt8.ofNat (b / 4194304 ||| c * 16) = UInt8.ofNat ((a + b * 67108864 + c * 4503599627370496 + d * 302231454903657293676544 + e * 20282409603651670423947251286016) / 281474976710656) := ofNat8 _ _ (by rw [or_low _ _ 4 (by omega) (by omega)]; omega)
theorem wr7 (a b c d e : Nat) (h1 : a < 67108864) (h2 : b < 67108864) (h3 : c < 67108864) (h4 : d < 67108864) (h5 : e < 67108864) : UInt8.ofNat (c / 16 ||| d * 4194304) = UInt8.ofNat ((a + b * 67108864 + c * 4503599627370496 + d * 302231454903657293676544 + e * 20282409603651670423947251286016) / 72057594037927936) := ofNat8 _ _ (by rw [or_low _ _ 22 (by omega) (by omega)]; omega)
theorem wr8 (a b c d e : Nat) (h1 : a < 67108864) (h2 : b < 67108864) (h3 : c < 67108864) (h4 : d < 67108864) (h5 : e < 67108864) : UInt8.ofNat (c / 4096 ||| d * 16384) = UInt8.ofNat ((a + b * 67108864 + c * 4503599627370496 + d * 302231454903657293676544 + e * 20282409603651670423947251286016) / 18446744073709551616) := ofNat8 _ _ (by rw [or_low _ _ 14 (by omega) (by omega)]; omega)
theorem wr9 (a b c d e : Nat) (h1 : a < 67108864) (h2 : b < 67108864) (h3 : c < 67108864) (h4 : d < 67108864) (h5 : e < 67108864) : UInt8.ofNat (c / 1048576 ||| d * 64) = UInt8.ofNat ((a + b * 67108864 + c * 4503599627370496 + d * 302231454903657293676544 + e * 20282409603651670423947251286016) / 4722366482869645213696) := ofNat8 _ _ (by rw [or_low _ _ 6 (by omega) (by omega)]; omega)
theorem wr10 (a b c d e : Nat) (h1 : a < 67108864) (h2 : b < 67108864) (h3 : c < 67108864) (h4 : d < 67108864) (h5 : e < 67108864) : UInt8.ofNat (d / 4 ||| e * 16777216) = UInt8.ofNat ((a + b * 67108864 + c * 4503599627370496 + d * 302231454903657293676544 + e * 20282409603651670423947251286016) / 1208925819614629174706176) := ofNat8 _ _ (by rw [or_low _ _ 24 (by omega) (by omega)]; omega)
theorem wr11 (a b c d e : Nat) (h1 : a < 67108864) (h2 : b < 67108864) (h3 : c < 67108864) (h4 : d < 67108864) (h5 : e < 67108864) : UInt8.ofNat (d / 1024 ||| e * 65536) = UInt8.ofNat ((a + b * 67108864 + c * 4503599627370496 + d * 302231454903657293676544 + e * 20282409603651670423947251286016) / 309485009821345068724781056) := ofNat8 _ _ (by rw [or_low _ _ 16 (by omega) (by omega)]; omega)
theorem wr12 (a b c d e : Nat) (h1 : a < 67108864) (h2 : b < 67108864) (h3 : c < 67108864) (h4 : d < 67108864) (h5 : e < 67108864) : UInt8.ofNat (d / 262144 ||| e * 256) = UInt8.ofNat ((a + b * 67108864 + c * 4503599627370496 + d * 302231454903657293676544 + e * 20282409603651670423947251286016) / 79228162514264337593543950336) := ofNat8 _ _ (by rw [or_low _ _ 8 (by omega) (by omega)]; omega)
theorem wr13 (a b c d e : Nat) (h1 : a < 67108864) (h2 : b < 67108864) (h3 : c < 67108864) (h4 : d < 67108864) (h5 : e < 67108864) : UInt8.ofNat (e / 1) = UInt8.ofNat ((a + b * 67108864 + c * 4503599627370496 + d * 302231454903657293676544 + e * 20282409603651670423947251286016) / 20282409603651670423947251286016) := ofNat8 _ _ (by omega)
theorem wr14 (a b c d e : Nat) (h1 : a < 67108864) (h2 : b < 67108864) (h3 : c < 67108864) (h4 : d < 67108864) (h5 : e < 67108864) : UInt8.ofNat (e / 256) = UInt8.ofNat ((a + b * 67108864 + c * 4503599627370496 + d * 302231454903657293676544 + e * 20282409603651670423947251286016) / 5192296858534827628530496329220096) := ofNat8 _ _ (by omega)
theorem wr15 (a b c d e : Nat) (h1 : a < 67108864) (h2 : b < 67108864) (h3 : c < 67108864) (h4 : d < 67108864) (h5 : e < 67108864) : UInt8.ofNat (e / 65536) = UInt8.ofNat ((a + b * 67108864 + c * 4503599627370496 + d * 302231454903657293676544 + e * 20282409603651670423947251286016) / 1329227995784915872903807060280344576) := ofNat8 _ _ (by omega)

set_option maxHeartbeats 8000000 in
@[go_sem] theorem e41 (a b c d e : Nat) (h1 : a < 67108864) (h2 : b < 67108864) (h3 : c < 67108864) (h4 : d < 67108864) (h5 : e < 67108864) : fn C 41 [] [.agg [.int .u64 (a : Int), .int .u64 (b : Int), .int .u64 (c : Int), .int .u64 (d : Int), .int .u64 (e : Int)]] = some (.slice 1 ((writeB ⟨a, b, c, d, e⟩).map byteRow), []) := by
  rw [fn_text Try.func41 rfl rfl Try.results41 locM41 rfl rfl (by kernel_rfl)]
  simp -implicitDefEqProofs -dsimp +contextual (maxSteps := 5000000) (disch := first | omega | (simp only [go_sem] <;> omega) | (show indepB _ _ = true; refine id ?_; kernel_rfl)) only [go_sem, ↓reduceIte, Nat.reduceEqDiff, Nat.reduceBEq, Nat.reduceAdd, Nat.reduceSub, Nat.reduceLeDiff, Nat.reduceLT, Nat.reduceMul, Int.reduceNeg, Int.reduceLT, Int.reduceLE, Int.reduceAdd, Int.reduceSub, Int.reduceToNat, Int.reduceMul, Int.reduceMod, Int.reduceTMod, Int.reduceTDiv, Int.reduceEq, Nat.reducePow, Nat.reduceDiv, Nat.reduceShiftRight, Nat.reduceMod, List.reduceReplicate, kLoop_eq, u8_wrap]
  rw [wr0 a b c d e h1 h2 h3 h4 h5, wr1 a b c d e h1 h2 h3 h4 h5, wr2 a b c d e h1 h2 h3 h4 h5, wr3 a b c d e h1 h2 h3 h4 h5, wr4 a b c d e h1 h2 h3 h4 h5, wr5 a b c d e h1 h2 h3 h4 h5, wr6 a b c d e h1 h2 h3 h4 h5, wr7 a b c d e h1 h2 h3 h4 h5, wr8 a b c d e h1 h2 h3 h4 h5, wr9 a b c d e h1 h2 h3 h4 h5, wr10 a b c d e h1 h2 h3 h4 h5, wr11 a b c d e h1 h2 h3 h4 h5, wr12 a b c d e h1 h2 h3 h4 h5, wr13 a b c d e h1 h2 h3 h4 h5, wr14 a b c d e h1 h2 h3 h4 h5, wr15 a b c d e h1 h2 h3 h4 h5]
  simp only [writeB, Nm.val, show List.range 16 = [0, 1, 2, 3, 4, 5, 6, 7, 8, 9, 10, 11, 12, 13, 14, 15] from rfl, List.map_cons, List.map_nil, Nat.reducePow, Nat.div_one, byteRow]

theorem carryN_lt (n : Nm) (h : n.a < 67108864 ∧ n.b < 67110864 ∧ n.c < 67108864 ∧ n.d < 67108864 ∧ n.e < 67108864) : (carryN n).a < 67108864 ∧ (carryN n).b < 67108864 ∧ (carryN n).c < 67108864 ∧ (carryN n).d < 67108864 ∧ (carryN n).e < 67108864 := by
  obtain ⟨h1, h2, h3, h4, h5⟩ := h
  simp only [carryN]; omega
theorem leastN_lt (n : Nm) (h : n.le 1152921504606846976) : (leastN n).a < 67108864 ∧ (leastN n).b < 67108864 ∧ (leastN n).c < 67108864 ∧ (leastN n).d < 67108864 ∧ (leastN n).e < 67108864 := by
  have h1 := carryN_lt _ (carryN_le n h)
  simp only [leastN]
  obtain ⟨i1, i2, i3, i4, i5⟩ := carry5N_le (carryN (carryN n)) ⟨by omega, by omega, by omega, by omega, by omega⟩
  split
  · exact h1
  · simp only; omega
theorem readN_lt (v : Nat) : (readN v).a < 67108864 ∧ (readN v).b < 67108864 ∧ (readN v).c < 67108864 ∧ (readN v).d < 67108864 ∧ (readN v).e < 67108864 := by
  simp only [readN]; omega
def stepN (r n : Nm) (blk : List UInt8) : Nm := carryN (timesP (carryN (addN n (readN (leV (blk ++ [1]))))) r)
def tagAcc (r : Nm) : Nat → Nm → List UInt8 → Nm
  | 0, n, _ => n
  | k + 1, n, msg => if msg = [] then n else tagAcc r k (stepN r n (msg.take 16)) (msg.drop 16)
def Okn (n : Nm) : Prop := n.a < 67108864 ∧ n.b < 67110864 ∧ n.c < 67108864 ∧ n.d < 67108864 ∧ n.e < 67108864
theorem mid_lt (n : Nm) (v : Nat) (h : Okn n) : Okn (carryN (addN n (readN v))) := by
  have h2 := readN_lt v
  obtain ⟨a1, a2, a3, a4, a5⟩ := h
  refine carryN_le _ ⟨?_, ?_, ?_, ?_, ?_⟩ <;> simp only [addN] <;> omega
theorem prod_le (m r : Nm) (hm : Okn m) (hr : r.a < 67108864 ∧ r.b < 67108864 ∧ r.c < 67108864 ∧ r.d < 67108864 ∧ r.e < 67108864) : (timesP m r).le 1152921504606846976 := by
  obtain ⟨h1, h2, h3, h4, h5⟩ := hm
  obtain ⟨k1, k2, k3, k4, k5⟩ := hr
  have paa : m.a * r.a ≤ 4503733845098496 := Nat.le_trans (Nat.mul_le_mul (Nat.le_of_lt (Nat.lt_trans h1 (by decide : 67108864 < 67110864))) (Nat.le_of_lt k1)) (by decide)
  have pab : m.a * r.b ≤ 4503733845098496 := Nat.le_trans (Nat.mul_le_mul (Nat.le_of_lt (Nat.lt_trans h1 (by decide : 67108864 < 67110864))) (Nat.le_of_lt k2)) (by decide)
  have pac : m.a * r.c ≤ 4503733845098496 := Nat.le_trans (Nat.mul_le_mul (Nat.le_of_lt (Nat.lt_trans h1 (by decide : 67108864 < 67110864))) (Nat.le_of_lt k3)) (by decide)
  have pad : m.a * r.d ≤ 4503733845098496 := Nat.le_trans (Nat.mul_le_mul (Nat.le_of_lt (Nat.lt_trans h1 (by decide : 67108864 < 67110864))) (Nat.le_of_lt k4)) (by decide)
  have pae : m.a * r.e ≤ 4503733845098496 := Nat.le_trans (Nat.mul_le_mul (Nat.le_of_lt (Nat.lt_trans h1 (by decide : 67108864 < 67110864))) (Nat.le_of_lt k5)) (by decide)
  have pba : m.b * r.a ≤ 4503733845098496 := Nat.le_trans (Nat.mul_le_mul (Nat.le_of_lt h2) (Nat.le_of_lt k1)) (by decide)
  have pbb : m.b * r.b ≤ 4503733845098496 := Nat.le_trans (Nat.mul_le_mul (Nat.le_of_lt h2) (Nat.le_of_lt k2)) (by decide)
  have pbc : m.b * r.c ≤ 4503733845098496 := Nat.le_trans (Nat.mul_le_mul (Nat.le_of_lt h2) (Nat.le_of_lt k3)) (by decide)
  have pbd : m.b * r.d ≤ 4503733845098496 := Nat.le_trans (Nat.mul_le_mul (Nat.le_of_lt h2) (Nat.le_of_lt k4)) (by decide)
  have pbe : m.b * r.e ≤ 4503733845098496 := Nat.le_trans (Nat.mul_le_mul (Nat.le_of_lt h2) (Nat.le_of_lt k5)) (by decide)
  have pca : m.c * r.a ≤ 4503733845098496 := Nat.le_trans (Nat.mul_le_mul (Nat.le_of_lt (Nat.lt_trans h3 (by decide : 67108864 < 67110864))) (Nat.le_of_lt k1)) (by decide)
  have pcb : m.c * r.b ≤ 4503733845098496 := Nat.le_trans (Nat.mul_le_mul (Nat.le_of_lt (Nat.lt_trans h3 (by decide : 67108864 < 67110864))) (Nat.le_of_lt k2)) (by decide)
  have pcc : m.c * r.c ≤ 4503733845098496 := Nat.le_trans (Nat.mul_le_mul (Nat.le_of_lt (Nat.lt_trans h3 (by decide : 67108864 < 67110864))) (Nat.le_of_lt k3)) (by decide)
  have pcd : m.c * r.d ≤ 4503733845098496 := Nat.le_trans (Nat.mul_le_mul (Nat.le_of_lt (Nat.lt_trans h3 (by decide : 67108864 < 67110864))) (Nat.le_of_lt k4)) (by decide)
  have pce : m.c * r.e ≤ 4503733845098496 := Nat.le_trans (Nat.mul_le_mul (Nat.le_of_lt (Nat.lt_trans h3 (by decide : 67108864 < 67110864))) (Nat.le_of_lt k5)) (by decide)
  have pda : m.d * r.a ≤ 4503733845098496 := Nat.le_trans (Nat.mul_le_mul (Nat.le_of_lt (Nat.lt_trans h4 (by decide : 67108864 < 67110864))) (Nat.le_of_lt k1)) (by decide)
  have pdb : m.d * r.b ≤ 4503733845098496 := Nat.le_trans (Nat.mul_le_mul (Nat.le_of_lt (Nat.lt_trans h4 (by decide : 67108864 < 67110864))) (Nat.le_of_lt k2)) (by decide)
  have pdc : m.d * r.c ≤ 4503733845098496 := Nat.le_trans (Nat.mul_le_mul (Nat.le_of_lt (Nat.lt_trans h4 (by decide : 67108864 < 67110864))) (Nat.le_of_lt k3)) (by decide)
  have pdd : m.d * r.d ≤ 4503733845098496 := Nat.le_trans (Nat.mul_le_mul (Nat.le_of_lt (Nat.lt_trans h4 (by decide : 67108864 < 67110864))) (Nat.le_of_lt k4)) (by decide)
  have pde : m.d * r.e ≤ 4503733845098496 := Nat.le_trans (Nat.mul_le_mul (Nat.le_of_lt (Nat.lt_trans h4 (by decide : 67108864 < 67110864))) (Nat.le_of_lt k5)) (by decide)
  have pea : m.e * r.a ≤ 4503733845098496 := Nat.le_trans (Nat.mul_le_mul (Nat.le_of_lt (Nat.lt_trans h5 (by decide : 67108864 < 67110864))) (Nat.le_of_lt k1)) (by decide)
  have peb : m.e * r.b ≤ 4503733845098496 := Nat.le_trans (Nat.mul_le_mul (Nat.le_of_lt (Nat.lt_trans h5 (by decide : 67108864 < 67110864))) (Nat.le_of_lt k2)) (by decide)
  have pec : m.e * r.c ≤ 4503733845098496 := Nat.le_trans (Nat.mul_le_mul (Nat.le_of_lt (Nat.lt_trans h5 (by decide : 67108864 < 67110864))) (Nat.le_of_lt k3)) (by decide)
  have ped : m.e * r.d ≤ 4503733845098496 := Nat.le_trans (Nat.mul_le_mul (Nat.le_of_lt (Nat.lt_trans h5 (by decide : 67108864 < 67110864))) (Nat.le_of_lt k4)) (by decide)
  have pee : m.e * r.e ≤ 4503733845098496 := Nat.le_trans (Nat.mul_le_mul (Nat.le_of_lt (Nat.lt_trans h5 (by decide : 67108864 < 67110864))) (Nat.le_of_lt k5)) (by decide)
  refine ⟨?_, ?_, ?_, ?_, ?_⟩ <;> simp only [timesP] <;> omega
theorem stepN_lt (r n : Nm) (blk : List UInt8) (h : Okn n) (hr : r.a < 67108864 ∧ r.b < 67108864 ∧ r.c < 67108864 ∧ r.d < 67108864 ∧ r.e < 67108864) : Okn (stepN r n blk) := carryN_le _ (prod_le _ _ (mid_lt _ _ h) hr)

end Go.Proofs.Ytdfkkfnjlcdjaaa
