import Derived.Test.YtdfkkfnjlcdjaaaTOwn
namespace Go.Proofs.Ytdfkkfnjlcdjaaa
open Go.Am
set_option linter.unusedSimpArgs false
set_option linter.unusedVariables false
set_option maxRecDepth 100000
/-! Layer 6: words turned, mixed. -/
def rotl (x : UInt32) (m : Nat) : UInt32 := W32.shl x m ||| W32.shr x (32 - m)
def q4 (a b c d : UInt32) : UInt32 × UInt32 × UInt32 × UInt32 :=
  let a := a + b
  let d := rotl (d ^^^ a) 16
  let c := c + d
  let b := rotl (b ^^^ c) 12
  let a := a + b
  let d := rotl (d ^^^ a) 8
  let c := c + d
  let b := rotl (b ^^^ c) 7
  (a, b, c, d)
def le4 (a b c d : UInt8) : UInt32 := ((a.toUInt32 ||| W32.shl b.toUInt32 8) ||| W32.shl c.toUInt32 16) ||| W32.shl d.toUInt32 24
def wordOf (b : List UInt8) : UInt32 := le4 (b.getD 0 0) (b.getD 1 0) (b.getD 2 0) (b.getD 3 0)
def firstW (key nonce : List UInt8) (ctr : UInt32) : List UInt32 := [1634760805, 857760878, 2036477234, 1797285236, wordOf key, wordOf (key.drop 4), wordOf (key.drop 8), wordOf (key.drop 12), wordOf (key.drop 16), wordOf (key.drop 20), wordOf (key.drop 24), wordOf (key.drop 28), ctr, wordOf nonce, wordOf (nonce.drop 4), wordOf (nonce.drop 8)]

theorem and31 (n : Int) (h : 0 ≤ n) (h2 : n ≤ 18446744073709551615) (P : Program) (t : TypeId) : binV P .and t (.int .u64 n) (.int .u64 31) = some (.int .u64 (n % 32)) := by
  obtain ⟨m, rfl⟩ := Int.eq_ofNat_of_zero_le h
  have e : binV P .and t (.int .u64 (m : Int)) (.int .u64 31) = some (.int .u64 (IntKind.u64.wrap (((BitVec.ofInt 64 (m : Int)) &&& (BitVec.ofInt 64 ((31 : Nat) : Int))).toNat : Int))) := rfl
  rw [e, BitVec.ofInt_natCast, BitVec.ofInt_natCast, BitVec.toNat_and, BitVec.toNat_ofNat, BitVec.toNat_ofNat, Nat.mod_eq_of_lt (show m < 2 ^ 64 by omega), show (31 : Nat) % 2 ^ 64 = 2 ^ 5 - 1 by decide, Nat.and_two_pow_sub_one_eq_mod, IntKind.wrap_u64]
  congr 2; omega

@[go_sem] theorem e59 (x : UInt32) (n : Int) (h1 : -1000 ≤ n) (h2 : n ≤ 1000) : fn C 59 [] [.int .u32 (x.toNat : Int), .int .i64 n] = some (.int .u32 ((rotl x (n % 32).toNat).toNat : Int), []) := by
  have hw : IntKind.u64.wrap n % 32 = n % 32 := by rw [IntKind.wrap_u64]; omega
  have hw1 : 0 ≤ IntKind.u64.wrap n := by rw [IntKind.wrap_u64]; omega
  have hw2 : IntKind.u64.wrap n ≤ 18446744073709551615 := by rw [IntKind.wrap_u64]; omega
  obtain ⟨m, hm⟩ := Int.eq_ofNat_of_zero_le (show 0 ≤ n % 32 by omega)
  have a31 := fun P t => and31 (IntKind.u64.wrap n) hw1 hw2 P t
  rw [hw, hm] at a31
  have hm32 : m < 32 := by omega
  have e32 : (32 : Int) - (m : Int) = ((32 - m : Nat) : Int) := by omega
  rw [fn_text Try.func59 rfl rfl Try.results59 locM59 rfl rfl (by kernel_rfl)]
  simp -implicitDefEqProofs -dsimp +contextual (maxSteps := 5000000) (disch := first | omega | (simp only [go_sem] <;> omega) | (show indepB _ _ = true; refine id ?_; kernel_rfl)) only [go_sem, ↓reduceIte, Nat.reduceEqDiff, Nat.reduceBEq, Nat.reduceAdd, Nat.reduceSub, Nat.reduceLeDiff, Nat.reduceLT, Nat.reduceMul, Int.reduceNeg, Int.reduceLT, Int.reduceLE, Int.reduceAdd, Int.reduceSub, Int.reduceToNat, Int.reduceMul, Int.reduceMod, Int.reduceTMod, Int.reduceTDiv, Int.reduceEq, Nat.reducePow, Nat.reduceDiv, Nat.reduceShiftRight, Nat.reduceMod, List.reduceReplicate, a31, hm, e32]
  rfl

@[go_sem] theorem e58 (a b c d : UInt32) : fn C 58 [] [.int .u32 (a.toNat : Int), .int .u32 (b.toNat : Int), .int .u32 (c.toNat : Int), .int .u32 (d.toNat : Int)] = some (.tup [.int .u32 ((q4 a b c d).1.toNat : Int), .int .u32 ((q4 a b c d).2.1.toNat : Int), .int .u32 ((q4 a b c d).2.2.1.toNat : Int), .int .u32 ((q4 a b c d).2.2.2.toNat : Int)], []) := by
  rw [fn_text Try.func58 rfl rfl Try.results58 locM58 rfl rfl (by kernel_rfl)]
  simp -implicitDefEqProofs -dsimp +contextual (maxSteps := 5000000) (disch := first | omega | (simp only [go_sem] <;> omega) | (show indepB _ _ = true; refine id ?_; kernel_rfl)) only [go_sem, ↓reduceIte, Nat.reduceEqDiff, Nat.reduceBEq, Nat.reduceAdd, Nat.reduceSub, Nat.reduceLeDiff, Nat.reduceLT, Nat.reduceMul, Int.reduceNeg, Int.reduceLT, Int.reduceLE, Int.reduceAdd, Int.reduceSub, Int.reduceToNat, Int.reduceMul, Int.reduceMod, Int.reduceTMod, Int.reduceTDiv, Int.reduceEq, Nat.reducePow, Nat.reduceDiv, Nat.reduceShiftRight, Nat.reduceMod, List.reduceReplicate]
  rfl

@[go_sem] theorem e54 (x : UInt32) (m : Nat) (h : m ≤ 32) : fn C 54 [] [.int .u32 (x.toNat : Int), .int .u64 (m : Int)] = some (.int .u32 ((rotl x m).toNat : Int), []) := by
  have e32 : (32 : Int) - (m : Int) = ((32 - m : Nat) : Int) := by omega
  rw [fn_text Try.func54 rfl rfl Try.results54 locM54 rfl rfl (by kernel_rfl)]
  simp -implicitDefEqProofs -dsimp +contextual (maxSteps := 5000000) (disch := first | omega | (simp only [go_sem] <;> omega) | (show indepB _ _ = true; refine id ?_; kernel_rfl)) only [go_sem, ↓reduceIte, Nat.reduceEqDiff, Nat.reduceBEq, Nat.reduceAdd, Nat.reduceSub, Nat.reduceLeDiff, Nat.reduceLT, Nat.reduceMul, Int.reduceNeg, Int.reduceLT, Int.reduceLE, Int.reduceAdd, Int.reduceSub, Int.reduceToNat, Int.reduceMul, Int.reduceMod, Int.reduceTMod, Int.reduceTDiv, Int.reduceEq, Nat.reducePow, Nat.reduceDiv, Nat.reduceShiftRight, Nat.reduceMod, List.reduceReplicate, e32]
  rfl

@[go_sem] theorem eleft_lit (x : UInt32) (m : Nat) (h : OfNat.ofNat m ≤ 32) : fn C 54 [] [.int .u32 (x.toNat : Int), .int .u64 (no_index (OfNat.ofNat m : Int))] = some (.int .u32 ((rotl x (OfNat.ofNat m)).toNat : Int), []) := e54 x (OfNat.ofNat m) h

@[go_sem] theorem e44 (a b c d : UInt32) : fn C 44 [] [.int .u32 (a.toNat : Int), .int .u32 (b.toNat : Int), .int .u32 (c.toNat : Int), .int .u32 (d.toNat : Int)] = some (.tup [.int .u32 ((q4 a b c d).1.toNat : Int), .int .u32 ((q4 a b c d).2.1.toNat : Int), .int .u32 ((q4 a b c d).2.2.1.toNat : Int), .int .u32 ((q4 a b c d).2.2.2.toNat : Int)], []) := by
  rw [fn_text Try.func44 rfl rfl Try.results44 locM44 rfl rfl (by kernel_rfl)]
  simp -implicitDefEqProofs -dsimp +contextual (maxSteps := 5000000) (disch := first | omega | (simp only [go_sem] <;> omega) | (show indepB _ _ = true; refine id ?_; kernel_rfl)) only [go_sem, ↓reduceIte, Nat.reduceEqDiff, Nat.reduceBEq, Nat.reduceAdd, Nat.reduceSub, Nat.reduceLeDiff, Nat.reduceLT, Nat.reduceMul, Int.reduceNeg, Int.reduceLT, Int.reduceLE, Int.reduceAdd, Int.reduceSub, Int.reduceToNat, Int.reduceMul, Int.reduceMod, Int.reduceTMod, Int.reduceTDiv, Int.reduceEq, Nat.reducePow, Nat.reduceDiv, Nat.reduceShiftRight, Nat.reduceMod, List.reduceReplicate, kLoop_eq]
  rfl

attribute [irreducible] q4

@[go_sem] theorem e24 (key nonce : List UInt8) : fn C 24 [] [.slice 1 (key.map byteRow), .slice 1 (nonce.map byteRow)] = some (.bool (decide (key.length = 32) && decide (nonce.length = 12)), []) := by
  rw [fn_text Try.func24 rfl rfl Try.results24 locM24 rfl rfl (by kernel_rfl)]
  simp -implicitDefEqProofs -dsimp +contextual (maxSteps := 5000000) (disch := first | omega | (simp only [go_sem] <;> omega) | (show indepB _ _ = true; refine id ?_; kernel_rfl)) only [go_sem, ↓reduceIte, Nat.reduceEqDiff, Nat.reduceBEq, Nat.reduceAdd, Nat.reduceSub, Nat.reduceLeDiff, Nat.reduceLT, Nat.reduceMul, Int.reduceNeg, Int.reduceLT, Int.reduceLE, Int.reduceAdd, Int.reduceSub, Int.reduceToNat, Int.reduceMul, Int.reduceMod, Int.reduceTMod, Int.reduceTDiv, Int.reduceEq, Nat.reducePow, Nat.reduceDiv, Nat.reduceShiftRight, Nat.reduceMod, List.reduceReplicate]
  (repeat' (refine kD_intro (fun _ => ?_) (fun _ => ?_))) <;> exact Res_bool (by simp [*])

theorem four (b : List UInt8) (h : 4 ≤ b.length) : ∃ x y z w r, b = x :: y :: z :: w :: r := by
  match b, h with
  | x :: y :: z :: w :: r, _ => exact ⟨x, y, z, w, r, rfl⟩

@[go_sem] theorem e33 (b : List UInt8) (h : 4 ≤ b.length) : fn C 33 [] [.slice 1 (b.map byteRow)] = some (.int .u32 ((wordOf b).toNat : Int), []) := by
  obtain ⟨x, y, z, w, r, rfl⟩ := four b h
  rw [fn_text Try.func33 rfl rfl Try.results33 locM33 rfl rfl (by kernel_rfl)]
  simp -implicitDefEqProofs -dsimp +contextual (maxSteps := 5000000) (disch := first | omega | (simp only [go_sem] <;> omega) | (show indepB _ _ = true; refine id ?_; kernel_rfl)) only [go_sem, ↓reduceIte, Nat.reduceEqDiff, Nat.reduceBEq, Nat.reduceAdd, Nat.reduceSub, Nat.reduceLeDiff, Nat.reduceLT, Nat.reduceMul, Int.reduceNeg, Int.reduceLT, Int.reduceLE, Int.reduceAdd, Int.reduceSub, Int.reduceToNat, Int.reduceMul, Int.reduceMod, Int.reduceTMod, Int.reduceTDiv, Int.reduceEq, Nat.reducePow, Nat.reduceDiv, Nat.reduceShiftRight, Nat.reduceMod, List.reduceReplicate]
  rfl

theorem orAdd (a b k : Nat) (h : b < 2 ^ k) : a * 2 ^ k ||| b = a * 2 ^ k + b := by
  rw [← Nat.shiftLeft_eq, Nat.shiftLeft_add_eq_or_of_lt h]
theorem le4_sum (a b c d : UInt8) : (le4 a b c d).toNat = a.toNat + b.toNat * 256 + c.toNat * 65536 + d.toNat * 16777216 := by
  have ha := u8_lt a; have hb := u8_lt b; have hc := u8_lt c; have hd := u8_lt d
  simp only [le4, W32.shl, UInt32.toNat_or, UInt8.toNat_toUInt32, UInt32.toNat_ofNat']
  rw [Nat.mod_eq_of_lt (show b.toNat * 2 ^ 8 < 2 ^ 32 by omega), Nat.mod_eq_of_lt (show c.toNat * 2 ^ 16 < 2 ^ 32 by omega), Nat.mod_eq_of_lt (show d.toNat * 2 ^ 24 < 2 ^ 32 by omega)]
  rw [Nat.or_comm a.toNat, orAdd _ _ _ (by omega), Nat.or_comm _ (c.toNat * 2 ^ 16), orAdd _ _ _ (by omega), Nat.or_comm _ (d.toNat * 2 ^ 24), orAdd _ _ _ (by omega)]
  omega
theorem word_sum (a b c d : UInt8) : (d.toUInt32 * UInt32.ofNat 16777216 + c.toUInt32 * UInt32.ofNat 65536 + b.toUInt32 * UInt32.ofNat 256 + a.toUInt32) = le4 a b c d := by
  have ha := u8_lt a; have hb := u8_lt b; have hc := u8_lt c; have hd := u8_lt d
  apply UInt32.toNat_inj.1
  rw [le4_sum]
  simp only [UInt32.toNat_add, UInt32.toNat_mul, UInt8.toNat_toUInt32, UInt32.toNat_ofNat']
  omega

@[go_sem] theorem e43 (b : List UInt8) (h : 4 ≤ b.length) : fn C 43 [] [.slice 1 (b.map byteRow)] = some (.int .u32 ((wordOf b).toNat : Int), []) := by
  obtain ⟨x, y, z, w, r, rfl⟩ := four b h
  rw [fn_text Try.func43 rfl rfl Try.results43 locM43 rfl rfl (by kernel_rfl)]
  simp -implicitDefEqProofs -dsimp +contextual (maxSteps := 5000000) (disch := first | omega | (simp only [go_sem] <;> omega) | (show indepB _ _ = true; refine id ?_; kernel_rfl)) only [go_sem, ↓reduceIte, Nat.reduceEqDiff, Nat.reduceBEq, Nat.reduceAdd, Nat.reduceSub, Nat.reduceLeDiff, Nat.reduceLT, Nat.reduceMul, Int.reduceNeg, Int.reduceLT, Int.reduceLE, Int.reduceAdd, Int.reduceSub, Int.reduceToNat, Int.reduceMul, Int.reduceMod, Int.reduceTMod, Int.reduceTDiv, Int.reduceEq, Nat.reducePow, Nat.reduceDiv, Nat.reduceShiftRight, Nat.reduceMod, List.reduceReplicate]
  rw [show wordOf (x :: y :: z :: w :: r) = le4 x y z w from rfl, ← word_sum]
theorem word_take (b : List UInt8) (h : 4 ≤ b.length) : wordOf (b.take 4) = wordOf b := by
  obtain ⟨x, y, z, w, r, rfl⟩ := four b h
  rfl

set_option maxHeartbeats 4000000 in
@[go_sem] theorem e25 (key nonce : List UInt8) (ctr : UInt32) (hk : key.length = 32) (hn : nonce.length = 12) : fn C 25 [] [.slice 1 (key.map byteRow), .slice 1 (nonce.map byteRow), .int .u32 (ctr.toNat : Int)] = some (.agg ((firstW key nonce ctr).map w32), []) := by
  rw [fn_text Try.func25 rfl rfl Try.results25 locM25 rfl rfl (by kernel_rfl)]
  simp -implicitDefEqProofs -dsimp +contextual (maxSteps := 5000000) (disch := first | omega | (simp only [go_sem] <;> omega) | (show indepB _ _ = true; refine id ?_; kernel_rfl)) only [go_sem, ↓reduceIte, Nat.reduceEqDiff, Nat.reduceBEq, Nat.reduceAdd, Nat.reduceSub, Nat.reduceLeDiff, Nat.reduceLT, Nat.reduceMul, Int.reduceNeg, Int.reduceLT, Int.reduceLE, Int.reduceAdd, Int.reduceSub, Int.reduceToNat, Int.reduceMul, Int.reduceMod, Int.reduceTMod, Int.reduceTDiv, Int.reduceEq, Nat.reducePow, Nat.reduceDiv, Nat.reduceShiftRight, Nat.reduceMod, List.reduceReplicate, kLoop_eq, hk, hn]
  rfl

def qAt (ws : List UInt32) (i j k l : Nat) : List UInt32 :=
  let r := q4 (ws.getD i 0) (ws.getD j 0) (ws.getD k 0) (ws.getD l 0)
  (((ws.set i r.1).set j r.2.1).set k r.2.2.1).set l r.2.2.2
theorem qAt_len (ws : List UInt32) (i j k l : Nat) : (qAt ws i j k l).length = ws.length := by simp [qAt]
theorem qAt_eq (ws : List UInt32) (i j k l : Nat) (hi : i < ws.length) (hj : j < ws.length) (hk : k < ws.length) (hl : l < ws.length) :
    (((ws.set i (q4 ws[i] ws[j] ws[k] ws[l]).1).set j (q4 ws[i] ws[j] ws[k] ws[l]).2.1).set k (q4 ws[i] ws[j] ws[k] ws[l]).2.2.1).set l (q4 ws[i] ws[j] ws[k] ws[l]).2.2.2 = qAt ws i j k l := by
  simp [qAt, hi, hj, hk, hl]

@[go_sem] theorem e51 (ws : List UInt32) (i j k l : Nat) (h : ws.length = 16) (hi : i < 16) (hj : j < 16) (hk : k < 16) (hl : l < 16) : fn C 51 [] [.agg (ws.map w32), .int .i64 (i : Int), .int .i64 (j : Int), .int .i64 (k : Int), .int .i64 (l : Int)] = some (.agg ((qAt ws i j k l).map w32), []) := by
  rw [fn_text Try.func51 rfl rfl Try.results51 locM51 rfl rfl (okArgs_of (by kernel_rfl) (by kernel_rfl) (by simp only [go_sem]) rfl)]
  simp -implicitDefEqProofs -dsimp +contextual (maxSteps := 5000000) (disch := first | omega | (simp only [go_sem] <;> omega) | (show indepB _ _ = true; refine id ?_; kernel_rfl)) only [go_sem, ↓reduceIte, Nat.reduceEqDiff, Nat.reduceBEq, Nat.reduceAdd, Nat.reduceSub, Nat.reduceLeDiff, Nat.reduceLT, Nat.reduceMul, Int.reduceNeg, Int.reduceLT, Int.reduceLE, Int.reduceAdd, Int.reduceSub, Int.reduceToNat, Int.reduceMul, Int.reduceMod, Int.reduceTMod, Int.reduceTDiv, Int.reduceEq, Nat.reducePow, Nat.reduceDiv, Nat.reduceShiftRight, Nat.reduceMod, List.reduceReplicate, h, hi, hj, hk, hl]
  rw [qAt_eq]

attribute [irreducible] qAt
def places : List (Nat × Nat × Nat × Nat) := [(0, 4, 8, 12), (1, 5, 9, 13), (2, 6, 10, 14), (3, 7, 11, 15), (0, 5, 10, 15), (1, 6, 11, 12), (2, 7, 8, 13), (3, 4, 9, 14)]
def qP (ws : List UInt32) (p : Nat × Nat × Nat × Nat) : List UInt32 := qAt ws p.1 p.2.1 p.2.2.1 p.2.2.2
def roundW (ws : List UInt32) : List UInt32 := places.foldl qP ws
def roundsW : Nat → List UInt32 → List UInt32
  | 0, ws => ws
  | n + 1, ws => roundsW n (roundW ws)
theorem qP_fold_len (l : List (Nat × Nat × Nat × Nat)) : ∀ ws : List UInt32, (l.foldl qP ws).length = ws.length := by
  induction l with
  | nil => intro ws; rfl
  | cons p l ih => intro ws; rw [List.foldl_cons, ih]; exact qAt_len ..
theorem roundW_len (ws : List UInt32) : (roundW ws).length = ws.length := qP_fold_len _ _
theorem roundsW_len (n : Nat) : ∀ ws : List UInt32, (roundsW n ws).length = ws.length := by
  induction n with
  | zero => intro ws; rfl
  | succ n ih => intro ws; rw [roundsW, ih, roundW_len]
@[go_sem] theorem qAt_len' (ws : List UInt32) (i j k l : Nat) : (qAt ws i j k l).length = ws.length := qAt_len ws i j k l
attribute [go_sem] roundW_len roundsW_len

@[go_sem] theorem equarter_lit (ws : List UInt32) (i j k l : Nat) (h : ws.length = 16) (hi : OfNat.ofNat i < 16) (hj : OfNat.ofNat j < 16) (hk : OfNat.ofNat k < 16) (hl : OfNat.ofNat l < 16) : fn C 51 [] [.agg (ws.map w32), .int .i64 (no_index (OfNat.ofNat i : Int)), .int .i64 (no_index (OfNat.ofNat j : Int)), .int .i64 (no_index (OfNat.ofNat k : Int)), .int .i64 (no_index (OfNat.ofNat l : Int))] = some (.agg ((qAt ws (OfNat.ofNat i) (OfNat.ofNat j) (OfNat.ofNat k) (OfNat.ofNat l)).map w32), []) := e51 ws (OfNat.ofNat i) (OfNat.ofNat j) (OfNat.ofNat k) (OfNat.ofNat l) h hi hj hk hl

@[go_sem] theorem e34 (ws : List UInt32) (h : ws.length = 16) : fn C 34 [] [.agg (ws.map w32)] = some (.agg ((roundW ws).map w32), []) := by
  rw [fn_text Try.func34 rfl rfl Try.results34 locM34 rfl rfl (okArgs_of (by kernel_rfl) (by kernel_rfl) (by simp only [go_sem]) rfl)]
  simp -implicitDefEqProofs -dsimp +contextual (maxSteps := 5000000) (disch := first | omega | (simp only [go_sem] <;> omega) | (show indepB _ _ = true; refine id ?_; kernel_rfl)) only [go_sem, ↓reduceIte, Nat.reduceEqDiff, Nat.reduceBEq, Nat.reduceAdd, Nat.reduceSub, Nat.reduceLeDiff, Nat.reduceLT, Nat.reduceMul, Int.reduceNeg, Int.reduceLT, Int.reduceLE, Int.reduceAdd, Int.reduceSub, Int.reduceToNat, Int.reduceMul, Int.reduceMod, Int.reduceTMod, Int.reduceTDiv, Int.reduceEq, Nat.reducePow, Nat.reduceDiv, Nat.reduceShiftRight, Nat.reduceMod, List.reduceReplicate, kLoop_eq, h]
  simp only [roundW, places, List.foldl_cons, List.foldl_nil, qP]


end Go.Proofs.Ytdfkkfnjlcdjaaa
