import Derived.Test.YtfifgnffipdmeaaDoorTPack
namespace Go.Proofs.YtfifgnffipdmeaaDoor
open Go.Am
set_option linter.unusedSimpArgs false
set_option linter.unusedVariables false
set_option maxRecDepth 100000
/-! Layer 10: digits. -/
def hexS : List UInt8 := [48, 49, 50, 51, 52, 53, 54, 55, 56, 57, 97, 98, 99, 100, 101, 102]
@[go_sem] theorem hexS_fold : ([48, 49, 50, 51, 52, 53, 54, 55, 56, 57, 97, 98, 99, 100, 101, 102] : List UInt8) = hexS := rfl
@[go_sem] theorem hexS_len : hexS.length = 16 := rfl
@[go_sem] theorem hexS_get (d : Nat) (h : d < hexS.length) : hexS[d] = hexd d := by
  have : ∀ n : Fin 16, hexS[n.val]'(n.isLt) = hexd n.val := by decide
  exact this ⟨d, h⟩
@[go_sem] theorem hexS_cut (d : Nat) (h : d < 16) : (hexS.drop d).take (d + 1 - d) = [hexd d] := by
  have : ∀ n : Fin 16, (hexS.drop n.val).take (n.val + 1 - n.val) = [hexd n.val] := by decide
  exact this ⟨d, h⟩
def hexR (n : Nat) : List UInt8 := pairsR (beN 8 n)

@[go_sem] theorem e8 (n : Nat) (hn : n ≤ 18446744073709551615) : fn C 8 [] [.int .u64 (n : Int)] = some (.str (hexR n), []) := by
  rw [fn_text Tryd.func8 rfl rfl Tryd.results8 locM8 rfl rfl (by kernel_rfl)]
  have hp := e27 (beN 8 n) (by rw [beN_len]; decide)
  have e : (beN 8 n).map byteRow = [[.int .u8 ((UInt8.ofNat (n / 72057594037927936)).toNat : Int)], [.int .u8 ((UInt8.ofNat (n / 281474976710656)).toNat : Int)], [.int .u8 ((UInt8.ofNat (n / 1099511627776)).toNat : Int)], [.int .u8 ((UInt8.ofNat (n / 4294967296)).toNat : Int)], [.int .u8 ((UInt8.ofNat (n / 16777216)).toNat : Int)], [.int .u8 ((UInt8.ofNat (n / 65536)).toNat : Int)], [.int .u8 ((UInt8.ofNat (n / 256)).toNat : Int)], [.int .u8 ((UInt8.ofNat (n / 1)).toNat : Int)]] := rfl
  rw [e] at hp
  simp -implicitDefEqProofs -dsimp +contextual (maxSteps := 5000000) (disch := first | omega | (simp only [go_sem] <;> omega) | (show indepB _ _ = true; refine id ?_; kernel_rfl)) only [go_sem, ↓reduceIte, Nat.reduceEqDiff, Nat.reduceBEq, Nat.reduceAdd, Nat.reduceSub, Nat.reduceLeDiff, Nat.reduceLT, Nat.reduceMul, Int.reduceNeg, Int.reduceLT, Int.reduceLE, Int.reduceAdd, Int.reduceSub, Int.reduceToNat, Int.reduceMul, Int.reduceMod, Int.reduceTMod, Int.reduceTDiv, Int.reduceEq, Nat.reducePow, Nat.reduceDiv, Nat.reduceShiftRight, Nat.reduceMod, List.reduceReplicate, kLoop_eq, u8_wrap, hp]
  rfl

theorem byte_hi (m : Nat) : (UInt8.ofNat m).toNat / 16 = m / 16 % 16 := by simp [UInt8.toNat_ofNat']; omega
theorem byte_lo (m : Nat) : (UInt8.ofNat m).toNat % 16 = m % 16 := by simp [UInt8.toNat_ofNat']
@[go_sem] theorem e9 (n : Nat) (hn : n ≤ 18446744073709551615) : fn C 9 [] [.int .u64 (n : Int)] = some (.str (hexR n), []) := by
  rw [fn_text Tryd.func9 rfl rfl Tryd.results9 locM9 rfl rfl (by kernel_rfl)]
  simp -implicitDefEqProofs -dsimp +contextual (maxSteps := 5000000) (disch := first | omega | (simp only [go_sem] <;> omega) | (show indepB _ _ = true; refine id ?_; kernel_rfl)) only [go_sem, ↓reduceIte, Nat.reduceEqDiff, Nat.reduceBEq, Nat.reduceAdd, Nat.reduceSub, Nat.reduceLeDiff, Nat.reduceLT, Nat.reduceMul, Int.reduceNeg, Int.reduceLT, Int.reduceLE, Int.reduceAdd, Int.reduceSub, Int.reduceToNat, Int.reduceMul, Int.reduceMod, Int.reduceTMod, Int.reduceTDiv, Int.reduceEq, Nat.reducePow, Nat.reduceDiv, Nat.reduceShiftRight, Nat.reduceMod, List.reduceReplicate, kLoop_eq, Nat.div_div_eq_div_mul]
  simp only [hexR, pairsR, beN, show List.range 8 = [0, 1, 2, 3, 4, 5, 6, 7] from rfl, List.map_cons, List.map_nil, List.flatMap_cons, List.flatMap_nil, List.cons_append, List.nil_append, byte_hi, byte_lo, Nat.div_div_eq_div_mul, Nat.reducePow, Nat.reduceMul, Nat.reduceSub, Nat.div_one]

def digV (c : UInt8) : Nat := if 48 ≤ c.toNat ∧ c.toNat ≤ 57 then c.toNat - 48 else if 97 ≤ c.toNat ∧ c.toNat ≤ 102 then c.toNat - 87 else 16
theorem digV_le (c : UInt8) : digV c ≤ 16 := by simp only [digV]; split <;> (try split) <;> omega
theorem hexd_dig (c : UInt8) (i : Nat) (hi : i < 16) : (hexd i).toNat = c.toNat ↔ digV c = i := by
  have : ∀ (n : Fin 256) (k : Fin 16), (hexd k.val).toNat = (UInt8.ofNat n.val).toNat ↔ digV (UInt8.ofNat n.val) = k.val := by decide +kernel
  have h := this ⟨c.toNat, c.toNat_lt⟩ ⟨i, hi⟩
  simpa using h
@[go_sem] theorem e30 (c : UInt8) : fn C 30 [] [.int .u8 (c.toNat : Int)] = some (.int .i64 (digV c : Int), []) := by
  rw [fn_text Tryd.func30 rfl rfl Tryd.results30 locM30 rfl rfl (by kernel_rfl)]
  simp -implicitDefEqProofs -dsimp +contextual (maxSteps := 5000000) (disch := first | omega | (simp only [go_sem] <;> omega) | (show indepB _ _ = true; refine id ?_; kernel_rfl)) only [go_sem, ↓reduceIte, Nat.reduceEqDiff, Nat.reduceBEq, Nat.reduceAdd, Nat.reduceSub, Nat.reduceLeDiff, Nat.reduceLT, Nat.reduceMul, Int.reduceNeg, Int.reduceLT, Int.reduceLE, Int.reduceAdd, Int.reduceSub, Int.reduceToNat, Int.reduceMul, Int.reduceMod, Int.reduceTMod, Int.reduceTDiv, Int.reduceEq, Nat.reducePow, Nat.reduceDiv, Nat.reduceShiftRight, Nat.reduceMod, List.reduceReplicate]
  have hle := digV_le c
  refine (kLoop_rec (fun (i : Nat) f H => f 0 = .int .u8 (c.toNat : Int) ∧ f 3 = .int .i64 (i : Int) ∧ H = Heap.nil ∧ i ≤ digV c) (fun i => 16 - i) (fun _ => some (.int .i64 (digV c : Int), [])) ?_ 0 _ _ ⟨rfl, rfl, rfl, by omega⟩)
  rintro i f _ ⟨f0, f3, rfl, hi⟩ ih
  by_cases hl : i < 16
  · have hd := hexd_dig c i hl
    simp -implicitDefEqProofs -dsimp +contextual (maxSteps := 5000000) (disch := first | omega | (simp only [go_sem] <;> omega) | (show indepB _ _ = true; refine id ?_; kernel_rfl)) only [go_sem, ↓reduceIte, Nat.reduceEqDiff, Nat.reduceBEq, Nat.reduceAdd, Nat.reduceSub, Nat.reduceLeDiff, Nat.reduceLT, Nat.reduceMul, Int.reduceNeg, Int.reduceLT, Int.reduceLE, Int.reduceAdd, Int.reduceSub, Int.reduceToNat, Int.reduceMul, Int.reduceMod, Int.reduceTMod, Int.reduceTDiv, Int.reduceEq, Nat.reducePow, Nat.reduceDiv, Nat.reduceShiftRight, Nat.reduceMod, List.reduceReplicate, f0, f3, hl]
    (repeat' (refine kD_intro (fun _ => ?_) (fun _ => ?_)))
    · rename_i h; rw [hd.1 h]
    · rename_i h
      have : digV c ≠ i := fun e => h (hd.2 e)
      exact ih (i + 1) _ _ ⟨f0, rfl, rfl, by omega⟩ (by omega)
  · simp -implicitDefEqProofs -dsimp +contextual (maxSteps := 5000000) (disch := first | omega | (simp only [go_sem] <;> omega) | (show indepB _ _ = true; refine id ?_; kernel_rfl)) only [go_sem, ↓reduceIte, Nat.reduceEqDiff, Nat.reduceBEq, Nat.reduceAdd, Nat.reduceSub, Nat.reduceLeDiff, Nat.reduceLT, Nat.reduceMul, Int.reduceNeg, Int.reduceLT, Int.reduceLE, Int.reduceAdd, Int.reduceSub, Int.reduceToNat, Int.reduceMul, Int.reduceMod, Int.reduceTMod, Int.reduceTDiv, Int.reduceEq, Nat.reducePow, Nat.reduceDiv, Nat.reduceShiftRight, Nat.reduceMod, List.reduceReplicate, f0, f3, hl]
    exact Res_int (by omega)

theorem idx_dig (c : UInt8) : Lib.indexByte hexS c = if digV c < 16 then (digV c : Int) else -1 := by
  have : ∀ n : Fin 256, Lib.indexByte hexS (UInt8.ofNat n.val) = if digV (UInt8.ofNat n.val) < 16 then (digV (UInt8.ofNat n.val) : Int) else -1 := by decide +kernel
  have h := this ⟨c.toNat, c.toNat_lt⟩
  simpa using h

theorem i64_or4 (P : Program) (t : TypeId) (a b : Nat) (ha : a < 16) (hb : b < 16) : binV P .or t (.int .i64 ((a * 16 : Nat) : Int)) (.int .i64 (b : Int)) = some (.int .i64 ((16 * a + b : Nat) : Int)) := by
  have h : ∀ a b : Fin 16, IntKind.i64.wrap ((BitVec.ofInt 64 ((a.val * 16 : Nat) : Int) ||| BitVec.ofInt 64 (b.val : Int)).toNat : Int) = ((16 * a.val + b.val : Nat) : Int) := by decide +kernel
  have e : binV P .or t (.int .i64 ((a * 16 : Nat) : Int)) (.int .i64 (b : Int)) = some (.int .i64 (IntKind.i64.wrap ((BitVec.ofInt 64 ((a * 16 : Nat) : Int) ||| BitVec.ofInt 64 (b : Int)).toNat : Int))) := rfl
  rw [e]
  exact congrArg (fun x => some (AVal.int .i64 x)) (h ⟨a, ha⟩ ⟨b, hb⟩)
theorem i64_shl4 (P : Program) (t : TypeId) (k : IntKind) (a : Nat) (ha : a < 16) : binV P .shl t (.int .i64 (a : Int)) (.int k 4) = some (.int .i64 ((a * 16 : Nat) : Int)) := by
  have e : binV P .shl t (.int .i64 (a : Int)) (.int k 4) = some (.int .i64 (IntKind.i64.wrap ((a : Int) * 2 ^ 4))) := rfl
  rw [e]
  exact congrArg (fun x => some (AVal.int .i64 x)) (by rw [IntKind.wrap_i64]; omega)

/-- What pairs of digits tell; nothing: one is none. -/
def unpR : List UInt8 → Option (List UInt8)
  | a :: b :: r => if digV a < 16 ∧ digV b < 16 then (unpR r).map fun l => UInt8.ofNat (16 * digV a + digV b) :: l else none
  | _ => some []
theorem unpR_drop (l : List UInt8) (i : Nat) (h : i + 1 < l.length) : unpR (l.drop i) = if digV l[i] < 16 ∧ digV l[i + 1] < 16 then (unpR (l.drop (i + 2))).map fun m => UInt8.ofNat (16 * digV l[i] + digV l[i + 1]) :: m else none := by
  rw [List.drop_eq_getElem_cons (by omega), List.drop_eq_getElem_cons (show i + 1 < l.length by omega), unpR]
theorem unpR_end (l : List UInt8) (i : Nat) (h : ¬ i + 1 < l.length) : unpR (l.drop i) = some [] := by
  have : (l.drop i).length ≤ 1 := by simp; omega
  match l.drop i, this with
  | [], _ => rfl
  | [_], _ => rfl
def unpK (l : List UInt8) (acc : List UInt8) : Option (List UInt8) → AVal
  | some m => .tup [.slice 1 ((acc ++ m).map byteRow), .bool (decide (l.length % 2 = 0))]
  | none => .tup [.slice 1 [], .bool false]
set_option maxHeartbeats 4000000 in
@[go_sem] theorem e29 (l : List UInt8) (hl : l.length ≤ 1000000000000) : fn C 29 [] [.str l] = some (unpK l [] (unpR l), []) := by
  rw [fn_text Tryd.func29 rfl rfl Tryd.results29 locM29 rfl rfl (by kernel_rfl)]
  simp -implicitDefEqProofs -dsimp +contextual (maxSteps := 5000000) (disch := first | omega | (simp only [go_sem] <;> omega) | (show indepB _ _ = true; refine id ?_; kernel_rfl)) only [go_sem, ↓reduceIte, Nat.reduceEqDiff, Nat.reduceBEq, Nat.reduceAdd, Nat.reduceSub, Nat.reduceLeDiff, Nat.reduceLT, Nat.reduceMul, Int.reduceNeg, Int.reduceLT, Int.reduceLE, Int.reduceAdd, Int.reduceSub, Int.reduceToNat, Int.reduceMul, Int.reduceMod, Int.reduceTMod, Int.reduceTDiv, Int.reduceEq, Nat.reducePow, Nat.reduceDiv, Nat.reduceShiftRight, Nat.reduceMod, List.reduceReplicate]
  refine (kLoop_rec2 (fun (i : Nat) (acc : List UInt8) f H => f 0 = .str l ∧ ((i = 0 ∧ acc = [] ∧ f 4 = .sc (.slice none 0 0) ∧ H 137 = ⟨0, .dead, 0, [], false⟩) ∨ (i ≠ 0 ∧ f 4 = .osl 137 i 0 acc.length ∧ H 137 = ⟨i, .live, 1, acc.map byteRow, false⟩)) ∧ f 5 = .int .i64 ((2 * i : Nat) : Int) ∧ (H 136).gen = i ∧ acc.length = i ∧ 2 * i ≤ l.length) (fun i _ => l.length - 2 * i) (fun i acc => some (unpK l acc (unpR (l.drop (2 * i))), [])) ?_ 0 [] _ _ ⟨rfl, .inl ⟨rfl, rfl, rfl, rfl⟩, rfl, rfl, rfl, by omega⟩).trans rfl
  rintro i acc f H ⟨f0, hc, f5, g136, ha, hi⟩ ih
  by_cases h2 : 2 * i + 1 < l.length
  · rw [unpR_drop l (2 * i) h2]
    have i1 := idx_dig l[2 * i]
    have i2 := idx_dig l[2 * i + 1]
    by_cases d1 : digV l[2 * i] < 16
    · by_cases d2 : digV l[2 * i + 1] < 16
      · rw [if_pos d1] at i1
        rw [if_pos d2] at i2
        rw [if_pos ⟨d1, d2⟩]
        have fin : some (unpK l (acc ++ [UInt8.ofNat (16 * digV l[2 * i] + digV l[2 * i + 1])]) (unpR (l.drop (2 * (i + 1)))), ([] : List AVal)) = some (unpK l acc ((unpR (l.drop (2 * i + 2))).map fun m => UInt8.ofNat (16 * digV l[2 * i] + digV l[2 * i + 1]) :: m), []) := by
          rw [show 2 * (i + 1) = 2 * i + 2 by omega]
          cases unpR (l.drop (2 * i + 2)) <;> simp [unpK]
        rcases hc with ⟨rfl, rfl, f4, H137⟩ | ⟨h0, f4, H137⟩
        · simp -implicitDefEqProofs -dsimp +contextual (maxSteps := 5000000) (disch := first | omega | (simp only [go_sem] <;> omega) | (show indepB _ _ = true; refine id ?_; kernel_rfl)) only [go_sem, ↓reduceIte, Nat.reduceEqDiff, Nat.reduceBEq, Nat.reduceAdd, Nat.reduceSub, Nat.reduceLeDiff, Nat.reduceLT, Nat.reduceMul, Int.reduceNeg, Int.reduceLT, Int.reduceLE, Int.reduceAdd, Int.reduceSub, Int.reduceToNat, Int.reduceMul, Int.reduceMod, Int.reduceTMod, Int.reduceTDiv, Int.reduceEq, Nat.reducePow, Nat.reduceDiv, Nat.reduceShiftRight, Nat.reduceMod, List.reduceReplicate, f0, f4, f5, H137, g136, h2, i1, i2, d1, d2, i64_or4, i64_shl4, u8_wrap, Nat.not_lt_zero]
          refine Eq.trans (ih (0 + 1) ([] ++ [UInt8.ofNat (16 * digV l[0] + digV l[1])]) _ _ (by exact ⟨f0, .inr ⟨by omega, rfl, rfl⟩, rfl, rfl, rfl, by omega⟩) (by omega)) fin
        · simp -implicitDefEqProofs -dsimp +contextual (maxSteps := 5000000) (disch := first | omega | (simp only [go_sem] <;> omega) | (show indepB _ _ = true; refine id ?_; kernel_rfl)) only [go_sem, ↓reduceIte, Nat.reduceEqDiff, Nat.reduceBEq, Nat.reduceAdd, Nat.reduceSub, Nat.reduceLeDiff, Nat.reduceLT, Nat.reduceMul, Int.reduceNeg, Int.reduceLT, Int.reduceLE, Int.reduceAdd, Int.reduceSub, Int.reduceToNat, Int.reduceMul, Int.reduceMod, Int.reduceTMod, Int.reduceTDiv, Int.reduceEq, Nat.reducePow, Nat.reduceDiv, Nat.reduceShiftRight, Nat.reduceMod, List.reduceReplicate, f0, f4, f5, H137, g136, h2, i1, i2, d1, d2, i64_or4, i64_shl4, u8_wrap, ha, Nat.not_lt_zero]
          refine Eq.trans (ih (i + 1) (acc ++ [UInt8.ofNat (16 * digV l[2 * i] + digV l[2 * i + 1])]) _ _ (by exact ⟨f0, .inr ⟨by omega, by simp [ha, upd, restr], rfl⟩, rfl, rfl, by simp [ha], by omega⟩) (by omega)) fin
      · rw [if_pos d1] at i1
        rw [if_neg d2] at i2
        rw [if_neg (fun h => d2 h.2)]
        simp -implicitDefEqProofs -dsimp +contextual (maxSteps := 5000000) (disch := first | omega | (simp only [go_sem] <;> omega) | (show indepB _ _ = true; refine id ?_; kernel_rfl)) only [go_sem, ↓reduceIte, Nat.reduceEqDiff, Nat.reduceBEq, Nat.reduceAdd, Nat.reduceSub, Nat.reduceLeDiff, Nat.reduceLT, Nat.reduceMul, Int.reduceNeg, Int.reduceLT, Int.reduceLE, Int.reduceAdd, Int.reduceSub, Int.reduceToNat, Int.reduceMul, Int.reduceMod, Int.reduceTMod, Int.reduceTDiv, Int.reduceEq, Nat.reducePow, Nat.reduceDiv, Nat.reduceShiftRight, Nat.reduceMod, List.reduceReplicate, f0, f5, g136, h2, i1, i2, d1, d2, Nat.not_lt_zero]
        rfl
    · rw [if_neg d1] at i1
      rw [if_neg (fun h => d1 h.1)]
      by_cases d2 : digV l[2 * i + 1] < 16
      · rw [if_pos d2] at i2
        simp -implicitDefEqProofs -dsimp +contextual (maxSteps := 5000000) (disch := first | omega | (simp only [go_sem] <;> omega) | (show indepB _ _ = true; refine id ?_; kernel_rfl)) only [go_sem, ↓reduceIte, Nat.reduceEqDiff, Nat.reduceBEq, Nat.reduceAdd, Nat.reduceSub, Nat.reduceLeDiff, Nat.reduceLT, Nat.reduceMul, Int.reduceNeg, Int.reduceLT, Int.reduceLE, Int.reduceAdd, Int.reduceSub, Int.reduceToNat, Int.reduceMul, Int.reduceMod, Int.reduceTMod, Int.reduceTDiv, Int.reduceEq, Nat.reducePow, Nat.reduceDiv, Nat.reduceShiftRight, Nat.reduceMod, List.reduceReplicate, f0, f5, g136, h2, i1, i2, d1, d2, Nat.not_lt_zero]
        rfl
      · rw [if_neg d2] at i2
        simp -implicitDefEqProofs -dsimp +contextual (maxSteps := 5000000) (disch := first | omega | (simp only [go_sem] <;> omega) | (show indepB _ _ = true; refine id ?_; kernel_rfl)) only [go_sem, ↓reduceIte, Nat.reduceEqDiff, Nat.reduceBEq, Nat.reduceAdd, Nat.reduceSub, Nat.reduceLeDiff, Nat.reduceLT, Nat.reduceMul, Int.reduceNeg, Int.reduceLT, Int.reduceLE, Int.reduceAdd, Int.reduceSub, Int.reduceToNat, Int.reduceMul, Int.reduceMod, Int.reduceTMod, Int.reduceTDiv, Int.reduceEq, Nat.reducePow, Nat.reduceDiv, Nat.reduceShiftRight, Nat.reduceMod, List.reduceReplicate, f0, f5, g136, h2, i1, i2, d1, d2, Nat.not_lt_zero]
        rfl
  · rw [unpR_end l (2 * i) h2]
    rcases hc with ⟨rfl, rfl, f4, H137⟩ | ⟨h0, f4, H137⟩
    · simp -implicitDefEqProofs -dsimp +contextual (maxSteps := 5000000) (disch := first | omega | (simp only [go_sem] <;> omega) | (show indepB _ _ = true; refine id ?_; kernel_rfl)) only [go_sem, ↓reduceIte, Nat.reduceEqDiff, Nat.reduceBEq, Nat.reduceAdd, Nat.reduceSub, Nat.reduceLeDiff, Nat.reduceLT, Nat.reduceMul, Int.reduceNeg, Int.reduceLT, Int.reduceLE, Int.reduceAdd, Int.reduceSub, Int.reduceToNat, Int.reduceMul, Int.reduceMod, Int.reduceTMod, Int.reduceTDiv, Int.reduceEq, Nat.reducePow, Nat.reduceDiv, Nat.reduceShiftRight, Nat.reduceMod, List.reduceReplicate, f0, f4, f5, h2]
      simp [unpK]
    · simp -implicitDefEqProofs -dsimp +contextual (maxSteps := 5000000) (disch := first | omega | (simp only [go_sem] <;> omega) | (show indepB _ _ = true; refine id ?_; kernel_rfl)) only [go_sem, ↓reduceIte, Nat.reduceEqDiff, Nat.reduceBEq, Nat.reduceAdd, Nat.reduceSub, Nat.reduceLeDiff, Nat.reduceLT, Nat.reduceMul, Int.reduceNeg, Int.reduceLT, Int.reduceLE, Int.reduceAdd, Int.reduceSub, Int.reduceToNat, Int.reduceMul, Int.reduceMod, Int.reduceTMod, Int.reduceTDiv, Int.reduceEq, Nat.reducePow, Nat.reduceDiv, Nat.reduceShiftRight, Nat.reduceMod, List.reduceReplicate, f0, f4, f5, H137, h2, ha]
      simp [unpK]

end Go.Proofs.YtfifgnffipdmeaaDoor
