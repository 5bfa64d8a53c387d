import Derived.Test.YtfifgnffipdmeaaDoorTLabel9
namespace Go.Proofs.YtfifgnffipdmeaaDoor
open Go.Am
set_option linter.unusedSimpArgs false
set_option linter.unusedVariables false
set_option maxRecDepth 100000

open Lib
/-! Layer 10: the laws. -/
set_option maxHeartbeats 4000000 in
@[go_sem] theorem e7 : fn C 7 [] [] = some (.bool true, []) := by
  rw [fn_text Tryd.func7 rfl rfl Tryd.results7 locM7 rfl rfl (by kernel_rfl)]
  have r1 : readHexR [48, 48, 48, 48, 48, 48, 48, 48, 48, 48, 48, 48, 48, 48, 102, 102] = .tup [.int .u64 255, .bool true] := rfl
  have r2 : readHexR [102, 102] = .tup [.int .u64 0, .bool false] := rfl
  have r3 : fn C 8 [] [.int .u64 255] = some (.str [48, 48, 48, 48, 48, 48, 48, 48, 48, 48, 48, 48, 48, 48, 102, 102], []) := e8 255 (by decide)
  have r4 : fn C 12 [] [.slice 1 [[.int .u8 1], [.int .u8 255]]] = some (.str [48, 49, 102, 102], []) := e12 [1, 255] (by decide)
  have r5 : nameR [97, 45, 49] = true := rfl
  have r6 : nameR [49] = false := rfl
  have r7 : keyR [75] = true := rfl
  have r8 : keyR [] = false := rfl
  have r9 : itoa (-5) = [45, 53] := by
    rw [itoa, if_pos (by decide), show (-5 : Int).natAbs = 5 from rfl, decDigits_one (by decide)]; rfl
  simp -implicitDefEqProofs -dsimp +contextual (maxSteps := 5000000) (disch := first | omega | (simp only [go_sem] <;> omega) | (show indepB _ _ = true; refine id ?_; kernel_rfl)) only [go_sem, ↓reduceIte, Nat.reduceEqDiff, Nat.reduceBEq, Nat.reduceAdd, Nat.reduceSub, Nat.reduceLeDiff, Nat.reduceLT, Nat.reduceMul, Int.reduceNeg, Int.reduceLT, Int.reduceLE, Int.reduceAdd, Int.reduceSub, Int.reduceToNat, Int.reduceMul, Int.reduceMod, Int.reduceTMod, Int.reduceTDiv, Int.reduceEq, Nat.reducePow, Nat.reduceDiv, Nat.reduceShiftRight, Nat.reduceMod, List.reduceReplicate, r1, r2, r3, r4, r5, r6, r7, r8, r9]
theorem readHex_cases (l : List UInt8) : ∃ (n : Nat) (b : Bool), readHexR l = .tup [.int .u64 (n : Int), .bool b] := by
  unfold readHexR
  split
  · exact ⟨_, _, rfl⟩
  · exact ⟨0, _, rfl⟩
theorem readBytes_cases (l : List UInt8) : ∃ (m : List UInt8) (b : Bool), readBytesR l = .tup [.slice 1 (m.map byteRow), .bool b] ∧ m.length ≤ l.length := by
  unfold readBytesR
  split
  · exact ⟨[], _, rfl, by simp⟩
  · split
    · exact ⟨[], _, rfl, by simp⟩
    · rename_i h
      rcases unp_cases _ l (Nat.le_refl _) (by omega) with ⟨_, m, h4, h5, _⟩ | ⟨_, h4⟩
      · rw [h4]; exact ⟨m, _, rfl, by omega⟩
      · rw [h4]; exact ⟨[], _, rfl, by simp⟩
theorem rnV_cases (o : Option Int) : ∃ (n : Int) (b : Bool), rnV o = .tup [.int .i64 n, .bool b] := by
  cases o <;> exact ⟨_, _, rfl⟩
set_option maxHeartbeats 4000000 in
theorem e4 (l : List UInt8) (hl : l.length ≤ 9223372036854775807) : fn C 4 [] [.str l] = some (.bool true, []) := by
  rw [fn_text Tryd.func4 rfl rfl Tryd.results4 locM4 rfl rfl (by kernel_rfl)]
  by_cases h : 9000 < l.length
  · simp -implicitDefEqProofs -dsimp +contextual (maxSteps := 5000000) (disch := first | omega | (simp only [go_sem] <;> omega) | (show indepB _ _ = true; refine id ?_; kernel_rfl)) only [go_sem, ↓reduceIte, Nat.reduceEqDiff, Nat.reduceBEq, Nat.reduceAdd, Nat.reduceSub, Nat.reduceLeDiff, Nat.reduceLT, Nat.reduceMul, Int.reduceNeg, Int.reduceLT, Int.reduceLE, Int.reduceAdd, Int.reduceSub, Int.reduceToNat, Int.reduceMul, Int.reduceMod, Int.reduceTMod, Int.reduceTDiv, Int.reduceEq, Nat.reducePow, Nat.reduceDiv, Nat.reduceShiftRight, Nat.reduceMod, List.reduceReplicate, h]
  · obtain ⟨n, b1, r1⟩ := readHex_cases l
    obtain ⟨m, b2, r2, hm⟩ := readBytes_cases l
    obtain ⟨k, b3, r3⟩ := rnV_cases (readNumR (signOf l) (digsOf l))
    simp -implicitDefEqProofs -dsimp +contextual (maxSteps := 5000000) (disch := first | omega | (simp only [go_sem] <;> omega) | (show indepB _ _ = true; refine id ?_; kernel_rfl)) only [go_sem, ↓reduceIte, Nat.reduceEqDiff, Nat.reduceBEq, Nat.reduceAdd, Nat.reduceSub, Nat.reduceLeDiff, Nat.reduceLT, Nat.reduceMul, Int.reduceNeg, Int.reduceLT, Int.reduceLE, Int.reduceAdd, Int.reduceSub, Int.reduceToNat, Int.reduceMul, Int.reduceMod, Int.reduceTMod, Int.reduceTDiv, Int.reduceEq, Nat.reducePow, Nat.reduceDiv, Nat.reduceShiftRight, Nat.reduceMod, List.reduceReplicate, h, r1, r2, r3]
set_option maxHeartbeats 4000000 in
theorem e3 (n : Nat) (k : Int) (l : List UInt8) (hn : n ≤ 18446744073709551615) (h1 : -9223372036854775808 ≤ k) (h2 : k ≤ 9223372036854775807) (hl : l.length ≤ 9223372036854775807) : fn C 3 [] [.int .u64 (n : Int), .int .i64 k, .slice 1 (l.map byteRow)] = some (.bool true, []) := by
  rw [fn_text Tryd.func3 rfl rfl Tryd.results3 locM3 rfl rfl (by kernel_rfl)]
  by_cases h : 1000 < l.length
  · simp -implicitDefEqProofs -dsimp +contextual (maxSteps := 5000000) (disch := first | omega | (simp only [go_sem] <;> omega) | (show indepB _ _ = true; refine id ?_; kernel_rfl)) only [go_sem, ↓reduceIte, Nat.reduceEqDiff, Nat.reduceBEq, Nat.reduceAdd, Nat.reduceSub, Nat.reduceLeDiff, Nat.reduceLT, Nat.reduceMul, Int.reduceNeg, Int.reduceLT, Int.reduceLE, Int.reduceAdd, Int.reduceSub, Int.reduceToNat, Int.reduceMul, Int.reduceMod, Int.reduceTMod, Int.reduceTDiv, Int.reduceEq, Nat.reducePow, Nat.reduceDiv, Nat.reduceShiftRight, Nat.reduceMod, List.reduceReplicate, h]
  · simp -implicitDefEqProofs -dsimp +contextual (maxSteps := 5000000) (disch := first | omega | (simp only [go_sem] <;> omega) | (show indepB _ _ = true; refine id ?_; kernel_rfl)) only [go_sem, ↓reduceIte, Nat.reduceEqDiff, Nat.reduceBEq, Nat.reduceAdd, Nat.reduceSub, Nat.reduceLeDiff, Nat.reduceLT, Nat.reduceMul, Int.reduceNeg, Int.reduceLT, Int.reduceLE, Int.reduceAdd, Int.reduceSub, Int.reduceToNat, Int.reduceMul, Int.reduceMod, Int.reduceTMod, Int.reduceTDiv, Int.reduceEq, Nat.reducePow, Nat.reduceDiv, Nat.reduceShiftRight, Nat.reduceMod, List.reduceReplicate, h]
theorem digV_hexd (d : Nat) (h : d < 16) : digV (hexd d) = d := by
  have : ∀ n : Fin 16, digV (hexd n.val) = n.val := by decide
  exact this ⟨d, h⟩
theorem unp_pairs (l : List UInt8) : unpR (pairsR l) = some l := by
  induction l with
  | nil => rfl
  | cons c l ih =>
    have hc := u8_lt c
    have e : pairsR (c :: l) = hexd (c.toNat / 16) :: hexd (c.toNat % 16) :: pairsR l := by simp [pairsR]
    rw [e, unpR, digV_hexd _ (by omega), digV_hexd _ (by omega), if_pos (by omega), ih]
    simp only [Option.map_some]
    rw [show 16 * (c.toNat / 16) + c.toNat % 16 = c.toNat by omega]
    simp
theorem pairs_ok (l : List UInt8) : (pairsR l).all digOk = true ∧ hexV (pairsR l) = beV l := by
  rcases unp_cases _ (pairsR l) (Nat.le_refl _) (by rw [pairsR_len]; omega) with ⟨h, m, h4, _, h6⟩ | ⟨_, h4⟩
  · rw [unp_pairs, Option.some.injEq] at h4
    subst h4
    exact ⟨h, (h6 0).symm⟩
  · rw [unp_pairs] at h4; cases h4
theorem beV_beN (n : Nat) (h : n < 18446744073709551616) : beV (beN 8 n) = n := by
  simp only [beV, beN, show List.range 8 = [0, 1, 2, 3, 4, 5, 6, 7] from rfl, List.map_cons, List.map_nil, List.foldl_cons, List.foldl_nil, Nat.reducePow, Nat.reduceMul, Nat.reduceSub, UInt8.toNat_ofNat', Nat.zero_mul, Nat.zero_add]
  omega
theorem back_hex (n : Nat) (h : n ≤ 18446744073709551615) : readHexR (hexR n) = .tup [.int .u64 (n : Int), .bool true] := by
  obtain ⟨h1, h2⟩ := pairs_ok (beN 8 n)
  rw [readHexR, hexR, if_pos ⟨by rw [pairsR_len, beN_len], h1⟩, h2, beV_beN n (by omega)]
theorem back_bytes (l : List UInt8) (h : l.length ≤ 1000) : readBytesR (bytesR l) = .tup [.slice 1 (l.map byteRow), .bool true] := by
  by_cases h0 : l = []
  · subst h0; rfl
  · have hp : 0 < l.length := List.length_pos_iff.2 h0
    have hl := pairsR_len l
    rw [bytesR, if_neg h0, readBytesR, if_neg (fun e => by rw [e] at hl; simp at hl; omega), if_neg (by omega), unp_pairs]
theorem sign_text (g : Bool) (d : List UInt8) (h : g = false → d.head? ≠ some 45) : signOf (textN g d) = g ∧ digsOf (textN g d) = d := by
  cases g with
  | true => exact ⟨rfl, rfl⟩
  | false => have := h rfl; simp [textN, signOf, digsOf, this]
theorem back_num (k : Int) : readNumR (signOf (itoa k)) (digsOf (itoa k)) = if -1073741824 ≤ k ∧ k ≤ 1073741824 then some k else none := by
  obtain ⟨g, d, h1, h2, h3⟩ := read_itoa k
  obtain ⟨h4, h5⟩ := sign_text g d h2
  rw [h1, h4, h5, h3]
set_option maxHeartbeats 4000000 in
theorem e5 (n : Nat) (k : Int) (l : List UInt8) (hn : n ≤ 18446744073709551615) (h1 : -9223372036854775808 ≤ k) (h2 : k ≤ 9223372036854775807) (hl : l.length ≤ 9223372036854775807) : fn C 5 [] [.int .u64 (n : Int), .int .i64 k, .slice 1 (l.map byteRow)] = some (.bool true, []) := by
  rw [fn_text Tryd.func5 rfl rfl Tryd.results5 locM5 rfl rfl (by kernel_rfl)]
  by_cases h : 1000 < l.length
  · simp -implicitDefEqProofs -dsimp +contextual (maxSteps := 5000000) (disch := first | omega | (simp only [go_sem] <;> omega) | (show indepB _ _ = true; refine id ?_; kernel_rfl)) only [go_sem, ↓reduceIte, Nat.reduceEqDiff, Nat.reduceBEq, Nat.reduceAdd, Nat.reduceSub, Nat.reduceLeDiff, Nat.reduceLT, Nat.reduceMul, Int.reduceNeg, Int.reduceLT, Int.reduceLE, Int.reduceAdd, Int.reduceSub, Int.reduceToNat, Int.reduceMul, Int.reduceMod, Int.reduceTMod, Int.reduceTDiv, Int.reduceEq, Nat.reducePow, Nat.reduceDiv, Nat.reduceShiftRight, Nat.reduceMod, List.reduceReplicate, h]
  · have r1 := back_hex n hn
    have r2 := back_bytes l (by omega)
    have r3 := back_num k
    have l1 : (hexR n).length = 16 := by rw [hexR, pairsR_len, beN_len]
    have l2 : (bytesR l).length ≤ 2000 + 1 := by unfold bytesR; split <;> (try rw [pairsR_len]) <;> simp <;> omega
    have l3 := itoa_length_le k h1 h2
    by_cases ha : -1073741824 ≤ k
    · by_cases hb : k ≤ 1073741824
      · rw [if_pos ⟨ha, hb⟩] at r3
        simp -implicitDefEqProofs -dsimp +contextual (maxSteps := 5000000) (disch := first | omega | (simp only [go_sem] <;> omega) | (show indepB _ _ = true; refine id ?_; kernel_rfl)) only [go_sem, ↓reduceIte, Nat.reduceEqDiff, Nat.reduceBEq, Nat.reduceAdd, Nat.reduceSub, Nat.reduceLeDiff, Nat.reduceLT, Nat.reduceMul, Int.reduceNeg, Int.reduceLT, Int.reduceLE, Int.reduceAdd, Int.reduceSub, Int.reduceToNat, Int.reduceMul, Int.reduceMod, Int.reduceTMod, Int.reduceTDiv, Int.reduceEq, Nat.reducePow, Nat.reduceDiv, Nat.reduceShiftRight, Nat.reduceMod, List.reduceReplicate, h, ha, hb, r1, r2, r3, rnV]
      · rw [if_neg (by omega)] at r3
        have hk : ¬ 0 = k := by omega
        simp -implicitDefEqProofs -dsimp +contextual (maxSteps := 5000000) (disch := first | omega | (simp only [go_sem] <;> omega) | (show indepB _ _ = true; refine id ?_; kernel_rfl)) only [go_sem, ↓reduceIte, Nat.reduceEqDiff, Nat.reduceBEq, Nat.reduceAdd, Nat.reduceSub, Nat.reduceLeDiff, Nat.reduceLT, Nat.reduceMul, Int.reduceNeg, Int.reduceLT, Int.reduceLE, Int.reduceAdd, Int.reduceSub, Int.reduceToNat, Int.reduceMul, Int.reduceMod, Int.reduceTMod, Int.reduceTDiv, Int.reduceEq, Nat.reducePow, Nat.reduceDiv, Nat.reduceShiftRight, Nat.reduceMod, List.reduceReplicate, h, ha, hb, r1, r2, r3, rnV, hk]
    · rw [if_neg (by omega)] at r3
      have hk : ¬ 0 = k := by omega
      simp -implicitDefEqProofs -dsimp +contextual (maxSteps := 5000000) (disch := first | omega | (simp only [go_sem] <;> omega) | (show indepB _ _ = true; refine id ?_; kernel_rfl)) only [go_sem, ↓reduceIte, Nat.reduceEqDiff, Nat.reduceBEq, Nat.reduceAdd, Nat.reduceSub, Nat.reduceLeDiff, Nat.reduceLT, Nat.reduceMul, Int.reduceNeg, Int.reduceLT, Int.reduceLE, Int.reduceAdd, Int.reduceSub, Int.reduceToNat, Int.reduceMul, Int.reduceMod, Int.reduceTMod, Int.reduceTDiv, Int.reduceEq, Nat.reducePow, Nat.reduceDiv, Nat.reduceShiftRight, Nat.reduceMod, List.reduceReplicate, h, ha, r1, r2, r3, rnV, hk]

end Go.Proofs.YtfifgnffipdmeaaDoor
