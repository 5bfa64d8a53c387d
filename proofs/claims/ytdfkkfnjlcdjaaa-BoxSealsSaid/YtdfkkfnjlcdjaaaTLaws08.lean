import Derived.Test.YtdfkkfnjlcdjaaaTBox2
namespace Go.Proofs.Ytdfkkfnjlcdjaaa
open Go.Am
set_option linter.unusedSimpArgs false
set_option linter.unusedVariables false
set_option maxRecDepth 100000
theorem sealR_cases (key nonce wth msg : List UInt8) : (∃ (l : List UInt8) (e : Int), (∀ mk, sealR mk key nonce wth msg = (.tup [mk 1 (l.map byteRow), .int .i64 e], []))) := by
  by_cases h : key.length = 32 ∧ nonce.length = 12
  · exact ⟨sealB key nonce wth msg, 0, fun mk => by rw [sealR, if_pos h]⟩
  · exact ⟨[], 2, fun mk => by rw [sealR, if_neg h]; rfl⟩
theorem openR_cases (key nonce wth sealed : List UInt8) : (∃ (l : List UInt8) (e : Int), (∀ mk, openR mk key nonce wth sealed = (.tup [mk 1 (l.map byteRow), .int .i64 e], []))) := by
  by_cases h : key.length = 32 ∧ nonce.length = 12
  · by_cases hs : sealed.length < 16
    · exact ⟨[], 10, fun mk => by rw [openR, if_pos h, if_pos hs]; rfl⟩
    · by_cases ht : tagX key nonce wth (sealed.take (sealed.length - 16)) = sealed.drop (sealed.length - 16)
      · exact ⟨_, 0, fun mk => by rw [openR, if_pos h, if_neg hs, if_pos ht]⟩
      · exact ⟨[], 21, fun mk => by rw [openR, if_pos h, if_neg hs, if_neg ht]; rfl⟩
  · exact ⟨[], 2, fun mk => by rw [openR, if_neg h]; rfl⟩

set_option maxHeartbeats 4000000 in
@[go_sem] theorem e3 (key nonce wth msg : List UInt8) (n : Nat) (hn : n ≤ 18446744073709551615) (h1 : key.length ≤ 9223372036854775807) (h2 : nonce.length ≤ 9223372036854775807) (h3 : wth.length ≤ 9223372036854775807) (h4 : msg.length ≤ 9223372036854775807) : fn C 3 [] [.slice 1 (key.map byteRow), .slice 1 (nonce.map byteRow), .slice 1 (wth.map byteRow), .slice 1 (msg.map byteRow), .int .u64 (n : Int)] = some (.bool true, []) := by
  rw [fn_text Try.func3 rfl rfl Try.results3 locM3 rfl rfl (by kernel_rfl)]
  by_cases g1 : 100 < key.length
  · simp -implicitDefEqProofs -dsimp +contextual (maxSteps := 5000000) (disch := first | omega | (simp only [go_sem] <;> omega) | (show indepB _ _ = true; refine id ?_; kernel_rfl)) only [go_sem, ↓reduceIte, Nat.reduceEqDiff, Nat.reduceBEq, Nat.reduceAdd, Nat.reduceSub, Nat.reduceLeDiff, Nat.reduceLT, Nat.reduceMul, Int.reduceNeg, Int.reduceLT, Int.reduceLE, Int.reduceAdd, Int.reduceSub, Int.reduceToNat, Int.reduceMul, Int.reduceMod, Int.reduceTMod, Int.reduceTDiv, Int.reduceEq, Nat.reducePow, Nat.reduceDiv, Nat.reduceShiftRight, Nat.reduceMod, List.reduceReplicate, g1]
  by_cases g2 : 100 < nonce.length
  · simp -implicitDefEqProofs -dsimp +contextual (maxSteps := 5000000) (disch := first | omega | (simp only [go_sem] <;> omega) | (show indepB _ _ = true; refine id ?_; kernel_rfl)) only [go_sem, ↓reduceIte, Nat.reduceEqDiff, Nat.reduceBEq, Nat.reduceAdd, Nat.reduceSub, Nat.reduceLeDiff, Nat.reduceLT, Nat.reduceMul, Int.reduceNeg, Int.reduceLT, Int.reduceLE, Int.reduceAdd, Int.reduceSub, Int.reduceToNat, Int.reduceMul, Int.reduceMod, Int.reduceTMod, Int.reduceTDiv, Int.reduceEq, Nat.reducePow, Nat.reduceDiv, Nat.reduceShiftRight, Nat.reduceMod, List.reduceReplicate, g1, g2]
  by_cases g3 : 600 < wth.length
  · simp -implicitDefEqProofs -dsimp +contextual (maxSteps := 5000000) (disch := first | omega | (simp only [go_sem] <;> omega) | (show indepB _ _ = true; refine id ?_; kernel_rfl)) only [go_sem, ↓reduceIte, Nat.reduceEqDiff, Nat.reduceBEq, Nat.reduceAdd, Nat.reduceSub, Nat.reduceLeDiff, Nat.reduceLT, Nat.reduceMul, Int.reduceNeg, Int.reduceLT, Int.reduceLE, Int.reduceAdd, Int.reduceSub, Int.reduceToNat, Int.reduceMul, Int.reduceMod, Int.reduceTMod, Int.reduceTDiv, Int.reduceEq, Nat.reducePow, Nat.reduceDiv, Nat.reduceShiftRight, Nat.reduceMod, List.reduceReplicate, g1, g2, g3]
  by_cases g4 : 600 < msg.length
  · simp -implicitDefEqProofs -dsimp +contextual (maxSteps := 5000000) (disch := first | omega | (simp only [go_sem] <;> omega) | (show indepB _ _ = true; refine id ?_; kernel_rfl)) only [go_sem, ↓reduceIte, Nat.reduceEqDiff, Nat.reduceBEq, Nat.reduceAdd, Nat.reduceSub, Nat.reduceLeDiff, Nat.reduceLT, Nat.reduceMul, Int.reduceNeg, Int.reduceLT, Int.reduceLE, Int.reduceAdd, Int.reduceSub, Int.reduceToNat, Int.reduceMul, Int.reduceMod, Int.reduceTMod, Int.reduceTDiv, Int.reduceEq, Nat.reducePow, Nat.reduceDiv, Nat.reduceShiftRight, Nat.reduceMod, List.reduceReplicate, g1, g2, g3, g4]
  obtain ⟨l, e, hs⟩ := sealR_cases key nonce wth msg
  have e1 := e7 key nonce wth msg (by omega) (by omega)
  have e2 := e8 key nonce wth msg (by omega) (by omega)
  rw [hs] at e1 e2
  have hl : l.length ≤ 1000000000 := by
    have h := hs .usl
    rw [sealR] at h
    split at h
    · simp only [Prod.mk.injEq, AVal.tup.injEq, List.cons.injEq, AVal.usl.injEq, true_and] at h
      have := congrArg List.length h.1.1
      simp only [List.length_map, sealB_len] at this
      omega
    · simp only [Prod.mk.injEq, AVal.tup.injEq, List.cons.injEq, AVal.usl.injEq, true_and] at h
      have := congrArg List.length h.1.1
      simp at this
      omega
  simp -implicitDefEqProofs -dsimp +contextual (maxSteps := 5000000) (disch := first | omega | (simp only [go_sem] <;> omega) | (show indepB _ _ = true; refine id ?_; kernel_rfl)) only [go_sem, ↓reduceIte, Nat.reduceEqDiff, Nat.reduceBEq, Nat.reduceAdd, Nat.reduceSub, Nat.reduceLeDiff, Nat.reduceLT, Nat.reduceMul, Int.reduceNeg, Int.reduceLT, Int.reduceLE, Int.reduceAdd, Int.reduceSub, Int.reduceToNat, Int.reduceMul, Int.reduceMod, Int.reduceTMod, Int.reduceTDiv, Int.reduceEq, Nat.reducePow, Nat.reduceDiv, Nat.reduceShiftRight, Nat.reduceMod, List.reduceReplicate, g1, g2, g3, g4, e1, e2]

set_option maxHeartbeats 4000000 in
@[go_sem] theorem e4 (key nonce wth msg : List UInt8) (h1 : key.length ≤ 9223372036854775807) (h2 : nonce.length ≤ 9223372036854775807) (h3 : wth.length ≤ 9223372036854775807) (h4 : msg.length ≤ 9223372036854775807) : fn C 4 [] [.slice 1 (key.map byteRow), .slice 1 (nonce.map byteRow), .slice 1 (wth.map byteRow), .slice 1 (msg.map byteRow)] = some (.bool true, []) := by
  rw [fn_text Try.func4 rfl rfl Try.results4 locM4 rfl rfl (by kernel_rfl)]
  by_cases g1 : 100 < key.length
  · simp -implicitDefEqProofs -dsimp +contextual (maxSteps := 5000000) (disch := first | omega | (simp only [go_sem] <;> omega) | (show indepB _ _ = true; refine id ?_; kernel_rfl)) only [go_sem, ↓reduceIte, Nat.reduceEqDiff, Nat.reduceBEq, Nat.reduceAdd, Nat.reduceSub, Nat.reduceLeDiff, Nat.reduceLT, Nat.reduceMul, Int.reduceNeg, Int.reduceLT, Int.reduceLE, Int.reduceAdd, Int.reduceSub, Int.reduceToNat, Int.reduceMul, Int.reduceMod, Int.reduceTMod, Int.reduceTDiv, Int.reduceEq, Nat.reducePow, Nat.reduceDiv, Nat.reduceShiftRight, Nat.reduceMod, List.reduceReplicate, g1]
  by_cases g2 : 100 < nonce.length
  · simp -implicitDefEqProofs -dsimp +contextual (maxSteps := 5000000) (disch := first | omega | (simp only [go_sem] <;> omega) | (show indepB _ _ = true; refine id ?_; kernel_rfl)) only [go_sem, ↓reduceIte, Nat.reduceEqDiff, Nat.reduceBEq, Nat.reduceAdd, Nat.reduceSub, Nat.reduceLeDiff, Nat.reduceLT, Nat.reduceMul, Int.reduceNeg, Int.reduceLT, Int.reduceLE, Int.reduceAdd, Int.reduceSub, Int.reduceToNat, Int.reduceMul, Int.reduceMod, Int.reduceTMod, Int.reduceTDiv, Int.reduceEq, Nat.reducePow, Nat.reduceDiv, Nat.reduceShiftRight, Nat.reduceMod, List.reduceReplicate, g1, g2]
  by_cases g3 : 600 < wth.length
  · simp -implicitDefEqProofs -dsimp +contextual (maxSteps := 5000000) (disch := first | omega | (simp only [go_sem] <;> omega) | (show indepB _ _ = true; refine id ?_; kernel_rfl)) only [go_sem, ↓reduceIte, Nat.reduceEqDiff, Nat.reduceBEq, Nat.reduceAdd, Nat.reduceSub, Nat.reduceLeDiff, Nat.reduceLT, Nat.reduceMul, Int.reduceNeg, Int.reduceLT, Int.reduceLE, Int.reduceAdd, Int.reduceSub, Int.reduceToNat, Int.reduceMul, Int.reduceMod, Int.reduceTMod, Int.reduceTDiv, Int.reduceEq, Nat.reducePow, Nat.reduceDiv, Nat.reduceShiftRight, Nat.reduceMod, List.reduceReplicate, g1, g2, g3]
  by_cases g4 : 600 < msg.length
  · simp -implicitDefEqProofs -dsimp +contextual (maxSteps := 5000000) (disch := first | omega | (simp only [go_sem] <;> omega) | (show indepB _ _ = true; refine id ?_; kernel_rfl)) only [go_sem, ↓reduceIte, Nat.reduceEqDiff, Nat.reduceBEq, Nat.reduceAdd, Nat.reduceSub, Nat.reduceLeDiff, Nat.reduceLT, Nat.reduceMul, Int.reduceNeg, Int.reduceLT, Int.reduceLE, Int.reduceAdd, Int.reduceSub, Int.reduceToNat, Int.reduceMul, Int.reduceMod, Int.reduceTMod, Int.reduceTDiv, Int.reduceEq, Nat.reducePow, Nat.reduceDiv, Nat.reduceShiftRight, Nat.reduceMod, List.reduceReplicate, g1, g2, g3, g4]
  obtain ⟨l, e, hs⟩ := openR_cases key nonce wth msg
  have e1 := e11 key nonce wth msg (by omega) (by omega)
  have e2 := e12 key nonce wth msg (by omega) (by omega)
  rw [hs] at e1 e2
  simp -implicitDefEqProofs -dsimp +contextual (maxSteps := 5000000) (disch := first | omega | (simp only [go_sem] <;> omega) | (show indepB _ _ = true; refine id ?_; kernel_rfl)) only [go_sem, ↓reduceIte, Nat.reduceEqDiff, Nat.reduceBEq, Nat.reduceAdd, Nat.reduceSub, Nat.reduceLeDiff, Nat.reduceLT, Nat.reduceMul, Int.reduceNeg, Int.reduceLT, Int.reduceLE, Int.reduceAdd, Int.reduceSub, Int.reduceToNat, Int.reduceMul, Int.reduceMod, Int.reduceTMod, Int.reduceTDiv, Int.reduceEq, Nat.reducePow, Nat.reduceDiv, Nat.reduceShiftRight, Nat.reduceMod, List.reduceReplicate, g1, g2, g3, g4, e1, e2]

theorem xor_ne (x y : UInt8) (h : y ≠ 0) : x ^^^ y ≠ x := by
  intro e
  apply h
  have : x ^^^ (x ^^^ y) = x ^^^ x := by rw [e]
  rwa [← UInt8.xor_assoc, UInt8.xor_self, UInt8.zero_xor] at this
theorem open_changed (mk : Nat → List (List AVal) → AVal) (key nonce wth msg : List UInt8) (hk : key.length = 32) (hn : nonce.length = 12) (i : Nat) (hi : i < 16) (y : UInt8) (hy : y ≠ 0) (hx : msg.length + i < (sealB key nonce wth msg).length) :
    openR mk key nonce wth ((sealB key nonce wth msg).set (msg.length + i) ((sealB key nonce wth msg)[msg.length + i] ^^^ y)) = (.tup [mk 1 [], .int .i64 21], []) := by
  have hl := xorB_len key nonce 1 msg
  have ht := tagX_len key nonce wth (xorB key nonce 1 msg)
  have hsl := sealB_len key nonce wth msg
  have e1 : ((sealB key nonce wth msg).set (msg.length + i) ((sealB key nonce wth msg)[msg.length + i] ^^^ y)).length - 16 = (xorB key nonce 1 msg).length := by rw [List.length_set, sealB_len, hl]; omega
  rw [openR, if_pos ⟨hk, hn⟩, if_neg (by rw [List.length_set, sealB_len]; omega), e1, if_neg]
  have e2 : (sealB key nonce wth msg)[msg.length + i] = (tagX key nonce wth (xorB key nonce 1 msg))[i]'(by omega) := by
    simp only [sealB]
    rw [List.getElem_append_right (by omega)]
    congr 1; omega
  rw [e2]
  rw [sealB, List.set_append_right _ _ (by omega), List.take_left, List.drop_left, show msg.length + i - (xorB key nonce 1 msg).length = i by omega]
  intro h
  have h2 := congrArg (fun l => l[i]?) h
  simp only [List.getElem?_set_self (show i < (tagX key nonce wth (xorB key nonce 1 msg)).length by omega), List.getElem?_eq_getElem (show i < (tagX key nonce wth (xorB key nonce 1 msg)).length by omega), Option.some.injEq] at h2
  exact xor_ne _ _ hy h2.symm

set_option maxHeartbeats 4000000 in
@[go_sem] theorem e5 (key : List UInt8) (n : Nat) (wth msg : List UInt8) (x y : UInt8) (hk : key.length = 32) (hn : n ≤ 18446744073709551615) (h3 : wth.length ≤ 9223372036854775807) (h4 : msg.length ≤ 9223372036854775807) : fn C 5 [] [.agg (key.map w8), .int .u64 (n : Int), .slice 1 (wth.map byteRow), .slice 1 (msg.map byteRow), .int .u8 (x.toNat : Int), .int .u8 (y.toNat : Int)] = some (.bool true, []) := by
  rw [fn_text Try.func5 rfl rfl Try.results5 locM5 rfl rfl (okArgs_of (by kernel_rfl) (by kernel_rfl) (by simp only [go_sem]) rfl)]
  by_cases g3 : 600 < wth.length
  · simp -implicitDefEqProofs -dsimp +contextual (maxSteps := 5000000) (disch := first | omega | (simp only [go_sem] <;> omega) | (show indepB _ _ = true; refine id ?_; kernel_rfl)) only [go_sem, ↓reduceIte, Nat.reduceEqDiff, Nat.reduceBEq, Nat.reduceAdd, Nat.reduceSub, Nat.reduceLeDiff, Nat.reduceLT, Nat.reduceMul, Int.reduceNeg, Int.reduceLT, Int.reduceLE, Int.reduceAdd, Int.reduceSub, Int.reduceToNat, Int.reduceMul, Int.reduceMod, Int.reduceTMod, Int.reduceTDiv, Int.reduceEq, Nat.reducePow, Nat.reduceDiv, Nat.reduceShiftRight, Nat.reduceMod, List.reduceReplicate, g3, hk]
  by_cases g4 : 600 < msg.length
  · simp -implicitDefEqProofs -dsimp +contextual (maxSteps := 5000000) (disch := first | omega | (simp only [go_sem] <;> omega) | (show indepB _ _ = true; refine id ?_; kernel_rfl)) only [go_sem, ↓reduceIte, Nat.reduceEqDiff, Nat.reduceBEq, Nat.reduceAdd, Nat.reduceSub, Nat.reduceLeDiff, Nat.reduceLT, Nat.reduceMul, Int.reduceNeg, Int.reduceLT, Int.reduceLE, Int.reduceAdd, Int.reduceSub, Int.reduceToNat, Int.reduceMul, Int.reduceMod, Int.reduceTMod, Int.reduceTDiv, Int.reduceEq, Nat.reducePow, Nat.reduceDiv, Nat.reduceShiftRight, Nat.reduceMod, List.reduceReplicate, g3, g4, hk]
  have hnl := nonceB_len n
  have e1 := e7 key (nonceB n) wth msg (by omega) (by omega)
  have e2 := e11 key (nonceB n) wth (sealB key (nonceB n) wth msg) (by omega) (by rw [sealB_len]; omega)
  rw [sealR, if_pos ⟨hk, hnl⟩] at e1
  rw [open_seal _ _ _ _ _ hk hnl] at e2
  have hsl := sealB_len key (nonceB n) wth msg
  have hx := u8_lt x
  have hb : x.toNat % 16 < 16 := Nat.mod_lt _ (by decide)
  by_cases hy : y = 0
  · subst hy
    have es : (sealB key (nonceB n) wth msg).set (msg.length + x.toNat % 16) ((sealB key (nonceB n) wth msg)[msg.length + x.toNat % 16]'(by omega) ^^^ 0) = sealB key (nonceB n) wth msg := by rw [UInt8.xor_zero, List.set_getElem_self]
    simp -implicitDefEqProofs -dsimp +contextual (maxSteps := 5000000) (disch := first | omega | (simp only [go_sem] <;> omega) | (show indepB _ _ = true; refine id ?_; kernel_rfl)) only [go_sem, ↓reduceIte, Nat.reduceEqDiff, Nat.reduceBEq, Nat.reduceAdd, Nat.reduceSub, Nat.reduceLeDiff, Nat.reduceLT, Nat.reduceMul, Int.reduceNeg, Int.reduceLT, Int.reduceLE, Int.reduceAdd, Int.reduceSub, Int.reduceToNat, Int.reduceMul, Int.reduceMod, Int.reduceTMod, Int.reduceTDiv, Int.reduceEq, Nat.reducePow, Nat.reduceDiv, Nat.reduceShiftRight, Nat.reduceMod, List.reduceReplicate, g3, g4, hk, e1, e2, hsl, es]
    simp [kD]
  · have e3 := e11 key (nonceB n) wth ((sealB key (nonceB n) wth msg).set (msg.length + x.toNat % 16) ((sealB key (nonceB n) wth msg)[msg.length + x.toNat % 16]'(by omega) ^^^ y)) (by omega) (by rw [List.length_set, sealB_len]; omega)
    rw [open_changed _ _ _ _ _ hk hnl _ hb _ hy] at e3
    simp -implicitDefEqProofs -dsimp +contextual (maxSteps := 5000000) (disch := first | omega | (simp only [go_sem] <;> omega) | (show indepB _ _ = true; refine id ?_; kernel_rfl)) only [go_sem, ↓reduceIte, Nat.reduceEqDiff, Nat.reduceBEq, Nat.reduceAdd, Nat.reduceSub, Nat.reduceLeDiff, Nat.reduceLT, Nat.reduceMul, Int.reduceNeg, Int.reduceLT, Int.reduceLE, Int.reduceAdd, Int.reduceSub, Int.reduceToNat, Int.reduceMul, Int.reduceMod, Int.reduceTMod, Int.reduceTDiv, Int.reduceEq, Nat.reducePow, Nat.reduceDiv, Nat.reduceShiftRight, Nat.reduceMod, List.reduceReplicate, g3, g4, hk, e1, e2, hsl, e3]
    have hy2 : y.toNat ≠ 0 := fun h => hy (UInt8.toNat_inj.1 (by simpa using h))
    simp [kD, hy2]

end Go.Proofs.Ytdfkkfnjlcdjaaa
