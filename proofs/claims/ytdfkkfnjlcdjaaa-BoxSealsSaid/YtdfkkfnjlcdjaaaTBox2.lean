import Derived.Test.YtdfkkfnjlcdjaaaTPoly12
namespace Go.Proofs.Ytdfkkfnjlcdjaaa
open Go.Am
set_option linter.unusedSimpArgs false
set_option linter.unusedVariables false
set_option maxRecDepth 100000
/-! Layer 8: boxes, sealed and opened. -/
def z4B : List UInt8 := [0, 0, 0, 0]
@[go_sem] theorem z4B_len : z4B.length = 4 := rfl
def nonceB (n : Nat) : List UInt8 := z4B ++ beN 8 n
@[go_sem] theorem nonceB_len (n : Nat) : (nonceB n).length = 12 := by simp [nonceB, z4B, beN_len]
theorem z4rows : [[AVal.int .u8 (((0 : UInt8).toNat : Nat) : Int)], [AVal.int .u8 (((0 : UInt8).toNat : Nat) : Int)], [AVal.int .u8 (((0 : UInt8).toNat : Nat) : Int)], [AVal.int .u8 (((0 : UInt8).toNat : Nat) : Int)]] = z4B.map byteRow := rfl
theorem z4lits : [[AVal.int .u8 0], [AVal.int .u8 0], [AVal.int .u8 0], [AVal.int .u8 0]] = z4B.map byteRow := rfl
@[go_sem] theorem e9 (n : Nat) (hn : n ≤ 18446744073709551615) : fn C 9 [] [.int .u64 (n : Int)] = some (.slice 1 ((nonceB n).map byteRow), []) := by
  rw [fn_text Try.func9 rfl rfl Try.results9 locM9 rfl rfl (by kernel_rfl)]
  simp -implicitDefEqProofs -dsimp +contextual (maxSteps := 5000000) (disch := first | omega | (simp only [go_sem] <;> omega) | (show indepB _ _ = true; refine id ?_; kernel_rfl)) only [go_sem, ↓reduceIte, Nat.reduceEqDiff, Nat.reduceBEq, Nat.reduceAdd, Nat.reduceSub, Nat.reduceLeDiff, Nat.reduceLT, Nat.reduceMul, Int.reduceNeg, Int.reduceLT, Int.reduceLE, Int.reduceAdd, Int.reduceSub, Int.reduceToNat, Int.reduceMul, Int.reduceMod, Int.reduceTMod, Int.reduceTDiv, Int.reduceEq, Nat.reducePow, Nat.reduceDiv, Nat.reduceShiftRight, Nat.reduceMod, List.reduceReplicate, z4rows]
  rfl

@[go_sem] theorem e10 (n : Nat) (hn : n ≤ 18446744073709551615) : fn C 10 [] [.int .u64 (n : Int)] = some (.slice 1 ((nonceB n).map byteRow), []) := by
  rw [fn_text Try.func10 rfl rfl Try.results10 locM10 rfl rfl (by kernel_rfl)]
  simp -implicitDefEqProofs -dsimp +contextual (maxSteps := 5000000) (disch := first | omega | (simp only [go_sem] <;> omega) | (show indepB _ _ = true; refine id ?_; kernel_rfl)) only [go_sem, ↓reduceIte, Nat.reduceEqDiff, Nat.reduceBEq, Nat.reduceAdd, Nat.reduceSub, Nat.reduceLeDiff, Nat.reduceLT, Nat.reduceMul, Int.reduceNeg, Int.reduceLT, Int.reduceLE, Int.reduceAdd, Int.reduceSub, Int.reduceToNat, Int.reduceMul, Int.reduceMod, Int.reduceTMod, Int.reduceTDiv, Int.reduceEq, Nat.reducePow, Nat.reduceDiv, Nat.reduceShiftRight, Nat.reduceMod, List.reduceReplicate, z4lits]
  rfl

def sealB (key nonce wth msg : List UInt8) : List UInt8 := xorB key nonce 1 msg ++ tagX key nonce wth (xorB key nonce 1 msg)
theorem sealB_len (key nonce wth msg : List UInt8) : (sealB key nonce wth msg).length = msg.length + 16 := by simp [sealB, xorB_len, tagX_len]
def sealR (mk : Nat → List (List AVal) → AVal) (key nonce wth msg : List UInt8) : Res :=
  if key.length = 32 ∧ nonce.length = 12 then (.tup [mk 1 ((sealB key nonce wth msg).map byteRow), .int .i64 0], []) else (.tup [mk 1 [], .int .i64 2], [])
theorem xorR_ok (mk : Nat → List (List AVal) → AVal) (key nonce msg : List UInt8) (hk : key.length = 32) (hn : nonce.length = 12) (hm : msg.length ≤ 100000000) : xorR mk key nonce 1 msg = (.tup [mk 1 ((xorB key nonce 1 msg).map byteRow), .int .i64 0], []) := by
  rw [xorR, if_pos ⟨hk, hn⟩, if_pos]
  have : (1 : UInt32).toNat = 1 := rfl
  rw [this]; omega

set_option maxHeartbeats 4000000 in
@[go_sem] theorem e7 (key nonce wth msg : List UInt8) (hw : wth.length ≤ 100000000) (hm : msg.length ≤ 100000000) : fn C 7 [] [.slice 1 (key.map byteRow), .slice 1 (nonce.map byteRow), .slice 1 (wth.map byteRow), .slice 1 (msg.map byteRow)] = some (sealR .usl key nonce wth msg) := by
  rw [fn_text Try.func7 rfl rfl Try.results7 locM7 rfl rfl (by kernel_rfl)]
  by_cases hk : key.length = 32
  · by_cases hn : nonce.length = 12
    · have hx := eXor1 key nonce msg (by omega)
      rw [xorR_ok _ _ _ _ hk hn hm] at hx
      rw [sealR, if_pos ⟨hk, hn⟩, sealB]
      have hl := xorB_len key nonce 1 msg
      have ht := e15 key nonce wth (xorB key nonce 1 msg) hk hn hw (by omega)
      have htl := tagX_len key nonce wth (xorB key nonce 1 msg)
      generalize xorB key nonce 1 msg = x at *
      generalize tagX key nonce wth x = t at *
      simp -implicitDefEqProofs -dsimp +contextual (maxSteps := 5000000) (disch := first | omega | (simp only [go_sem] <;> omega) | (show indepB _ _ = true; refine id ?_; kernel_rfl)) only [go_sem, ↓reduceIte, Nat.reduceEqDiff, Nat.reduceBEq, Nat.reduceAdd, Nat.reduceSub, Nat.reduceLeDiff, Nat.reduceLT, Nat.reduceMul, Int.reduceNeg, Int.reduceLT, Int.reduceLE, Int.reduceAdd, Int.reduceSub, Int.reduceToNat, Int.reduceMul, Int.reduceMod, Int.reduceTMod, Int.reduceTDiv, Int.reduceEq, Nat.reducePow, Nat.reduceDiv, Nat.reduceShiftRight, Nat.reduceMod, List.reduceReplicate, hk, hn, hx, ht, hl, htl]
    · simp -implicitDefEqProofs -dsimp +contextual (maxSteps := 5000000) (disch := first | omega | (simp only [go_sem] <;> omega) | (show indepB _ _ = true; refine id ?_; kernel_rfl)) only [go_sem, ↓reduceIte, Nat.reduceEqDiff, Nat.reduceBEq, Nat.reduceAdd, Nat.reduceSub, Nat.reduceLeDiff, Nat.reduceLT, Nat.reduceMul, Int.reduceNeg, Int.reduceLT, Int.reduceLE, Int.reduceAdd, Int.reduceSub, Int.reduceToNat, Int.reduceMul, Int.reduceMod, Int.reduceTMod, Int.reduceTDiv, Int.reduceEq, Nat.reducePow, Nat.reduceDiv, Nat.reduceShiftRight, Nat.reduceMod, List.reduceReplicate, hk, hn]
      simp [sealR, hn]
  · simp -implicitDefEqProofs -dsimp +contextual (maxSteps := 5000000) (disch := first | omega | (simp only [go_sem] <;> omega) | (show indepB _ _ = true; refine id ?_; kernel_rfl)) only [go_sem, ↓reduceIte, Nat.reduceEqDiff, Nat.reduceBEq, Nat.reduceAdd, Nat.reduceSub, Nat.reduceLeDiff, Nat.reduceLT, Nat.reduceMul, Int.reduceNeg, Int.reduceLT, Int.reduceLE, Int.reduceAdd, Int.reduceSub, Int.reduceToNat, Int.reduceMul, Int.reduceMod, Int.reduceTMod, Int.reduceTDiv, Int.reduceEq, Nat.reducePow, Nat.reduceDiv, Nat.reduceShiftRight, Nat.reduceMod, List.reduceReplicate, hk]
    simp [sealR, hk]

theorem pad_mod (l : List UInt8) : (padB l).length % 16 = 0 := by simp [padB]; omega
theorem pad_pad (a b : List UInt8) : padB (padB a ++ b) = padB a ++ padB b := by
  have h := pad_mod a
  rw [padB, padB.eq_1 b, List.append_assoc, List.length_append]
  congr 3
  omega
@[go_sem] theorem e29 (l : List UInt8) (hl : l.length ≤ 1000000000) : fn C 29 [] [.slice 1 (l.map byteRow)] = some (.usl 1 ((padB l).map byteRow), []) := by
  rw [fn_text Try.func29 rfl rfl Try.results29 locM29 rfl rfl (by kernel_rfl)]
  simp -implicitDefEqProofs -dsimp +contextual (maxSteps := 5000000) (disch := first | omega | (simp only [go_sem] <;> omega) | (show indepB _ _ = true; refine id ?_; kernel_rfl)) only [go_sem, ↓reduceIte, Nat.reduceEqDiff, Nat.reduceBEq, Nat.reduceAdd, Nat.reduceSub, Nat.reduceLeDiff, Nat.reduceLT, Nat.reduceMul, Int.reduceNeg, Int.reduceLT, Int.reduceLE, Int.reduceAdd, Int.reduceSub, Int.reduceToNat, Int.reduceMul, Int.reduceMod, Int.reduceTMod, Int.reduceTDiv, Int.reduceEq, Nat.reducePow, Nat.reduceDiv, Nat.reduceShiftRight, Nat.reduceMod, List.reduceReplicate]
  refine kLoop_rec2 (fun (g : Nat) (m : List UInt8) f H => f 3 = .osl 104 g 0 m.length ∧ (∃ e, H 104 = ⟨g, .live, 1, m.map byteRow, e⟩) ∧ m.length ≤ 1000000016) (fun _ m => (16 - m.length % 16) % 16) (fun _ m => some (.usl 1 ((padB m).map byteRow), [])) ?_ 2 l _ _ ⟨rfl, ⟨_, rfl⟩, by omega⟩
  rintro g m f H ⟨f0, ⟨e, H1⟩, hm⟩ ih
  by_cases h : m.length % 16 = 0
  · simp -implicitDefEqProofs -dsimp +contextual (maxSteps := 5000000) (disch := first | omega | (simp only [go_sem] <;> omega) | (show indepB _ _ = true; refine id ?_; kernel_rfl)) only [go_sem, ↓reduceIte, Nat.reduceEqDiff, Nat.reduceBEq, Nat.reduceAdd, Nat.reduceSub, Nat.reduceLeDiff, Nat.reduceLT, Nat.reduceMul, Int.reduceNeg, Int.reduceLT, Int.reduceLE, Int.reduceAdd, Int.reduceSub, Int.reduceToNat, Int.reduceMul, Int.reduceMod, Int.reduceTMod, Int.reduceTDiv, Int.reduceEq, Nat.reducePow, Nat.reduceDiv, Nat.reduceShiftRight, Nat.reduceMod, List.reduceReplicate, f0, H1, h]
    rw [padB_done m h]
  · simp -implicitDefEqProofs -dsimp +contextual (maxSteps := 5000000) (disch := first | omega | (simp only [go_sem] <;> omega) | (show indepB _ _ = true; refine id ?_; kernel_rfl)) only [go_sem, ↓reduceIte, Nat.reduceEqDiff, Nat.reduceBEq, Nat.reduceAdd, Nat.reduceSub, Nat.reduceLeDiff, Nat.reduceLT, Nat.reduceMul, Int.reduceNeg, Int.reduceLT, Int.reduceLE, Int.reduceAdd, Int.reduceSub, Int.reduceToNat, Int.reduceMul, Int.reduceMod, Int.reduceTMod, Int.reduceTDiv, Int.reduceEq, Nat.reducePow, Nat.reduceDiv, Nat.reduceShiftRight, Nat.reduceMod, List.reduceReplicate, f0, H1, h, row0]
    rw [← padB_more m h]
    exact ih (g + 1) (m ++ [0]) _ _ ⟨by simp [upd, restr], ⟨_, rfl⟩, by simp; omega⟩ (by simp; omega)

@[go_sem] theorem e30 (n : Nat) (hn : n ≤ 1000000000) : fn C 30 [] [.int .i64 (n : Int)] = some (.slice 1 ((le8 n).map byteRow), []) := by
  rw [fn_text Try.func30 rfl rfl Try.results30 locM30 rfl rfl (by kernel_rfl)]
  simp -implicitDefEqProofs -dsimp +contextual (maxSteps := 5000000) (disch := first | omega | (simp only [go_sem] <;> omega) | (show indepB _ _ = true; refine id ?_; kernel_rfl)) only [go_sem, ↓reduceIte, Nat.reduceEqDiff, Nat.reduceBEq, Nat.reduceAdd, Nat.reduceSub, Nat.reduceLeDiff, Nat.reduceLT, Nat.reduceMul, Int.reduceNeg, Int.reduceLT, Int.reduceLE, Int.reduceAdd, Int.reduceSub, Int.reduceToNat, Int.reduceMul, Int.reduceMod, Int.reduceTMod, Int.reduceTDiv, Int.reduceEq, Nat.reducePow, Nat.reduceDiv, Nat.reduceShiftRight, Nat.reduceMod, List.reduceReplicate, kLoop_eq, u8_wrap, Nat.div_div_eq_div_mul]
  have hm : ∀ m : Nat, UInt8.ofNat (m % 256) = UInt8.ofNat m := fun m => ofNat8 _ _ (by omega)
  simp only [hm, le8, Nat.div_one, List.map_cons, List.map_nil, byteRow]

@[go_sem] theorem eRBlock0 (key nonce : List UInt8) : fn C 28 [] [.slice 1 (key.map byteRow), .slice 1 (nonce.map byteRow), .int .u32 0] = some (if key.length = 32 ∧ nonce.length = 12 then .tup [.slice 1 ((blockB key nonce 0).map byteRow), .int .i64 0] else .tup [.slice 1 [], .int .i64 2], []) := e28 key nonce 0
@[go_sem] theorem eRXor1 (key nonce msg : List UInt8) (hm : msg.length ≤ 1000000000) : fn C 16 [] [.slice 1 (key.map byteRow), .slice 1 (nonce.map byteRow), .int .u32 1, .slice 1 (msg.map byteRow)] = some (xorR .slice key nonce 1 msg) := e16 key nonce 1 msg hm

set_option maxHeartbeats 4000000 in
@[go_sem] theorem e17 (key nonce wth text : List UInt8) (hk : key.length = 32) (hn : nonce.length = 12) (hw : wth.length ≤ 100000000) (ht : text.length ≤ 100000000) : fn C 17 [] [.slice 1 (key.map byteRow), .slice 1 (nonce.map byteRow), .slice 1 (wth.map byteRow), .slice 1 (text.map byteRow)] = some (.slice 1 ((tagX key nonce wth text).map byteRow), []) := by
  have hp := padB_len wth
  have hp2 := padB_len text
  rw [fn_text Try.func17 rfl rfl Try.results17 locM17 rfl rfl (by kernel_rfl)]
  simp -implicitDefEqProofs -dsimp +contextual (maxSteps := 5000000) (disch := first | omega | (simp only [go_sem] <;> omega) | (show indepB _ _ = true; refine id ?_; kernel_rfl)) only [go_sem, ↓reduceIte, Nat.reduceEqDiff, Nat.reduceBEq, Nat.reduceAdd, Nat.reduceSub, Nat.reduceLeDiff, Nat.reduceLT, Nat.reduceMul, Int.reduceNeg, Int.reduceLT, Int.reduceLE, Int.reduceAdd, Int.reduceSub, Int.reduceToNat, Int.reduceMul, Int.reduceMod, Int.reduceTMod, Int.reduceTDiv, Int.reduceEq, Nat.reducePow, Nat.reduceDiv, Nat.reduceShiftRight, Nat.reduceMod, List.reduceReplicate, hk, hn]
  simp only [tagX, pad_pad, List.append_assoc]

set_option maxHeartbeats 4000000 in
@[go_sem] theorem e8 (key nonce wth msg : List UInt8) (hw : wth.length ≤ 100000000) (hm : msg.length ≤ 100000000) : fn C 8 [] [.slice 1 (key.map byteRow), .slice 1 (nonce.map byteRow), .slice 1 (wth.map byteRow), .slice 1 (msg.map byteRow)] = some (sealR .slice key nonce wth msg) := by
  rw [fn_text Try.func8 rfl rfl Try.results8 locM8 rfl rfl (by kernel_rfl)]
  by_cases hk : key.length = 32
  · by_cases hn : nonce.length = 12
    · have hx := eRXor1 key nonce msg (by omega)
      rw [xorR_ok _ _ _ _ hk hn hm] at hx
      rw [sealR, if_pos ⟨hk, hn⟩, sealB]
      have hl := xorB_len key nonce 1 msg
      have ht := e17 key nonce wth (xorB key nonce 1 msg) hk hn hw (by omega)
      have htl := tagX_len key nonce wth (xorB key nonce 1 msg)
      generalize xorB key nonce 1 msg = x at *
      generalize tagX key nonce wth x = t at *
      simp -implicitDefEqProofs -dsimp +contextual (maxSteps := 5000000) (disch := first | omega | (simp only [go_sem] <;> omega) | (show indepB _ _ = true; refine id ?_; kernel_rfl)) only [go_sem, ↓reduceIte, Nat.reduceEqDiff, Nat.reduceBEq, Nat.reduceAdd, Nat.reduceSub, Nat.reduceLeDiff, Nat.reduceLT, Nat.reduceMul, Int.reduceNeg, Int.reduceLT, Int.reduceLE, Int.reduceAdd, Int.reduceSub, Int.reduceToNat, Int.reduceMul, Int.reduceMod, Int.reduceTMod, Int.reduceTDiv, Int.reduceEq, Nat.reducePow, Nat.reduceDiv, Nat.reduceShiftRight, Nat.reduceMod, List.reduceReplicate, hk, hn, hx, ht, hl, htl]
    · simp -implicitDefEqProofs -dsimp +contextual (maxSteps := 5000000) (disch := first | omega | (simp only [go_sem] <;> omega) | (show indepB _ _ = true; refine id ?_; kernel_rfl)) only [go_sem, ↓reduceIte, Nat.reduceEqDiff, Nat.reduceBEq, Nat.reduceAdd, Nat.reduceSub, Nat.reduceLeDiff, Nat.reduceLT, Nat.reduceMul, Int.reduceNeg, Int.reduceLT, Int.reduceLE, Int.reduceAdd, Int.reduceSub, Int.reduceToNat, Int.reduceMul, Int.reduceMod, Int.reduceTMod, Int.reduceTDiv, Int.reduceEq, Nat.reducePow, Nat.reduceDiv, Nat.reduceShiftRight, Nat.reduceMod, List.reduceReplicate, hk, hn]
      simp [sealR, hn]
  · simp -implicitDefEqProofs -dsimp +contextual (maxSteps := 5000000) (disch := first | omega | (simp only [go_sem] <;> omega) | (show indepB _ _ = true; refine id ?_; kernel_rfl)) only [go_sem, ↓reduceIte, Nat.reduceEqDiff, Nat.reduceBEq, Nat.reduceAdd, Nat.reduceSub, Nat.reduceLeDiff, Nat.reduceLT, Nat.reduceMul, Int.reduceNeg, Int.reduceLT, Int.reduceLE, Int.reduceAdd, Int.reduceSub, Int.reduceToNat, Int.reduceMul, Int.reduceMod, Int.reduceTMod, Int.reduceTDiv, Int.reduceEq, Nat.reducePow, Nat.reduceDiv, Nat.reduceShiftRight, Nat.reduceMod, List.reduceReplicate, hk]
    simp [sealR, hk]

def openR (mk : Nat → List (List AVal) → AVal) (key nonce wth sealed : List UInt8) : Res :=
  if key.length = 32 ∧ nonce.length = 12 then
    if sealed.length < 16 then (.tup [mk 1 [], .int .i64 10], [])
    else if tagX key nonce wth (sealed.take (sealed.length - 16)) = sealed.drop (sealed.length - 16) then (.tup [mk 1 ((xorB key nonce 1 (sealed.take (sealed.length - 16))).map byteRow), .int .i64 0], [])
    else (.tup [mk 1 [], .int .i64 21], [])
  else (.tup [mk 1 [], .int .i64 2], [])
theorem len_sub (n m : Nat) (h : ¬ n < m) : ((n : Int) - (m : Int)) = ((n - m : Nat) : Int) := by omega

set_option maxHeartbeats 4000000 in
@[go_sem] theorem e11 (key nonce wth sealed : List UInt8) (hw : wth.length ≤ 100000000) (hm : sealed.length ≤ 100000000) : fn C 11 [] [.slice 1 (key.map byteRow), .slice 1 (nonce.map byteRow), .slice 1 (wth.map byteRow), .slice 1 (sealed.map byteRow)] = some (openR .usl key nonce wth sealed) := by
  rw [fn_text Try.func11 rfl rfl Try.results11 locM11 rfl rfl (by kernel_rfl)]
  by_cases hk : key.length = 32
  · by_cases hn : nonce.length = 12
    · by_cases hs : sealed.length < 16
      · simp -implicitDefEqProofs -dsimp +contextual (maxSteps := 5000000) (disch := first | omega | (simp only [go_sem] <;> omega) | (show indepB _ _ = true; refine id ?_; kernel_rfl)) only [go_sem, ↓reduceIte, Nat.reduceEqDiff, Nat.reduceBEq, Nat.reduceAdd, Nat.reduceSub, Nat.reduceLeDiff, Nat.reduceLT, Nat.reduceMul, Int.reduceNeg, Int.reduceLT, Int.reduceLE, Int.reduceAdd, Int.reduceSub, Int.reduceToNat, Int.reduceMul, Int.reduceMod, Int.reduceTMod, Int.reduceTDiv, Int.reduceEq, Nat.reducePow, Nat.reduceDiv, Nat.reduceShiftRight, Nat.reduceMod, List.reduceReplicate, hk, hn, hs]
        simp [openR, hk, hn, hs]
      · have e1 : (sealed.length : Int) - 16 = ((sealed.length - 16 : Nat) : Int) := by omega
        have el : (sealed.take (sealed.length - 16)).length = sealed.length - 16 := by simp
        have hx := eXor1 key nonce (sealed.take (sealed.length - 16)) (by omega)
        rw [xorR_ok _ _ _ _ hk hn (by omega)] at hx
        rw [openR, if_pos ⟨hk, hn⟩, if_neg hs]
        have htx : tagX key nonce wth (sealed.take (sealed.length - 16)) = tagB ((blockB key nonce 0).take 32) (padB (padB wth ++ sealed.take (sealed.length - 16)) ++ le8 wth.length ++ le8 (sealed.take (sealed.length - 16)).length) := rfl
        have hp := padB_len wth
        have hp2 := padB_len (padB wth ++ sealed.take (sealed.length - 16))
        simp only [List.length_append] at hp2
        generalize hT : sealed.take (sealed.length - 16) = T at *
        generalize hD : sealed.drop (sealed.length - 16) = D at *
        have hl1 := boxLength [] (.inl rfl) (padB (padB wth ++ T)) wth.length (by omega) (by omega)
        simp -implicitDefEqProofs -dsimp +contextual (maxSteps := 5000000) (disch := first | omega | (simp only [go_sem] <;> omega) | (show indepB _ _ = true; refine id ?_; kernel_rfl)) only [go_sem, ↓reduceIte, Nat.reduceEqDiff, Nat.reduceBEq, Nat.reduceAdd, Nat.reduceSub, Nat.reduceLeDiff, Nat.reduceLT, Nat.reduceMul, Int.reduceNeg, Int.reduceLT, Int.reduceLE, Int.reduceAdd, Int.reduceSub, Int.reduceToNat, Int.reduceMul, Int.reduceMod, Int.reduceTMod, Int.reduceTDiv, Int.reduceEq, Nat.reducePow, Nat.reduceDiv, Nat.reduceShiftRight, Nat.reduceMod, List.reduceReplicate, hk, hn, hs, e1, el, hx, hT, hD]
        have eD : List.take (sealed.length - (sealed.length - 16)) D = D := List.take_of_length_le (by rw [← hD]; simp)
        rw [htx, el, eD]
        unfold kD
        split <;> rfl
    · simp -implicitDefEqProofs -dsimp +contextual (maxSteps := 5000000) (disch := first | omega | (simp only [go_sem] <;> omega) | (show indepB _ _ = true; refine id ?_; kernel_rfl)) only [go_sem, ↓reduceIte, Nat.reduceEqDiff, Nat.reduceBEq, Nat.reduceAdd, Nat.reduceSub, Nat.reduceLeDiff, Nat.reduceLT, Nat.reduceMul, Int.reduceNeg, Int.reduceLT, Int.reduceLE, Int.reduceAdd, Int.reduceSub, Int.reduceToNat, Int.reduceMul, Int.reduceMod, Int.reduceTMod, Int.reduceTDiv, Int.reduceEq, Nat.reducePow, Nat.reduceDiv, Nat.reduceShiftRight, Nat.reduceMod, List.reduceReplicate, hk, hn]
      simp [openR, hn]
  · simp -implicitDefEqProofs -dsimp +contextual (maxSteps := 5000000) (disch := first | omega | (simp only [go_sem] <;> omega) | (show indepB _ _ = true; refine id ?_; kernel_rfl)) only [go_sem, ↓reduceIte, Nat.reduceEqDiff, Nat.reduceBEq, Nat.reduceAdd, Nat.reduceSub, Nat.reduceLeDiff, Nat.reduceLT, Nat.reduceMul, Int.reduceNeg, Int.reduceLT, Int.reduceLE, Int.reduceAdd, Int.reduceSub, Int.reduceToNat, Int.reduceMul, Int.reduceMod, Int.reduceTMod, Int.reduceTDiv, Int.reduceEq, Nat.reducePow, Nat.reduceDiv, Nat.reduceShiftRight, Nat.reduceMod, List.reduceReplicate, hk]
    simp [openR, hk]

set_option maxHeartbeats 4000000 in
@[go_sem] theorem e12 (key nonce wth sealed : List UInt8) (hw : wth.length ≤ 100000000) (hm : sealed.length ≤ 100000000) : fn C 12 [] [.slice 1 (key.map byteRow), .slice 1 (nonce.map byteRow), .slice 1 (wth.map byteRow), .slice 1 (sealed.map byteRow)] = some (openR .slice key nonce wth sealed) := by
  rw [fn_text Try.func12 rfl rfl Try.results12 locM12 rfl rfl (by kernel_rfl)]
  by_cases hk : key.length = 32
  · by_cases hn : nonce.length = 12
    · by_cases hs : sealed.length < 16
      · simp -implicitDefEqProofs -dsimp +contextual (maxSteps := 5000000) (disch := first | omega | (simp only [go_sem] <;> omega) | (show indepB _ _ = true; refine id ?_; kernel_rfl)) only [go_sem, ↓reduceIte, Nat.reduceEqDiff, Nat.reduceBEq, Nat.reduceAdd, Nat.reduceSub, Nat.reduceLeDiff, Nat.reduceLT, Nat.reduceMul, Int.reduceNeg, Int.reduceLT, Int.reduceLE, Int.reduceAdd, Int.reduceSub, Int.reduceToNat, Int.reduceMul, Int.reduceMod, Int.reduceTMod, Int.reduceTDiv, Int.reduceEq, Nat.reducePow, Nat.reduceDiv, Nat.reduceShiftRight, Nat.reduceMod, List.reduceReplicate, hk, hn, hs]
        simp [openR, hk, hn, hs]
      · have e1 : (sealed.length : Int) - 16 = ((sealed.length - 16 : Nat) : Int) := by omega
        have el : (sealed.take (sealed.length - 16)).length = sealed.length - 16 := by simp
        have hx := eRXor1 key nonce (sealed.take (sealed.length - 16)) (by omega)
        rw [xorR_ok _ _ _ _ hk hn (by omega)] at hx
        rw [openR, if_pos ⟨hk, hn⟩, if_neg hs]
        have ht := e17 key nonce wth (sealed.take (sealed.length - 16)) hk hn hw (by omega)
        generalize hT : sealed.take (sealed.length - 16) = T at *
        generalize hD : sealed.drop (sealed.length - 16) = D at *
        simp -implicitDefEqProofs -dsimp +contextual (maxSteps := 5000000) (disch := first | omega | (simp only [go_sem] <;> omega) | (show indepB _ _ = true; refine id ?_; kernel_rfl)) only [go_sem, ↓reduceIte, Nat.reduceEqDiff, Nat.reduceBEq, Nat.reduceAdd, Nat.reduceSub, Nat.reduceLeDiff, Nat.reduceLT, Nat.reduceMul, Int.reduceNeg, Int.reduceLT, Int.reduceLE, Int.reduceAdd, Int.reduceSub, Int.reduceToNat, Int.reduceMul, Int.reduceMod, Int.reduceTMod, Int.reduceTDiv, Int.reduceEq, Nat.reducePow, Nat.reduceDiv, Nat.reduceShiftRight, Nat.reduceMod, List.reduceReplicate, hk, hn, hs, e1, el, hx, ht, hT, hD]
        have eD : List.take (sealed.length - (sealed.length - 16)) D = D := List.take_of_length_le (by rw [← hD]; simp)
        rw [eD]
        unfold kD
        split <;> rfl
    · simp -implicitDefEqProofs -dsimp +contextual (maxSteps := 5000000) (disch := first | omega | (simp only [go_sem] <;> omega) | (show indepB _ _ = true; refine id ?_; kernel_rfl)) only [go_sem, ↓reduceIte, Nat.reduceEqDiff, Nat.reduceBEq, Nat.reduceAdd, Nat.reduceSub, Nat.reduceLeDiff, Nat.reduceLT, Nat.reduceMul, Int.reduceNeg, Int.reduceLT, Int.reduceLE, Int.reduceAdd, Int.reduceSub, Int.reduceToNat, Int.reduceMul, Int.reduceMod, Int.reduceTMod, Int.reduceTDiv, Int.reduceEq, Nat.reducePow, Nat.reduceDiv, Nat.reduceShiftRight, Nat.reduceMod, List.reduceReplicate, hk, hn]
      simp [openR, hn]
  · simp -implicitDefEqProofs -dsimp +contextual (maxSteps := 5000000) (disch := first | omega | (simp only [go_sem] <;> omega) | (show indepB _ _ = true; refine id ?_; kernel_rfl)) only [go_sem, ↓reduceIte, Nat.reduceEqDiff, Nat.reduceBEq, Nat.reduceAdd, Nat.reduceSub, Nat.reduceLeDiff, Nat.reduceLT, Nat.reduceMul, Int.reduceNeg, Int.reduceLT, Int.reduceLE, Int.reduceAdd, Int.reduceSub, Int.reduceToNat, Int.reduceMul, Int.reduceMod, Int.reduceTMod, Int.reduceTDiv, Int.reduceEq, Nat.reducePow, Nat.reduceDiv, Nat.reduceShiftRight, Nat.reduceMod, List.reduceReplicate, hk]
    simp [openR, hk]

/-! The statements. -/
theorem open_seal (mk : Nat → List (List AVal) → AVal) (key nonce wth msg : List UInt8) (hk : key.length = 32) (hn : nonce.length = 12) : openR mk key nonce wth (sealB key nonce wth msg) = (.tup [mk 1 (msg.map byteRow), .int .i64 0], []) := by
  have hl := xorB_len key nonce 1 msg
  have ht := tagX_len key nonce wth (xorB key nonce 1 msg)
  have e1 : (sealB key nonce wth msg).length - 16 = (xorB key nonce 1 msg).length := by rw [sealB_len, hl]; omega
  rw [openR, if_pos ⟨hk, hn⟩, if_neg (by rw [sealB_len]; omega), e1, sealB, List.take_left, List.drop_left, if_pos rfl, xorB_xorB]
def zero32 : List UInt8 := List.replicate 32 0
@[go_sem] theorem zero32_len : zero32.length = 32 := rfl
theorem zero32_rows : [[AVal.int .u8 (((0 : UInt8).toNat : Nat) : Int)], [AVal.int .u8 (((0 : UInt8).toNat : Nat) : Int)], [AVal.int .u8 (((0 : UInt8).toNat : Nat) : Int)], [AVal.int .u8 (((0 : UInt8).toNat : Nat) : Int)], [AVal.int .u8 (((0 : UInt8).toNat : Nat) : Int)], [AVal.int .u8 (((0 : UInt8).toNat : Nat) : Int)], [AVal.int .u8 (((0 : UInt8).toNat : Nat) : Int)], [AVal.int .u8 (((0 : UInt8).toNat : Nat) : Int)], [AVal.int .u8 (((0 : UInt8).toNat : Nat) : Int)], [AVal.int .u8 (((0 : UInt8).toNat : Nat) : Int)], [AVal.int .u8 (((0 : UInt8).toNat : Nat) : Int)], [AVal.int .u8 (((0 : UInt8).toNat : Nat) : Int)], [AVal.int .u8 (((0 : UInt8).toNat : Nat) : Int)], [AVal.int .u8 (((0 : UInt8).toNat : Nat) : Int)], [AVal.int .u8 (((0 : UInt8).toNat : Nat) : Int)], [AVal.int .u8 (((0 : UInt8).toNat : Nat) : Int)], [AVal.int .u8 (((0 : UInt8).toNat : Nat) : Int)], [AVal.int .u8 (((0 : UInt8).toNat : Nat) : Int)], [AVal.int .u8 (((0 : UInt8).toNat : Nat) : Int)], [AVal.int .u8 (((0 : UInt8).toNat : Nat) : Int)], [AVal.int .u8 (((0 : UInt8).toNat : Nat) : Int)], [AVal.int .u8 (((0 : UInt8).toNat : Nat) : Int)], [AVal.int .u8 (((0 : UInt8).toNat : Nat) : Int)], [AVal.int .u8 (((0 : UInt8).toNat : Nat) : Int)], [AVal.int .u8 (((0 : UInt8).toNat : Nat) : Int)], [AVal.int .u8 (((0 : UInt8).toNat : Nat) : Int)], [AVal.int .u8 (((0 : UInt8).toNat : Nat) : Int)], [AVal.int .u8 (((0 : UInt8).toNat : Nat) : Int)], [AVal.int .u8 (((0 : UInt8).toNat : Nat) : Int)], [AVal.int .u8 (((0 : UInt8).toNat : Nat) : Int)], [AVal.int .u8 (((0 : UInt8).toNat : Nat) : Int)], [AVal.int .u8 (((0 : UInt8).toNat : Nat) : Int)]] = zero32.map byteRow := rfl
def wthB : List UInt8 := [119, 105, 116, 104]
@[go_sem] theorem wthB_len : wthB.length = 4 := rfl
theorem wthB_rows : [[AVal.int .u8 119], [AVal.int .u8 105], [AVal.int .u8 116], [AVal.int .u8 104]] = wthB.map byteRow := rfl
def textB : List UInt8 := [116, 101, 120, 116]
@[go_sem] theorem textB_len : textB.length = 4 := rfl
theorem textB_rows : [[AVal.int .u8 116], [AVal.int .u8 101], [AVal.int .u8 120], [AVal.int .u8 116]] = textB.map byteRow := rfl

set_option maxHeartbeats 4000000 in
@[go_sem] theorem e6 : fn C 6 [] [] = some (.bool true, []) := by
  rw [fn_text Try.func6 rfl rfl Try.results6 locM6 rfl rfl (by kernel_rfl)]
  have hs := e7 zero32 (nonceB 258) wthB textB (by decide) (by decide)
  rw [sealR, if_pos ⟨rfl, nonceB_len _⟩] at hs
  have ho := e11 zero32 (nonceB 258) wthB (sealB zero32 (nonceB 258) wthB textB) (by decide) (by rw [sealB_len]; decide)
  rw [open_seal _ _ _ _ _ rfl (nonceB_len _)] at ho
  have ho2 : fn C 11 [] [.slice 1 (zero32.map byteRow), .slice 1 [], .slice 1 [], .slice 1 []] = some (.tup [.usl 1 [], .int .i64 2], []) := by
    have h := e11 zero32 [] [] [] (by decide) (by decide)
    rw [openR, if_neg (by simp)] at h
    exact h
  have hn : fn C 9 [] [.int .u64 258] = some (.slice 1 ((nonceB 258).map byteRow), []) := e9 258 (by decide)
  have hsl : (sealB zero32 (nonceB 258) wthB textB).length = 20 := by rw [sealB_len]; rfl
  simp -implicitDefEqProofs -dsimp +contextual (maxSteps := 5000000) (disch := first | omega | (simp only [go_sem] <;> omega) | (show indepB _ _ = true; refine id ?_; kernel_rfl)) only [go_sem, ↓reduceIte, Nat.reduceEqDiff, Nat.reduceBEq, Nat.reduceAdd, Nat.reduceSub, Nat.reduceLeDiff, Nat.reduceLT, Nat.reduceMul, Int.reduceNeg, Int.reduceLT, Int.reduceLE, Int.reduceAdd, Int.reduceSub, Int.reduceToNat, Int.reduceMul, Int.reduceMod, Int.reduceTMod, Int.reduceTDiv, Int.reduceEq, Nat.reducePow, Nat.reduceDiv, Nat.reduceShiftRight, Nat.reduceMod, List.reduceReplicate, zero32_rows, wthB_rows, textB_rows, hs, ho, ho2, hn, hsl]
  have c1 : nonceB 258 = [0, 0, 0, 0, 0, 0, 0, 0, 0, 0, 1, 2] := by decide
  have c2 : textB = [116, 101, 120, 116] := rfl
  simp [kD, c1, c2]

end Go.Proofs.Ytdfkkfnjlcdjaaa
