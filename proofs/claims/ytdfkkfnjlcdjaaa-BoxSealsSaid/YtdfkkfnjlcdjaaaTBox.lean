import Derived.Test.YtdfkkfnjlcdjaaaTPoly6
namespace Go.Proofs.Ytdfkkfnjlcdjaaa
open Go.Am
set_option linter.unusedSimpArgs false
set_option linter.unusedVariables false
set_option maxRecDepth 100000
/-! Layer 8: boxes. -/
def padB (l : List UInt8) : List UInt8 := l ++ List.replicate ((16 - l.length % 16) % 16) 0
theorem padB_done (l : List UInt8) (h : l.length % 16 = 0) : padB l = l := by simp [padB, h]
theorem padB_more (l : List UInt8) (h : l.length % 16 ≠ 0) : padB (l ++ [0]) = padB l := by
  unfold padB
  rw [List.append_assoc]
  congr 1
  rw [show [(0 : UInt8)] = List.replicate 1 0 from rfl, List.replicate_append_replicate]
  congr 1
  simp; omega
theorem padB_len (l : List UInt8) : (padB l).length ≤ l.length + 15 := by simp [padB]; omega
def le8 (n : Nat) : List UInt8 := [UInt8.ofNat (n / 1), UInt8.ofNat (n / 256), UInt8.ofNat (n / 65536), UInt8.ofNat (n / 16777216), UInt8.ofNat (n / 4294967296), UInt8.ofNat (n / 1099511627776), UInt8.ofNat (n / 281474976710656), UInt8.ofNat (n / 72057594037927936)]
@[go_sem] theorem le8_len (n : Nat) : (le8 n).length = 8 := rfl
theorem row0 (l : List UInt8) : l.map byteRow ++ [[AVal.int .u8 0]] = (l ++ [0]).map byteRow := by simp [byteRow]

@[go_sem] theorem e21 (l : List UInt8) (hl : l.length ≤ 1000000000) : fn C 21 [] [.usl 1 (l.map byteRow)] = some (.usl 1 ((padB l).map byteRow), []) := by
  rw [fn_text Try.func21 rfl rfl Try.results21 locM21 rfl rfl (by kernel_rfl)]
  simp -implicitDefEqProofs -dsimp +contextual (maxSteps := 5000000) (disch := first | omega | (simp only [go_sem] <;> omega) | (show indepB _ _ = true; refine id ?_; kernel_rfl)) only [go_sem, ↓reduceIte, Nat.reduceEqDiff, Nat.reduceBEq, Nat.reduceAdd, Nat.reduceSub, Nat.reduceLeDiff, Nat.reduceLT, Nat.reduceMul, Int.reduceNeg, Int.reduceLT, Int.reduceLE, Int.reduceAdd, Int.reduceSub, Int.reduceToNat, Int.reduceMul, Int.reduceMod, Int.reduceTMod, Int.reduceTDiv, Int.reduceEq, Nat.reducePow, Nat.reduceDiv, Nat.reduceShiftRight, Nat.reduceMod, List.reduceReplicate]
  refine kLoop_rec2 (fun (g : Nat) (m : List UInt8) f H => f 0 = .osl 1 g 0 m.length ∧ (∃ e, H 1 = ⟨g, .live, 1, m.map byteRow, e⟩) ∧ m.length ≤ 1000000016) (fun _ m => (16 - m.length % 16) % 16) (fun _ m => some (.usl 1 ((padB m).map byteRow), [])) ?_ 1 l _ _ ⟨rfl, ⟨_, rfl⟩, by omega⟩
  rintro g m f H ⟨f0, ⟨e, H1⟩, hm⟩ ih
  by_cases h : m.length % 16 = 0
  · simp -implicitDefEqProofs -dsimp +contextual (maxSteps := 5000000) (disch := first | omega | (simp only [go_sem] <;> omega) | (show indepB _ _ = true; refine id ?_; kernel_rfl)) only [go_sem, ↓reduceIte, Nat.reduceEqDiff, Nat.reduceBEq, Nat.reduceAdd, Nat.reduceSub, Nat.reduceLeDiff, Nat.reduceLT, Nat.reduceMul, Int.reduceNeg, Int.reduceLT, Int.reduceLE, Int.reduceAdd, Int.reduceSub, Int.reduceToNat, Int.reduceMul, Int.reduceMod, Int.reduceTMod, Int.reduceTDiv, Int.reduceEq, Nat.reducePow, Nat.reduceDiv, Nat.reduceShiftRight, Nat.reduceMod, List.reduceReplicate, f0, H1, h]
    rw [padB_done m h]
  · simp -implicitDefEqProofs -dsimp +contextual (maxSteps := 5000000) (disch := first | omega | (simp only [go_sem] <;> omega) | (show indepB _ _ = true; refine id ?_; kernel_rfl)) only [go_sem, ↓reduceIte, Nat.reduceEqDiff, Nat.reduceBEq, Nat.reduceAdd, Nat.reduceSub, Nat.reduceLeDiff, Nat.reduceLT, Nat.reduceMul, Int.reduceNeg, Int.reduceLT, Int.reduceLE, Int.reduceAdd, Int.reduceSub, Int.reduceToNat, Int.reduceMul, Int.reduceMod, Int.reduceTMod, Int.reduceTDiv, Int.reduceEq, Nat.reducePow, Nat.reduceDiv, Nat.reduceShiftRight, Nat.reduceMod, List.reduceReplicate, f0, H1, h, row0]
    rw [← padB_more m h]
    exact ih (g + 1) (m ++ [0]) _ _ ⟨by simp [upd, restr], ⟨_, rfl⟩, by simp; omega⟩ (by simp; omega)

theorem boxLength (ex : List Nat) (hex : ex = [] ∨ ex = [0]) (l : List UInt8) (n : Nat) (hn : n ≤ 1000000000) (hl : l.length ≤ 1000000000) : fn C 23 ex [.usl 1 (l.map byteRow), .int .i64 (n : Int)] = some (.usl 1 ((l ++ le8 n).map byteRow), []) := by
  rcases hex with rfl | rfl
  · rw [fn_text Try.func23 rfl rfl Try.results23 locM23 rfl rfl (by kernel_rfl)]
    simp -implicitDefEqProofs -dsimp +contextual (maxSteps := 5000000) (disch := first | omega | (simp only [go_sem] <;> omega) | (show indepB _ _ = true; refine id ?_; kernel_rfl)) only [go_sem, ↓reduceIte, Nat.reduceEqDiff, Nat.reduceBEq, Nat.reduceAdd, Nat.reduceSub, Nat.reduceLeDiff, Nat.reduceLT, Nat.reduceMul, Int.reduceNeg, Int.reduceLT, Int.reduceLE, Int.reduceAdd, Int.reduceSub, Int.reduceToNat, Int.reduceMul, Int.reduceMod, Int.reduceTMod, Int.reduceTDiv, Int.reduceEq, Nat.reducePow, Nat.reduceDiv, Nat.reduceShiftRight, Nat.reduceMod, List.reduceReplicate, kLoop_eq, u8_wrap]
    simp only [le8, List.append_assoc, List.cons_append, List.nil_append]
  · rw [fn_text Try.func23 rfl rfl Try.results23 locM23 rfl rfl (by kernel_rfl)]
    simp -implicitDefEqProofs -dsimp +contextual (maxSteps := 5000000) (disch := first | omega | (simp only [go_sem] <;> omega) | (show indepB _ _ = true; refine id ?_; kernel_rfl)) only [go_sem, ↓reduceIte, Nat.reduceEqDiff, Nat.reduceBEq, Nat.reduceAdd, Nat.reduceSub, Nat.reduceLeDiff, Nat.reduceLT, Nat.reduceMul, Int.reduceNeg, Int.reduceLT, Int.reduceLE, Int.reduceAdd, Int.reduceSub, Int.reduceToNat, Int.reduceMul, Int.reduceMod, Int.reduceTMod, Int.reduceTDiv, Int.reduceEq, Nat.reducePow, Nat.reduceDiv, Nat.reduceShiftRight, Nat.reduceMod, List.reduceReplicate, kLoop_eq, u8_wrap]
    simp only [le8, List.append_assoc, List.cons_append, List.nil_append]

@[go_sem] theorem e23 (l : List UInt8) (n : Nat) (hn : n ≤ 1000000000) (hl : l.length ≤ 1000000000) : fn C 23 [] [.usl 1 (l.map byteRow), .int .i64 (n : Int)] = some (.usl 1 ((l ++ le8 n).map byteRow), []) := boxLength [] (.inl rfl) l n hn hl

@[go_sem] theorem e13 (key nonce : List UInt8) : fn C 13 [] [.slice 1 (key.map byteRow), .slice 1 (nonce.map byteRow)] = some (.bool (decide (key.length = 32) && decide (nonce.length = 12)), []) := by
  rw [fn_text Try.func13 rfl rfl Try.results13 locM13 rfl rfl (by kernel_rfl)]
  simp -implicitDefEqProofs -dsimp +contextual (maxSteps := 5000000) (disch := first | omega | (simp only [go_sem] <;> omega) | (show indepB _ _ = true; refine id ?_; kernel_rfl)) only [go_sem, ↓reduceIte, Nat.reduceEqDiff, Nat.reduceBEq, Nat.reduceAdd, Nat.reduceSub, Nat.reduceLeDiff, Nat.reduceLT, Nat.reduceMul, Int.reduceNeg, Int.reduceLT, Int.reduceLE, Int.reduceAdd, Int.reduceSub, Int.reduceToNat, Int.reduceMul, Int.reduceMod, Int.reduceTMod, Int.reduceTDiv, Int.reduceEq, Nat.reducePow, Nat.reduceDiv, Nat.reduceShiftRight, Nat.reduceMod, List.reduceReplicate]
  (repeat' (refine kD_intro (fun _ => ?_) (fun _ => ?_))) <;> exact Res_bool (by simp [*])

theorem ofNat0 : ((0 : UInt32).toNat : Int) = 0 := rfl
@[go_sem] theorem eBlock0 (key nonce : List UInt8) : fn C 20 [] [.slice 1 (key.map byteRow), .slice 1 (nonce.map byteRow), .int .u32 0] = some (if key.length = 32 ∧ nonce.length = 12 then .tup [.slice 1 ((blockB key nonce 0).map byteRow), .int .i64 0] else .tup [.slice 1 [], .int .i64 2], []) := e20 key nonce 0
@[go_sem] theorem eXor1 (key nonce msg : List UInt8) (hm : msg.length ≤ 1000000000) : fn C 14 [] [.slice 1 (key.map byteRow), .slice 1 (nonce.map byteRow), .int .u32 1, .slice 1 (msg.map byteRow)] = some (xorR .usl key nonce 1 msg) := e14 key nonce 1 msg hm

def tagX (key nonce wth text : List UInt8) : List UInt8 := tagB ((blockB key nonce 0).take 32) (padB (padB wth ++ text) ++ le8 wth.length ++ le8 text.length)
@[go_sem] theorem tagX_len (key nonce wth text : List UInt8) : (tagX key nonce wth text).length = 16 := by simp [tagX, tagB_len]
set_option maxHeartbeats 4000000 in
@[go_sem] theorem e15 (key nonce wth text : List UInt8) (hk : key.length = 32) (hn : nonce.length = 12) (hw : wth.length ≤ 100000000) (ht : text.length ≤ 100000000) : fn C 15 [] [.slice 1 (key.map byteRow), .slice 1 (nonce.map byteRow), .slice 1 (wth.map byteRow), .slice 1 (text.map byteRow)] = some (.usl 1 ((tagX key nonce wth text).map byteRow), []) := by
  have hp := padB_len wth
  have hp2 := padB_len (padB wth ++ text)
  simp only [List.length_append] at hp2
  rw [fn_text Try.func15 rfl rfl Try.results15 locM15 rfl rfl (by kernel_rfl)]
  have hne : ¬ (wth.length = wth.length + text.length + 64) := by omega
  simp -implicitDefEqProofs -dsimp +contextual (maxSteps := 5000000) (disch := first | omega | (simp only [go_sem] <;> omega) | (show indepB _ _ = true; refine id ?_; kernel_rfl)) only [go_sem, ↓reduceIte, Nat.reduceEqDiff, Nat.reduceBEq, Nat.reduceAdd, Nat.reduceSub, Nat.reduceLeDiff, Nat.reduceLT, Nat.reduceMul, Int.reduceNeg, Int.reduceLT, Int.reduceLE, Int.reduceAdd, Int.reduceSub, Int.reduceToNat, Int.reduceMul, Int.reduceMod, Int.reduceTMod, Int.reduceTDiv, Int.reduceEq, Nat.reducePow, Nat.reduceDiv, Nat.reduceShiftRight, Nat.reduceMod, List.reduceReplicate, hk, hn, hne]
  rfl

end Go.Proofs.Ytdfkkfnjlcdjaaa
