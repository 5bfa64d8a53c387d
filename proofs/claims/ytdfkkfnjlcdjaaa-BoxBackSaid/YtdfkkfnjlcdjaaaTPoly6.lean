import Derived.Test.YtdfkkfnjlcdjaaaTPoly5
namespace Go.Proofs.Ytdfkkfnjlcdjaaa
open Go.Am
set_option linter.unusedSimpArgs false
set_option linter.unusedVariables false
set_option maxRecDepth 100000
/-! Layer 7: tags, whole. -/
def polyKey (key : List UInt8) : Nm := readN (leV (clampB key))
def tagB (key msg : List UInt8) : List UInt8 := sumB (writeB (leastN (tagAcc (polyKey key) msg.length ⟨0, 0, 0, 0, 0⟩ msg))) (key.drop 16)
@[go_sem] theorem tagB_len (key msg : List UInt8) : (tagB key msg).length = 16 := by simp [tagB, sumB]
@[go_sem] theorem writeB_len (n : Nm) : (writeB n).length = 16 := by simp [writeB]
theorem tagAcc_lt (r : Nm) (hr : r.a < 67108864 ∧ r.b < 67108864 ∧ r.c < 67108864 ∧ r.d < 67108864 ∧ r.e < 67108864) : ∀ (k : Nat) (n : Nm) (msg : List UInt8), Okn n → Okn (tagAcc r k n msg)
  | 0, n, msg, h => h
  | k + 1, n, msg, h => by
    rw [tagAcc]; split
    · exact h
    · exact tagAcc_lt r hr k _ _ (stepN_lt _ _ _ h hr)
theorem tagAcc_fuel (r : Nm) : ∀ (k k' : Nat) (n : Nm) (msg : List UInt8), msg.length ≤ k → msg.length ≤ k' → tagAcc r k n msg = tagAcc r k' n msg
  | 0, 0, _, _, _, _ => rfl
  | 0, k' + 1, n, msg, h, _ => by
    have : msg = [] := List.eq_nil_of_length_eq_zero (by omega)
    simp [tagAcc, this]
  | k + 1, 0, n, msg, _, h => by
    have : msg = [] := List.eq_nil_of_length_eq_zero (by omega)
    simp [tagAcc, this]
  | k + 1, k' + 1, n, msg, h, h' => by
    rw [tagAcc, tagAcc]
    split
    · rfl
    · rename_i hne
      have : 0 < msg.length := List.length_pos_iff.2 hne
      exact tagAcc_fuel r k k' _ _ (by simp; omega) (by simp; omega)

set_option maxHeartbeats 8000000 in
@[go_sem] theorem e27 (key msg : List UInt8) (hk : key.length = 32) (hm : msg.length ≤ 1000000000) : fn C 27 [] [.slice 1 (key.map byteRow), .slice 1 (msg.map byteRow)] = some (.tup [.usl 1 ((tagB key msg).map byteRow), .int .i64 0], []) := by
  rw [fn_text Try.func27 rfl rfl Try.results27 locM27 rfl rfl (by kernel_rfl)]
  have hcl := clampB_len key (by omega)
  have hc := e36 key (by omega)
  have hrd := e35 (clampB key) (by omega)
  have hr := readN_lt (leV (clampB key))
  simp -implicitDefEqProofs -dsimp +contextual (maxSteps := 5000000) (disch := first | omega | (simp only [go_sem] <;> omega) | (show indepB _ _ = true; refine id ?_; kernel_rfl)) only [go_sem, ↓reduceIte, Nat.reduceEqDiff, Nat.reduceBEq, Nat.reduceAdd, Nat.reduceSub, Nat.reduceLeDiff, Nat.reduceLT, Nat.reduceMul, Int.reduceNeg, Int.reduceLT, Int.reduceLE, Int.reduceAdd, Int.reduceSub, Int.reduceToNat, Int.reduceMul, Int.reduceMod, Int.reduceTMod, Int.reduceTDiv, Int.reduceEq, Nat.reducePow, Nat.reduceDiv, Nat.reduceShiftRight, Nat.reduceMod, List.reduceReplicate, hk, hc, hrd]
  have e0 : tagB key msg = sumB (writeB (leastN (tagAcc (readN (leV (clampB key))) (msg.length - 0) ⟨0, 0, 0, 0, 0⟩ (msg.drop 0)))) (key.drop 16) := rfl
  rw [e0]
  generalize readN (leV (clampB key)) = r at *
  refine kLoop_rec2 (fun (i : Nat) (n : Nm) f H => f 0 = .slice 1 (key.map byteRow) ∧ f 1 = .slice 1 (msg.map byteRow) ∧ f 6 = .ptr 106 1 0 0 ∧ f 7 = .ptr 107 1 0 0 ∧ f 8 = .int .i64 ((16 * i : Nat) : Int) ∧ H 106 = ⟨1, .live, 5, [r.cs], false⟩ ∧ H 107 = ⟨1, .live, 5, [n.cs], false⟩ ∧ 16 * i ≤ msg.length + 15 ∧ Okn n) (fun i _ => msg.length + 16 - 16 * i) (fun i n => some (.tup [.usl 1 ((sumB (writeB (leastN (tagAcc r (msg.length - 16 * i) n (msg.drop (16 * i))))) (key.drop 16)).map byteRow), .int .i64 0], [])) ?_ 0 ⟨0, 0, 0, 0, 0⟩ _ _ ?_
  rotate_left
  · exact ⟨rfl, rfl, rfl, rfl, rfl, rfl, rfl, by omega, by simp [Okn]⟩
  rintro i n f H ⟨f0, f1, f6, f7, f8, H106, H107, hi, hn⟩ ih
  by_cases hl : 16 * i < msg.length
  · have e : (if msg.length < 16 * i + 16 then (msg.length : Int) else ((16 * i + 16 : Nat) : Int)) = ((min (16 * i + 16) msg.length : Nat) : Int) := by split <;> omega
    have et : List.take (min (16 * i + 16) msg.length - 16 * i) (List.drop (16 * i) msg) = (msg.drop (16 * i)).take 16 := by
      by_cases h : 16 * i + 16 ≤ msg.length
      · rw [Nat.min_eq_left h, Nat.add_sub_cancel_left]
      · rw [Nat.min_eq_right (by omega), List.take_of_length_le (by simp), List.take_of_length_le (by simp; omega)]
    have ha : ∀ l : List UInt8, l.map byteRow ++ [[AVal.int .u8 1]] = (l ++ [1]).map byteRow := fun l => by simp [byteRow]
    have hbl : ((msg.drop (16 * i)).take 16 ++ [1]).length ≤ 17 := by simp; omega
    have hq := readN_lt (leV ((msg.drop (16 * i)).take 16 ++ [1]))
    have hmid := mid_lt n (leV ((msg.drop (16 * i)).take 16 ++ [1])) hn
    have hstep := stepN_lt r n ((msg.drop (16 * i)).take 16) hn hr
    have hR := e35 ((msg.drop (16 * i)).take 16 ++ [1]) hbl
    have hadd : (addN n (readN (leV ((msg.drop (16 * i)).take 16 ++ [1])))).le 1152921504606846976 := by
      obtain ⟨a1, a2, a3, a4, a5⟩ := hn
      obtain ⟨q1, q2, q3, q4, q5⟩ := hq
      refine ⟨?_, ?_, ?_, ?_, ?_⟩ <;> simp only [addN] <;> omega
    have hgo : tagAcc r (msg.length - 16 * i) n (msg.drop (16 * i)) = tagAcc r (msg.length - 16 * (i + 1)) (stepN r n ((msg.drop (16 * i)).take 16)) (msg.drop (16 * (i + 1))) := by
      rw [show msg.length - 16 * i = (msg.length - 16 * i - 1) + 1 by omega, tagAcc, if_neg (by intro h; have := congrArg List.length h; simp at this; omega), List.drop_drop, show 16 * i + 16 = 16 * (i + 1) by omega]
      exact tagAcc_fuel _ _ _ _ _ (by simp; omega) (by simp)
    rw [hgo, stepN]
    have hfin := fun f' H' a => ih (i + 1) (stepN r n ((msg.drop (16 * i)).take 16)) f' H' a (by omega)
    clear ih hgo
    rw [stepN] at hfin hstep
    generalize readN (leV ((msg.drop (16 * i)).take 16 ++ [1])) = q at *
    obtain ⟨a1, a2, a3, a4, a5⟩ := hn
    obtain ⟨r1, r2, r3, r4, r5⟩ := hr
    obtain ⟨q1, q2, q3, q4, q5⟩ := hq
    obtain ⟨d1, d2, d3, d4, d5⟩ := hadd
    obtain ⟨m1, m2, m3, m4, m5⟩ := hmid
    simp -implicitDefEqProofs -dsimp +contextual (maxSteps := 5000000) (disch := first | omega | (simp only [go_sem] <;> omega) | (show indepB _ _ = true; refine id ?_; kernel_rfl)) only [go_sem, ↓reduceIte, Nat.reduceEqDiff, Nat.reduceBEq, Nat.reduceAdd, Nat.reduceSub, Nat.reduceLeDiff, Nat.reduceLT, Nat.reduceMul, Int.reduceNeg, Int.reduceLT, Int.reduceLE, Int.reduceAdd, Int.reduceSub, Int.reduceToNat, Int.reduceMul, Int.reduceMod, Int.reduceTMod, Int.reduceTDiv, Int.reduceEq, Nat.reducePow, Nat.reduceDiv, Nat.reduceShiftRight, Nat.reduceMod, List.reduceReplicate, f0, f1, f6, f7, f8, H106, H107, hl, e, et, ha, hR]
    exact hfin _ _ ⟨f0, f1, f6, f7, rfl, H106, rfl, by omega, hstep⟩
  · have hlt := leastN_lt n (by obtain ⟨a1, a2, a3, a4, a5⟩ := hn; exact ⟨by omega, by omega, by omega, by omega, by omega⟩)
    have hnil : tagAcc r (msg.length - 16 * i) n [] = n := by cases (msg.length - 16 * i) <;> simp [tagAcc]
    obtain ⟨a1, a2, a3, a4, a5⟩ := hn
    obtain ⟨l1, l2, l3, l4, l5⟩ := hlt
    simp -implicitDefEqProofs -dsimp +contextual (maxSteps := 5000000) (disch := first | omega | (simp only [go_sem] <;> omega) | (show indepB _ _ = true; refine id ?_; kernel_rfl)) only [go_sem, ↓reduceIte, Nat.reduceEqDiff, Nat.reduceBEq, Nat.reduceAdd, Nat.reduceSub, Nat.reduceLeDiff, Nat.reduceLT, Nat.reduceMul, Int.reduceNeg, Int.reduceLT, Int.reduceLE, Int.reduceAdd, Int.reduceSub, Int.reduceToNat, Int.reduceMul, Int.reduceMod, Int.reduceTMod, Int.reduceTDiv, Int.reduceEq, Nat.reducePow, Nat.reduceDiv, Nat.reduceShiftRight, Nat.reduceMod, List.reduceReplicate, f0, f1, f6, f7, f8, H106, H107, hl, hnil]

@[go_sem] theorem e22 (key msg tag : List UInt8) (hk : key.length = 32) (hm : msg.length ≤ 1000000000) : fn C 22 [] [.slice 1 (key.map byteRow), .slice 1 (msg.map byteRow), .slice 1 (tag.map byteRow)] = some (.bool (decide (tagB key msg = tag)), []) := by
  rw [fn_text Try.func22 rfl rfl Try.results22 locM22 rfl rfl (by kernel_rfl)]
  simp -implicitDefEqProofs -dsimp +contextual (maxSteps := 5000000) (disch := first | omega | (simp only [go_sem] <;> omega) | (show indepB _ _ = true; refine id ?_; kernel_rfl)) only [go_sem, ↓reduceIte, Nat.reduceEqDiff, Nat.reduceBEq, Nat.reduceAdd, Nat.reduceSub, Nat.reduceLeDiff, Nat.reduceLT, Nat.reduceMul, Int.reduceNeg, Int.reduceLT, Int.reduceLE, Int.reduceAdd, Int.reduceSub, Int.reduceToNat, Int.reduceMul, Int.reduceMod, Int.reduceTMod, Int.reduceTDiv, Int.reduceEq, Nat.reducePow, Nat.reduceDiv, Nat.reduceShiftRight, Nat.reduceMod, List.reduceReplicate]

end Go.Proofs.Ytdfkkfnjlcdjaaa
