import Derived.Test.YtccfjidpdlfenaaDoorTMerge
namespace Go.Proofs.YtccfjidpdlfenaaDoor
open Go.Am
set_option linter.unusedSimpArgs false
set_option linter.unusedVariables false
set_option maxRecDepth 100000
/-! Layer 1: numbers as bytes. -/
def beN (s n : Nat) : List UInt8 := (List.range s).map fun i => UInt8.ofNat (n / 2 ^ (8 * (s - 1 - i)))
@[go_sem] theorem beN_len (s n : Nat) : (beN s n).length = s := by simp [beN]
theorem beN_get (s n i : Nat) (h : i < (beN s n).length) : (beN s n)[i] = UInt8.ofNat (n / 2 ^ (8 * (s - 1 - i))) := by simp [beN]

theorem packNum (ex : List Nat) (hex : ex = [] ∨ ex = [0]) (l : List UInt8) (n s : Nat) (hn : n ≤ 18446744073709551615) (hs1 : 1 ≤ s) (hs : s ≤ 8) (hl : l.length ≤ 1000000000) : fn C 52 ex [.usl 1 (l.map byteRow), .int .u64 (n : Int), .int .i64 (s : Int)] = some (.usl 1 ((l ++ beN s n).map byteRow), []) := by
  rcases hex with rfl | rfl
  · rw [fn_text Tryd.func52 rfl rfl Tryd.results52 locM52 rfl rfl (by kernel_rfl)]
    simp -implicitDefEqProofs -dsimp +contextual (maxSteps := 5000000) (disch := first | omega | (simp only [go_sem] <;> omega) | (show indepB _ _ = true; refine id ?_; kernel_rfl)) only [go_sem, ↓reduceIte, Nat.reduceEqDiff, Nat.reduceBEq, Nat.reduceAdd, Nat.reduceSub, Nat.reduceLeDiff, Nat.reduceLT, Nat.reduceMul, Int.reduceNeg, Int.reduceLT, Int.reduceLE, Int.reduceAdd, Int.reduceSub, Int.reduceToNat, Int.reduceMul, Int.reduceMod, Int.reduceTMod, Int.reduceTDiv, Int.reduceEq, Nat.reducePow, Nat.reduceDiv, Nat.reduceShiftRight, Nat.reduceMod, List.reduceReplicate, show ¬ s < 1 by omega, show ¬ 8 < s by omega]
    refine kLoop_rec (fun (i : Nat) f H => f 0 = .osl 1 (i + 1) 0 (l.length + i) ∧ f 1 = .int .u64 (n : Int) ∧ f 2 = .int .i64 (s : Int) ∧ f 15 = .int .i64 (s : Int) ∧ f 16 = .int .i64 (i : Int) ∧ (∃ e, H 1 = ⟨i + 1, .live, 1, (l ++ (beN s n).take i).map byteRow, e⟩) ∧ i ≤ s) (fun i => s - i) (fun _ => some (.usl 1 ((l ++ beN s n).map byteRow), [])) ?_ 0 _ _ ?_
    rotate_left
    · exact ⟨rfl, rfl, rfl, rfl, rfl, ⟨_, by rw [List.take_zero, List.append_nil]; rfl⟩, by omega⟩
    rintro i f H ⟨f0, f1, f2, f15, f16, ⟨e, H1⟩, hi⟩ ih
    have hb := beN_len s n
    by_cases hl : i < s
    · have e1 : (s : Int) - 1 - (i : Int) = ((s - 1 - i : Nat) : Int) := by omega
      simp -implicitDefEqProofs -dsimp +contextual (maxSteps := 5000000) (disch := first | omega | (simp only [go_sem] <;> omega) | (show indepB _ _ = true; refine id ?_; kernel_rfl)) only [go_sem, ↓reduceIte, Nat.reduceEqDiff, Nat.reduceBEq, Nat.reduceAdd, Nat.reduceSub, Nat.reduceLeDiff, Nat.reduceLT, Nat.reduceMul, Int.reduceNeg, Int.reduceLT, Int.reduceLE, Int.reduceAdd, Int.reduceSub, Int.reduceToNat, Int.reduceMul, Int.reduceMod, Int.reduceTMod, Int.reduceTDiv, Int.reduceEq, Nat.reducePow, Nat.reduceDiv, Nat.reduceShiftRight, Nat.reduceMod, List.reduceReplicate, f0, f1, f2, f15, f16, H1, hl, hb, e1, u8_wrap]
      have e2 : (beN s n).take (i + 1) = (beN s n).take i ++ [UInt8.ofNat (n / 2 ^ (8 * (s - 1 - i)))] := by
        rw [List.take_succ_eq_append_getElem (by omega), beN_get]
      rw [List.append_assoc, ← e2]
      exact ih (i + 1) _ _ ⟨rfl, f1, f2, f15, rfl, ⟨_, rfl⟩, by omega⟩ (by omega)
    · obtain rfl : i = s := by omega
      simp -implicitDefEqProofs -dsimp +contextual (maxSteps := 5000000) (disch := first | omega | (simp only [go_sem] <;> omega) | (show indepB _ _ = true; refine id ?_; kernel_rfl)) only [go_sem, ↓reduceIte, Nat.reduceEqDiff, Nat.reduceBEq, Nat.reduceAdd, Nat.reduceSub, Nat.reduceLeDiff, Nat.reduceLT, Nat.reduceMul, Int.reduceNeg, Int.reduceLT, Int.reduceLE, Int.reduceAdd, Int.reduceSub, Int.reduceToNat, Int.reduceMul, Int.reduceMod, Int.reduceTMod, Int.reduceTDiv, Int.reduceEq, Nat.reducePow, Nat.reduceDiv, Nat.reduceShiftRight, Nat.reduceMod, List.reduceReplicate, f0, f1, f2, f15, f16, H1, hl, hb]
  · rw [fn_text Tryd.func52 rfl rfl Tryd.results52 locM52 rfl rfl (by kernel_rfl)]
    simp -implicitDefEqProofs -dsimp +contextual (maxSteps := 5000000) (disch := first | omega | (simp only [go_sem] <;> omega) | (show indepB _ _ = true; refine id ?_; kernel_rfl)) only [go_sem, ↓reduceIte, Nat.reduceEqDiff, Nat.reduceBEq, Nat.reduceAdd, Nat.reduceSub, Nat.reduceLeDiff, Nat.reduceLT, Nat.reduceMul, Int.reduceNeg, Int.reduceLT, Int.reduceLE, Int.reduceAdd, Int.reduceSub, Int.reduceToNat, Int.reduceMul, Int.reduceMod, Int.reduceTMod, Int.reduceTDiv, Int.reduceEq, Nat.reducePow, Nat.reduceDiv, Nat.reduceShiftRight, Nat.reduceMod, List.reduceReplicate, show ¬ s < 1 by omega, show ¬ 8 < s by omega]
    refine kLoop_rec (fun (i : Nat) f H => f 0 = .osl 1 (i + 1) 0 (l.length + i) ∧ f 1 = .int .u64 (n : Int) ∧ f 2 = .int .i64 (s : Int) ∧ f 15 = .int .i64 (s : Int) ∧ f 16 = .int .i64 (i : Int) ∧ (∃ e, H 1 = ⟨i + 1, .live, 1, (l ++ (beN s n).take i).map byteRow, e⟩) ∧ i ≤ s) (fun i => s - i) (fun _ => some (.usl 1 ((l ++ beN s n).map byteRow), [])) ?_ 0 _ _ ?_
    rotate_left
    · exact ⟨rfl, rfl, rfl, rfl, rfl, ⟨_, by rw [List.take_zero, List.append_nil]; rfl⟩, by omega⟩
    rintro i f H ⟨f0, f1, f2, f15, f16, ⟨e, H1⟩, hi⟩ ih
    have hb := beN_len s n
    by_cases hl : i < s
    · have e1 : (s : Int) - 1 - (i : Int) = ((s - 1 - i : Nat) : Int) := by omega
      simp -implicitDefEqProofs -dsimp +contextual (maxSteps := 5000000) (disch := first | omega | (simp only [go_sem] <;> omega) | (show indepB _ _ = true; refine id ?_; kernel_rfl)) only [go_sem, ↓reduceIte, Nat.reduceEqDiff, Nat.reduceBEq, Nat.reduceAdd, Nat.reduceSub, Nat.reduceLeDiff, Nat.reduceLT, Nat.reduceMul, Int.reduceNeg, Int.reduceLT, Int.reduceLE, Int.reduceAdd, Int.reduceSub, Int.reduceToNat, Int.reduceMul, Int.reduceMod, Int.reduceTMod, Int.reduceTDiv, Int.reduceEq, Nat.reducePow, Nat.reduceDiv, Nat.reduceShiftRight, Nat.reduceMod, List.reduceReplicate, f0, f1, f2, f15, f16, H1, hl, hb, e1, u8_wrap]
      have e2 : (beN s n).take (i + 1) = (beN s n).take i ++ [UInt8.ofNat (n / 2 ^ (8 * (s - 1 - i)))] := by
        rw [List.take_succ_eq_append_getElem (by omega), beN_get]
      rw [List.append_assoc, ← e2]
      exact ih (i + 1) _ _ ⟨rfl, f1, f2, f15, rfl, ⟨_, rfl⟩, by omega⟩ (by omega)
    · obtain rfl : i = s := by omega
      simp -implicitDefEqProofs -dsimp +contextual (maxSteps := 5000000) (disch := first | omega | (simp only [go_sem] <;> omega) | (show indepB _ _ = true; refine id ?_; kernel_rfl)) only [go_sem, ↓reduceIte, Nat.reduceEqDiff, Nat.reduceBEq, Nat.reduceAdd, Nat.reduceSub, Nat.reduceLeDiff, Nat.reduceLT, Nat.reduceMul, Int.reduceNeg, Int.reduceLT, Int.reduceLE, Int.reduceAdd, Int.reduceSub, Int.reduceToNat, Int.reduceMul, Int.reduceMod, Int.reduceTMod, Int.reduceTDiv, Int.reduceEq, Nat.reducePow, Nat.reduceDiv, Nat.reduceShiftRight, Nat.reduceMod, List.reduceReplicate, f0, f1, f2, f15, f16, H1, hl, hb]

@[go_sem] theorem packNum_lit (l : List UInt8) (n s : Nat) (hn : n ≤ 18446744073709551615) (hs1 : 1 ≤ OfNat.ofNat s) (hs : OfNat.ofNat s ≤ 8) (hl : l.length ≤ 1000000000) : fn C 52 [] [.usl 1 (l.map byteRow), .int .u64 (n : Int), .int .i64 (no_index (OfNat.ofNat s : Int))] = some (.usl 1 ((l ++ beN (OfNat.ofNat s) n).map byteRow), []) := packNum [] (.inl rfl) l n (OfNat.ofNat s) hn hs1 hs hl
@[go_sem] theorem packNum_lit0 (l : List UInt8) (n s : Nat) (hn : n ≤ 18446744073709551615) (hs1 : 1 ≤ OfNat.ofNat s) (hs : OfNat.ofNat s ≤ 8) (hl : l.length ≤ 1000000000) : fn C 52 [0] [.usl 1 (l.map byteRow), .int .u64 (n : Int), .int .i64 (no_index (OfNat.ofNat s : Int))] = some (.usl 1 ((l ++ beN (OfNat.ofNat s) n).map byteRow), []) := packNum [0] (.inr rfl) l n (OfNat.ofNat s) hn hs1 hs hl

theorem beN_drop (s n k : Nat) (hk : k < s) : (beN s n).drop (s - k - 1) = UInt8.ofNat (n / 2 ^ (8 * k)) :: (beN s n).drop (s - k) := by
  rw [List.drop_eq_getElem_cons (by rw [beN_len]; omega), beN_get, show s - 1 - (s - k - 1) = k by omega, show s - k - 1 + 1 = s - k by omega]
theorem rep_set (l t : List UInt8) (m : Nat) (x : UInt8) : (l ++ (List.replicate (m + 1) 0 ++ t)).set (l.length + m) x = l ++ (List.replicate m 0 ++ x :: t) := by
  rw [List.set_append_right _ _ (by omega), Nat.add_sub_cancel_left, List.replicate_succ', List.append_assoc, List.set_append_right _ _ (by simp)]
  simp

theorem refNum (l : List UInt8) (n s : Nat) (hn : n ≤ 18446744073709551615) (hs1 : 1 ≤ s) (hs : s ≤ 8) (hl : l.length ≤ 1000000000) : fn C 55 [] [.slice 1 (l.map byteRow), .int .u64 (n : Int), .int .i64 (s : Int)] = some (.usl 1 ((l ++ beN s n).map byteRow), []) := by
  rw [fn_text Tryd.func55 rfl rfl Tryd.results55 locM55 rfl rfl (by kernel_rfl)]
  simp -implicitDefEqProofs -dsimp +contextual (maxSteps := 5000000) (disch := first | omega | (simp only [go_sem] <;> omega) | (show indepB _ _ = true; refine id ?_; kernel_rfl)) only [go_sem, ↓reduceIte, Nat.reduceEqDiff, Nat.reduceBEq, Nat.reduceAdd, Nat.reduceSub, Nat.reduceLeDiff, Nat.reduceLT, Nat.reduceMul, Int.reduceNeg, Int.reduceLT, Int.reduceLE, Int.reduceAdd, Int.reduceSub, Int.reduceToNat, Int.reduceMul, Int.reduceMod, Int.reduceTMod, Int.reduceTDiv, Int.reduceEq, Nat.reducePow, Nat.reduceDiv, Nat.reduceShiftRight, Nat.reduceMod, List.reduceReplicate, show ¬ s < 1 by omega, show ¬ 8 < s by omega]
  refine kLoop_rec (fun (i : Nat) f H => f 0 = .slice 1 (l.map byteRow) ∧ f 1 = .int .u64 (n : Int) ∧ f 2 = .int .i64 (s : Int) ∧ f 7 = .osl 117 (i + 2) 0 (l.length + i) ∧ f 8 = .int .i64 (i : Int) ∧ H 117 = ⟨i + 2, .live, 1, (l ++ List.replicate i (0 : UInt8)).map byteRow, false⟩ ∧ i ≤ s) (fun i => s - i) (fun _ => some (.usl 1 ((l ++ beN s n).map byteRow), [])) ?_ 0 _ _ ?_
  rotate_left
  · refine ⟨rfl, rfl, rfl, rfl, rfl, ?_, by omega⟩
    rw [List.replicate_zero, List.append_nil]; rfl
  rintro i f H ⟨f0, f1, f2, f7, f8, H1, hi⟩ ih
  by_cases hl : i < s
  · have e : (l ++ List.replicate i (0 : UInt8)).map byteRow ++ [[AVal.int IntKind.u8 0]] = (l ++ List.replicate (i + 1) (0 : UInt8)).map byteRow := by
      rw [List.replicate_succ', ← List.append_assoc, List.map_append (l₁ := l ++ _)]; rfl
    simp -implicitDefEqProofs -dsimp +contextual (maxSteps := 5000000) (disch := first | omega | (simp only [go_sem] <;> omega) | (show indepB _ _ = true; refine id ?_; kernel_rfl)) only [go_sem, ↓reduceIte, Nat.reduceEqDiff, Nat.reduceBEq, Nat.reduceAdd, Nat.reduceSub, Nat.reduceLeDiff, Nat.reduceLT, Nat.reduceMul, Int.reduceNeg, Int.reduceLT, Int.reduceLE, Int.reduceAdd, Int.reduceSub, Int.reduceToNat, Int.reduceMul, Int.reduceMod, Int.reduceTMod, Int.reduceTDiv, Int.reduceEq, Nat.reducePow, Nat.reduceDiv, Nat.reduceShiftRight, Nat.reduceMod, List.reduceReplicate, f0, f1, f2, f7, f8, H1, hl, e]
    exact ih (i + 1) _ _ ⟨f0, f1, f2, rfl, rfl, rfl, by omega⟩ (by omega)
  · obtain rfl : i = s := by omega
    simp -implicitDefEqProofs -dsimp +contextual (maxSteps := 5000000) (disch := first | omega | (simp only [go_sem] <;> omega) | (show indepB _ _ = true; refine id ?_; kernel_rfl)) only [go_sem, ↓reduceIte, Nat.reduceEqDiff, Nat.reduceBEq, Nat.reduceAdd, Nat.reduceSub, Nat.reduceLeDiff, Nat.reduceLT, Nat.reduceMul, Int.reduceNeg, Int.reduceLT, Int.reduceLE, Int.reduceAdd, Int.reduceSub, Int.reduceToNat, Int.reduceMul, Int.reduceMod, Int.reduceTMod, Int.reduceTDiv, Int.reduceEq, Nat.reducePow, Nat.reduceDiv, Nat.reduceShiftRight, Nat.reduceMod, List.reduceReplicate, f0, f1, f2, f7, f8, H1, hl]
    refine kLoop_rec (fun (k : Nat) f H => f 0 = .slice 1 (l.map byteRow) ∧ f 1 = .int .u64 ((n / 2 ^ (8 * k) : Nat) : Int) ∧ f 7 = .osl 117 (i + 2) 0 (l.length + i) ∧ f 9 = .int .i64 (((l.length + i - k : Nat) : Int) - 1) ∧ H 117 = ⟨i + 2, .live, 1, (l ++ (List.replicate (i - k) (0 : UInt8) ++ (beN i n).drop (i - k))).map byteRow, false⟩ ∧ k ≤ i) (fun k => i - k) (fun _ => some (.usl 1 ((l ++ beN i n).map byteRow), [])) ?_ 0 _ _ ?_
    rotate_left
    · refine ⟨f0, ?_, f7, ?_, ?_, by omega⟩
      · rw [show n / 2 ^ (8 * 0) = n by simp]; exact f1
      · show AVal.int IntKind.i64 _ = AVal.int IntKind.i64 _
        congr 1; omega
      · rw [H1, Nat.sub_zero, List.drop_of_length_le (by rw [beN_len]; omega), List.append_nil]
    clear f0 f1 f2 f7 f8 H1 ih
    rintro k f H ⟨f0, f1, f7, f9, H1, hk⟩ ih
    by_cases hl : k < i
    · have hq : n / 2 ^ (8 * k) / 256 = n / 2 ^ (8 * (k + 1)) := by rw [Nat.div_div_eq_div_mul, show 8 * (k + 1) = 8 * k + 8 by omega, Nat.pow_add]
      have hq2 : n / 2 ^ (8 * (k + 1)) ≤ n := Nat.div_le_self ..
      have hw : IntKind.u64.wrap ((n / 2 ^ (8 * k) / 256 : Nat) : Int) = ((n / 2 ^ (8 * (k + 1)) : Nat) : Int) := by
        rw [hq]; generalize n / 2 ^ (8 * (k + 1)) = q at hq2 ⊢; exact wrap_u64_id (by omega) (by omega)
      have hx : UInt8.ofNat (n / 2 ^ (8 * k) % 256) = UInt8.ofNat (n / 2 ^ (8 * k)) := UInt8.toNat_inj.1 (by simp)
      have hset := rep_set l ((beN i n).drop (i - k)) (i - k - 1) (UInt8.ofNat (n / 2 ^ (8 * k)))
      rw [← beN_drop i n k hl, show i - k - 1 + 1 = i - k by omega, show l.length + (i - k - 1) = l.length + i - k - 1 by omega] at hset
      simp -implicitDefEqProofs -dsimp +contextual (maxSteps := 5000000) (disch := first | omega | (simp only [go_sem] <;> omega) | (show indepB _ _ = true; refine id ?_; kernel_rfl)) only [go_sem, ↓reduceIte, Nat.reduceEqDiff, Nat.reduceBEq, Nat.reduceAdd, Nat.reduceSub, Nat.reduceLeDiff, Nat.reduceLT, Nat.reduceMul, Int.reduceNeg, Int.reduceLT, Int.reduceLE, Int.reduceAdd, Int.reduceSub, Int.reduceToNat, Int.reduceMul, Int.reduceMod, Int.reduceTMod, Int.reduceTDiv, Int.reduceEq, Nat.reducePow, Nat.reduceDiv, Nat.reduceShiftRight, Nat.reduceMod, List.reduceReplicate, f0, f1, f7, f9, H1, hl, u8_wrap, hw, hx, hset]
      exact ih (k + 1) _ _ ⟨f0, rfl, f7, rfl, rfl, by omega⟩ (by omega)
    · obtain rfl : k = i := by omega
      simp -implicitDefEqProofs -dsimp +contextual (maxSteps := 5000000) (disch := first | omega | (simp only [go_sem] <;> omega) | (show indepB _ _ = true; refine id ?_; kernel_rfl)) only [go_sem, ↓reduceIte, Nat.reduceEqDiff, Nat.reduceBEq, Nat.reduceAdd, Nat.reduceSub, Nat.reduceLeDiff, Nat.reduceLT, Nat.reduceMul, Int.reduceNeg, Int.reduceLT, Int.reduceLE, Int.reduceAdd, Int.reduceSub, Int.reduceToNat, Int.reduceMul, Int.reduceMod, Int.reduceTMod, Int.reduceTDiv, Int.reduceEq, Nat.reducePow, Nat.reduceDiv, Nat.reduceShiftRight, Nat.reduceMod, List.reduceReplicate, f0, f1, f7, f9, H1, hl]

@[go_sem] theorem refNum_lit (l : List UInt8) (n s : Nat) (hn : n ≤ 18446744073709551615) (hs1 : 1 ≤ OfNat.ofNat s) (hs : OfNat.ofNat s ≤ 8) (hl : l.length ≤ 1000000000) : fn C 55 [] [.slice 1 (l.map byteRow), .int .u64 (n : Int), .int .i64 (no_index (OfNat.ofNat s : Int))] = some (.usl 1 ((l ++ beN (OfNat.ofNat s) n).map byteRow), []) := refNum l n (OfNat.ofNat s) hn hs1 hs hl

end Go.Proofs.YtccfjidpdlfenaaDoor
