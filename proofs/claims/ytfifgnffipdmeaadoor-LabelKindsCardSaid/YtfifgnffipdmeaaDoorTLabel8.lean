import Derived.Test.YtfifgnffipdmeaaDoorTLabel7
namespace Go.Proofs.YtfifgnffipdmeaaDoor
open Go.Am
set_option linter.unusedSimpArgs false
set_option linter.unusedVariables false
set_option maxRecDepth 100000

open Lib
def rnV : Option Int → AVal
  | some v => .tup [.int .i64 v, .bool true]
  | none => .tup [.int .i64 0, .bool false]
/-- What a text says: its sign apart. -/
def signOf (l : List UInt8) : Bool := decide (l.head? = some 45)
def digsOf (l : List UInt8) : List UInt8 := if l.head? = some 45 then l.tail else l
theorem text_of (l : List UInt8) : textN (signOf l) (digsOf l) = l := by
  cases l with
  | nil => rfl
  | cons a l =>
    by_cases h : a = 45
    · subst h; rfl
    · simp [signOf, digsOf, textN, h]
theorem head_of (l : List UInt8) (h : signOf l = false) : (digsOf l).head? ≠ some 45 := by
  simp only [signOf, decide_eq_false_iff_not] at h
  rw [digsOf, if_neg h]; exact h
theorem dig_dec (c : UInt8) : decB c = decide (digV c ≤ 9) := by
  have : ∀ n : Fin 256, decB (UInt8.ofNat n.val) = decide (digV (UInt8.ofNat n.val) ≤ 9) := by decide +kernel
  simpa using this ⟨c.toNat, c.toNat_lt⟩
theorem dig_val (c : UInt8) (h : decB c = true) : c.toNat - 48 = digV c := by
  simp only [decB, Bool.and_eq_true, decide_eq_true_eq] at h
  simp only [digV]; rw [if_pos ⟨h.1, h.2⟩]
theorem cut_trim (l : List UInt8) : trimPrefix l [45] = digsOf l ∧ hasPrefix l [45] = signOf l := by
  cases l with
  | nil => exact ⟨rfl, rfl⟩
  | cons a l =>
    by_cases h : a = 45
    · subst h; exact ⟨rfl, rfl⟩
    · have h' : ¬ (45 : UInt8) = a := fun e => h e.symm
      have hp : hasPrefix (a :: l) [45] = false := by simp [hasPrefix, List.isPrefixOf, h']
      exact ⟨by rw [trimPrefix, hp]; simp [digsOf, h], by rw [hp]; simp [signOf, h]⟩
theorem all_split {p : UInt8 → Bool} (l : List UInt8) (i : Nat) (h : i < l.length) (hp : p l[i] = false) : l.all p = false := by
  rw [List.all_eq_false]; exact ⟨l[i], List.getElem_mem h, by simp [hp]⟩
theorem readNum_bad (g : Bool) (d : List UInt8) (h : d.all decB = false) : readNumR g d = none := by
  rw [readNumR, if_neg]
  rintro ⟨_, h2, _⟩
  simp [plainD, h] at h2
theorem decV_small (d : List UInt8) (h : d.length ≤ 10) (ha : d.all decB = true) : decV d < 10000000000 :=
  Nat.lt_of_lt_of_le (decV_lt _ d rfl ha) (Nat.le_trans (Nat.pow_le_pow_right (by decide) h) (by decide))
set_option maxHeartbeats 4000000 in
@[go_sem] theorem e18 (l : List UInt8) (hl : l.length ≤ 1000000000000) : fn C 18 [] [.str l] = some (rnV (readNumR (signOf l) (digsOf l)), []) := by
  rw [fn_text Tryd.func18 rfl rfl Tryd.results18 locM18 rfl rfl (by kernel_rfl)]
  obtain ⟨c1, c2⟩ := cut_trim l
  have hb := itoa_back (signOf l) (digsOf l) (head_of l)
  rw [text_of] at hb
  generalize hd : digsOf l = d at *
  generalize hg : signOf l = g at *
  by_cases h10 : 10 < d.length
  · rw [readNumR, if_neg (by omega)]
    simp -implicitDefEqProofs -dsimp +contextual (maxSteps := 5000000) (disch := first | omega | (simp only [go_sem] <;> omega) | (show indepB _ _ = true; refine id ?_; kernel_rfl)) only [go_sem, ↓reduceIte, Nat.reduceEqDiff, Nat.reduceBEq, Nat.reduceAdd, Nat.reduceSub, Nat.reduceLeDiff, Nat.reduceLT, Nat.reduceMul, Int.reduceNeg, Int.reduceLT, Int.reduceLE, Int.reduceAdd, Int.reduceSub, Int.reduceToNat, Int.reduceMul, Int.reduceMod, Int.reduceTMod, Int.reduceTDiv, Int.reduceEq, Nat.reducePow, Nat.reduceDiv, Nat.reduceShiftRight, Nat.reduceMod, List.reduceReplicate, c1, c2, h10]
    rfl
  · have hlen : d.length ≤ 10 := by omega
    simp -implicitDefEqProofs -dsimp +contextual (maxSteps := 5000000) (disch := first | omega | (simp only [go_sem] <;> omega) | (show indepB _ _ = true; refine id ?_; kernel_rfl)) only [go_sem, ↓reduceIte, Nat.reduceEqDiff, Nat.reduceBEq, Nat.reduceAdd, Nat.reduceSub, Nat.reduceLeDiff, Nat.reduceLT, Nat.reduceMul, Int.reduceNeg, Int.reduceLT, Int.reduceLE, Int.reduceAdd, Int.reduceSub, Int.reduceToNat, Int.reduceMul, Int.reduceMod, Int.reduceTMod, Int.reduceTDiv, Int.reduceEq, Nat.reducePow, Nat.reduceDiv, Nat.reduceShiftRight, Nat.reduceMod, List.reduceReplicate, c1, c2, h10]
    refine (kLoop_rec (fun (i : Nat) f H => f 0 = .str l ∧ f 4 = .str d ∧ f 5 = .bool g ∧ f 6 = .int .i64 (decV (d.take i) : Int) ∧ f 17 = .int .i64 (d.length : Int) ∧ f 18 = .int .i64 (i : Int) ∧ i ≤ d.length ∧ (d.take i).all decB = true) (fun i => d.length - i) (fun _ => some (rnV (readNumR g d), [])) ?_ 0 _ _ ⟨rfl, rfl, rfl, rfl, rfl, rfl, by omega, rfl⟩)
    rintro i f H ⟨f0, f4, f5, f6, f17, f18, hi, ha⟩ ih
    have hsm := decV_small (d.take i) (by simp; omega) ha
    by_cases hl : i < d.length
    · have hc := u8_lt d[i]
      by_cases h48 : d[i].toNat < 48
      · rw [readNum_bad g d (all_split d i hl (by simp [decB]; omega))]
        simp -implicitDefEqProofs -dsimp +contextual (maxSteps := 5000000) (disch := first | omega | (simp only [go_sem] <;> omega) | (show indepB _ _ = true; refine id ?_; kernel_rfl)) only [go_sem, ↓reduceIte, Nat.reduceEqDiff, Nat.reduceBEq, Nat.reduceAdd, Nat.reduceSub, Nat.reduceLeDiff, Nat.reduceLT, Nat.reduceMul, Int.reduceNeg, Int.reduceLT, Int.reduceLE, Int.reduceAdd, Int.reduceSub, Int.reduceToNat, Int.reduceMul, Int.reduceMod, Int.reduceTMod, Int.reduceTDiv, Int.reduceEq, Nat.reducePow, Nat.reduceDiv, Nat.reduceShiftRight, Nat.reduceMod, List.reduceReplicate, f0, f4, f5, f6, f17, f18, hl, h48]
        rfl
      · by_cases h57 : 57 < d[i].toNat
        · rw [readNum_bad g d (all_split d i hl (by simp [decB]; omega))]
          simp -implicitDefEqProofs -dsimp +contextual (maxSteps := 5000000) (disch := first | omega | (simp only [go_sem] <;> omega) | (show indepB _ _ = true; refine id ?_; kernel_rfl)) only [go_sem, ↓reduceIte, Nat.reduceEqDiff, Nat.reduceBEq, Nat.reduceAdd, Nat.reduceSub, Nat.reduceLeDiff, Nat.reduceLT, Nat.reduceMul, Int.reduceNeg, Int.reduceLT, Int.reduceLE, Int.reduceAdd, Int.reduceSub, Int.reduceToNat, Int.reduceMul, Int.reduceMod, Int.reduceTMod, Int.reduceTDiv, Int.reduceEq, Nat.reducePow, Nat.reduceDiv, Nat.reduceShiftRight, Nat.reduceMod, List.reduceReplicate, f0, f4, f5, f6, f17, f18, hl, h48, h57]
          rfl
        · have ht := decV_take d i hl
          simp -implicitDefEqProofs -dsimp +contextual (maxSteps := 5000000) (disch := first | omega | (simp only [go_sem] <;> omega) | (show indepB _ _ = true; refine id ?_; kernel_rfl)) only [go_sem, ↓reduceIte, Nat.reduceEqDiff, Nat.reduceBEq, Nat.reduceAdd, Nat.reduceSub, Nat.reduceLeDiff, Nat.reduceLT, Nat.reduceMul, Int.reduceNeg, Int.reduceLT, Int.reduceLE, Int.reduceAdd, Int.reduceSub, Int.reduceToNat, Int.reduceMul, Int.reduceMod, Int.reduceTMod, Int.reduceTDiv, Int.reduceEq, Nat.reducePow, Nat.reduceDiv, Nat.reduceShiftRight, Nat.reduceMod, List.reduceReplicate, f0, f4, f5, f6, f17, f18, hl, h48, h57]
          rw [Nat.mul_comm 10, ← ht]
          refine ih (i + 1) _ _ ⟨f0, f4, f5, rfl, f17, rfl, by omega, ?_⟩ (by omega)
          rw [List.take_succ_eq_append_getElem hl, List.all_append, ha]
          simp [decB]; omega
    · obtain rfl : i = d.length := by omega
      rw [List.take_of_length_le (Nat.le_refl _)] at f6 ha hsm
      cases g with
      | false =>
        have hb' : itoa ((decV d : Nat) : Int) = l ↔ plainD d = true := by simpa [signV] using hb
        have n1 : ¬ ((decV d : Nat) : Int) < -1073741824 := by omega
        by_cases hbig : 1073741824 < decV d
        · rw [readNumR, if_neg (by omega)]
          simp -implicitDefEqProofs -dsimp +contextual (maxSteps := 5000000) (disch := first | omega | (simp only [go_sem] <;> omega) | (show indepB _ _ = true; refine id ?_; kernel_rfl)) only [go_sem, ↓reduceIte, Nat.reduceEqDiff, Nat.reduceBEq, Nat.reduceAdd, Nat.reduceSub, Nat.reduceLeDiff, Nat.reduceLT, Nat.reduceMul, Int.reduceNeg, Int.reduceLT, Int.reduceLE, Int.reduceAdd, Int.reduceSub, Int.reduceToNat, Int.reduceMul, Int.reduceMod, Int.reduceTMod, Int.reduceTDiv, Int.reduceEq, Nat.reducePow, Nat.reduceDiv, Nat.reduceShiftRight, Nat.reduceMod, List.reduceReplicate, f0, f4, f5, f6, f17, f18, hl, hbig]
          rfl
        · by_cases he : itoa ((decV d : Nat) : Int) = l
          · rw [readNumR, if_pos ⟨hlen, hb'.1 he, by omega, by simp⟩]
            simp -implicitDefEqProofs -dsimp +contextual (maxSteps := 5000000) (disch := first | omega | (simp only [go_sem] <;> omega) | (show indepB _ _ = true; refine id ?_; kernel_rfl)) only [go_sem, ↓reduceIte, Nat.reduceEqDiff, Nat.reduceBEq, Nat.reduceAdd, Nat.reduceSub, Nat.reduceLeDiff, Nat.reduceLT, Nat.reduceMul, Int.reduceNeg, Int.reduceLT, Int.reduceLE, Int.reduceAdd, Int.reduceSub, Int.reduceToNat, Int.reduceMul, Int.reduceMod, Int.reduceTMod, Int.reduceTDiv, Int.reduceEq, Nat.reducePow, Nat.reduceDiv, Nat.reduceShiftRight, Nat.reduceMod, List.reduceReplicate, f0, f4, f5, f6, f17, f18, hl, hbig, n1, he]
            rfl
          · rw [readNumR, if_neg (fun h => he (hb'.2 h.2.1))]
            simp -implicitDefEqProofs -dsimp +contextual (maxSteps := 5000000) (disch := first | omega | (simp only [go_sem] <;> omega) | (show indepB _ _ = true; refine id ?_; kernel_rfl)) only [go_sem, ↓reduceIte, Nat.reduceEqDiff, Nat.reduceBEq, Nat.reduceAdd, Nat.reduceSub, Nat.reduceLeDiff, Nat.reduceLT, Nat.reduceMul, Int.reduceNeg, Int.reduceLT, Int.reduceLE, Int.reduceAdd, Int.reduceSub, Int.reduceToNat, Int.reduceMul, Int.reduceMod, Int.reduceTMod, Int.reduceTDiv, Int.reduceEq, Nat.reducePow, Nat.reduceDiv, Nat.reduceShiftRight, Nat.reduceMod, List.reduceReplicate, f0, f4, f5, f6, f17, f18, hl, hbig, n1, he]
            rfl
      | true =>
        have hb' : itoa (-((decV d : Nat) : Int)) = l ↔ plainD d = true ∧ ¬ decV d = 0 := by simpa [signV] using hb
        have n1 : ¬ 1073741824 < -((decV d : Nat) : Int) := by omega
        by_cases hbig : 1073741824 < decV d
        · rw [readNumR, if_neg (by omega)]
          have n2 : -((decV d : Nat) : Int) < -1073741824 := by omega
          simp -implicitDefEqProofs -dsimp +contextual (maxSteps := 5000000) (disch := first | omega | (simp only [go_sem] <;> omega) | (show indepB _ _ = true; refine id ?_; kernel_rfl)) only [go_sem, ↓reduceIte, Nat.reduceEqDiff, Nat.reduceBEq, Nat.reduceAdd, Nat.reduceSub, Nat.reduceLeDiff, Nat.reduceLT, Nat.reduceMul, Int.reduceNeg, Int.reduceLT, Int.reduceLE, Int.reduceAdd, Int.reduceSub, Int.reduceToNat, Int.reduceMul, Int.reduceMod, Int.reduceTMod, Int.reduceTDiv, Int.reduceEq, Nat.reducePow, Nat.reduceDiv, Nat.reduceShiftRight, Nat.reduceMod, List.reduceReplicate, f0, f4, f5, f6, f17, f18, hl, n1, n2, Int.zero_sub]
          rfl
        · have n2 : ¬ -((decV d : Nat) : Int) < -1073741824 := by omega
          by_cases he : itoa (-((decV d : Nat) : Int)) = l
          · rw [readNumR, if_pos ⟨hlen, (hb'.1 he).1, by omega, fun h => (hb'.1 he).2 h.2⟩]
            simp -implicitDefEqProofs -dsimp +contextual (maxSteps := 5000000) (disch := first | omega | (simp only [go_sem] <;> omega) | (show indepB _ _ = true; refine id ?_; kernel_rfl)) only [go_sem, ↓reduceIte, Nat.reduceEqDiff, Nat.reduceBEq, Nat.reduceAdd, Nat.reduceSub, Nat.reduceLeDiff, Nat.reduceLT, Nat.reduceMul, Int.reduceNeg, Int.reduceLT, Int.reduceLE, Int.reduceAdd, Int.reduceSub, Int.reduceToNat, Int.reduceMul, Int.reduceMod, Int.reduceTMod, Int.reduceTDiv, Int.reduceEq, Nat.reducePow, Nat.reduceDiv, Nat.reduceShiftRight, Nat.reduceMod, List.reduceReplicate, f0, f4, f5, f6, f17, f18, hl, n1, n2, he, Int.zero_sub]
            rfl
          · rw [readNumR, if_neg (fun h => he (hb'.2 ⟨h.2.1, fun e => h.2.2.2 ⟨rfl, e⟩⟩))]
            simp -implicitDefEqProofs -dsimp +contextual (maxSteps := 5000000) (disch := first | omega | (simp only [go_sem] <;> omega) | (show indepB _ _ = true; refine id ?_; kernel_rfl)) only [go_sem, ↓reduceIte, Nat.reduceEqDiff, Nat.reduceBEq, Nat.reduceAdd, Nat.reduceSub, Nat.reduceLeDiff, Nat.reduceLT, Nat.reduceMul, Int.reduceNeg, Int.reduceLT, Int.reduceLE, Int.reduceAdd, Int.reduceSub, Int.reduceToNat, Int.reduceMul, Int.reduceMod, Int.reduceTMod, Int.reduceTDiv, Int.reduceEq, Nat.reducePow, Nat.reduceDiv, Nat.reduceShiftRight, Nat.reduceMod, List.reduceReplicate, f0, f4, f5, f6, f17, f18, hl, n1, n2, he, Int.zero_sub]
            rfl

set_option maxHeartbeats 4000000 in
@[go_sem] theorem e19 (l : List UInt8) (hl : l.length ≤ 1000000000000) : fn C 19 [] [.str l] = some (rnV (readNumR (signOf l) (digsOf l)), []) := by
  rw [fn_text Tryd.func19 rfl rfl Tryd.results19 locM19 rfl rfl (by kernel_rfl)]
  by_cases h0 : l = []
  · subst h0
    simp -implicitDefEqProofs -dsimp +contextual (maxSteps := 5000000) (disch := first | omega | (simp only [go_sem] <;> omega) | (show indepB _ _ = true; refine id ?_; kernel_rfl)) only [go_sem, ↓reduceIte, Nat.reduceEqDiff, Nat.reduceBEq, Nat.reduceAdd, Nat.reduceSub, Nat.reduceLeDiff, Nat.reduceLT, Nat.reduceMul, Int.reduceNeg, Int.reduceLT, Int.reduceLE, Int.reduceAdd, Int.reduceSub, Int.reduceToNat, Int.reduceMul, Int.reduceMod, Int.reduceTMod, Int.reduceTDiv, Int.reduceEq, Nat.reducePow, Nat.reduceDiv, Nat.reduceShiftRight, Nat.reduceMod, List.reduceReplicate]
    rfl
  · have hpos : 0 < l.length := List.length_pos_iff.2 h0
    by_cases h45 : l[0] = 45
    · have hs : signOf l = true := by cases l with | nil => exact absurd rfl h0 | cons a l => simp at h45; simp [signOf, h45]
      have hdd : l.drop 1 = digsOf l := by cases l with | nil => exact absurd rfl h0 | cons a l => simp at h45; simp [digsOf, h45]
      have h45 : l[0].toNat = 45 := by rw [h45]; rfl
      rw [hs]
      generalize digsOf l = d at *
      have ho : d.length = l.length - 1 := by rw [← hdd]; simp
      have hget : ∀ i (h : i < l.length) (h2 : 1 ≤ i), l[i] = d[i - 1]'(by omega) := by
        intro i h h2
        subst hdd
        rw [List.getElem_drop]
        congr 1; omega
      by_cases hz : l.length - 1 < 1
      · rw [readNumR, if_neg (by rintro ⟨_, h2, _⟩; rw [show d = [] from List.length_eq_zero_iff.1 (by omega)] at h2; simp [plainD] at h2)]
        try simp only [Nat.sub_zero] at hz
        simp -implicitDefEqProofs -dsimp +contextual (maxSteps := 5000000) (disch := first | omega | (simp only [go_sem] <;> omega) | (show indepB _ _ = true; refine id ?_; kernel_rfl)) only [go_sem, ↓reduceIte, Nat.reduceEqDiff, Nat.reduceBEq, Nat.reduceAdd, Nat.reduceSub, Nat.reduceLeDiff, Nat.reduceLT, Nat.reduceMul, Int.reduceNeg, Int.reduceLT, Int.reduceLE, Int.reduceAdd, Int.reduceSub, Int.reduceToNat, Int.reduceMul, Int.reduceMod, Int.reduceTMod, Int.reduceTDiv, Int.reduceEq, Nat.reducePow, Nat.reduceDiv, Nat.reduceShiftRight, Nat.reduceMod, List.reduceReplicate, h45, hpos, hz]
        rfl
      · by_cases h10 : 10 < l.length - 1
        · rw [readNumR, if_neg (by omega)]
          try simp only [Nat.sub_zero] at hz h10
          simp -implicitDefEqProofs -dsimp +contextual (maxSteps := 5000000) (disch := first | omega | (simp only [go_sem] <;> omega) | (show indepB _ _ = true; refine id ?_; kernel_rfl)) only [go_sem, ↓reduceIte, Nat.reduceEqDiff, Nat.reduceBEq, Nat.reduceAdd, Nat.reduceSub, Nat.reduceLeDiff, Nat.reduceLT, Nat.reduceMul, Int.reduceNeg, Int.reduceLT, Int.reduceLE, Int.reduceAdd, Int.reduceSub, Int.reduceToNat, Int.reduceMul, Int.reduceMod, Int.reduceTMod, Int.reduceTDiv, Int.reduceEq, Nat.reducePow, Nat.reduceDiv, Nat.reduceShiftRight, Nat.reduceMod, List.reduceReplicate, h45, hpos, hz, h10]
          rfl
        · try simp only [Nat.sub_zero] at hz h10
          simp -implicitDefEqProofs -dsimp +contextual (maxSteps := 5000000) (disch := first | omega | (simp only [go_sem] <;> omega) | (show indepB _ _ = true; refine id ?_; kernel_rfl)) only [go_sem, ↓reduceIte, Nat.reduceEqDiff, Nat.reduceBEq, Nat.reduceAdd, Nat.reduceSub, Nat.reduceLeDiff, Nat.reduceLT, Nat.reduceMul, Int.reduceNeg, Int.reduceLT, Int.reduceLE, Int.reduceAdd, Int.reduceSub, Int.reduceToNat, Int.reduceMul, Int.reduceMod, Int.reduceTMod, Int.reduceTDiv, Int.reduceEq, Nat.reducePow, Nat.reduceDiv, Nat.reduceShiftRight, Nat.reduceMod, List.reduceReplicate, h45, hpos, hz, h10]
          refine (kLoop_rec (fun (i : Nat) f H => f 0 = .str l ∧ f 4 = .int .i64 1 ∧ f 5 = .int .i64 (decV (d.take (i - 1)) : Int) ∧ f 6 = .int .i64 (i : Int) ∧ 1 ≤ i ∧ i ≤ l.length ∧ (d.take (i - 1)).all decB = true) (fun i => l.length - i) (fun _ => some (rnV (readNumR true d), [])) ?_ 1 _ _ ⟨rfl, rfl, rfl, rfl, by omega, by omega, rfl⟩)
          rintro i f H ⟨f0, f4, f5, f6, hi1, hi, ha⟩ ih
          have hsm := decV_small (d.take (i - 1)) (by simp; omega) ha
          by_cases hl : i < l.length
          · have hg := hget i hl hi1
            have hv := digV_le l[i]
            have hdec := dig_dec l[i]
            have hsm2 := hsm
            try simp only [Nat.sub_zero] at hsm2
            by_cases h9 : 9 < digV l[i]
            · rw [readNum_bad true d (all_split d (i - 1) (by omega) (by rw [← hg, hdec]; simp; omega))]
              simp -implicitDefEqProofs -dsimp +contextual (maxSteps := 5000000) (disch := first | omega | (simp only [go_sem] <;> omega) | (show indepB _ _ = true; refine id ?_; kernel_rfl)) only [go_sem, ↓reduceIte, Nat.reduceEqDiff, Nat.reduceBEq, Nat.reduceAdd, Nat.reduceSub, Nat.reduceLeDiff, Nat.reduceLT, Nat.reduceMul, Int.reduceNeg, Int.reduceLT, Int.reduceLE, Int.reduceAdd, Int.reduceSub, Int.reduceToNat, Int.reduceMul, Int.reduceMod, Int.reduceTMod, Int.reduceTDiv, Int.reduceEq, Nat.reducePow, Nat.reduceDiv, Nat.reduceShiftRight, Nat.reduceMod, List.reduceReplicate, f0, f4, f5, f6, hl, h9]
              rfl
            · have hdt : decB l[i] = true := by rw [hdec]; simp; omega
              have ht := decV_take d (i - 1) (by omega)
              rw [← hg, dig_val _ hdt] at ht
              try simp only [Nat.sub_zero] at ht
              simp -implicitDefEqProofs -dsimp +contextual (maxSteps := 5000000) (disch := first | omega | (simp only [go_sem] <;> omega) | (show indepB _ _ = true; refine id ?_; kernel_rfl)) only [go_sem, ↓reduceIte, Nat.reduceEqDiff, Nat.reduceBEq, Nat.reduceAdd, Nat.reduceSub, Nat.reduceLeDiff, Nat.reduceLT, Nat.reduceMul, Int.reduceNeg, Int.reduceLT, Int.reduceLE, Int.reduceAdd, Int.reduceSub, Int.reduceToNat, Int.reduceMul, Int.reduceMod, Int.reduceTMod, Int.reduceTDiv, Int.reduceEq, Nat.reducePow, Nat.reduceDiv, Nat.reduceShiftRight, Nat.reduceMod, List.reduceReplicate, f0, f4, f5, f6, hl, h9]
              rw [← ht]
              try rw [show i - 1 + 1 = i + 1 - 1 by omega]
              refine ih (i + 1) _ _ ⟨f0, f4, rfl, rfl, by omega, by omega, ?_⟩ (by omega)
              rw [show i + 1 - 1 = i - 1 + 1 by omega, List.take_succ_eq_append_getElem (by omega), List.all_append, ha, ← hg]
              simp [hdt]
          · obtain rfl : i = l.length := by omega
            rw [← ho, List.take_of_length_le (Nat.le_refl _)] at f5 ha hsm
            have hne : d ≠ [] := fun e => by rw [e] at ho; simp at ho; omega
            have hp : plainD d = !(decide (1 < d.length) && decide (d.head? = some 48)) := by simp [plainD, hne, ha]
            by_cases hbig : 1073741824 < decV d
            · rw [readNumR, if_neg (by omega)]
              simp -implicitDefEqProofs -dsimp +contextual (maxSteps := 5000000) (disch := first | omega | (simp only [go_sem] <;> omega) | (show indepB _ _ = true; refine id ?_; kernel_rfl)) only [go_sem, ↓reduceIte, Nat.reduceEqDiff, Nat.reduceBEq, Nat.reduceAdd, Nat.reduceSub, Nat.reduceLeDiff, Nat.reduceLT, Nat.reduceMul, Int.reduceNeg, Int.reduceLT, Int.reduceLE, Int.reduceAdd, Int.reduceSub, Int.reduceToNat, Int.reduceMul, Int.reduceMod, Int.reduceTMod, Int.reduceTDiv, Int.reduceEq, Nat.reducePow, Nat.reduceDiv, Nat.reduceShiftRight, Nat.reduceMod, List.reduceReplicate, f0, f4, f5, f6, hl, hbig]
              rfl
            · by_cases h1 : 1 < l.length - 1
              · have hz := hget 1 (by omega) (Nat.le_refl _)
                have hd0 : d.head? = some l[1] := by rw [List.head?_eq_getElem?, List.getElem?_eq_getElem (by omega), hz]
                try simp only [Nat.sub_zero] at h1
                by_cases h48 : l[1].toNat = 48
                · have h48' : l[1] = 48 := UInt8.toNat_inj.1 h48
                  rw [readNumR, if_neg (by rintro ⟨_, h2, _⟩; rw [hp, hd0, h48'] at h2; simp at h2; omega)]
                  simp -implicitDefEqProofs -dsimp +contextual (maxSteps := 5000000) (disch := first | omega | (simp only [go_sem] <;> omega) | (show indepB _ _ = true; refine id ?_; kernel_rfl)) only [go_sem, ↓reduceIte, Nat.reduceEqDiff, Nat.reduceBEq, Nat.reduceAdd, Nat.reduceSub, Nat.reduceLeDiff, Nat.reduceLT, Nat.reduceMul, Int.reduceNeg, Int.reduceLT, Int.reduceLE, Int.reduceAdd, Int.reduceSub, Int.reduceToNat, Int.reduceMul, Int.reduceMod, Int.reduceTMod, Int.reduceTDiv, Int.reduceEq, Nat.reducePow, Nat.reduceDiv, Nat.reduceShiftRight, Nat.reduceMod, List.reduceReplicate, f0, f4, f5, f6, hl, hbig, h1, h48]
                  rfl
                · have h48' : ¬ l[1] = 48 := fun e => h48 (by rw [e]; rfl)
                  have hp1 : plainD d = true := by rw [hp, hd0]; simp [h48']
                  by_cases hz0 : decV d = 0
                  · rw [readNumR, if_neg (fun h => h.2.2.2 ⟨rfl, hz0⟩)]
                    simp -implicitDefEqProofs -dsimp +contextual (maxSteps := 5000000) (disch := first | omega | (simp only [go_sem] <;> omega) | (show indepB _ _ = true; refine id ?_; kernel_rfl)) only [go_sem, ↓reduceIte, Nat.reduceEqDiff, Nat.reduceBEq, Nat.reduceAdd, Nat.reduceSub, Nat.reduceLeDiff, Nat.reduceLT, Nat.reduceMul, Int.reduceNeg, Int.reduceLT, Int.reduceLE, Int.reduceAdd, Int.reduceSub, Int.reduceToNat, Int.reduceMul, Int.reduceMod, Int.reduceTMod, Int.reduceTDiv, Int.reduceEq, Nat.reducePow, Nat.reduceDiv, Nat.reduceShiftRight, Nat.reduceMod, List.reduceReplicate, f0, f4, f5, f6, hl, hbig, h1, h48, hz0]
                    rfl
                  · rw [readNumR, if_pos ⟨by omega, hp1, by omega, fun h => hz0 h.2⟩]
                    simp -implicitDefEqProofs -dsimp +contextual (maxSteps := 5000000) (disch := first | omega | (simp only [go_sem] <;> omega) | (show indepB _ _ = true; refine id ?_; kernel_rfl)) only [go_sem, ↓reduceIte, Nat.reduceEqDiff, Nat.reduceBEq, Nat.reduceAdd, Nat.reduceSub, Nat.reduceLeDiff, Nat.reduceLT, Nat.reduceMul, Int.reduceNeg, Int.reduceLT, Int.reduceLE, Int.reduceAdd, Int.reduceSub, Int.reduceToNat, Int.reduceMul, Int.reduceMod, Int.reduceTMod, Int.reduceTDiv, Int.reduceEq, Nat.reducePow, Nat.reduceDiv, Nat.reduceShiftRight, Nat.reduceMod, List.reduceReplicate, f0, f4, f5, f6, hl, hbig, h1, h48, hz0, Int.zero_sub]
                    rfl
              · have hp1 : plainD d = true := by rw [hp]; simp; omega
                try simp only [Nat.sub_zero] at h1
                by_cases hz0 : decV d = 0
                · rw [readNumR, if_neg (fun h => h.2.2.2 ⟨rfl, hz0⟩)]
                  simp -implicitDefEqProofs -dsimp +contextual (maxSteps := 5000000) (disch := first | omega | (simp only [go_sem] <;> omega) | (show indepB _ _ = true; refine id ?_; kernel_rfl)) only [go_sem, ↓reduceIte, Nat.reduceEqDiff, Nat.reduceBEq, Nat.reduceAdd, Nat.reduceSub, Nat.reduceLeDiff, Nat.reduceLT, Nat.reduceMul, Int.reduceNeg, Int.reduceLT, Int.reduceLE, Int.reduceAdd, Int.reduceSub, Int.reduceToNat, Int.reduceMul, Int.reduceMod, Int.reduceTMod, Int.reduceTDiv, Int.reduceEq, Nat.reducePow, Nat.reduceDiv, Nat.reduceShiftRight, Nat.reduceMod, List.reduceReplicate, f0, f4, f5, f6, hl, hbig, h1, hz0]
                  rfl
                · rw [readNumR, if_pos ⟨by omega, hp1, by omega, fun h => hz0 h.2⟩]
                  simp -implicitDefEqProofs -dsimp +contextual (maxSteps := 5000000) (disch := first | omega | (simp only [go_sem] <;> omega) | (show indepB _ _ = true; refine id ?_; kernel_rfl)) only [go_sem, ↓reduceIte, Nat.reduceEqDiff, Nat.reduceBEq, Nat.reduceAdd, Nat.reduceSub, Nat.reduceLeDiff, Nat.reduceLT, Nat.reduceMul, Int.reduceNeg, Int.reduceLT, Int.reduceLE, Int.reduceAdd, Int.reduceSub, Int.reduceToNat, Int.reduceMul, Int.reduceMod, Int.reduceTMod, Int.reduceTDiv, Int.reduceEq, Nat.reducePow, Nat.reduceDiv, Nat.reduceShiftRight, Nat.reduceMod, List.reduceReplicate, f0, f4, f5, f6, hl, hbig, h1, hz0, Int.zero_sub]
                  rfl
    · have hs : signOf l = false := by cases l with | nil => exact absurd rfl h0 | cons a l => simp at h45; simp [signOf, h45]
      have hdd : l.drop 0 = digsOf l := by cases l with | nil => exact absurd rfl h0 | cons a l => simp at h45; simp [digsOf, h45]
      have h45 : ¬ l[0].toNat = 45 := fun e => h45 (UInt8.toNat_inj.1 e)
      rw [hs]
      generalize digsOf l = d at *
      have ho : d.length = l.length - 0 := by rw [← hdd]; simp
      have hget : ∀ i (h : i < l.length) (h2 : 0 ≤ i), l[i] = d[i - 0]'(by omega) := by
        intro i h h2
        subst hdd
        rw [List.getElem_drop]
        congr 1; omega
      by_cases hz : l.length - 0 < 1
      · rw [readNumR, if_neg (by rintro ⟨_, h2, _⟩; rw [show d = [] from List.length_eq_zero_iff.1 (by omega)] at h2; simp [plainD] at h2)]
        try simp only [Nat.sub_zero] at hz
        simp -implicitDefEqProofs -dsimp +contextual (maxSteps := 5000000) (disch := first | omega | (simp only [go_sem] <;> omega) | (show indepB _ _ = true; refine id ?_; kernel_rfl)) only [go_sem, ↓reduceIte, Nat.reduceEqDiff, Nat.reduceBEq, Nat.reduceAdd, Nat.reduceSub, Nat.reduceLeDiff, Nat.reduceLT, Nat.reduceMul, Int.reduceNeg, Int.reduceLT, Int.reduceLE, Int.reduceAdd, Int.reduceSub, Int.reduceToNat, Int.reduceMul, Int.reduceMod, Int.reduceTMod, Int.reduceTDiv, Int.reduceEq, Nat.reducePow, Nat.reduceDiv, Nat.reduceShiftRight, Nat.reduceMod, List.reduceReplicate, h45, hpos, hz]
        rfl
      · by_cases h10 : 10 < l.length - 0
        · rw [readNumR, if_neg (by omega)]
          try simp only [Nat.sub_zero] at hz h10
          simp -implicitDefEqProofs -dsimp +contextual (maxSteps := 5000000) (disch := first | omega | (simp only [go_sem] <;> omega) | (show indepB _ _ = true; refine id ?_; kernel_rfl)) only [go_sem, ↓reduceIte, Nat.reduceEqDiff, Nat.reduceBEq, Nat.reduceAdd, Nat.reduceSub, Nat.reduceLeDiff, Nat.reduceLT, Nat.reduceMul, Int.reduceNeg, Int.reduceLT, Int.reduceLE, Int.reduceAdd, Int.reduceSub, Int.reduceToNat, Int.reduceMul, Int.reduceMod, Int.reduceTMod, Int.reduceTDiv, Int.reduceEq, Nat.reducePow, Nat.reduceDiv, Nat.reduceShiftRight, Nat.reduceMod, List.reduceReplicate, h45, hpos, hz, h10]
          rfl
        · try simp only [Nat.sub_zero] at hz h10
          simp -implicitDefEqProofs -dsimp +contextual (maxSteps := 5000000) (disch := first | omega | (simp only [go_sem] <;> omega) | (show indepB _ _ = true; refine id ?_; kernel_rfl)) only [go_sem, ↓reduceIte, Nat.reduceEqDiff, Nat.reduceBEq, Nat.reduceAdd, Nat.reduceSub, Nat.reduceLeDiff, Nat.reduceLT, Nat.reduceMul, Int.reduceNeg, Int.reduceLT, Int.reduceLE, Int.reduceAdd, Int.reduceSub, Int.reduceToNat, Int.reduceMul, Int.reduceMod, Int.reduceTMod, Int.reduceTDiv, Int.reduceEq, Nat.reducePow, Nat.reduceDiv, Nat.reduceShiftRight, Nat.reduceMod, List.reduceReplicate, h45, hpos, hz, h10]
          refine (kLoop_rec (fun (i : Nat) f H => f 0 = .str l ∧ f 4 = .int .i64 0 ∧ f 5 = .int .i64 (decV (d.take (i - 0)) : Int) ∧ f 6 = .int .i64 (i : Int) ∧ 0 ≤ i ∧ i ≤ l.length ∧ (d.take (i - 0)).all decB = true) (fun i => l.length - i) (fun _ => some (rnV (readNumR false d), [])) ?_ 0 _ _ ⟨rfl, rfl, rfl, rfl, by omega, by omega, rfl⟩)
          rintro i f H ⟨f0, f4, f5, f6, hi1, hi, ha⟩ ih
          have hsm := decV_small (d.take (i - 0)) (by simp; omega) ha
          by_cases hl : i < l.length
          · have hg := hget i hl hi1
            have hv := digV_le l[i]
            have hdec := dig_dec l[i]
            have hsm2 := hsm
            try simp only [Nat.sub_zero] at hsm2
            by_cases h9 : 9 < digV l[i]
            · rw [readNum_bad false d (all_split d (i - 0) (by omega) (by rw [← hg, hdec]; simp; omega))]
              simp -implicitDefEqProofs -dsimp +contextual (maxSteps := 5000000) (disch := first | omega | (simp only [go_sem] <;> omega) | (show indepB _ _ = true; refine id ?_; kernel_rfl)) only [go_sem, ↓reduceIte, Nat.reduceEqDiff, Nat.reduceBEq, Nat.reduceAdd, Nat.reduceSub, Nat.reduceLeDiff, Nat.reduceLT, Nat.reduceMul, Int.reduceNeg, Int.reduceLT, Int.reduceLE, Int.reduceAdd, Int.reduceSub, Int.reduceToNat, Int.reduceMul, Int.reduceMod, Int.reduceTMod, Int.reduceTDiv, Int.reduceEq, Nat.reducePow, Nat.reduceDiv, Nat.reduceShiftRight, Nat.reduceMod, List.reduceReplicate, f0, f4, f5, f6, hl, h9]
              rfl
            · have hdt : decB l[i] = true := by rw [hdec]; simp; omega
              have ht := decV_take d (i - 0) (by omega)
              rw [← hg, dig_val _ hdt] at ht
              try simp only [Nat.sub_zero] at ht
              simp -implicitDefEqProofs -dsimp +contextual (maxSteps := 5000000) (disch := first | omega | (simp only [go_sem] <;> omega) | (show indepB _ _ = true; refine id ?_; kernel_rfl)) only [go_sem, ↓reduceIte, Nat.reduceEqDiff, Nat.reduceBEq, Nat.reduceAdd, Nat.reduceSub, Nat.reduceLeDiff, Nat.reduceLT, Nat.reduceMul, Int.reduceNeg, Int.reduceLT, Int.reduceLE, Int.reduceAdd, Int.reduceSub, Int.reduceToNat, Int.reduceMul, Int.reduceMod, Int.reduceTMod, Int.reduceTDiv, Int.reduceEq, Nat.reducePow, Nat.reduceDiv, Nat.reduceShiftRight, Nat.reduceMod, List.reduceReplicate, f0, f4, f5, f6, hl, h9]
              rw [← ht]
              try rw [show i - 0 + 1 = i + 1 - 0 by omega]
              refine ih (i + 1) _ _ ⟨f0, f4, rfl, rfl, by omega, by omega, ?_⟩ (by omega)
              rw [show i + 1 - 0 = i - 0 + 1 by omega, List.take_succ_eq_append_getElem (by omega), List.all_append, ha, ← hg]
              simp [hdt]
          · obtain rfl : i = l.length := by omega
            rw [← ho, List.take_of_length_le (Nat.le_refl _)] at f5 ha hsm
            have hne : d ≠ [] := fun e => by rw [e] at ho; simp at ho; omega
            have hp : plainD d = !(decide (1 < d.length) && decide (d.head? = some 48)) := by simp [plainD, hne, ha]
            by_cases hbig : 1073741824 < decV d
            · rw [readNumR, if_neg (by omega)]
              simp -implicitDefEqProofs -dsimp +contextual (maxSteps := 5000000) (disch := first | omega | (simp only [go_sem] <;> omega) | (show indepB _ _ = true; refine id ?_; kernel_rfl)) only [go_sem, ↓reduceIte, Nat.reduceEqDiff, Nat.reduceBEq, Nat.reduceAdd, Nat.reduceSub, Nat.reduceLeDiff, Nat.reduceLT, Nat.reduceMul, Int.reduceNeg, Int.reduceLT, Int.reduceLE, Int.reduceAdd, Int.reduceSub, Int.reduceToNat, Int.reduceMul, Int.reduceMod, Int.reduceTMod, Int.reduceTDiv, Int.reduceEq, Nat.reducePow, Nat.reduceDiv, Nat.reduceShiftRight, Nat.reduceMod, List.reduceReplicate, f0, f4, f5, f6, hl, hbig]
              rfl
            · by_cases h1 : 1 < l.length - 0
              · have hz := hget 0 (by omega) (Nat.le_refl _)
                have hd0 : d.head? = some l[0] := by rw [List.head?_eq_getElem?, List.getElem?_eq_getElem (by omega), hz]
                try simp only [Nat.sub_zero] at h1
                by_cases h48 : l[0].toNat = 48
                · have h48' : l[0] = 48 := UInt8.toNat_inj.1 h48
                  rw [readNumR, if_neg (by rintro ⟨_, h2, _⟩; rw [hp, hd0, h48'] at h2; simp at h2; omega)]
                  simp -implicitDefEqProofs -dsimp +contextual (maxSteps := 5000000) (disch := first | omega | (simp only [go_sem] <;> omega) | (show indepB _ _ = true; refine id ?_; kernel_rfl)) only [go_sem, ↓reduceIte, Nat.reduceEqDiff, Nat.reduceBEq, Nat.reduceAdd, Nat.reduceSub, Nat.reduceLeDiff, Nat.reduceLT, Nat.reduceMul, Int.reduceNeg, Int.reduceLT, Int.reduceLE, Int.reduceAdd, Int.reduceSub, Int.reduceToNat, Int.reduceMul, Int.reduceMod, Int.reduceTMod, Int.reduceTDiv, Int.reduceEq, Nat.reducePow, Nat.reduceDiv, Nat.reduceShiftRight, Nat.reduceMod, List.reduceReplicate, f0, f4, f5, f6, hl, hbig, h1, h48]
                  rfl
                · have h48' : ¬ l[0] = 48 := fun e => h48 (by rw [e]; rfl)
                  have hp1 : plainD d = true := by rw [hp, hd0]; simp [h48']
                  rw [readNumR, if_pos ⟨by omega, hp1, by omega, by simp⟩]
                  simp -implicitDefEqProofs -dsimp +contextual (maxSteps := 5000000) (disch := first | omega | (simp only [go_sem] <;> omega) | (show indepB _ _ = true; refine id ?_; kernel_rfl)) only [go_sem, ↓reduceIte, Nat.reduceEqDiff, Nat.reduceBEq, Nat.reduceAdd, Nat.reduceSub, Nat.reduceLeDiff, Nat.reduceLT, Nat.reduceMul, Int.reduceNeg, Int.reduceLT, Int.reduceLE, Int.reduceAdd, Int.reduceSub, Int.reduceToNat, Int.reduceMul, Int.reduceMod, Int.reduceTMod, Int.reduceTDiv, Int.reduceEq, Nat.reducePow, Nat.reduceDiv, Nat.reduceShiftRight, Nat.reduceMod, List.reduceReplicate, f0, f4, f5, f6, hl, hbig, h1, h48]
                  rfl
              · have hp1 : plainD d = true := by rw [hp]; simp; omega
                try simp only [Nat.sub_zero] at h1
                rw [readNumR, if_pos ⟨by omega, hp1, by omega, by simp⟩]
                simp -implicitDefEqProofs -dsimp +contextual (maxSteps := 5000000) (disch := first | omega | (simp only [go_sem] <;> omega) | (show indepB _ _ = true; refine id ?_; kernel_rfl)) only [go_sem, ↓reduceIte, Nat.reduceEqDiff, Nat.reduceBEq, Nat.reduceAdd, Nat.reduceSub, Nat.reduceLeDiff, Nat.reduceLT, Nat.reduceMul, Int.reduceNeg, Int.reduceLT, Int.reduceLE, Int.reduceAdd, Int.reduceSub, Int.reduceToNat, Int.reduceMul, Int.reduceMod, Int.reduceTMod, Int.reduceTDiv, Int.reduceEq, Nat.reducePow, Nat.reduceDiv, Nat.reduceShiftRight, Nat.reduceMod, List.reduceReplicate, f0, f4, f5, f6, hl, hbig, h1]
                rfl

end Go.Proofs.YtfifgnffipdmeaaDoor
