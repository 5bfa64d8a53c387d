import Derived.Test.YtccfjidpdlfenaaDoorTRange
namespace Go.Proofs.YtccfjidpdlfenaaDoor
open Go.Am
set_option linter.unusedSimpArgs false
set_option linter.unusedVariables false
set_option maxRecDepth 100000
/-! Layer 4: tags. -/
@[go_sem] theorem e138 (a b : List UInt8) (h : a.length + b.length ≤ 1000000) : fn C 138 [] [.slice 1 (a.map byteRow), .slice 1 (b.map byteRow)] = some (.slice 1 ((sumB (a ++ b)).map byteRow), []) := by
  rw [fn_text Tryd.func138 rfl rfl Tryd.results138 locM138 rfl rfl (by kernel_rfl)]
  simp -implicitDefEqProofs -dsimp +contextual (maxSteps := 5000000) (disch := first | omega | (simp only [go_sem] <;> omega) | (show indepB _ _ = true; refine id ?_; kernel_rfl)) only [go_sem, ↓reduceIte, Nat.reduceEqDiff, Nat.reduceBEq, Nat.reduceAdd, Nat.reduceSub, Nat.reduceLeDiff, Nat.reduceLT, Nat.reduceMul, Int.reduceNeg, Int.reduceLT, Int.reduceLE, Int.reduceAdd, Int.reduceSub, Int.reduceToNat, Int.reduceMul, Int.reduceMod, Int.reduceTMod, Int.reduceTDiv, Int.reduceEq, Nat.reducePow, Nat.reduceDiv, Nat.reduceShiftRight, Nat.reduceMod, List.reduceReplicate]

def keyB (k : List UInt8) : List UInt8 := (if 64 < k.length then sumB k else k) ++ List.replicate (64 - (if 64 < k.length then sumB k else k).length) 0
@[go_sem] theorem keyB_len (k : List UInt8) : (keyB k).length = 64 := by
  unfold keyB; split
  · simp [sumB_len]
  · simp; omega
def xorK (k : List UInt8) (y : UInt8) : List UInt8 := k.map (· ^^^ y)
@[go_sem] theorem xorK_len (k : List UInt8) (y : UInt8) : (xorK k y).length = k.length := by simp [xorK]
theorem xorK_take (k : List UInt8) (y : UInt8) (i : Nat) (h : i < k.length) : (xorK k y).take (i + 1) = (xorK k y).take i ++ [k[i] ^^^ y] := by
  rw [List.take_succ_eq_append_getElem (by rw [xorK_len]; exact h)]; simp [xorK]
def macB (k m : List UInt8) : List UInt8 := sumB (xorK (keyB k) 92 ++ sumB (xorK (keyB k) 54 ++ m))
@[go_sem] theorem macB_len (k m : List UInt8) : (macB k m).length = 32 := sumB_len _

theorem keyB_short (k : List UInt8) (h : ¬ 64 < k.length) : keyB k = k ++ List.replicate (64 - k.length) 0 := by simp [keyB, h]
theorem keyB_long (k : List UInt8) (h : 64 < k.length) : keyB k = sumB k ++ List.replicate 32 0 := by simp [keyB, h, sumB_len]
/-- A key, turned up to a place. -/
theorem turn_get (k : List UInt8) (y : UInt8) (i : Nat) (h : i < k.length) : ((xorK k y).take i ++ k.drop i)[i]'(by simp [xorK_len]; omega) = k[i] := by
  rw [List.getElem_append_right (by simp [xorK_len]; omega)]
  simp [xorK_len, show min i k.length = i by omega]
theorem turn_len (k : List UInt8) (y : UInt8) (i : Nat) : ((xorK k y).take i ++ k.drop i).length = k.length := by simp [xorK_len]; omega
theorem turn_set (k : List UInt8) (y : UInt8) (i : Nat) (h : i < k.length) : ((xorK k y).take i ++ k.drop i).set i (k[i] ^^^ y) = (xorK k y).take (i + 1) ++ k.drop (i + 1) := by
  rw [xorK_take k y i h, List.set_append_right _ _ (by simp [xorK_len]; omega)]
  simp only [List.length_take, xorK_len, show min i k.length = i by omega, Nat.sub_self]
  rw [List.drop_eq_getElem_cons h, List.set_cons_zero, List.append_assoc]; rfl

@[go_sem] theorem e158 (k : List UInt8) (h : k.length ≤ 1000000) : fn C 158 [] [.slice 1 (k.map byteRow)] = some (.usl 1 ((keyB k).map byteRow), []) := by
  rw [fn_text Tryd.func158 rfl rfl Tryd.results158 locM158 rfl rfl (by kernel_rfl)]
  by_cases h1 : 64 < k.length
  · simp -implicitDefEqProofs -dsimp +contextual (maxSteps := 5000000) (disch := first | omega | (simp only [go_sem] <;> omega) | (show indepB _ _ = true; refine id ?_; kernel_rfl)) only [go_sem, ↓reduceIte, Nat.reduceEqDiff, Nat.reduceBEq, Nat.reduceAdd, Nat.reduceSub, Nat.reduceLeDiff, Nat.reduceLT, Nat.reduceMul, Int.reduceNeg, Int.reduceLT, Int.reduceLE, Int.reduceAdd, Int.reduceSub, Int.reduceToNat, Int.reduceMul, Int.reduceMod, Int.reduceTMod, Int.reduceTDiv, Int.reduceEq, Nat.reducePow, Nat.reduceDiv, Nat.reduceShiftRight, Nat.reduceMod, List.reduceReplicate, h1]
    rw [keyB_long k h1, List.map_append]; rfl
  · simp -implicitDefEqProofs -dsimp +contextual (maxSteps := 5000000) (disch := first | omega | (simp only [go_sem] <;> omega) | (show indepB _ _ = true; refine id ?_; kernel_rfl)) only [go_sem, ↓reduceIte, Nat.reduceEqDiff, Nat.reduceBEq, Nat.reduceAdd, Nat.reduceSub, Nat.reduceLeDiff, Nat.reduceLT, Nat.reduceMul, Int.reduceNeg, Int.reduceLT, Int.reduceLE, Int.reduceAdd, Int.reduceSub, Int.reduceToNat, Int.reduceMul, Int.reduceMod, Int.reduceTMod, Int.reduceTDiv, Int.reduceEq, Nat.reducePow, Nat.reduceDiv, Nat.reduceShiftRight, Nat.reduceMod, List.reduceReplicate, h1]
    rw [keyB_short k h1, show (64 - (k.length : Int)).toNat = 64 - k.length by omega]

set_option maxHeartbeats 1000000 in
@[go_sem] theorem e122 (k : List UInt8) (h : k.length ≤ 1000000) : fn C 122 [] [.slice 1 (k.map byteRow)] = some (.usl 1 ((keyB k).map byteRow), []) := by
  rw [fn_text Tryd.func122 rfl rfl Tryd.results122 locM122 rfl rfl (by kernel_rfl)]
  have snoc : ∀ (l : List UInt8) (n : Nat), (l ++ List.replicate n 0).map byteRow ++ [[AVal.int IntKind.u8 0]] = (l ++ List.replicate (n + 1) 0).map byteRow := fun l n => by
    rw [List.replicate_succ', ← List.append_assoc, List.map_append (l₁ := l ++ List.replicate n 0)]; rfl
  by_cases h1 : 64 < k.length
  · simp -implicitDefEqProofs -dsimp +contextual (maxSteps := 5000000) (disch := first | omega | (simp only [go_sem] <;> omega) | (show indepB _ _ = true; refine id ?_; kernel_rfl)) only [go_sem, ↓reduceIte, Nat.reduceEqDiff, Nat.reduceBEq, Nat.reduceAdd, Nat.reduceSub, Nat.reduceLeDiff, Nat.reduceLT, Nat.reduceMul, Int.reduceNeg, Int.reduceLT, Int.reduceLE, Int.reduceAdd, Int.reduceSub, Int.reduceToNat, Int.reduceMul, Int.reduceMod, Int.reduceTMod, Int.reduceTDiv, Int.reduceEq, Nat.reducePow, Nat.reduceDiv, Nat.reduceShiftRight, Nat.reduceMod, List.reduceReplicate, h1]
    refine (kLoop_rec (fun (i : Nat) f H => 32 + i ≤ 64 ∧ ∃ g, f 3 = .osl 111 g 0 (32 + i) ∧ H 111 = ⟨g, .live, 1, (sumB k ++ List.replicate i 0).map byteRow, false⟩) (fun i => 64 - i) (fun _ => some (.usl 1 ((keyB k).map byteRow), [])) ?_ 0 _ _ ⟨by omega, 1, rfl, by simp [Heap.set]⟩)
    rintro i f H ⟨hi, g, h3, hH⟩ ih
    by_cases hl : 32 + i < 64
    · simp -implicitDefEqProofs -dsimp +contextual (maxSteps := 5000000) (disch := first | omega | (simp only [go_sem] <;> omega) | (show indepB _ _ = true; refine id ?_; kernel_rfl)) only [go_sem, ↓reduceIte, Nat.reduceEqDiff, Nat.reduceBEq, Nat.reduceAdd, Nat.reduceSub, Nat.reduceLeDiff, Nat.reduceLT, Nat.reduceMul, Int.reduceNeg, Int.reduceLT, Int.reduceLE, Int.reduceAdd, Int.reduceSub, Int.reduceToNat, Int.reduceMul, Int.reduceMod, Int.reduceTMod, Int.reduceTDiv, Int.reduceEq, Nat.reducePow, Nat.reduceDiv, Nat.reduceShiftRight, Nat.reduceMod, List.reduceReplicate, h3, hH, hl]
      exact ih (i + 1) _ _ ⟨by omega, g + 1, rfl, by rw [← snoc]; rfl⟩ (by omega)
    · simp -implicitDefEqProofs -dsimp +contextual (maxSteps := 5000000) (disch := first | omega | (simp only [go_sem] <;> omega) | (show indepB _ _ = true; refine id ?_; kernel_rfl)) only [go_sem, ↓reduceIte, Nat.reduceEqDiff, Nat.reduceBEq, Nat.reduceAdd, Nat.reduceSub, Nat.reduceLeDiff, Nat.reduceLT, Nat.reduceMul, Int.reduceNeg, Int.reduceLT, Int.reduceLE, Int.reduceAdd, Int.reduceSub, Int.reduceToNat, Int.reduceMul, Int.reduceMod, Int.reduceTMod, Int.reduceTDiv, Int.reduceEq, Nat.reducePow, Nat.reduceDiv, Nat.reduceShiftRight, Nat.reduceMod, List.reduceReplicate, h3, hH, hl]
      rw [keyB_long k h1, show i = 32 by omega]
  · simp -implicitDefEqProofs -dsimp +contextual (maxSteps := 5000000) (disch := first | omega | (simp only [go_sem] <;> omega) | (show indepB _ _ = true; refine id ?_; kernel_rfl)) only [go_sem, ↓reduceIte, Nat.reduceEqDiff, Nat.reduceBEq, Nat.reduceAdd, Nat.reduceSub, Nat.reduceLeDiff, Nat.reduceLT, Nat.reduceMul, Int.reduceNeg, Int.reduceLT, Int.reduceLE, Int.reduceAdd, Int.reduceSub, Int.reduceToNat, Int.reduceMul, Int.reduceMod, Int.reduceTMod, Int.reduceTDiv, Int.reduceEq, Nat.reducePow, Nat.reduceDiv, Nat.reduceShiftRight, Nat.reduceMod, List.reduceReplicate, h1]
    refine (kLoop_rec (fun (i : Nat) f H => k.length + i ≤ 64 ∧ ∃ g, f 3 = .osl 104 g 0 (k.length + i) ∧ H 104 = ⟨g, .live, 1, (k ++ List.replicate i 0).map byteRow, false⟩) (fun i => 64 - i) (fun _ => some (.usl 1 ((keyB k).map byteRow), [])) ?_ 0 _ _ ⟨by omega, 2, by simp [upd], by simp [Heap.set]⟩)
    rintro i f H ⟨hi, g, h3, hH⟩ ih
    by_cases hl : k.length + i < 64
    · simp -implicitDefEqProofs -dsimp +contextual (maxSteps := 5000000) (disch := first | omega | (simp only [go_sem] <;> omega) | (show indepB _ _ = true; refine id ?_; kernel_rfl)) only [go_sem, ↓reduceIte, Nat.reduceEqDiff, Nat.reduceBEq, Nat.reduceAdd, Nat.reduceSub, Nat.reduceLeDiff, Nat.reduceLT, Nat.reduceMul, Int.reduceNeg, Int.reduceLT, Int.reduceLE, Int.reduceAdd, Int.reduceSub, Int.reduceToNat, Int.reduceMul, Int.reduceMod, Int.reduceTMod, Int.reduceTDiv, Int.reduceEq, Nat.reducePow, Nat.reduceDiv, Nat.reduceShiftRight, Nat.reduceMod, List.reduceReplicate, h3, hH, hl]
      exact ih (i + 1) _ _ ⟨by omega, g + 1, rfl, by rw [← snoc]; rfl⟩ (by omega)
    · simp -implicitDefEqProofs -dsimp +contextual (maxSteps := 5000000) (disch := first | omega | (simp only [go_sem] <;> omega) | (show indepB _ _ = true; refine id ?_; kernel_rfl)) only [go_sem, ↓reduceIte, Nat.reduceEqDiff, Nat.reduceBEq, Nat.reduceAdd, Nat.reduceSub, Nat.reduceLeDiff, Nat.reduceLT, Nat.reduceMul, Int.reduceNeg, Int.reduceLT, Int.reduceLE, Int.reduceAdd, Int.reduceSub, Int.reduceToNat, Int.reduceMul, Int.reduceMod, Int.reduceTMod, Int.reduceTDiv, Int.reduceEq, Nat.reducePow, Nat.reduceDiv, Nat.reduceShiftRight, Nat.reduceMod, List.reduceReplicate, h3, hH, hl]
      rw [keyB_short k h1, show i = 64 - k.length by omega]

set_option maxHeartbeats 1000000 in
@[go_sem] theorem e137 (k : List UInt8) (y : UInt8) (h : k.length ≤ 1000000) : fn C 137 [] [.slice 1 (k.map byteRow), .int .u8 (y.toNat : Int)] = some (.slice 1 ((xorK (keyB k) y).map byteRow), []) := by
  rw [fn_text Tryd.func137 rfl rfl Tryd.results137 locM137 rfl rfl (by kernel_rfl)]
  simp -implicitDefEqProofs -dsimp +contextual (maxSteps := 5000000) (disch := first | omega | (simp only [go_sem] <;> omega) | (show indepB _ _ = true; refine id ?_; kernel_rfl)) only [go_sem, ↓reduceIte, Nat.reduceEqDiff, Nat.reduceBEq, Nat.reduceAdd, Nat.reduceSub, Nat.reduceLeDiff, Nat.reduceLT, Nat.reduceMul, Int.reduceNeg, Int.reduceLT, Int.reduceLE, Int.reduceAdd, Int.reduceSub, Int.reduceToNat, Int.reduceMul, Int.reduceMod, Int.reduceTMod, Int.reduceTDiv, Int.reduceEq, Nat.reducePow, Nat.reduceDiv, Nat.reduceShiftRight, Nat.reduceMod, List.reduceReplicate]
  have hk := keyB_len k
  generalize keyB k = K at *
  refine (kLoop_rec (fun (i : Nat) f H => f 1 = .int .u8 (y.toNat : Int) ∧ f 5 = .osl 108 1 0 64 ∧ f 10 = .int .i64 64 ∧ f 11 = .int .i64 (i : Int) ∧ H 108 = ⟨1, .live, 1, ((xorK K y).take i ++ K.drop i).map byteRow, false⟩ ∧ i ≤ 64) (fun i => 64 - i) (fun _ => some (.slice 1 ((xorK K y).map byteRow), [])) ?_ 0 _ _ ⟨rfl, rfl, rfl, rfl, rfl, by omega⟩)
  rintro i f H ⟨h1, h5, h10, h11, hH, hi⟩ ih
  by_cases hl : i < 64
  · have hc := turn_get K y i (by omega)
    have hs := turn_set K y i (by omega)
    have hn := turn_len K y i
    obtain ⟨L, hL⟩ : ∃ L, L = (xorK K y).take i ++ K.drop i := ⟨_, rfl⟩
    simp only [← hL] at hH hc hs hn
    simp -implicitDefEqProofs -dsimp +contextual (maxSteps := 5000000) (disch := first | omega | (simp only [go_sem] <;> omega) | (show indepB _ _ = true; refine id ?_; kernel_rfl)) only [go_sem, ↓reduceIte, Nat.reduceEqDiff, Nat.reduceBEq, Nat.reduceAdd, Nat.reduceSub, Nat.reduceLeDiff, Nat.reduceLT, Nat.reduceMul, Int.reduceNeg, Int.reduceLT, Int.reduceLE, Int.reduceAdd, Int.reduceSub, Int.reduceToNat, Int.reduceMul, Int.reduceMod, Int.reduceTMod, Int.reduceTDiv, Int.reduceEq, Nat.reducePow, Nat.reduceDiv, Nat.reduceShiftRight, Nat.reduceMod, List.reduceReplicate, h1, h5, h10, h11, hH, hl, hn, hk, hc]
    exact ih (i + 1) _ _ ⟨h1, h5, h10, rfl, by rw [← hs]; rfl, by omega⟩ (by omega)
  · obtain rfl : i = 64 := by omega
    rw [List.take_of_length_le (by simp [xorK_len, hk]), List.drop_of_length_le (by omega), List.append_nil] at hH
    simp -implicitDefEqProofs -dsimp +contextual (maxSteps := 5000000) (disch := first | omega | (simp only [go_sem] <;> omega) | (show indepB _ _ = true; refine id ?_; kernel_rfl)) only [go_sem, ↓reduceIte, Nat.reduceEqDiff, Nat.reduceBEq, Nat.reduceAdd, Nat.reduceSub, Nat.reduceLeDiff, Nat.reduceLT, Nat.reduceMul, Int.reduceNeg, Int.reduceLT, Int.reduceLE, Int.reduceAdd, Int.reduceSub, Int.reduceToNat, Int.reduceMul, Int.reduceMod, Int.reduceTMod, Int.reduceTDiv, Int.reduceEq, Nat.reducePow, Nat.reduceDiv, Nat.reduceShiftRight, Nat.reduceMod, List.reduceReplicate, h1, h5, h10, h11, hH]

@[go_sem] theorem eTurn54 (k : List UInt8) (h : k.length ≤ 1000000) : fn C 137 [] [.slice 1 (k.map byteRow), .int .u8 54] = some (.slice 1 ((xorK (keyB k) 54).map byteRow), []) := e137 k 54 h
@[go_sem] theorem eTurn92 (k : List UInt8) (h : k.length ≤ 1000000) : fn C 137 [] [.slice 1 (k.map byteRow), .int .u8 92] = some (.slice 1 ((xorK (keyB k) 92).map byteRow), []) := e137 k 92 h
set_option maxHeartbeats 1000000 in
theorem e119 (k : List UInt8) (rs : List (List AVal)) (ps : List (List UInt8)) (hr : rs.map normRow = ps.map partRow) (ho : ones rs = true) (hc : rs.all clos = true) (hp : ps.length ≤ 900) (h : k.length ≤ 1000000) (hf : ps.flatten.length ≤ 500000) : fn C 119 [] [.slice 1 (k.map byteRow), .slice 1 rs] = some (.slice 1 ((macB k ps.flatten).map byteRow), []) := by
  rw [fn_text Tryd.func119 rfl rfl Tryd.results119 locM119 rfl rfl (by kernel_rfl)]
  have hrl : rs.length = ps.length := by have := congrArg List.length hr; simpa using this
  have hcc := concat_all (xorK (keyB k) 54) rs ps hr (by omega) (by rw [List.length_append, xorK_len, keyB_len]; omega)
  simp -implicitDefEqProofs -dsimp +contextual (maxSteps := 5000000) (disch := first | omega | (simp only [go_sem] <;> omega) | (show indepB _ _ = true; refine id ?_; kernel_rfl)) only [go_sem, ↓reduceIte, Nat.reduceEqDiff, Nat.reduceBEq, Nat.reduceAdd, Nat.reduceSub, Nat.reduceLeDiff, Nat.reduceLT, Nat.reduceMul, Int.reduceNeg, Int.reduceLT, Int.reduceLE, Int.reduceAdd, Int.reduceSub, Int.reduceToNat, Int.reduceMul, Int.reduceMod, Int.reduceTMod, Int.reduceTDiv, Int.reduceEq, Nat.reducePow, Nat.reduceDiv, Nat.reduceShiftRight, Nat.reduceMod, List.reduceReplicate, hcc, ho, hc]
  rfl

@[go_sem] theorem e120 (k m : List UInt8) (h : k.length ≤ 1000000) (hf : m.length ≤ 500000) : fn C 120 [] [.slice 1 (k.map byteRow), .slice 1 (m.map byteRow)] = some (.slice 1 ((macB k m).map byteRow), []) := by
  rw [fn_text Tryd.func120 rfl rfl Tryd.results120 locM120 rfl rfl (by kernel_rfl)]
  have hc := e119 k [[.slice 1 (m.map byteRow)]] [m] rfl rfl (by simp only [go_sem]) (by simp) h (by simpa using hf)
  simp only [List.flatten_cons, List.flatten_nil, List.append_nil] at hc
  simp -implicitDefEqProofs -dsimp +contextual (maxSteps := 5000000) (disch := first | omega | (simp only [go_sem] <;> omega) | (show indepB _ _ = true; refine id ?_; kernel_rfl)) only [go_sem, ↓reduceIte, Nat.reduceEqDiff, Nat.reduceBEq, Nat.reduceAdd, Nat.reduceSub, Nat.reduceLeDiff, Nat.reduceLT, Nat.reduceMul, Int.reduceNeg, Int.reduceLT, Int.reduceLE, Int.reduceAdd, Int.reduceSub, Int.reduceToNat, Int.reduceMul, Int.reduceMod, Int.reduceTMod, Int.reduceTDiv, Int.reduceEq, Nat.reducePow, Nat.reduceDiv, Nat.reduceShiftRight, Nat.reduceMod, List.reduceReplicate, hc]

set_option maxHeartbeats 1000000 in
@[go_sem] theorem e98 (k m : List UInt8) (h : k.length ≤ 1000000) (hf : m.length ≤ 500000) : fn C 98 [] [.slice 1 (k.map byteRow), .slice 1 (m.map byteRow)] = some (.slice 1 ((macB k m).map byteRow), []) := by
  rw [fn_text Tryd.func98 rfl rfl Tryd.results98 locM98 rfl rfl (by kernel_rfl)]
  simp -implicitDefEqProofs -dsimp +contextual (maxSteps := 5000000) (disch := first | omega | (simp only [go_sem] <;> omega) | (show indepB _ _ = true; refine id ?_; kernel_rfl)) only [go_sem, ↓reduceIte, Nat.reduceEqDiff, Nat.reduceBEq, Nat.reduceAdd, Nat.reduceSub, Nat.reduceLeDiff, Nat.reduceLT, Nat.reduceMul, Int.reduceNeg, Int.reduceLT, Int.reduceLE, Int.reduceAdd, Int.reduceSub, Int.reduceToNat, Int.reduceMul, Int.reduceMod, Int.reduceTMod, Int.reduceTDiv, Int.reduceEq, Nat.reducePow, Nat.reduceDiv, Nat.reduceShiftRight, Nat.reduceMod, List.reduceReplicate]
  have hk := keyB_len k
  rw [macB]
  generalize keyB k = K at *
  have a54 := fun i (hi : i < K.length) => xorK_take K 54 i hi
  have a92 := fun i (hi : i < K.length) => xorK_take K 92 i hi
  have l54 := xorK_len K 54
  have l92 := xorK_len K 92
  refine (kLoop_rec (fun (i : Nat) f H => f 1 = .slice 1 (m.map byteRow) ∧ f 5 = .osl 110 1 0 64 ∧ f 8 = .int .i64 (i : Int) ∧ H 110 = ⟨1, .live, 1, K.map byteRow, false⟩ ∧ ((i = 0 ∧ f 6 = .sc (.slice none 0 0) ∧ f 7 = .sc (.slice none 0 0)) ∨ (∃ g g', f 6 = .osl 122 g 0 i ∧ f 7 = .osl 130 g' 0 i ∧ H 122 = ⟨g, .live, 1, ((xorK K 54).take i).map byteRow, false⟩ ∧ H 130 = ⟨g', .live, 1, ((xorK K 92).take i).map byteRow, false⟩)) ∧ i ≤ 64) (fun i => 64 - i) (fun _ => some (.slice 1 ((sumB (xorK K 92 ++ sumB (xorK K 54 ++ m))).map byteRow), [])) ?_ 0 _ _ ⟨rfl, rfl, rfl, rfl, .inl ⟨rfl, rfl, rfl⟩, by omega⟩)
  rintro i f H ⟨h1, h5, h8, hH, h67, hi⟩ ih
  by_cases hl : i < 64
  · have b54 := a54 i (by omega)
    have b92 := a92 i (by omega)
    rcases h67 with ⟨rfl, h6, h7⟩ | ⟨g, g', h6, h7, G6, G7⟩
    · simp -implicitDefEqProofs -dsimp +contextual (maxSteps := 5000000) (disch := first | omega | (simp only [go_sem] <;> omega) | (show indepB _ _ = true; refine id ?_; kernel_rfl)) only [go_sem, ↓reduceIte, Nat.reduceEqDiff, Nat.reduceBEq, Nat.reduceAdd, Nat.reduceSub, Nat.reduceLeDiff, Nat.reduceLT, Nat.reduceMul, Int.reduceNeg, Int.reduceLT, Int.reduceLE, Int.reduceAdd, Int.reduceSub, Int.reduceToNat, Int.reduceMul, Int.reduceMod, Int.reduceTMod, Int.reduceTDiv, Int.reduceEq, Nat.reducePow, Nat.reduceDiv, Nat.reduceShiftRight, Nat.reduceMod, List.reduceReplicate, h1, h5, h6, h7, h8, hH, hl, hk]
      exact ih 1 _ _ ⟨h1, h5, rfl, hH, .inr ⟨_, _, rfl, rfl, by rw [b54]; rfl, by rw [b92]; rfl⟩, by omega⟩ (by omega)
    · simp -implicitDefEqProofs -dsimp +contextual (maxSteps := 5000000) (disch := first | omega | (simp only [go_sem] <;> omega) | (show indepB _ _ = true; refine id ?_; kernel_rfl)) only [go_sem, ↓reduceIte, Nat.reduceEqDiff, Nat.reduceBEq, Nat.reduceAdd, Nat.reduceSub, Nat.reduceLeDiff, Nat.reduceLT, Nat.reduceMul, Int.reduceNeg, Int.reduceLT, Int.reduceLE, Int.reduceAdd, Int.reduceSub, Int.reduceToNat, Int.reduceMul, Int.reduceMod, Int.reduceTMod, Int.reduceTDiv, Int.reduceEq, Nat.reducePow, Nat.reduceDiv, Nat.reduceShiftRight, Nat.reduceMod, List.reduceReplicate, h1, h5, h6, h7, h8, hH, hl, hk, G6, G7, l54, l92]
      exact ih (i + 1) _ _ ⟨h1, h5, rfl, hH, .inr ⟨_, _, rfl, rfl, by rw [b54]; rfl, by rw [b92]; rfl⟩, by omega⟩ (by omega)
  · obtain rfl : i = 64 := by omega
    rcases h67 with ⟨h0, h6, h7⟩ | ⟨g, g', h6, h7, G6, G7⟩
    · omega
    · rw [List.take_of_length_le (by omega)] at G6 G7
      simp -implicitDefEqProofs -dsimp +contextual (maxSteps := 5000000) (disch := first | omega | (simp only [go_sem] <;> omega) | (show indepB _ _ = true; refine id ?_; kernel_rfl)) only [go_sem, ↓reduceIte, Nat.reduceEqDiff, Nat.reduceBEq, Nat.reduceAdd, Nat.reduceSub, Nat.reduceLeDiff, Nat.reduceLT, Nat.reduceMul, Int.reduceNeg, Int.reduceLT, Int.reduceLE, Int.reduceAdd, Int.reduceSub, Int.reduceToNat, Int.reduceMul, Int.reduceMod, Int.reduceTMod, Int.reduceTDiv, Int.reduceEq, Nat.reducePow, Nat.reduceDiv, Nat.reduceShiftRight, Nat.reduceMod, List.reduceReplicate, h1, h5, h6, h7, h8, hH, hk, G6, G7, l54, l92]

end Go.Proofs.YtccfjidpdlfenaaDoor
