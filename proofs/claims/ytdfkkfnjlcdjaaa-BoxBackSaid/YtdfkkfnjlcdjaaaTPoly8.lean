import Derived.Test.YtdfkkfnjlcdjaaaTPoly7
namespace Go.Proofs.Ytdfkkfnjlcdjaaa
open Go.Am
set_option linter.unusedSimpArgs false
set_option linter.unusedVariables false
set_option maxRecDepth 100000
/-! Layer 7, by the document: the code. -/
def nR (n : Nat) : List AVal := [.int .i64 (n : Int)]
@[go_sem] theorem nR_eq (n : Nat) : nR n = [.int .i64 (n : Int)] := rfl
@[go_sem] theorem nR_ones (l : List Nat) : ones (l.map nR) = true := ones_map _ _ fun x => rfl
@[go_sem] theorem nR_clos (l : List Nat) : (l.map nR).all clos = true := allclos_map _ (fun _ => rfl) l
@[go_sem] theorem nR_flat (l : List Nat) : flatss (l.map nR) = true := flatss_map _ (fun _ => rfl) l
@[go_sem] theorem set_nR (l : List Nat) (j : Nat) (x : Nat) : (l.map nR).set j [.int .i64 (x : Int)] = (l.set j x).map nR := by rw [List.map_set]; rfl
@[go_sem] theorem set_nRl (l : List Nat) (j : Nat) (x : Nat) : (l.map nR).set j [.int .i64 (no_index (OfNat.ofNat x : Int))] = (l.set j (OfNat.ofNat x)).map nR := by rw [List.map_set]; rfl
def fillN (l : List Nat) (m : Nat) : List Nat := l.take m ++ List.replicate (l.length - m) 0
theorem fillN_len (l : List Nat) (m : Nat) (h : m ≤ l.length) : (fillN l m).length = l.length := by simp [fillN]; omega
theorem fillN_zero (l : List Nat) : fillN l 0 = List.replicate l.length 0 := by simp [fillN]
theorem fillN_all (l : List Nat) (m : Nat) (h : l.length ≤ m) : fillN l m = l := by simp [fillN, List.take_of_length_le h, show l.length - m = 0 by omega]
theorem fillN_set (l : List Nat) (m : Nat) (h : m < l.length) : (fillN l m).set m l[m] = fillN l (m + 1) := by
  unfold fillN
  rw [List.set_append_right _ _ (by simp; omega), List.length_take, Nat.min_eq_left (by omega), Nat.sub_self, show l.length - m = (l.length - (m + 1)) + 1 by omega, List.replicate_succ, List.set_cons_zero, List.take_succ_eq_append_getElem h, List.append_assoc]
  rfl
theorem fillN_tail (l : List Nat) (m k : Nat) (h : m ≤ l.length) (hk : k = l.length - m) : fillN (l.take m ++ List.replicate k 0) m = l.take m ++ List.replicate k 0 := by
  subst hk
  unfold fillN
  rw [List.take_left' (by simp; omega)]
  congr 2
  simp; omega

def digR (b : List UInt8) : List Nat := b.map UInt8.toNat ++ List.replicate (17 - b.length) 0
theorem digR_len (b : List UInt8) (h : b.length ≤ 17) : (digR b).length = 17 := by simp [digR]; omega
theorem digR_get (b : List UInt8) (i : Nat) (h : i < b.length) (h2 : i < (digR b).length) : (digR b)[i] = b[i].toNat := by
  simp only [digR]
  rw [List.getElem_append_left (by simpa using h), List.getElem_map]
theorem digR_fill (b : List UInt8) (h : b.length ≤ 17) : fillN (digR b) b.length = digR b := by
  have := fillN_tail (digR b) b.length (17 - b.length) (by rw [digR_len b h]; omega) (by rw [digR_len b h])
  have e : (digR b).take b.length = b.map UInt8.toNat := by unfold digR; rw [List.take_left' (by simp)]
  rw [e] at this
  exact this
theorem digR_dg (b : List UInt8) : Dg (digR b) := by
  intro x hx
  simp only [digR, List.mem_append, List.mem_map, List.mem_replicate] at hx
  rcases hx with ⟨y, _, rfl⟩ | ⟨_, rfl⟩
  · exact u8_lt y
  · omega
theorem digR_val (b : List UInt8) : dV (digR b) = leV b := by simp [digR, dV_app, dV_rep, dV_bytes]
@[go_sem] theorem e45 (b : List UInt8) (hb : b.length ≤ 17) : fn C 45 [] [.slice 1 (b.map byteRow), .int .i64 17] = some (.usl 1 ((digR b).map nR), []) := by
  rw [fn_text Try.func45 rfl rfl Try.results45 locM45 rfl rfl (by kernel_rfl)]
  simp -implicitDefEqProofs -dsimp +contextual (maxSteps := 5000000) (disch := first | omega | (simp only [go_sem] <;> omega) | (show indepB _ _ = true; refine id ?_; kernel_rfl)) only [go_sem, ↓reduceIte, Nat.reduceEqDiff, Nat.reduceBEq, Nat.reduceAdd, Nat.reduceSub, Nat.reduceLeDiff, Nat.reduceLT, Nat.reduceMul, Int.reduceNeg, Int.reduceLT, Int.reduceLE, Int.reduceAdd, Int.reduceSub, Int.reduceToNat, Int.reduceMul, Int.reduceMod, Int.reduceTMod, Int.reduceTDiv, Int.reduceEq, Nat.reducePow, Nat.reduceDiv, Nat.reduceShiftRight, Nat.reduceMod, List.reduceReplicate]
  have hlen := digR_len b hb
  have hget := digR_get b
  have hfl := digR_fill b hb
  generalize digR b = A at *
  have z1 := fillN_zero A
  rw [hlen] at z1
  refine kLoop_rec (fun (i : Nat) f H => f 0 = .slice 1 (b.map byteRow) ∧ f 5 = .osl 108 1 0 17 ∧ f 6 = .int .i64 (i : Int) ∧ H 108 = ⟨1, .live, 1, (fillN A i).map nR, true⟩ ∧ i ≤ b.length) (fun i => b.length - i) (fun _ => some (.usl 1 (A.map nR), [])) ?_ 0 _ _ ?_
  rotate_left
  · refine ⟨rfl, rfl, rfl, ?_, by omega⟩
    rw [z1]; rfl
  rintro i f H ⟨f0, f5, f6, H108, hi⟩ ih
  have hf := fillN_len A i (by omega)
  by_cases hl : i < b.length
  · have hA := hget i hl (by omega)
    simp -implicitDefEqProofs -dsimp +contextual (maxSteps := 5000000) (disch := first | omega | (simp only [go_sem] <;> omega) | (show indepB _ _ = true; refine id ?_; kernel_rfl)) only [go_sem, ↓reduceIte, Nat.reduceEqDiff, Nat.reduceBEq, Nat.reduceAdd, Nat.reduceSub, Nat.reduceLeDiff, Nat.reduceLT, Nat.reduceMul, Int.reduceNeg, Int.reduceLT, Int.reduceLE, Int.reduceAdd, Int.reduceSub, Int.reduceToNat, Int.reduceMul, Int.reduceMod, Int.reduceTMod, Int.reduceTDiv, Int.reduceEq, Nat.reducePow, Nat.reduceDiv, Nat.reduceShiftRight, Nat.reduceMod, List.reduceReplicate, f0, f5, f6, H108, hl, hf, hlen]
    rw [← hA, fillN_set _ _ (by omega)]
    exact ih (i + 1) _ _ ⟨f0, f5, rfl, rfl, by omega⟩ (by omega)
  · obtain rfl : i = b.length := by omega
    rw [hfl] at H108
    simp -implicitDefEqProofs -dsimp +contextual (maxSteps := 5000000) (disch := first | omega | (simp only [go_sem] <;> omega) | (show indepB _ _ = true; refine id ?_; kernel_rfl)) only [go_sem, ↓reduceIte, Nat.reduceEqDiff, Nat.reduceBEq, Nat.reduceAdd, Nat.reduceSub, Nat.reduceLeDiff, Nat.reduceLT, Nat.reduceMul, Int.reduceNeg, Int.reduceLT, Int.reduceLE, Int.reduceAdd, Int.reduceSub, Int.reduceToNat, Int.reduceMul, Int.reduceMod, Int.reduceTMod, Int.reduceTDiv, Int.reduceEq, Nat.reducePow, Nat.reduceDiv, Nat.reduceShiftRight, Nat.reduceMod, List.reduceReplicate, f0, f5, f6, H108, hl, hlen]

def carG : Nat → List Nat → Nat → Nat
  | o, _, 0 => o
  | o, l, i + 1 => (carG o l i + l.getD i 0) / 256
theorem carG_cons (o x : Nat) (l : List Nat) : ∀ i, carG o (x :: l) (i + 1) = carG ((o + x) / 256) l i
  | 0 => rfl
  | i + 1 => by rw [carG, carG_cons o x l i, carG]; rfl
theorem carrG_get : ∀ (l : List Nat) (o i : Nat) (h : i < (carrG o l).length), (carrG o l)[i] = (carG o l i + l.getD i 0) % 256
  | [], _, _, h => by simp [carrG] at h
  | x :: l, o, 0, _ => rfl
  | x :: l, o, i + 1, h => by
    simp only [carrG, List.getElem_cons_succ]
    rw [carrG_get l _ i, carG_cons]; rfl
theorem carG_le (o : Nat) (l : List Nat) (ho : o ≤ 1000000000000) (hl : ∀ x ∈ l, x ≤ 1000000000000) : ∀ i, carG o l i ≤ 1000000000000
  | 0 => ho
  | i + 1 => by
    have h1 := carG_le o l ho hl i
    have h2 : l.getD i 0 ≤ 1000000000000 := by
      by_cases h : i < l.length
      · rw [getD_at _ _ h]; exact hl _ (List.getElem_mem h)
      · simp [List.getD_eq_getElem?_getD, List.getElem?_eq_none (Nat.le_of_not_lt h)]
    rw [carG]; omega
theorem pad4 (n : List Nat) (i : Nat) (h : n.length ≤ i) : (n ++ [0, 0, 0, 0]).getD i 0 = 0 := by
  rw [List.getD_eq_getElem?_getD, List.getElem?_append_right h]
  generalize i - n.length = k
  match k with
  | 0 => rfl
  | 1 => rfl
  | 2 => rfl
  | 3 => rfl
  | k + 4 => rfl

@[go_sem] theorem e55 (n : List Nat) (hn : n.length ≤ 1000) (hb : ∀ x ∈ n, x ≤ 1000000000000) : fn C 55 [] [.slice 1 (n.map nR)] = some (.usl 1 ((carrR n).map nR), []) := by
  rw [fn_text Try.func55 rfl rfl Try.results55 locM55 rfl rfl (by kernel_rfl)]
  simp -implicitDefEqProofs -dsimp +contextual (maxSteps := 5000000) (disch := first | omega | (simp only [go_sem] <;> omega) | (show indepB _ _ = true; refine id ?_; kernel_rfl)) only [go_sem, ↓reduceIte, Nat.reduceEqDiff, Nat.reduceBEq, Nat.reduceAdd, Nat.reduceSub, Nat.reduceLeDiff, Nat.reduceLT, Nat.reduceMul, Int.reduceNeg, Int.reduceLT, Int.reduceLE, Int.reduceAdd, Int.reduceSub, Int.reduceToNat, Int.reduceMul, Int.reduceMod, Int.reduceTMod, Int.reduceTDiv, Int.reduceEq, Nat.reducePow, Nat.reduceDiv, Nat.reduceShiftRight, Nat.reduceMod, List.reduceReplicate]
  have hlen := carrR_len n
  have hget := carrG_get (n ++ [0, 0, 0, 0]) 0
  have hle := carG_le 0 (n ++ [0, 0, 0, 0]) (by omega) (by
    intro x hx
    simp only [List.mem_append, List.mem_cons, List.not_mem_nil, or_false, or_self] at hx
    rcases hx with hx | rfl
    · exact hb x hx
    · omega)
  have hstep : ∀ i, carG 0 (n ++ [0, 0, 0, 0]) (i + 1) = (carG 0 (n ++ [0, 0, 0, 0]) i + (n ++ [0, 0, 0, 0]).getD i 0) / 256 := fun i => rfl
  change ∀ i (h : i < (carrR n).length), (carrR n)[i] = _ at hget
  have h0 : carG 0 (n ++ [0, 0, 0, 0]) 0 = 0 := rfl
  generalize carrR n = A at *
  generalize hG : carG 0 (n ++ [0, 0, 0, 0]) = G at *
  have z1 := fillN_zero A
  rw [hlen] at z1
  refine kLoop_rec (fun (i : Nat) f H => f 0 = .slice 1 (n.map nR) ∧ f 3 = .int .i64 (G i : Int) ∧ f 4 = .osl 109 1 0 (n.length + 4) ∧ f 5 = .int .i64 (i : Int) ∧ H 109 = ⟨1, .live, 1, (fillN A i).map nR, true⟩ ∧ i ≤ n.length + 4) (fun i => n.length + 4 - i) (fun _ => some (.usl 1 (A.map nR), [])) ?_ 0 _ _ ?_
  rotate_left
  · refine ⟨rfl, by rw [h0]; rfl, rfl, rfl, ?_, by omega⟩
    rw [z1, List.map_replicate]; rfl
  rintro i f H ⟨f0, f3, f4, f5, H109, hi⟩ ih
  have hf := fillN_len A i (by omega)
  by_cases hl : i < n.length + 4
  · have hA := hget i (by omega)
    have hG1 := hle i
    have hs := hstep i
    by_cases h2 : i < n.length
    · have e : (n ++ [0, 0, 0, 0]).getD i 0 = n[i] := by rw [getD_at _ _ (by simp; omega), List.getElem_append_left h2]
      have hbi := hb _ (List.getElem_mem h2)
      rw [e] at hA hs
      simp -implicitDefEqProofs -dsimp +contextual (maxSteps := 5000000) (disch := first | omega | (simp only [go_sem] <;> omega) | (show indepB _ _ = true; refine id ?_; kernel_rfl)) only [go_sem, ↓reduceIte, Nat.reduceEqDiff, Nat.reduceBEq, Nat.reduceAdd, Nat.reduceSub, Nat.reduceLeDiff, Nat.reduceLT, Nat.reduceMul, Int.reduceNeg, Int.reduceLT, Int.reduceLE, Int.reduceAdd, Int.reduceSub, Int.reduceToNat, Int.reduceMul, Int.reduceMod, Int.reduceTMod, Int.reduceTDiv, Int.reduceEq, Nat.reducePow, Nat.reduceDiv, Nat.reduceShiftRight, Nat.reduceMod, List.reduceReplicate, f0, f3, f4, f5, H109, hl, h2, hf, hlen]
      rw [← hA, ← hs, fillN_set _ _ (by omega)]
      exact ih (i + 1) _ _ ⟨f0, rfl, f4, rfl, rfl, by omega⟩ (by omega)
    · have e : (n ++ [0, 0, 0, 0]).getD i 0 = 0 := by
        exact pad4 n i (by omega)
      simp only [e, Nat.add_zero] at hA hs
      simp -implicitDefEqProofs -dsimp +contextual (maxSteps := 5000000) (disch := first | omega | (simp only [go_sem] <;> omega) | (show indepB _ _ = true; refine id ?_; kernel_rfl)) only [go_sem, ↓reduceIte, Nat.reduceEqDiff, Nat.reduceBEq, Nat.reduceAdd, Nat.reduceSub, Nat.reduceLeDiff, Nat.reduceLT, Nat.reduceMul, Int.reduceNeg, Int.reduceLT, Int.reduceLE, Int.reduceAdd, Int.reduceSub, Int.reduceToNat, Int.reduceMul, Int.reduceMod, Int.reduceTMod, Int.reduceTDiv, Int.reduceEq, Nat.reducePow, Nat.reduceDiv, Nat.reduceShiftRight, Nat.reduceMod, List.reduceReplicate, f0, f3, f4, f5, H109, hl, h2, hf, hlen]
      rw [← hA, ← hs, fillN_set _ _ (by omega)]
      exact ih (i + 1) _ _ ⟨f0, rfl, f4, rfl, rfl, by omega⟩ (by omega)
  · obtain rfl : i = n.length + 4 := by omega
    rw [fillN_all _ _ (by omega)] at H109
    simp -implicitDefEqProofs -dsimp +contextual (maxSteps := 5000000) (disch := first | omega | (simp only [go_sem] <;> omega) | (show indepB _ _ = true; refine id ?_; kernel_rfl)) only [go_sem, ↓reduceIte, Nat.reduceEqDiff, Nat.reduceBEq, Nat.reduceAdd, Nat.reduceSub, Nat.reduceLeDiff, Nat.reduceLT, Nat.reduceMul, Int.reduceNeg, Int.reduceLT, Int.reduceLE, Int.reduceAdd, Int.reduceSub, Int.reduceToNat, Int.reduceMul, Int.reduceMod, Int.reduceTMod, Int.reduceTDiv, Int.reduceEq, Nat.reducePow, Nat.reduceDiv, Nat.reduceShiftRight, Nat.reduceMod, List.reduceReplicate, f0, f3, f4, f5, H109, hl, hlen]

end Go.Proofs.Ytdfkkfnjlcdjaaa
