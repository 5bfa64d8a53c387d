import Derived.Test.YtdfkkfnjlcdjaaaTPoly3
namespace Go.Proofs.Ytdfkkfnjlcdjaaa
open Go.Am
set_option linter.unusedSimpArgs false
set_option linter.unusedVariables false
set_option maxRecDepth 100000
/-! Layer 7: clamped, written, summed. -/
def clampAt (i : Nat) (x : UInt8) : UInt8 := if i % 4 = 3 then x &&& 15 else if i % 4 = 0 ∧ 0 < i then x &&& 252 else x
def clampB (r : List UInt8) : List UInt8 := (r.take 16).mapIdx clampAt
theorem clampB_len (r : List UInt8) (h : 16 ≤ r.length) : (clampB r).length = 16 := by simp [clampB]; omega
/-- A row whose first so many are turned. -/
def mixTo (A B : List UInt8) (m : Nat) : List UInt8 := A.take m ++ B.drop m
theorem mixTo_len (A B : List UInt8) (m : Nat) (h : A.length = B.length) (hm : m ≤ A.length) : (mixTo A B m).length = A.length := by simp [mixTo]; omega
theorem mixTo_zero (A B : List UInt8) : mixTo A B 0 = B := by simp [mixTo]
theorem mixTo_all (A B : List UInt8) (m : Nat) (h : A.length = B.length) (hm : A.length ≤ m) : mixTo A B m = A := by simp [mixTo, List.take_of_length_le hm, List.drop_of_length_le (show B.length ≤ m by omega)]
theorem mixTo_get (A B : List UInt8) (m : Nat) (h : A.length = B.length) (hm : m < A.length) (h2 : m < (mixTo A B m).length) : (mixTo A B m)[m] = B[m] := by
  simp [mixTo, List.getElem_append, show min m A.length = m by omega]
theorem mixTo_set (A B : List UInt8) (m : Nat) (h : A.length = B.length) (hm : m < A.length) : (mixTo A B m).set m A[m] = mixTo A B (m + 1) := by
  unfold mixTo
  rw [List.set_append_right _ _ (by simp; omega), List.length_take, Nat.min_eq_left (by omega), Nat.sub_self, List.drop_eq_getElem_cons (by omega : m < B.length), List.set_cons_zero, List.take_succ_eq_append_getElem hm, List.append_assoc]
  rfl
theorem mixTo_skip (A B : List UInt8) (m : Nat) (h : A.length = B.length) (hm : m < A.length) (e : A[m] = B[m]) : mixTo A B m = mixTo A B (m + 1) := by
  unfold mixTo
  rw [List.drop_eq_getElem_cons (by omega : m < B.length), List.take_succ_eq_append_getElem hm, List.append_assoc, e]
  rfl

set_option maxHeartbeats 4000000 in
@[go_sem] theorem e36 (r : List UInt8) (h : 16 ≤ r.length) : fn C 36 [] [.slice 1 (r.map byteRow)] = some (.slice 1 ((clampB r).map byteRow), []) := by
  rw [fn_text Try.func36 rfl rfl Try.results36 locM36 rfl rfl (by kernel_rfl)]
  have h' : ¬ r.length < 16 := by omega
  simp -implicitDefEqProofs -dsimp +contextual (maxSteps := 5000000) (disch := first | omega | (simp only [go_sem] <;> omega) | (show indepB _ _ = true; refine id ?_; kernel_rfl)) only [go_sem, ↓reduceIte, Nat.reduceEqDiff, Nat.reduceBEq, Nat.reduceAdd, Nat.reduceSub, Nat.reduceLeDiff, Nat.reduceLT, Nat.reduceMul, Int.reduceNeg, Int.reduceLT, Int.reduceLE, Int.reduceAdd, Int.reduceSub, Int.reduceToNat, Int.reduceMul, Int.reduceMod, Int.reduceTMod, Int.reduceTDiv, Int.reduceEq, Nat.reducePow, Nat.reduceDiv, Nat.reduceShiftRight, Nat.reduceMod, List.reduceReplicate, h']
  have hlen := clampB_len r h
  have hget : ∀ (i : Nat) (h1 : i < (clampB r).length) (h2 : i < (r.take 16).length), (clampB r)[i] = clampAt i (r.take 16)[i] := fun i h1 h2 => by simp [clampB]
  have hB : (r.take 16).length = 16 := by simp; omega
  generalize clampB r = A at *
  generalize r.take 16 = B at *
  have z1 := mixTo_zero A B
  refine kLoop_rec (fun (i : Nat) f H => f 3 = .osl 108 2 0 16 ∧ f 13 = .int .i64 16 ∧ f 14 = .int .i64 (i : Int) ∧ H 108 = ⟨2, .live, 1, (mixTo A B i).map byteRow, false⟩ ∧ i ≤ 16) (fun i => 16 - i) (fun _ => some (.slice 1 (A.map byteRow), [])) ?_ 0 _ _ ?_
  rotate_left
  · refine ⟨rfl, rfl, rfl, ?_, by omega⟩
    rw [z1]; rfl
  rintro i f H ⟨f3, f13, f14, H108, hi⟩ ih
  by_cases hl : i < 16
  · have hm := mixTo_len A B i (by omega) (by omega)
    rw [hlen] at hm
    have hmg := mixTo_get A B i (by omega) (by omega) (by omega)
    have hA := hget i (by omega) (by omega)
    by_cases h3 : i % 4 = 3
    · have e : B[i] &&& UInt8.ofNat 15 = A[i] := by rw [hA, clampAt, if_pos h3]; rfl
      simp -implicitDefEqProofs -dsimp +contextual (maxSteps := 5000000) (disch := first | omega | (simp only [go_sem] <;> omega) | (show indepB _ _ = true; refine id ?_; kernel_rfl)) only [go_sem, ↓reduceIte, Nat.reduceEqDiff, Nat.reduceBEq, Nat.reduceAdd, Nat.reduceSub, Nat.reduceLeDiff, Nat.reduceLT, Nat.reduceMul, Int.reduceNeg, Int.reduceLT, Int.reduceLE, Int.reduceAdd, Int.reduceSub, Int.reduceToNat, Int.reduceMul, Int.reduceMod, Int.reduceTMod, Int.reduceTDiv, Int.reduceEq, Nat.reducePow, Nat.reduceDiv, Nat.reduceShiftRight, Nat.reduceMod, List.reduceReplicate, f3, f13, f14, H108, hl, h3, hm, hmg, e]
      rw [mixTo_set _ _ _ (by omega) (by omega)]
      exact ih (i + 1) _ _ ⟨f3, f13, rfl, rfl, by omega⟩ (by omega)
    · by_cases h0 : i % 4 = 0
      · by_cases hp : 0 < i
        · have e : B[i] &&& UInt8.ofNat 252 = A[i] := by rw [hA, clampAt, if_neg h3, if_pos ⟨h0, hp⟩]; rfl
          simp -implicitDefEqProofs -dsimp +contextual (maxSteps := 5000000) (disch := first | omega | (simp only [go_sem] <;> omega) | (show indepB _ _ = true; refine id ?_; kernel_rfl)) only [go_sem, ↓reduceIte, Nat.reduceEqDiff, Nat.reduceBEq, Nat.reduceAdd, Nat.reduceSub, Nat.reduceLeDiff, Nat.reduceLT, Nat.reduceMul, Int.reduceNeg, Int.reduceLT, Int.reduceLE, Int.reduceAdd, Int.reduceSub, Int.reduceToNat, Int.reduceMul, Int.reduceMod, Int.reduceTMod, Int.reduceTDiv, Int.reduceEq, Nat.reducePow, Nat.reduceDiv, Nat.reduceShiftRight, Nat.reduceMod, List.reduceReplicate, f3, f13, f14, H108, hl, h3, h0, hp, hm, hmg, e]
          rw [mixTo_set _ _ _ (by omega) (by omega)]
          exact ih (i + 1) _ _ ⟨f3, f13, rfl, rfl, by omega⟩ (by omega)
        · have e : A[i] = B[i] := by rw [hA, clampAt, if_neg h3, if_neg (by omega)]
          rw [mixTo_skip _ _ _ (by omega) (by omega) e] at H108
          simp -implicitDefEqProofs -dsimp +contextual (maxSteps := 5000000) (disch := first | omega | (simp only [go_sem] <;> omega) | (show indepB _ _ = true; refine id ?_; kernel_rfl)) only [go_sem, ↓reduceIte, Nat.reduceEqDiff, Nat.reduceBEq, Nat.reduceAdd, Nat.reduceSub, Nat.reduceLeDiff, Nat.reduceLT, Nat.reduceMul, Int.reduceNeg, Int.reduceLT, Int.reduceLE, Int.reduceAdd, Int.reduceSub, Int.reduceToNat, Int.reduceMul, Int.reduceMod, Int.reduceTMod, Int.reduceTDiv, Int.reduceEq, Nat.reducePow, Nat.reduceDiv, Nat.reduceShiftRight, Nat.reduceMod, List.reduceReplicate, f3, f13, f14, hl, h3, h0, hp]
          exact ih (i + 1) _ _ ⟨f3, f13, rfl, H108, by omega⟩ (by omega)
      · have e : A[i] = B[i] := by rw [hA, clampAt, if_neg h3, if_neg (by omega)]
        rw [mixTo_skip _ _ _ (by omega) (by omega) e] at H108
        simp -implicitDefEqProofs -dsimp +contextual (maxSteps := 5000000) (disch := first | omega | (simp only [go_sem] <;> omega) | (show indepB _ _ = true; refine id ?_; kernel_rfl)) only [go_sem, ↓reduceIte, Nat.reduceEqDiff, Nat.reduceBEq, Nat.reduceAdd, Nat.reduceSub, Nat.reduceLeDiff, Nat.reduceLT, Nat.reduceMul, Int.reduceNeg, Int.reduceLT, Int.reduceLE, Int.reduceAdd, Int.reduceSub, Int.reduceToNat, Int.reduceMul, Int.reduceMod, Int.reduceTMod, Int.reduceTDiv, Int.reduceEq, Nat.reducePow, Nat.reduceDiv, Nat.reduceShiftRight, Nat.reduceMod, List.reduceReplicate, f3, f13, f14, hl, h3, h0]
        exact ih (i + 1) _ _ ⟨f3, f13, rfl, H108, by omega⟩ (by omega)
  · obtain rfl : i = 16 := by omega
    rw [mixTo_all _ _ _ (by omega) (by omega)] at H108
    simp -implicitDefEqProofs -dsimp +contextual (maxSteps := 5000000) (disch := first | omega | (simp only [go_sem] <;> omega) | (show indepB _ _ = true; refine id ?_; kernel_rfl)) only [go_sem, ↓reduceIte, Nat.reduceEqDiff, Nat.reduceBEq, Nat.reduceAdd, Nat.reduceSub, Nat.reduceLeDiff, Nat.reduceLT, Nat.reduceMul, Int.reduceNeg, Int.reduceLT, Int.reduceLE, Int.reduceAdd, Int.reduceSub, Int.reduceToNat, Int.reduceMul, Int.reduceMod, Int.reduceTMod, Int.reduceTDiv, Int.reduceEq, Nat.reducePow, Nat.reduceDiv, Nat.reduceShiftRight, Nat.reduceMod, List.reduceReplicate, f3, f13, f14, H108, hl, hlen]

def leastN (n : Nm) : Nm :=
  let m := carryN (carryN n)
  let q := carry5N m
  if q.e / 67108864 = 0 then m else ⟨q.a, q.b, q.c, q.d, q.e % 67108864⟩
theorem carry5N_le (n : Nm) (h : n.le 1152921504606846976) : (carry5N n).a < 67108864 ∧ (carry5N n).b < 67108864 ∧ (carry5N n).c < 67108864 ∧ (carry5N n).d < 67108864 ∧ (carry5N n).e ≤ 2000000000000000000 := by
  obtain ⟨h1, h2, h3, h4, h5⟩ := h
  simp only [carry5N]; omega

set_option maxHeartbeats 4000000 in
@[go_sem] theorem e42 (a b c d e : Nat) (h1 : a ≤ 1152921504606846976) (h2 : b ≤ 1152921504606846976) (h3 : c ≤ 1152921504606846976) (h4 : d ≤ 1152921504606846976) (h5 : e ≤ 1152921504606846976) : fn C 42 [] [.agg [.int .u64 (a : Int), .int .u64 (b : Int), .int .u64 (c : Int), .int .u64 (d : Int), .int .u64 (e : Int)]] = some (.agg (leastN ⟨a, b, c, d, e⟩).cs, []) := by
  rw [fn_text Try.func42 rfl rfl Try.results42 locM42 rfl rfl (by kernel_rfl)]
  obtain ⟨k1, k2, k3, k4, k5⟩ := carryN_le ⟨a, b, c, d, e⟩ ⟨h1, h2, h3, h4, h5⟩
  obtain ⟨j1, j2, j3, j4, j5⟩ := carryN_le (carryN ⟨a, b, c, d, e⟩) ⟨by omega, by omega, by omega, by omega, by omega⟩
  obtain ⟨i1, i2, i3, i4, i5⟩ := carry5N_le (carryN (carryN ⟨a, b, c, d, e⟩)) ⟨by omega, by omega, by omega, by omega, by omega⟩
  by_cases hq : (carry5N (carryN (carryN ⟨a, b, c, d, e⟩))).e / 67108864 = 0
  · simp -implicitDefEqProofs -dsimp +contextual (maxSteps := 5000000) (disch := first | omega | (simp only [go_sem] <;> omega) | (show indepB _ _ = true; refine id ?_; kernel_rfl)) only [go_sem, ↓reduceIte, Nat.reduceEqDiff, Nat.reduceBEq, Nat.reduceAdd, Nat.reduceSub, Nat.reduceLeDiff, Nat.reduceLT, Nat.reduceMul, Int.reduceNeg, Int.reduceLT, Int.reduceLE, Int.reduceAdd, Int.reduceSub, Int.reduceToNat, Int.reduceMul, Int.reduceMod, Int.reduceTMod, Int.reduceTDiv, Int.reduceEq, Nat.reducePow, Nat.reduceDiv, Nat.reduceShiftRight, Nat.reduceMod, List.reduceReplicate, hq]
    simp only [leastN, hq, if_true]
  · simp -implicitDefEqProofs -dsimp +contextual (maxSteps := 5000000) (disch := first | omega | (simp only [go_sem] <;> omega) | (show indepB _ _ = true; refine id ?_; kernel_rfl)) only [go_sem, ↓reduceIte, Nat.reduceEqDiff, Nat.reduceBEq, Nat.reduceAdd, Nat.reduceSub, Nat.reduceLeDiff, Nat.reduceLT, Nat.reduceMul, Int.reduceNeg, Int.reduceLT, Int.reduceLE, Int.reduceAdd, Int.reduceSub, Int.reduceToNat, Int.reduceMul, Int.reduceMod, Int.reduceTMod, Int.reduceTDiv, Int.reduceEq, Nat.reducePow, Nat.reduceDiv, Nat.reduceShiftRight, Nat.reduceMod, List.reduceReplicate, hq]
    simp only [leastN, hq, if_false]

def sumV (a b : List UInt8) : Nat → Nat
  | 0 => 0
  | i + 1 => (sumV a b i + ((a.getD i 0).toNat + (b.getD i 0).toNat)) / 256
def sumB (a b : List UInt8) : List UInt8 := (List.range 16).map fun i => UInt8.ofNat (sumV a b i + ((a.getD i 0).toNat + (b.getD i 0).toNat))
theorem sumV_le (a b : List UInt8) : ∀ i, sumV a b i ≤ 1
  | 0 => by simp [sumV]
  | i + 1 => by
    have := sumV_le a b i
    have h1 := u8_lt (a.getD i 0)
    have h2 := u8_lt (b.getD i 0)
    simp only [sumV]; omega
theorem shr8_i64 (P : Program) (t : TypeId) (k : IntKind) (n : Nat) : binV P .shr t (.int .i64 (n : Int)) (.int k 8) = some (.int .i64 ((n / 256 : Nat) : Int)) := shr_nat P t .i64 k n 8 (by decide)

set_option maxHeartbeats 4000000 in
@[go_sem] theorem e40 (a b : List UInt8) (ha : a.length = 16) (hb : b.length = 16) : fn C 40 [] [.slice 1 (a.map byteRow), .slice 1 (b.map byteRow)] = some (.usl 1 ((sumB a b).map byteRow), []) := by
  rw [fn_text Try.func40 rfl rfl Try.results40 locM40 rfl rfl (by kernel_rfl)]
  simp -implicitDefEqProofs -dsimp +contextual (maxSteps := 5000000) (disch := first | omega | (simp only [go_sem] <;> omega) | (show indepB _ _ = true; refine id ?_; kernel_rfl)) only [go_sem, ↓reduceIte, Nat.reduceEqDiff, Nat.reduceBEq, Nat.reduceAdd, Nat.reduceSub, Nat.reduceLeDiff, Nat.reduceLT, Nat.reduceMul, Int.reduceNeg, Int.reduceLT, Int.reduceLE, Int.reduceAdd, Int.reduceSub, Int.reduceToNat, Int.reduceMul, Int.reduceMod, Int.reduceTMod, Int.reduceTDiv, Int.reduceEq, Nat.reducePow, Nat.reduceDiv, Nat.reduceShiftRight, Nat.reduceMod, List.reduceReplicate]
  have hlen : (sumB a b).length = 16 := by simp [sumB]
  have hget : ∀ (i : Nat) (h1 : i < (sumB a b).length), (sumB a b)[i] = UInt8.ofNat (sumV a b i + ((a.getD i 0).toNat + (b.getD i 0).toNat)) := fun i h1 => by simp [sumB]
  generalize sumB a b = A at *
  have z1 := fillTo_zero A
  rw [hlen] at z1
  refine kLoop_rec (fun (i : Nat) f H => f 0 = .slice 1 (a.map byteRow) ∧ f 1 = .slice 1 (b.map byteRow) ∧ f 5 = .osl 108 1 0 16 ∧ f 6 = .int .i64 (sumV a b i : Int) ∧ f 10 = .int .i64 16 ∧ f 11 = .int .i64 (i : Int) ∧ H 108 = ⟨1, .live, 1, (fillTo A i).map byteRow, true⟩ ∧ i ≤ 16) (fun i => 16 - i) (fun _ => some (.usl 1 (A.map byteRow), [])) ?_ 0 _ _ ?_
  rotate_left
  · refine ⟨rfl, rfl, rfl, rfl, rfl, rfl, ?_, by omega⟩
    rw [z1]; rfl
  rintro i f H ⟨f0, f1, f5, f6, f10, f11, H108, hi⟩ ih
  by_cases hl : i < 16
  · have hf := fillTo_len A i (by omega)
    rw [hlen] at hf
    have hA := hget i (by omega)
    have hv := sumV_le a b i
    have u1 := u8_lt (a[i]'(by omega))
    have u2 := u8_lt (b[i]'(by omega))
    have ea : a.getD i 0 = a[i]'(by omega) := by rw [List.getD_eq_getElem?_getD, List.getElem?_eq_getElem (by omega)]; rfl
    have eb : b.getD i 0 = b[i]'(by omega) := by rw [List.getD_eq_getElem?_getD, List.getElem?_eq_getElem (by omega)]; rfl
    rw [ea, eb] at hA
    have hs : sumV a b (i + 1) = (sumV a b i + ((a[i]'(by omega)).toNat + (b[i]'(by omega)).toNat)) / 256 := by rw [sumV, ea, eb]
    simp -implicitDefEqProofs -dsimp +contextual (maxSteps := 5000000) (disch := first | omega | (simp only [go_sem] <;> omega) | (show indepB _ _ = true; refine id ?_; kernel_rfl)) only [go_sem, ↓reduceIte, Nat.reduceEqDiff, Nat.reduceBEq, Nat.reduceAdd, Nat.reduceSub, Nat.reduceLeDiff, Nat.reduceLT, Nat.reduceMul, Int.reduceNeg, Int.reduceLT, Int.reduceLE, Int.reduceAdd, Int.reduceSub, Int.reduceToNat, Int.reduceMul, Int.reduceMod, Int.reduceTMod, Int.reduceTDiv, Int.reduceEq, Nat.reducePow, Nat.reduceDiv, Nat.reduceShiftRight, Nat.reduceMod, List.reduceReplicate, f0, f1, f5, f6, f10, f11, H108, hl, hf, ha, hb, u8_wrap, shr8_i64]
    rw [← hA, ← hs, fillTo_set _ _ (by omega)]
    exact ih (i + 1) _ _ ⟨f0, f1, f5, rfl, f10, rfl, rfl, by omega⟩ (by omega)
  · obtain rfl : i = 16 := by omega
    rw [fillTo_all _ _ (by omega)] at H108
    simp -implicitDefEqProofs -dsimp +contextual (maxSteps := 5000000) (disch := first | omega | (simp only [go_sem] <;> omega) | (show indepB _ _ = true; refine id ?_; kernel_rfl)) only [go_sem, ↓reduceIte, Nat.reduceEqDiff, Nat.reduceBEq, Nat.reduceAdd, Nat.reduceSub, Nat.reduceLeDiff, Nat.reduceLT, Nat.reduceMul, Int.reduceNeg, Int.reduceLT, Int.reduceLE, Int.reduceAdd, Int.reduceSub, Int.reduceToNat, Int.reduceMul, Int.reduceMod, Int.reduceTMod, Int.reduceTDiv, Int.reduceEq, Nat.reducePow, Nat.reduceDiv, Nat.reduceShiftRight, Nat.reduceMod, List.reduceReplicate, f0, f1, f5, f6, f10, f11, H108, hl, hlen]

end Go.Proofs.Ytdfkkfnjlcdjaaa
