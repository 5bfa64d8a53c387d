import Derived.Test.YtdfkkfnjlcdjaaaTPoly10
namespace Go.Proofs.Ytdfkkfnjlcdjaaa
open Go.Am
set_option linter.unusedSimpArgs false
set_option linter.unusedVariables false
set_option maxRecDepth 100000
/-! Layer 7, by the document: tags. -/
theorem m16 (x : UInt8) : x.toNat % 16 = (x &&& 15).toNat := by
  rw [UInt8.toNat_and]; exact (Nat.and_two_pow_sub_one_eq_mod x.toNat 4).symm
theorem m4 (x : UInt8) : x.toNat % 4 = (x % 4).toNat := by rw [UInt8.toNat_mod]; rfl
theorem m252 (x : UInt8) : x - x % 4 = x &&& 252 := by
  have : ∀ n : Fin 256, (UInt8.ofNat n.val) - (UInt8.ofNat n.val) % 4 = (UInt8.ofNat n.val) &&& 252 := by decide +kernel
  have h := this ⟨x.toNat, x.toNat_lt⟩
  simpa using h
theorem clampB_sets (l : List UInt8) (h : l.length = 16) : clampB l = ((((((l.set 3 (l[3] &&& 15)).set 7 (l[7] &&& 15)).set 11 (l[11] &&& 15)).set 15 (l[15] &&& 15)).set 4 (l[4] &&& 252)).set 8 (l[8] &&& 252)).set 12 (l[12] &&& 252) := by
  match l, h with
  | [a0, a1, a2, a3, a4, a5, a6, a7, a8, a9, a10, a11, a12, a13, a14, a15], _ => simp [clampB, clampAt, List.mapIdx_cons]
theorem clampB_take (r : List UInt8) : clampB (r.take 16) = clampB r := by simp [clampB, List.take_take]
set_option maxHeartbeats 4000000 in
@[go_sem] theorem e46 (r : List UInt8) (h : 16 ≤ r.length) : fn C 46 [] [.slice 1 (r.map byteRow)] = some (.slice 1 ((clampB r).map byteRow), []) := by
  rw [fn_text Try.func46 rfl rfl Try.results46 locM46 rfl rfl (by kernel_rfl)]
  have hl : (r.take 16).length = 16 := by simp; omega
  have hc := clampB_sets (r.take 16) hl
  rw [clampB_take] at hc
  rw [hc]
  generalize hA : r.take 16 = A at *
  simp -implicitDefEqProofs -dsimp +contextual (maxSteps := 5000000) (disch := first | omega | (simp only [go_sem] <;> omega) | (show indepB _ _ = true; refine id ?_; kernel_rfl)) only [go_sem, ↓reduceIte, Nat.reduceEqDiff, Nat.reduceBEq, Nat.reduceAdd, Nat.reduceSub, Nat.reduceLeDiff, Nat.reduceLT, Nat.reduceMul, Int.reduceNeg, Int.reduceLT, Int.reduceLE, Int.reduceAdd, Int.reduceSub, Int.reduceToNat, Int.reduceMul, Int.reduceMod, Int.reduceTMod, Int.reduceTDiv, Int.reduceEq, Nat.reducePow, Nat.reduceDiv, Nat.reduceShiftRight, Nat.reduceMod, List.reduceReplicate, hl, show ¬ r.length < 16 by omega, hA, m16, m4, m252]
  simp [m252]

theorem foldsR_len (n : List Nat) (h : 16 ≤ n.length) : (foldsR n).length = 28 := by
  have w1 := foldR_len (carrR n) (by rw [carrR_len]; omega)
  have w2 := foldR_len (carrR (foldR (carrR n))) (by rw [carrR_len]; omega)
  have w3 := foldR_len (carrR (foldR (carrR (foldR (carrR n))))) (by rw [carrR_len]; omega)
  have w4 := foldR_len (carrR (foldR (carrR (foldR (carrR (foldR (carrR n))))))) (by rw [carrR_len]; omega)
  rw [foldsR, carrR_len, w4]
theorem mulR_len (a b : List Nat) : (mulR a b).length = 17 := by
  rw [mulR, List.length_take, foldsR_len _ (by rw [convG_len]; simp)]; rfl
theorem mulR_dg (a b : List Nat) : Dg (mulR a b) := fun x hx => carrR_dg _ x (List.mem_of_mem_take hx)
theorem leastR_len (n : List Nat) (h : n.length = 17) : (leastR n).length = 17 := by
  simp only [leastR]
  split
  · exact h
  · rw [List.length_take, List.length_set, carrR_len, List.length_set, h]; rfl
theorem leastR_dg (n : List Nat) (h : Dg n) : Dg (leastR n) := by
  simp only [leastR]
  split
  · exact h
  · intro x hx
    have hx := List.mem_of_mem_take hx
    rcases List.mem_or_eq_of_mem_set hx with hx | rfl
    · exact carrR_dg _ x hx
    · omega
def plusR (a b : List Nat) : List Nat := List.zipWith (· + ·) a b
theorem plusR_len (a b : List Nat) (ha : a.length = 17) (hb : b.length = 17) : (plusR a b).length = 17 := by simp [plusR, ha, hb]
theorem plusR_get (a b : List Nat) (i : Nat) (h : i < (plusR a b).length) (ha : i < a.length) (hb : i < b.length) : (plusR a b)[i] = a[i] + b[i] := by simp [plusR]
theorem plusR_le (a b : List Nat) (ha : Dg a) (hb : Dg b) : ∀ x ∈ plusR a b, x ≤ 1000 := by
  intro x hx
  obtain ⟨i, hi, rfl⟩ := List.mem_iff_getElem.1 hx
  simp only [plusR, List.length_zipWith] at hi
  rw [plusR_get a b i (by simp [plusR]; omega) (by omega) (by omega)]
  have h1 := ha _ (List.getElem_mem (show i < a.length by omega))
  have h2 := hb _ (List.getElem_mem (show i < b.length by omega))
  omega
def mixN (A B : List Nat) (m : Nat) : List Nat := A.take m ++ B.drop m
theorem mixN_len (A B : List Nat) (m : Nat) (h : A.length = B.length) (hm : m ≤ A.length) : (mixN A B m).length = A.length := by simp [mixN]; omega
theorem mixN_zero (A B : List Nat) : mixN A B 0 = B := by simp [mixN]
theorem mixN_all (A B : List Nat) (m : Nat) (h : A.length = B.length) (hm : A.length ≤ m) : mixN A B m = A := by simp [mixN, List.take_of_length_le hm, List.drop_of_length_le (show B.length ≤ m by omega)]
theorem mixN_get (A B : List Nat) (m : Nat) (h : A.length = B.length) (hm : m < A.length) (h2 : m < (mixN A B m).length) : (mixN A B m)[m] = B[m] := by
  simp only [mixN]
  rw [List.getElem_append_right (by simp; omega)]
  simp [Nat.min_eq_left (Nat.le_of_lt hm)]
theorem mixN_set (A B : List Nat) (m : Nat) (h : A.length = B.length) (hm : m < A.length) : (mixN A B m).set m A[m] = mixN A B (m + 1) := by
  unfold mixN
  rw [List.set_append_right _ _ (by simp; omega), List.length_take, Nat.min_eq_left (by omega), Nat.sub_self, List.drop_eq_getElem_cons (by omega), List.set_cons_zero, List.take_succ_eq_append_getElem hm, List.append_assoc]
  rfl
/-- A block's digits, and what stands behind it. -/
def blkR (b : List UInt8) : List Nat := (digR b).set b.length 1
theorem blkR_len (b : List UInt8) (h : b.length ≤ 16) : (blkR b).length = 17 := by simp [blkR, digR_len b (by omega)]
theorem blkR_dg (b : List UInt8) : Dg (blkR b) := by
  intro x hx
  rcases List.mem_or_eq_of_mem_set hx with hx | rfl
  · exact digR_dg b x hx
  · omega
def accR (r : List Nat) : Nat → List Nat → List UInt8 → List Nat
  | 0, n, _ => n
  | k + 1, n, msg => if msg = [] then n else accR r k (mulR (plusR (blkR (msg.take 16)) n) r) (msg.drop 16)
theorem accR_fuel (r : List Nat) : ∀ (k k' : Nat) (n : List Nat) (msg : List UInt8), msg.length ≤ k → msg.length ≤ k' → accR r k n msg = accR r k' n msg
  | 0, 0, _, _, _, _ => rfl
  | 0, k' + 1, n, msg, h, _ => by
    have : msg = [] := List.eq_nil_of_length_eq_zero (by omega)
    simp [accR, this]
  | k + 1, 0, n, msg, _, h => by
    have : msg = [] := List.eq_nil_of_length_eq_zero (by omega)
    simp [accR, this]
  | k + 1, k' + 1, n, msg, h, h' => by
    rw [accR, accR]
    split
    · rfl
    · rename_i hne
      have : 0 < msg.length := List.length_pos_iff.2 hne
      exact accR_fuel r k k' _ _ (by simp; omega) (by simp; omega)
def finR (key : List UInt8) (n : List Nat) : List UInt8 := sumB (((leastR (leastR n)).take 16).map UInt8.ofNat) (key.drop 16)
def Z17 : List Nat := [0, 0, 0, 0, 0, 0, 0, 0, 0, 0, 0, 0, 0, 0, 0, 0, 0]
set_option maxHeartbeats 16000000 in
theorem e31 (key msg : List UInt8) (hk : key.length = 32) (hm : msg.length ≤ 1000000000) : fn C 31 [] [.slice 1 (key.map byteRow), .slice 1 (msg.map byteRow)] = some (.tup [.slice 1 ((finR key (accR (digR (clampB key)) msg.length Z17 msg)).map byteRow), .int .i64 0], []) := by
  rw [fn_text Try.func31 rfl rfl Try.results31 locM31 rfl rfl (by kernel_rfl)]
  have hcl := clampB_len key (by omega)
  have hr := digR_len (clampB key) (by omega)
  have hrd := digR_dg (clampB key)
  simp -implicitDefEqProofs -dsimp +contextual (maxSteps := 5000000) (disch := first | omega | (simp only [go_sem] <;> omega) | (show indepB _ _ = true; refine id ?_; kernel_rfl)) only [go_sem, ↓reduceIte, Nat.reduceEqDiff, Nat.reduceBEq, Nat.reduceAdd, Nat.reduceSub, Nat.reduceLeDiff, Nat.reduceLT, Nat.reduceMul, Int.reduceNeg, Int.reduceLT, Int.reduceLE, Int.reduceAdd, Int.reduceSub, Int.reduceToNat, Int.reduceMul, Int.reduceMod, Int.reduceTMod, Int.reduceTDiv, Int.reduceEq, Nat.reducePow, Nat.reduceDiv, Nat.reduceShiftRight, Nat.reduceMod, List.reduceReplicate, hk, hcl, hr]
  have e0 : accR (digR (clampB key)) msg.length Z17 msg = accR (digR (clampB key)) (msg.length - 16 * 0) Z17 (msg.drop (16 * 0)) := rfl
  rw [e0]
  generalize digR (clampB key) = r at *
  refine kLoop_rec2 (fun (i : Nat) (n : List Nat) f H => f 0 = .slice 1 (key.map byteRow) ∧ f 1 = .slice 1 (msg.map byteRow) ∧ f 6 = .osl 120 1 0 17 ∧ ((f 7 = .osl 121 1 0 17 ∧ H 120 = ⟨1, .live, 1, r.map nR, false⟩ ∧ H 121 = ⟨1, .live, 1, n.map nR, true⟩) ∨ (f 7 = .slice 1 (n.map nR) ∧ H 120 = ⟨1, .froz, 1, r.map nR, false⟩)) ∧ f 8 = .int .i64 ((16 * i : Nat) : Int) ∧ (H 140).gen = i ∧ (∀ k, 165 ≤ k → H k = ⟨0, .dead, 0, [], false⟩) ∧ 16 * i ≤ msg.length + 15 ∧ n.length = 17 ∧ Dg n) (fun i _ => msg.length + 16 - 16 * i) (fun i n => some (.tup [.slice 1 ((finR key (accR r (msg.length - 16 * i) n (msg.drop (16 * i)))).map byteRow), .int .i64 0], [])) ?_ 0 Z17 _ _ ?_
  rotate_left
  · exact ⟨rfl, rfl, rfl, .inl ⟨rfl, rfl, rfl⟩, rfl, rfl, heap_far (heap_far (far_nil _) (by omega)) (by omega), by omega, rfl, by simp [Dg, Z17]⟩
  rintro i n f H ⟨f0, f1, f6, hc, f8, g140, hf, hi, hn, hnd⟩ ih
  by_cases hl : 16 * i < msg.length
  · have et : List.take (min (16 * i + 16) msg.length - 16 * i) (List.drop (16 * i) msg) = (msg.drop (16 * i)).take 16 := by
      by_cases h : 16 * i + 16 ≤ msg.length
      · rw [Nat.min_eq_left h, Nat.add_sub_cancel_left]
      · rw [Nat.min_eq_right (by omega), List.take_of_length_le (by simp), List.take_of_length_le (by simp; omega)]
    have hgo : accR r (msg.length - 16 * i) n (msg.drop (16 * i)) = accR r (msg.length - 16 * (i + 1)) (mulR (plusR (blkR ((msg.drop (16 * i)).take 16)) n) r) (msg.drop (16 * (i + 1))) := by
      rw [show msg.length - 16 * i = (msg.length - 16 * i - 1) + 1 by omega, accR, if_neg (by intro h; have := congrArg List.length h; simp at this; omega), List.drop_drop, show 16 * i + 16 = 16 * (i + 1) by omega]
      exact accR_fuel _ _ _ _ _ (by simp; omega) (by simp)
    rw [hgo]
    have hbl : ((msg.drop (16 * i)).take 16).length = min (16 * i + 16) msg.length - 16 * i := by simp; omega
    have hd17 := digR_len ((msg.drop (16 * i)).take 16) (by omega)
    have hb17 := blkR_len ((msg.drop (16 * i)).take 16) (by omega)
    have hbd := blkR_dg ((msg.drop (16 * i)).take 16)
    have hp17 := plusR_len _ n hb17 hn
    have hpg := plusR_get (blkR ((msg.drop (16 * i)).take 16)) n
    have hple := plusR_le _ n hbd hnd
    have hmd := mulR_dg (plusR (blkR ((msg.drop (16 * i)).take 16)) n) r
    have hml := mulR_len (plusR (blkR ((msg.drop (16 * i)).take 16)) n) r
    have hset : (digR ((msg.drop (16 * i)).take 16)).set (min (16 * i + 16) msg.length - 16 * i) 1 = blkR ((msg.drop (16 * i)).take 16) := by rw [blkR, hbl]
    have ih := ih (i + 1) (mulR (plusR (blkR ((msg.drop (16 * i)).take 16)) n) r)
    have e : (if msg.length < 16 * i + 16 then (msg.length : Int) else ((16 * i + 16 : Nat) : Int)) = ((min (16 * i + 16) msg.length : Nat) : Int) := by split <;> omega
    have e2 : ((min (16 * i + 16) msg.length : Nat) : Int) - ((16 * i : Nat) : Int) = ((min (16 * i + 16) msg.length - 16 * i : Nat) : Int) := by omega
    have hdig := e45 ((msg.drop (16 * i)).take 16) (by omega)
    have htim := e47 (plusR (blkR ((msg.drop (16 * i)).take 16)) n) r hp17 hr hple hrd
    generalize msg.drop (16 * (i + 1)) = nxt at *
    generalize hR : plusR (blkR ((msg.drop (16 * i)).take 16)) n = S at *
    generalize hB : blkR ((msg.drop (16 * i)).take 16) = B at *
    generalize hG : digR ((msg.drop (16 * i)).take 16) = G at *
    generalize hK : (msg.drop (16 * i)).take 16 = blk at *
    have hmz := mixN_zero S B
    have hmid : ∀ k, k ≤ 17 → (mixN S B k).length = 17 := fun k hk => by rw [mixN_len S B k (by omega) (by omega), hp17]
    by_cases hlt : msg.length < 16 * i + 16
    · have em : min (16 * i + 16) msg.length = msg.length := by omega
      rw [em] at et hset hbl
      have em2 := hd17
      rw [List.take_of_length_le (by simp)] at et
      rcases hc with ⟨f7, H120, H121⟩ | ⟨f7, H120⟩
      · simp -implicitDefEqProofs -dsimp +contextual (maxSteps := 5000000) (disch := first | omega | (simp only [go_sem] <;> omega) | (show indepB _ _ = true; refine id ?_; kernel_rfl)) only [go_sem, ↓reduceIte, Nat.reduceEqDiff, Nat.reduceBEq, Nat.reduceAdd, Nat.reduceSub, Nat.reduceLeDiff, Nat.reduceLT, Nat.reduceMul, Int.reduceNeg, Int.reduceLT, Int.reduceLE, Int.reduceAdd, Int.reduceSub, Int.reduceToNat, Int.reduceMul, Int.reduceMod, Int.reduceTMod, Int.reduceTDiv, Int.reduceEq, Nat.reducePow, Nat.reduceDiv, Nat.reduceShiftRight, Nat.reduceMod, List.reduceReplicate, f0, f1, f6, f7, f8, H120, H121, g140, hl, hlt, et, hdig, hset, hd17, e2, em2]
        refine kLoop_rec (fun (k : Nat) f H => f 0 = .slice 1 (key.map byteRow) ∧ f 1 = .slice 1 (msg.map byteRow) ∧ f 6 = .osl 120 1 0 17 ∧ f 7 = .osl 121 1 0 17 ∧ f 8 = .int .i64 ((16 * i : Nat) : Int) ∧ f 10 = .osl 140 (i + 1) 0 17 ∧ f 11 = .int .i64 (k : Int) ∧ H 120 = ⟨1, .live, 1, r.map nR, false⟩ ∧ H 121 = ⟨1, .live, 1, n.map nR, true⟩ ∧ H 140 = ⟨i + 1, .live, 1, (mixN S B k).map nR, false⟩ ∧ (∀ k, 165 ≤ k → H k = ⟨0, .dead, 0, [], false⟩) ∧ k ≤ 17) (fun k => 17 - k) (fun _ => some (.tup [.slice 1 ((finR key (accR r (msg.length - 16 * (i + 1)) (mulR S r) nxt)).map byteRow), .int .i64 0], [])) ?_ 0 _ _ ?_
        rotate_left
        · refine ⟨f0, f1, f6, f7, f8, rfl, rfl, H120, H121, by rw [hmz]; rfl, (by repeat (first | exact hf | refine heap_far ?_ (by omega))), by omega⟩
        clear f0 f1 f6 f7 f8 H120 H121 hf g140
        rintro k f H ⟨f0, f1, f6, f7, f8, f10, f11, H120, H121, H140, hf, hk⟩ ih2
        have hm17 := hmid k hk
        by_cases hlk : k < 17
        · have hx := hnd _ (List.getElem_mem (show k < n.length by omega))
          have hy := hbd _ (List.getElem_mem (show k < B.length by omega))
          have hg1 := mixN_get S B k (by omega) (by omega) (by omega)
          have hg2 := hpg k (by omega) (by omega) (by omega)
          have hg3 := mixN_set S B k (by omega) (by omega)
          rw [hg2] at hg3
          simp -implicitDefEqProofs -dsimp +contextual (maxSteps := 5000000) (disch := first | omega | (simp only [go_sem] <;> omega) | (show indepB _ _ = true; refine id ?_; kernel_rfl)) only [go_sem, ↓reduceIte, Nat.reduceEqDiff, Nat.reduceBEq, Nat.reduceAdd, Nat.reduceSub, Nat.reduceLeDiff, Nat.reduceLT, Nat.reduceMul, Int.reduceNeg, Int.reduceLT, Int.reduceLE, Int.reduceAdd, Int.reduceSub, Int.reduceToNat, Int.reduceMul, Int.reduceMod, Int.reduceTMod, Int.reduceTDiv, Int.reduceEq, Nat.reducePow, Nat.reduceDiv, Nat.reduceShiftRight, Nat.reduceMod, List.reduceReplicate, f0, f1, f6, f7, f8, f10, f11, H120, H121, H140, hlk, hm17, hn, hg1, hg3]
          exact ih2 (k + 1) _ _ ⟨f0, f1, f6, f7, f8, f10, rfl, H120, H121, rfl, (by repeat (first | exact hf | refine heap_far ?_ (by omega))), by omega⟩ (by omega)
        · obtain rfl : k = 17 := by omega
          rw [mixN_all _ _ _ (by omega) (by omega)] at H140
          simp -implicitDefEqProofs -dsimp +contextual (maxSteps := 5000000) (disch := first | omega | (simp only [go_sem] <;> omega) | (show indepB _ _ = true; refine id ?_; kernel_rfl)) only [go_sem, ↓reduceIte, Nat.reduceEqDiff, Nat.reduceBEq, Nat.reduceAdd, Nat.reduceSub, Nat.reduceLeDiff, Nat.reduceLT, Nat.reduceMul, Int.reduceNeg, Int.reduceLT, Int.reduceLE, Int.reduceAdd, Int.reduceSub, Int.reduceToNat, Int.reduceMul, Int.reduceMod, Int.reduceTMod, Int.reduceTDiv, Int.reduceEq, Nat.reducePow, Nat.reduceDiv, Nat.reduceShiftRight, Nat.reduceMod, List.reduceReplicate, f0, f1, f6, f7, f8, f10, f11, H120, H121, H140, hlk, hp17, hr, htim]
          exact ih _ _ ⟨f0, f1, f6, .inr ⟨rfl, rfl⟩, rfl, rfl, (by repeat (first | exact hf | refine heap_far ?_ (by omega))), by omega, hml, hmd⟩ (by omega)
      · simp -implicitDefEqProofs -dsimp +contextual (maxSteps := 5000000) (disch := first | omega | (simp only [go_sem] <;> omega) | (show indepB _ _ = true; refine id ?_; kernel_rfl)) only [go_sem, ↓reduceIte, Nat.reduceEqDiff, Nat.reduceBEq, Nat.reduceAdd, Nat.reduceSub, Nat.reduceLeDiff, Nat.reduceLT, Nat.reduceMul, Int.reduceNeg, Int.reduceLT, Int.reduceLE, Int.reduceAdd, Int.reduceSub, Int.reduceToNat, Int.reduceMul, Int.reduceMod, Int.reduceTMod, Int.reduceTDiv, Int.reduceEq, Nat.reducePow, Nat.reduceDiv, Nat.reduceShiftRight, Nat.reduceMod, List.reduceReplicate, f0, f1, f6, f7, f8, H120, g140, hl, hlt, et, hdig, hset, hd17, e2, em2]
        refine kLoop_rec (fun (k : Nat) f H => f 0 = .slice 1 (key.map byteRow) ∧ f 1 = .slice 1 (msg.map byteRow) ∧ f 6 = .osl 120 1 0 17 ∧ f 7 = .slice 1 (n.map nR) ∧ f 8 = .int .i64 ((16 * i : Nat) : Int) ∧ f 10 = .osl 140 (i + 1) 0 17 ∧ f 11 = .int .i64 (k : Int) ∧ H 120 = ⟨1, .froz, 1, r.map nR, false⟩ ∧ H 140 = ⟨i + 1, .live, 1, (mixN S B k).map nR, false⟩ ∧ (∀ k, 165 ≤ k → H k = ⟨0, .dead, 0, [], false⟩) ∧ k ≤ 17) (fun k => 17 - k) (fun _ => some (.tup [.slice 1 ((finR key (accR r (msg.length - 16 * (i + 1)) (mulR S r) nxt)).map byteRow), .int .i64 0], [])) ?_ 0 _ _ ?_
        rotate_left
        · refine ⟨f0, f1, f6, f7, f8, rfl, rfl, H120, by rw [hmz]; rfl, (by repeat (first | exact hf | refine heap_far ?_ (by omega))), by omega⟩
        clear f0 f1 f6 f7 f8 H120 hf g140
        rintro k f H ⟨f0, f1, f6, f7, f8, f10, f11, H120, H140, hf, hk⟩ ih2
        have hm17 := hmid k hk
        by_cases hlk : k < 17
        · have hx := hnd _ (List.getElem_mem (show k < n.length by omega))
          have hy := hbd _ (List.getElem_mem (show k < B.length by omega))
          have hg1 := mixN_get S B k (by omega) (by omega) (by omega)
          have hg2 := hpg k (by omega) (by omega) (by omega)
          have hg3 := mixN_set S B k (by omega) (by omega)
          rw [hg2] at hg3
          simp -implicitDefEqProofs -dsimp +contextual (maxSteps := 5000000) (disch := first | omega | (simp only [go_sem] <;> omega) | (show indepB _ _ = true; refine id ?_; kernel_rfl)) only [go_sem, ↓reduceIte, Nat.reduceEqDiff, Nat.reduceBEq, Nat.reduceAdd, Nat.reduceSub, Nat.reduceLeDiff, Nat.reduceLT, Nat.reduceMul, Int.reduceNeg, Int.reduceLT, Int.reduceLE, Int.reduceAdd, Int.reduceSub, Int.reduceToNat, Int.reduceMul, Int.reduceMod, Int.reduceTMod, Int.reduceTDiv, Int.reduceEq, Nat.reducePow, Nat.reduceDiv, Nat.reduceShiftRight, Nat.reduceMod, List.reduceReplicate, f0, f1, f6, f7, f8, f10, f11, H120, H140, hlk, hm17, hn, hg1, hg3]
          exact ih2 (k + 1) _ _ ⟨f0, f1, f6, f7, f8, f10, rfl, H120, rfl, (by repeat (first | exact hf | refine heap_far ?_ (by omega))), by omega⟩ (by omega)
        · obtain rfl : k = 17 := by omega
          rw [mixN_all _ _ _ (by omega) (by omega)] at H140
          simp -implicitDefEqProofs -dsimp +contextual (maxSteps := 5000000) (disch := first | omega | (simp only [go_sem] <;> omega) | (show indepB _ _ = true; refine id ?_; kernel_rfl)) only [go_sem, ↓reduceIte, Nat.reduceEqDiff, Nat.reduceBEq, Nat.reduceAdd, Nat.reduceSub, Nat.reduceLeDiff, Nat.reduceLT, Nat.reduceMul, Int.reduceNeg, Int.reduceLT, Int.reduceLE, Int.reduceAdd, Int.reduceSub, Int.reduceToNat, Int.reduceMul, Int.reduceMod, Int.reduceTMod, Int.reduceTDiv, Int.reduceEq, Nat.reducePow, Nat.reduceDiv, Nat.reduceShiftRight, Nat.reduceMod, List.reduceReplicate, f0, f1, f6, f7, f8, f10, f11, H120, H140, hlk, hp17, hr, htim]
          exact ih _ _ ⟨f0, f1, f6, .inr ⟨rfl, rfl⟩, rfl, rfl, (by repeat (first | exact hf | refine heap_far ?_ (by omega))), by omega, hml, hmd⟩ (by omega)
    · have em : min (16 * i + 16) msg.length = 16 * i + 16 := by omega
      have em2 : 16 * i + 16 - 16 * i = 16 := by omega
      rw [em, em2] at et hset hbl
      rcases hc with ⟨f7, H120, H121⟩ | ⟨f7, H120⟩
      · simp -implicitDefEqProofs -dsimp +contextual (maxSteps := 5000000) (disch := first | omega | (simp only [go_sem] <;> omega) | (show indepB _ _ = true; refine id ?_; kernel_rfl)) only [go_sem, ↓reduceIte, Nat.reduceEqDiff, Nat.reduceBEq, Nat.reduceAdd, Nat.reduceSub, Nat.reduceLeDiff, Nat.reduceLT, Nat.reduceMul, Int.reduceNeg, Int.reduceLT, Int.reduceLE, Int.reduceAdd, Int.reduceSub, Int.reduceToNat, Int.reduceMul, Int.reduceMod, Int.reduceTMod, Int.reduceTDiv, Int.reduceEq, Nat.reducePow, Nat.reduceDiv, Nat.reduceShiftRight, Nat.reduceMod, List.reduceReplicate, f0, f1, f6, f7, f8, H120, H121, g140, hl, hlt, et, hdig, hset, hd17, e2, em2]
        refine kLoop_rec (fun (k : Nat) f H => f 0 = .slice 1 (key.map byteRow) ∧ f 1 = .slice 1 (msg.map byteRow) ∧ f 6 = .osl 120 1 0 17 ∧ f 7 = .osl 121 1 0 17 ∧ f 8 = .int .i64 ((16 * i : Nat) : Int) ∧ f 10 = .osl 140 (i + 1) 0 17 ∧ f 11 = .int .i64 (k : Int) ∧ H 120 = ⟨1, .live, 1, r.map nR, false⟩ ∧ H 121 = ⟨1, .live, 1, n.map nR, true⟩ ∧ H 140 = ⟨i + 1, .live, 1, (mixN S B k).map nR, false⟩ ∧ (∀ k, 165 ≤ k → H k = ⟨0, .dead, 0, [], false⟩) ∧ k ≤ 17) (fun k => 17 - k) (fun _ => some (.tup [.slice 1 ((finR key (accR r (msg.length - 16 * (i + 1)) (mulR S r) nxt)).map byteRow), .int .i64 0], [])) ?_ 0 _ _ ?_
        rotate_left
        · refine ⟨f0, f1, f6, f7, f8, rfl, rfl, H120, H121, by rw [hmz]; rfl, (by repeat (first | exact hf | refine heap_far ?_ (by omega))), by omega⟩
        clear f0 f1 f6 f7 f8 H120 H121 hf g140
        rintro k f H ⟨f0, f1, f6, f7, f8, f10, f11, H120, H121, H140, hf, hk⟩ ih2
        have hm17 := hmid k hk
        by_cases hlk : k < 17
        · have hx := hnd _ (List.getElem_mem (show k < n.length by omega))
          have hy := hbd _ (List.getElem_mem (show k < B.length by omega))
          have hg1 := mixN_get S B k (by omega) (by omega) (by omega)
          have hg2 := hpg k (by omega) (by omega) (by omega)
          have hg3 := mixN_set S B k (by omega) (by omega)
          rw [hg2] at hg3
          simp -implicitDefEqProofs -dsimp +contextual (maxSteps := 5000000) (disch := first | omega | (simp only [go_sem] <;> omega) | (show indepB _ _ = true; refine id ?_; kernel_rfl)) only [go_sem, ↓reduceIte, Nat.reduceEqDiff, Nat.reduceBEq, Nat.reduceAdd, Nat.reduceSub, Nat.reduceLeDiff, Nat.reduceLT, Nat.reduceMul, Int.reduceNeg, Int.reduceLT, Int.reduceLE, Int.reduceAdd, Int.reduceSub, Int.reduceToNat, Int.reduceMul, Int.reduceMod, Int.reduceTMod, Int.reduceTDiv, Int.reduceEq, Nat.reducePow, Nat.reduceDiv, Nat.reduceShiftRight, Nat.reduceMod, List.reduceReplicate, f0, f1, f6, f7, f8, f10, f11, H120, H121, H140, hlk, hm17, hn, hg1, hg3]
          exact ih2 (k + 1) _ _ ⟨f0, f1, f6, f7, f8, f10, rfl, H120, H121, rfl, (by repeat (first | exact hf | refine heap_far ?_ (by omega))), by omega⟩ (by omega)
        · obtain rfl : k = 17 := by omega
          rw [mixN_all _ _ _ (by omega) (by omega)] at H140
          simp -implicitDefEqProofs -dsimp +contextual (maxSteps := 5000000) (disch := first | omega | (simp only [go_sem] <;> omega) | (show indepB _ _ = true; refine id ?_; kernel_rfl)) only [go_sem, ↓reduceIte, Nat.reduceEqDiff, Nat.reduceBEq, Nat.reduceAdd, Nat.reduceSub, Nat.reduceLeDiff, Nat.reduceLT, Nat.reduceMul, Int.reduceNeg, Int.reduceLT, Int.reduceLE, Int.reduceAdd, Int.reduceSub, Int.reduceToNat, Int.reduceMul, Int.reduceMod, Int.reduceTMod, Int.reduceTDiv, Int.reduceEq, Nat.reducePow, Nat.reduceDiv, Nat.reduceShiftRight, Nat.reduceMod, List.reduceReplicate, f0, f1, f6, f7, f8, f10, f11, H120, H121, H140, hlk, hp17, hr, htim]
          exact ih _ _ ⟨f0, f1, f6, .inr ⟨rfl, rfl⟩, rfl, rfl, (by repeat (first | exact hf | refine heap_far ?_ (by omega))), by omega, hml, hmd⟩ (by omega)
      · simp -implicitDefEqProofs -dsimp +contextual (maxSteps := 5000000) (disch := first | omega | (simp only [go_sem] <;> omega) | (show indepB _ _ = true; refine id ?_; kernel_rfl)) only [go_sem, ↓reduceIte, Nat.reduceEqDiff, Nat.reduceBEq, Nat.reduceAdd, Nat.reduceSub, Nat.reduceLeDiff, Nat.reduceLT, Nat.reduceMul, Int.reduceNeg, Int.reduceLT, Int.reduceLE, Int.reduceAdd, Int.reduceSub, Int.reduceToNat, Int.reduceMul, Int.reduceMod, Int.reduceTMod, Int.reduceTDiv, Int.reduceEq, Nat.reducePow, Nat.reduceDiv, Nat.reduceShiftRight, Nat.reduceMod, List.reduceReplicate, f0, f1, f6, f7, f8, H120, g140, hl, hlt, et, hdig, hset, hd17, e2, em2]
        refine kLoop_rec (fun (k : Nat) f H => f 0 = .slice 1 (key.map byteRow) ∧ f 1 = .slice 1 (msg.map byteRow) ∧ f 6 = .osl 120 1 0 17 ∧ f 7 = .slice 1 (n.map nR) ∧ f 8 = .int .i64 ((16 * i : Nat) : Int) ∧ f 10 = .osl 140 (i + 1) 0 17 ∧ f 11 = .int .i64 (k : Int) ∧ H 120 = ⟨1, .froz, 1, r.map nR, false⟩ ∧ H 140 = ⟨i + 1, .live, 1, (mixN S B k).map nR, false⟩ ∧ (∀ k, 165 ≤ k → H k = ⟨0, .dead, 0, [], false⟩) ∧ k ≤ 17) (fun k => 17 - k) (fun _ => some (.tup [.slice 1 ((finR key (accR r (msg.length - 16 * (i + 1)) (mulR S r) nxt)).map byteRow), .int .i64 0], [])) ?_ 0 _ _ ?_
        rotate_left
        · refine ⟨f0, f1, f6, f7, f8, rfl, rfl, H120, by rw [hmz]; rfl, (by repeat (first | exact hf | refine heap_far ?_ (by omega))), by omega⟩
        clear f0 f1 f6 f7 f8 H120 hf g140
        rintro k f H ⟨f0, f1, f6, f7, f8, f10, f11, H120, H140, hf, hk⟩ ih2
        have hm17 := hmid k hk
        by_cases hlk : k < 17
        · have hx := hnd _ (List.getElem_mem (show k < n.length by omega))
          have hy := hbd _ (List.getElem_mem (show k < B.length by omega))
          have hg1 := mixN_get S B k (by omega) (by omega) (by omega)
          have hg2 := hpg k (by omega) (by omega) (by omega)
          have hg3 := mixN_set S B k (by omega) (by omega)
          rw [hg2] at hg3
          simp -implicitDefEqProofs -dsimp +contextual (maxSteps := 5000000) (disch := first | omega | (simp only [go_sem] <;> omega) | (show indepB _ _ = true; refine id ?_; kernel_rfl)) only [go_sem, ↓reduceIte, Nat.reduceEqDiff, Nat.reduceBEq, Nat.reduceAdd, Nat.reduceSub, Nat.reduceLeDiff, Nat.reduceLT, Nat.reduceMul, Int.reduceNeg, Int.reduceLT, Int.reduceLE, Int.reduceAdd, Int.reduceSub, Int.reduceToNat, Int.reduceMul, Int.reduceMod, Int.reduceTMod, Int.reduceTDiv, Int.reduceEq, Nat.reducePow, Nat.reduceDiv, Nat.reduceShiftRight, Nat.reduceMod, List.reduceReplicate, f0, f1, f6, f7, f8, f10, f11, H120, H140, hlk, hm17, hn, hg1, hg3]
          exact ih2 (k + 1) _ _ ⟨f0, f1, f6, f7, f8, f10, rfl, H120, rfl, (by repeat (first | exact hf | refine heap_far ?_ (by omega))), by omega⟩ (by omega)
        · obtain rfl : k = 17 := by omega
          rw [mixN_all _ _ _ (by omega) (by omega)] at H140
          simp -implicitDefEqProofs -dsimp +contextual (maxSteps := 5000000) (disch := first | omega | (simp only [go_sem] <;> omega) | (show indepB _ _ = true; refine id ?_; kernel_rfl)) only [go_sem, ↓reduceIte, Nat.reduceEqDiff, Nat.reduceBEq, Nat.reduceAdd, Nat.reduceSub, Nat.reduceLeDiff, Nat.reduceLT, Nat.reduceMul, Int.reduceNeg, Int.reduceLT, Int.reduceLE, Int.reduceAdd, Int.reduceSub, Int.reduceToNat, Int.reduceMul, Int.reduceMod, Int.reduceTMod, Int.reduceTDiv, Int.reduceEq, Nat.reducePow, Nat.reduceDiv, Nat.reduceShiftRight, Nat.reduceMod, List.reduceReplicate, f0, f1, f6, f7, f8, f10, f11, H120, H140, hlk, hp17, hr, htim]
          exact ih _ _ ⟨f0, f1, f6, .inr ⟨rfl, rfl⟩, rfl, rfl, (by repeat (first | exact hf | refine heap_far ?_ (by omega))), by omega, hml, hmd⟩ (by omega)
  · have hnil : accR r (msg.length - 16 * i) n [] = n := by cases (msg.length - 16 * i) <;> simp [accR]
    have H168 := hf 168 (by omega)
    have hl1 := leastR_len n hn
    have hd1 := leastR_dg n hnd
    have hl2 := leastR_len _ hl1
    have hd2 := leastR_dg _ hd1
    have hf1 := e48 n hn hnd
    have hf2 := e48 (leastR n) hl1 hd1
    have hfin : finR key n = sumB (((leastR (leastR n)).take 16).map UInt8.ofNat) (key.drop 16) := rfl
    rcases hc with ⟨f7, H120, H121⟩ | ⟨f7, H120⟩
    · simp -implicitDefEqProofs -dsimp +contextual (maxSteps := 5000000) (disch := first | omega | (simp only [go_sem] <;> omega) | (show indepB _ _ = true; refine id ?_; kernel_rfl)) only [go_sem, ↓reduceIte, Nat.reduceEqDiff, Nat.reduceBEq, Nat.reduceAdd, Nat.reduceSub, Nat.reduceLeDiff, Nat.reduceLT, Nat.reduceMul, Int.reduceNeg, Int.reduceLT, Int.reduceLE, Int.reduceAdd, Int.reduceSub, Int.reduceToNat, Int.reduceMul, Int.reduceMod, Int.reduceTMod, Int.reduceTDiv, Int.reduceEq, Nat.reducePow, Nat.reduceDiv, Nat.reduceShiftRight, Nat.reduceMod, List.reduceReplicate, f0, f1, f6, f7, f8, H120, H121, hl, hnil, hf1, hf2, H168]
      rw [hfin]
      have hlen : (sumB (((leastR (leastR n)).take 16).map UInt8.ofNat) (key.drop 16)).length = 16 := by simp [sumB]
      have hget : ∀ (i : Nat) (h1 : i < (sumB (((leastR (leastR n)).take 16).map UInt8.ofNat) (key.drop 16)).length), (sumB (((leastR (leastR n)).take 16).map UInt8.ofNat) (key.drop 16))[i] = UInt8.ofNat (sumV (((leastR (leastR n)).take 16).map UInt8.ofNat) (key.drop 16) i + (((((leastR (leastR n)).take 16).map UInt8.ofNat).getD i 0).toNat + ((key.drop 16).getD i 0).toNat)) := fun i h1 => by simp [sumB]
      have ea : ∀ (k : Nat) (h : k < 16) (h2 : k < (leastR (leastR n)).length), (((leastR (leastR n)).take 16).map UInt8.ofNat).getD k 0 = UInt8.ofNat ((leastR (leastR n))[k]) := fun k h h2 => by
        rw [List.getD_eq_getElem?_getD, List.getElem?_eq_getElem (by simp; omega)]; simp
      have eb : ∀ (k : Nat) (h : k < 16), (key.drop 16).getD k 0 = key[16 + k]'(by omega) := fun k h => by
        rw [List.getD_eq_getElem?_getD, List.getElem?_eq_getElem (by simp; omega)]; simp
      have hvv := sumV_le (((leastR (leastR n)).take 16).map UInt8.ofNat) (key.drop 16)
      have hss : ∀ i, sumV (((leastR (leastR n)).take 16).map UInt8.ofNat) (key.drop 16) (i + 1) = (sumV (((leastR (leastR n)).take 16).map UInt8.ofNat) (key.drop 16) i + (((((leastR (leastR n)).take 16).map UInt8.ofNat).getD i 0).toNat + ((key.drop 16).getD i 0).toNat)) / 256 := fun i => rfl
      have hs0 : sumV (((leastR (leastR n)).take 16).map UInt8.ofNat) (key.drop 16) 0 = 0 := rfl
      generalize hW : sumV (((leastR (leastR n)).take 16).map UInt8.ofNat) (key.drop 16) = W at *
      generalize sumB (((leastR (leastR n)).take 16).map UInt8.ofNat) (key.drop 16) = A at *
      generalize leastR (leastR n) = nn at *
      have z1 := fillTo_zero A
      rw [hlen] at z1
      refine kLoop_rec (fun (i : Nat) f H => f 0 = .slice 1 (key.map byteRow) ∧ f 7 = .slice 1 (nn.map nR) ∧ f 12 = .osl 168 1 0 16 ∧ f 13 = .int .i64 (W i : Int) ∧ f 14 = .int .i64 (i : Int) ∧ H 168 = ⟨1, .live, 1, (fillTo A i).map byteRow, true⟩ ∧ i ≤ 16) (fun i => 16 - i) (fun _ => some (.tup [.slice 1 (A.map byteRow), .int .i64 0], [])) ?_ 0 _ _ ?_
      rotate_left
      · refine ⟨f0, rfl, rfl, by rw [hs0]; rfl, rfl, ?_, by omega⟩
        rw [z1]; rfl
      clear ih f0 f1 f6 f7 f8 H120 H168 hl hf1 hf2 hf
      rintro i f H ⟨f0, f7, f12, f13, f14, H168, hi⟩ ih
      by_cases hl : i < 16
      · have hf := fillTo_len A i (by omega)
        rw [hlen] at hf
        have hA := hget i (by omega)
        have hv := hvv i
        have hs := hss i
        have u2 := u8_lt (key[16 + i]'(by omega))
        have hx := hd2 _ (List.getElem_mem (show i < nn.length by omega))
        have hx2 : (UInt8.ofNat nn[i]).toNat = nn[i] := by simp [UInt8.toNat_ofNat']; omega
        rw [ea i hl (by omega), eb i hl, hx2] at hA hs
        simp -implicitDefEqProofs -dsimp +contextual (maxSteps := 5000000) (disch := first | omega | (simp only [go_sem] <;> omega) | (show indepB _ _ = true; refine id ?_; kernel_rfl)) only [go_sem, ↓reduceIte, Nat.reduceEqDiff, Nat.reduceBEq, Nat.reduceAdd, Nat.reduceSub, Nat.reduceLeDiff, Nat.reduceLT, Nat.reduceMul, Int.reduceNeg, Int.reduceLT, Int.reduceLE, Int.reduceAdd, Int.reduceSub, Int.reduceToNat, Int.reduceMul, Int.reduceMod, Int.reduceTMod, Int.reduceTDiv, Int.reduceEq, Nat.reducePow, Nat.reduceDiv, Nat.reduceShiftRight, Nat.reduceMod, List.reduceReplicate, f0, f7, f12, f13, f14, H168, hl, hl2, hf, hk, u8_wrap]
        rw [ofNat8 _ (W i + (nn[i] + (key[16 + i]'(by omega)).toNat)) (by omega), ← hA, fillTo_set _ _ (by omega)]
        refine ih (i + 1) _ _ ⟨f0, f7, f12, ?_, rfl, rfl, by omega⟩ (by omega)
        rw [hs]
        show AVal.int IntKind.i64 _ = AVal.int IntKind.i64 _
        congr 1; omega
      · obtain rfl : i = 16 := by omega
        rw [fillTo_all _ _ (by omega)] at H168
        simp -implicitDefEqProofs -dsimp +contextual (maxSteps := 5000000) (disch := first | omega | (simp only [go_sem] <;> omega) | (show indepB _ _ = true; refine id ?_; kernel_rfl)) only [go_sem, ↓reduceIte, Nat.reduceEqDiff, Nat.reduceBEq, Nat.reduceAdd, Nat.reduceSub, Nat.reduceLeDiff, Nat.reduceLT, Nat.reduceMul, Int.reduceNeg, Int.reduceLT, Int.reduceLE, Int.reduceAdd, Int.reduceSub, Int.reduceToNat, Int.reduceMul, Int.reduceMod, Int.reduceTMod, Int.reduceTDiv, Int.reduceEq, Nat.reducePow, Nat.reduceDiv, Nat.reduceShiftRight, Nat.reduceMod, List.reduceReplicate, f0, f7, f12, f13, f14, H168, hl, hlen]
    · simp -implicitDefEqProofs -dsimp +contextual (maxSteps := 5000000) (disch := first | omega | (simp only [go_sem] <;> omega) | (show indepB _ _ = true; refine id ?_; kernel_rfl)) only [go_sem, ↓reduceIte, Nat.reduceEqDiff, Nat.reduceBEq, Nat.reduceAdd, Nat.reduceSub, Nat.reduceLeDiff, Nat.reduceLT, Nat.reduceMul, Int.reduceNeg, Int.reduceLT, Int.reduceLE, Int.reduceAdd, Int.reduceSub, Int.reduceToNat, Int.reduceMul, Int.reduceMod, Int.reduceTMod, Int.reduceTDiv, Int.reduceEq, Nat.reducePow, Nat.reduceDiv, Nat.reduceShiftRight, Nat.reduceMod, List.reduceReplicate, f0, f1, f6, f7, f8, H120, hl, hnil, hf1, hf2, H168]
      rw [hfin]
      have hlen : (sumB (((leastR (leastR n)).take 16).map UInt8.ofNat) (key.drop 16)).length = 16 := by simp [sumB]
      have hget : ∀ (i : Nat) (h1 : i < (sumB (((leastR (leastR n)).take 16).map UInt8.ofNat) (key.drop 16)).length), (sumB (((leastR (leastR n)).take 16).map UInt8.ofNat) (key.drop 16))[i] = UInt8.ofNat (sumV (((leastR (leastR n)).take 16).map UInt8.ofNat) (key.drop 16) i + (((((leastR (leastR n)).take 16).map UInt8.ofNat).getD i 0).toNat + ((key.drop 16).getD i 0).toNat)) := fun i h1 => by simp [sumB]
      have ea : ∀ (k : Nat) (h : k < 16) (h2 : k < (leastR (leastR n)).length), (((leastR (leastR n)).take 16).map UInt8.ofNat).getD k 0 = UInt8.ofNat ((leastR (leastR n))[k]) := fun k h h2 => by
        rw [List.getD_eq_getElem?_getD, List.getElem?_eq_getElem (by simp; omega)]; simp
      have eb : ∀ (k : Nat) (h : k < 16), (key.drop 16).getD k 0 = key[16 + k]'(by omega) := fun k h => by
        rw [List.getD_eq_getElem?_getD, List.getElem?_eq_getElem (by simp; omega)]; simp
      have hvv := sumV_le (((leastR (leastR n)).take 16).map UInt8.ofNat) (key.drop 16)
      have hss : ∀ i, sumV (((leastR (leastR n)).take 16).map UInt8.ofNat) (key.drop 16) (i + 1) = (sumV (((leastR (leastR n)).take 16).map UInt8.ofNat) (key.drop 16) i + (((((leastR (leastR n)).take 16).map UInt8.ofNat).getD i 0).toNat + ((key.drop 16).getD i 0).toNat)) / 256 := fun i => rfl
      have hs0 : sumV (((leastR (leastR n)).take 16).map UInt8.ofNat) (key.drop 16) 0 = 0 := rfl
      generalize hW : sumV (((leastR (leastR n)).take 16).map UInt8.ofNat) (key.drop 16) = W at *
      generalize sumB (((leastR (leastR n)).take 16).map UInt8.ofNat) (key.drop 16) = A at *
      generalize leastR (leastR n) = nn at *
      have z1 := fillTo_zero A
      rw [hlen] at z1
      refine kLoop_rec (fun (i : Nat) f H => f 0 = .slice 1 (key.map byteRow) ∧ f 7 = .slice 1 (nn.map nR) ∧ f 12 = .osl 168 1 0 16 ∧ f 13 = .int .i64 (W i : Int) ∧ f 14 = .int .i64 (i : Int) ∧ H 168 = ⟨1, .live, 1, (fillTo A i).map byteRow, true⟩ ∧ i ≤ 16) (fun i => 16 - i) (fun _ => some (.tup [.slice 1 (A.map byteRow), .int .i64 0], [])) ?_ 0 _ _ ?_
      rotate_left
      · refine ⟨f0, rfl, rfl, by rw [hs0]; rfl, rfl, ?_, by omega⟩
        rw [z1]; rfl
      clear ih f0 f1 f6 f7 f8 H120 H168 hl hf1 hf2 hf
      rintro i f H ⟨f0, f7, f12, f13, f14, H168, hi⟩ ih
      by_cases hl : i < 16
      · have hf := fillTo_len A i (by omega)
        rw [hlen] at hf
        have hA := hget i (by omega)
        have hv := hvv i
        have hs := hss i
        have u2 := u8_lt (key[16 + i]'(by omega))
        have hx := hd2 _ (List.getElem_mem (show i < nn.length by omega))
        have hx2 : (UInt8.ofNat nn[i]).toNat = nn[i] := by simp [UInt8.toNat_ofNat']; omega
        rw [ea i hl (by omega), eb i hl, hx2] at hA hs
        simp -implicitDefEqProofs -dsimp +contextual (maxSteps := 5000000) (disch := first | omega | (simp only [go_sem] <;> omega) | (show indepB _ _ = true; refine id ?_; kernel_rfl)) only [go_sem, ↓reduceIte, Nat.reduceEqDiff, Nat.reduceBEq, Nat.reduceAdd, Nat.reduceSub, Nat.reduceLeDiff, Nat.reduceLT, Nat.reduceMul, Int.reduceNeg, Int.reduceLT, Int.reduceLE, Int.reduceAdd, Int.reduceSub, Int.reduceToNat, Int.reduceMul, Int.reduceMod, Int.reduceTMod, Int.reduceTDiv, Int.reduceEq, Nat.reducePow, Nat.reduceDiv, Nat.reduceShiftRight, Nat.reduceMod, List.reduceReplicate, f0, f7, f12, f13, f14, H168, hl, hl2, hf, hk, u8_wrap]
        rw [ofNat8 _ (W i + (nn[i] + (key[16 + i]'(by omega)).toNat)) (by omega), ← hA, fillTo_set _ _ (by omega)]
        refine ih (i + 1) _ _ ⟨f0, f7, f12, ?_, rfl, rfl, by omega⟩ (by omega)
        rw [hs]
        show AVal.int IntKind.i64 _ = AVal.int IntKind.i64 _
        congr 1; omega
      · obtain rfl : i = 16 := by omega
        rw [fillTo_all _ _ (by omega)] at H168
        simp -implicitDefEqProofs -dsimp +contextual (maxSteps := 5000000) (disch := first | omega | (simp only [go_sem] <;> omega) | (show indepB _ _ = true; refine id ?_; kernel_rfl)) only [go_sem, ↓reduceIte, Nat.reduceEqDiff, Nat.reduceBEq, Nat.reduceAdd, Nat.reduceSub, Nat.reduceLeDiff, Nat.reduceLT, Nat.reduceMul, Int.reduceNeg, Int.reduceLT, Int.reduceLE, Int.reduceAdd, Int.reduceSub, Int.reduceToNat, Int.reduceMul, Int.reduceMod, Int.reduceTMod, Int.reduceTDiv, Int.reduceEq, Nat.reducePow, Nat.reduceDiv, Nat.reduceShiftRight, Nat.reduceMod, List.reduceReplicate, f0, f7, f12, f13, f14, H168, hl, hlen]

end Go.Proofs.Ytdfkkfnjlcdjaaa
