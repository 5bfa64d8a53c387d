import Derived.Test.YtccfjidpdlfenaaGreatDoorTPoly2
namespace Go.Proofs.YtccfjidpdlfenaaGreatDoor
open Go.Am
set_option linter.unusedSimpArgs false
set_option linter.unusedVariables false
set_option maxRecDepth 100000
/-! Layer 7, by the document: tags. -/
theorem m16 (x : UInt8) : x.toNat % 16 = (x &&& 15).toNat := by
  rw [UInt8.toNat_and]; exact (Nat.and_two_pow_sub_one_eq_mod x.toNat 4).symm
theorem m4 (x : UInt8) : x.toNat % 4 = (x % 4).toNat := by rw [UInt8.toNat_mod]; rfl
theorem m252 (x : UInt8) : x - x % 4 = x &&& 252 := by
  have : ∀ n : Fin 256, (UInt8.ofNat n.val) - (UInt8.ofNat n.val) % 4 = (UInt8.ofNat n.val) &&& 252 := by decide +kernel
  have h := this ⟨x.toNat, x.toNat_lt⟩
  simpa using h
theorem clampB_sets (l : List UInt8) (h : l.length = 16) : clampB l = ((((((l.set 3 (l[3] &&& 15)).set 7 (l[7] &&& 15)).set 11 (l[11] &&& 15)).set 15 (l[15] &&& 15)).set 4 (l[4] &&& 252)).set 8 (l[8] &&& 252)).set 12 (l[12] &&& 252) := by
  match l, h with
  | [a0, a1, a2, a3, a4, a5, a6, a7, a8, a9, a10, a11, a12, a13, a14, a15], _ => simp [clampB, clampAt, List.mapIdx_cons]
theorem clampB_take (r : List UInt8) : clampB (r.take 16) = clampB r := by simp [clampB, List.take_take]
set_option maxHeartbeats 4000000 in
@[go_sem] theorem e120 (r : List UInt8) (h : 16 ≤ r.length) : fn C 120 [] [.slice 1 (r.map byteRow)] = some (.slice 1 ((clampB r).map byteRow), []) := by
  rw [fn_text Tryz.func120 rfl rfl Tryz.results120 fq120.1 rfl rfl (by kernel_rfl)]
  have hl : (r.take 16).length = 16 := by simp; omega
  have hc := clampB_sets (r.take 16) hl
  rw [clampB_take] at hc
  rw [hc]
  generalize hA : r.take 16 = A at *
  simp -implicitDefEqProofs -dsimp +contextual (maxSteps := 5000000) (disch := first | omega | simp only [go_sem] <;> omega | refine ib ?_; kernel_rfl) only [go_sem, Nat.reduceBEq, Int.reduceNeg, Int.reduceLT, Int.reduceLE, Int.reduceAdd, Int.reduceSub, Int.reduceToNat, Int.reduceMul, Int.reduceMod, Int.reduceTMod, Int.reduceTDiv, Int.reduceEq, Nat.reducePow, Nat.reduceDiv, Nat.reduceShiftRight, Nat.reduceMod, List.reduceReplicate, ↓reduceIte, Nat.reduceEqDiff, Nat.reduceAdd, Nat.reduceSub, Nat.reduceLeDiff, Nat.reduceLT, Nat.reduceMul, hl, show ¬ r.length < 16 by omega, hA, m16, m4, m252]
  simp [m252]

theorem foldsR_len (n : List Nat) (h : 16 ≤ n.length) : (foldsR n).length = 28 := by
  have w1 := foldR_len (carrR n) (by rw [carrR_len]; omega)
  have w2 := foldR_len (carrR (foldR (carrR n))) (by rw [carrR_len]; omega)
  have w3 := foldR_len (carrR (foldR (carrR (foldR (carrR n))))) (by rw [carrR_len]; omega)
  have w4 := foldR_len (carrR (foldR (carrR (foldR (carrR (foldR (carrR n))))))) (by rw [carrR_len]; omega)
  rw [foldsR, carrR_len, w4]
theorem mulR_len (a b : List Nat) : (mulR a b).length = 17 := by
  rw [mulR, List.length_take, foldsR_len _ (by rw [convG_len]; simp)]; rfl
theorem mulR_dg (a b : List Nat) : Dg (mulR a b) := fun x hx => carrR_dg _ x (List.mem_of_mem_take hx)
theorem leastR_len (n : List Nat) (h : n.length = 17) : (leastR n).length = 17 := by
  simp only [leastR]
  split
  · exact h
  · rw [List.length_take, List.length_set, carrR_len, List.length_set, h]; rfl
theorem leastR_dg (n : List Nat) (h : Dg n) : Dg (leastR n) := by
  simp only [leastR]
  split
  · exact h
  · intro x hx
    have hx := List.mem_of_mem_take hx
    rcases List.mem_or_eq_of_mem_set hx with hx | rfl
    · exact carrR_dg _ x hx
    · omega
def plusR (a b : List Nat) : List Nat := List.zipWith (· + ·) a b
theorem plusR_len (a b : List Nat) (ha : a.length = 17) (hb : b.length = 17) : (plusR a b).length = 17 := by simp [plusR, ha, hb]
theorem plusR_get (a b : List Nat) (i : Nat) (h : i < (plusR a b).length) (ha : i < a.length) (hb : i < b.length) : (plusR a b)[i] = a[i] + b[i] := by simp [plusR]
theorem plusR_le (a b : List Nat) (ha : Dg a) (hb : Dg b) : ∀ x ∈ plusR a b, x ≤ 1000 := by
  intro x hx
  obtain ⟨i, hi, rfl⟩ := List.mem_iff_getElem.1 hx
  simp only [plusR, List.length_zipWith] at hi
  rw [plusR_get a b i (by simp [plusR]; omega) (by omega) (by omega)]
  have h1 := ha _ (List.getElem_mem (show i < a.length by omega))
  have h2 := hb _ (List.getElem_mem (show i < b.length by omega))
  omega
def mixN (A B : List Nat) (m : Nat) : List Nat := A.take m ++ B.drop m
theorem mixN_len (A B : List Nat) (m : Nat) (h : A.length = B.length) (hm : m ≤ A.length) : (mixN A B m).length = A.length := by simp [mixN]; omega
theorem mixN_zero (A B : List Nat) : mixN A B 0 = B := by simp [mixN]
theorem mixN_all (A B : List Nat) (m : Nat) (h : A.length = B.length) (hm : A.length ≤ m) : mixN A B m = A := by simp [mixN, List.take_of_length_le hm, List.drop_of_length_le (show B.length ≤ m by omega)]
theorem mixN_get (A B : List Nat) (m : Nat) (h : A.length = B.length) (hm : m < A.length) (h2 : m < (mixN A B m).length) : (mixN A B m)[m] = B[m] := by
  simp only [mixN]
  rw [List.getElem_append_right (by simp; omega)]
  simp [Nat.min_eq_left (Nat.le_of_lt hm)]
theorem mixN_set (A B : List Nat) (m : Nat) (h : A.length = B.length) (hm : m < A.length) : (mixN A B m).set m A[m] = mixN A B (m + 1) := by
  unfold mixN
  rw [List.set_append_right _ _ (by simp; omega), List.length_take, Nat.min_eq_left (by omega), Nat.sub_self, List.drop_eq_getElem_cons (by omega), List.set_cons_zero, List.take_succ_eq_append_getElem hm, List.append_assoc]
  rfl
/-- A block's digits, and what stands behind it. -/
def blkR (b : List UInt8) : List Nat := (digR b).set b.length 1
theorem blkR_len (b : List UInt8) (h : b.length ≤ 16) : (blkR b).length = 17 := by simp [blkR, digR_len b (by omega)]
theorem blkR_dg (b : List UInt8) : Dg (blkR b) := by
  intro x hx
  rcases List.mem_or_eq_of_mem_set hx with hx | rfl
  · exact digR_dg b x hx
  · omega
def accR (r : List Nat) : Nat → List Nat → List UInt8 → List Nat
  | 0, n, _ => n
  | k + 1, n, msg => if msg = [] then n else accR r k (mulR (plusR (blkR (msg.take 16)) n) r) (msg.drop 16)
theorem accR_fuel (r : List Nat) : ∀ (k k' : Nat) (n : List Nat) (msg : List UInt8), msg.length ≤ k → msg.length ≤ k' → accR r k n msg = accR r k' n msg
  | 0, 0, _, _, _, _ => rfl
  | 0, k' + 1, n, msg, h, _ => by
    have : msg = [] := List.eq_nil_of_length_eq_zero (by omega)
    simp [accR, this]
  | k + 1, 0, n, msg, _, h => by
    have : msg = [] := List.eq_nil_of_length_eq_zero (by omega)
    simp [accR, this]
  | k + 1, k' + 1, n, msg, h, h' => by
    rw [accR, accR]
    split
    · rfl
    · rename_i hne
      have : 0 < msg.length := List.length_pos_iff.2 hne
      exact accR_fuel r k k' _ _ (by simp; omega) (by simp; omega)
def finR (key : List UInt8) (n : List Nat) : List UInt8 := sumP (((leastR (leastR n)).take 16).map UInt8.ofNat) (key.drop 16)
def Z17 : List Nat := [0, 0, 0, 0, 0, 0, 0, 0, 0, 0, 0, 0, 0, 0, 0, 0, 0]
set_option maxHeartbeats 16000000 in
theorem e92 (key msg : List UInt8) (hk : key.length = 32) (hm : msg.length ≤ 1000000000) : fn C 92 [] [.slice 1 (key.map byteRow), .slice 1 (msg.map byteRow)] = some (.tup [.slice 1 ((finR key (accR (digR (clampB key)) msg.length Z17 msg)).map byteRow), .int .i64 0], []) := by
  rw [fn_text Tryz.func92 rfl rfl Tryz.results92 fq92.1 rfl rfl (by kernel_rfl)]
  have hcl := clampB_len key (by omega)
  have hr := digR_len (clampB key) (by omega)
  have hrd := digR_dg (clampB key)
  simp -implicitDefEqProofs -dsimp +contextual (maxSteps := 5000000) (disch := first | omega | simp only [go_sem] <;> omega | refine ib ?_; kernel_rfl) only [go_sem, Nat.reduceBEq, Int.reduceNeg, Int.reduceLT, Int.reduceLE, Int.reduceAdd, Int.reduceSub, Int.reduceToNat, Int.reduceMul, Int.reduceMod, Int.reduceTMod, Int.reduceTDiv, Int.reduceEq, Nat.reducePow, Nat.reduceDiv, Nat.reduceShiftRight, Nat.reduceMod, List.reduceReplicate, ↓reduceIte, Nat.reduceEqDiff, Nat.reduceAdd, Nat.reduceSub, Nat.reduceLeDiff, Nat.reduceLT, Nat.reduceMul, hk, hcl, hr]
  have e0 : accR (digR (clampB key)) msg.length Z17 msg = accR (digR (clampB key)) (msg.length - 16 * 0) Z17 (msg.drop (16 * 0)) := rfl
  rw [e0]
  generalize digR (clampB key) = r at *
  refine kLoop_rec2 (fun (i : Nat) (n : List Nat) f H => f 0 = .slice 1 (key.map byteRow) ∧ f 1 = .slice 1 (msg.map byteRow) ∧ f 6 = .osl 120 1 0 17 ∧ ((f 7 = .osl 121 1 0 17 ∧ H 120 = ⟨1, .live, 1, r.map nR, false⟩ ∧ H 121 = ⟨1, .live, 1, n.map nR, true⟩) ∨ (f 7 = .slice 1 (n.map nR) ∧ H 120 = ⟨1, .froz, 1, r.map nR, false⟩)) ∧ f 8 = .int .i64 ((16 * i : Nat) : Int) ∧ (H 140).gen = i ∧ (∀ k, 165 ≤ k → H k = ⟨0, .dead, 0, [], false⟩) ∧ 16 * i ≤ msg.length + 15 ∧ n.length = 17 ∧ Dg n) (fun i _ => msg.length + 16 - 16 * i) (fun i n => some (.tup [.slice 1 ((finR key (accR r (msg.length - 16 * i) n (msg.drop (16 * i)))).map byteRow), .int .i64 0], [])) ?_ 0 Z17 _ _ ?_
  rotate_left
  · exact ⟨rfl, rfl, rfl, .inl ⟨rfl, rfl, rfl⟩, rfl, rfl, heap_far (heap_far (far_nil _) (by omega)) (by omega), by omega, rfl, by simp [Dg, Z17]⟩
  rintro i n f H ⟨f0, f1, f6, hc, f8, g140, hf, hi, hn, hnd⟩ ih
  by_cases hl : 16 * i < msg.length
  · have et : List.take (min (16 * i + 16) msg.length - 16 * i) (List.drop (16 * i) msg) = (msg.drop (16 * i)).take 16 := by
      by_cases h : 16 * i + 16 ≤ msg.length
      · rw [Nat.min_eq_left h, Nat.add_sub_cancel_left]
      · rw [Nat.min_eq_right (by omega), List.take_of_length_le (by simp), List.take_of_length_le (by simp; omega)]
    have hgo : accR r (msg.length - 16 * i) n (msg.drop (16 * i)) = accR r (msg.length - 16 * (i + 1)) (mulR (plusR (blkR ((msg.drop (16 * i)).take 16)) n) r) (msg.drop (16 * (i + 1))) := by
      rw [show msg.length - 16 * i = (msg.length - 16 * i - 1) + 1 by omega, accR, if_neg (by intro h; have := congrArg List.length h; simp at this; omega), List.drop_drop, show 16 * i + 16 = 16 * (i + 1) by omega]
      exact accR_fuel _ _ _ _ _ (by simp; omega) (by simp)
    rw [hgo]
    have hbl : ((msg.drop (16 * i)).take 16).length = min (16 * i + 16) msg.length - 16 * i := by simp; omega
    have hd17 := digR_len ((msg.drop (16 * i)).take 16) (by omega)
    have hb17 := blkR_len ((msg.drop (16 * i)).take 16) (by omega)
    have hbd := blkR_dg ((msg.drop (16 * i)).take 16)
    have hp17 := plusR_len _ n hb17 hn
    have hpg := plusR_get (blkR ((msg.drop (16 * i)).take 16)) n
    have hple := plusR_le _ n hbd hnd
    have hmd := mulR_dg (plusR (blkR ((msg.drop (16 * i)).take 16)) n) r
    have hml := mulR_len (plusR (blkR ((msg.drop (16 * i)).take 16)) n) r
    have hset : (digR ((msg.drop (16 * i)).take 16)).set (min (16 * i + 16) msg.length - 16 * i) 1 = blkR ((msg.drop (16 * i)).take 16) := by rw [blkR, hbl]
    have ih := ih (i + 1) (mulR (plusR (blkR ((msg.drop (16 * i)).take 16)) n) r)
    have e : (if msg.length < 16 * i + 16 then (msg.length : Int) else ((16 * i + 16 : Nat) : Int)) = ((min (16 * i + 16) msg.length : Nat) : Int) := by split <;> omega
    have e2 : ((min (16 * i + 16) msg.length : Nat) : Int) - ((16 * i : Nat) : Int) = ((min (16 * i + 16) msg.length - 16 * i : Nat) : Int) := by omega
    have hdig := e119 ((msg.drop (16 * i)).take 16) (by omega)
    have htim := e121 (plusR (blkR ((msg.drop (16 * i)).take 16)) n) r hp17 hr hple hrd
    generalize msg.drop (16 * (i + 1)) = nxt at *
    generalize hR : plusR (blkR ((msg.drop (16 * i)).take 16)) n = S at *
    generalize hB : blkR ((msg.drop (16 * i)).take 16) = B at *
    generalize hG : digR ((msg.drop (16 * i)).take 16) = G at *
    generalize hK : (msg.drop (16 * i)).take 16 = blk at *
    have hmz := mixN_zero S B
    have hmid : ∀ k, k ≤ 17 → (mixN S B k).length = 17 := fun k hk => by rw [mixN_len S B k (by omega) (by omega), hp17]
    by_cases hlt : msg.length < 16 * i + 16
    · have em : min (16 * i + 16) msg.length = msg.length := by omega
      rw [em] at et hset hbl
      have em2 := hd17
      rw [List.take_of_length_le (by simp)] at et
      rcases hc with ⟨f7, H120, H121⟩ | ⟨f7, H120⟩
      · simp -implicitDefEqProofs -dsimp +contextual (maxSteps := 5000000) (disch := first | omega | simp only [go_sem] <;> omega | refine ib ?_; kernel_rfl) only [go_sem, Nat.reduceBEq, Int.reduceNeg, Int.reduceLT, Int.reduceLE, Int.reduceAdd, Int.reduceSub, Int.reduceToNat, Int.reduceMul, Int.reduceMod, Int.reduceTMod, Int.reduceTDiv, Int.reduceEq, Nat.reducePow, Nat.reduceDiv, Nat.reduceShiftRight, Nat.reduceMod, List.reduceReplicate, ↓reduceIte, Nat.reduceEqDiff, Nat.reduceAdd, Nat.reduceSub, Nat.reduceLeDiff, Nat.reduceLT, Nat.reduceMul, f0, f1, f6, f7, f8, H120, H121, g140, hl, hlt, et, hdig, hset, hd17, e2, em2]
        refine kLoop_rec (fun (k : Nat) f H => f 0 = .slice 1 (key.map byteRow) ∧ f 1 = .slice 1 (msg.map byteRow) ∧ f 6 = .osl 120 1 0 17 ∧ f 7 = .osl 121 1 0 17 ∧ f 8 = .int .i64 ((16 * i : Nat) : Int) ∧ f 10 = .osl 140 (i + 1) 0 17 ∧ f 11 = .int .i64 (k : Int) ∧ H 120 = ⟨1, .live, 1, r.map nR, false⟩ ∧ H 121 = ⟨1, .live, 1, n.map nR, true⟩ ∧ H 140 = ⟨i + 1, .live, 1, (mixN S B k).map nR, false⟩ ∧ (∀ k, 165 ≤ k → H k = ⟨0, .dead, 0, [], false⟩) ∧ k ≤ 17) (fun k => 17 - k) (fun _ => some (.tup [.slice 1 ((finR key (accR r (msg.length - 16 * (i + 1)) (mulR S r) nxt)).map byteRow), .int .i64 0], [])) ?_ 0 _ _ ?_
        rotate_left
        · refine ⟨f0, f1, f6, f7, f8, rfl, rfl, H120, H121, by rw [hmz]; rfl, (by repeat (first | exact hf | refine heap_far ?_ (by omega))), by omega⟩
        clear f0 f1 f6 f7 f8 H120 H121 hf g140
        rintro k f H ⟨f0, f1, f6, f7, f8, f10, f11, H120, H121, H140, hf, hk⟩ ih2
        have hm17 := hmid k hk
        by_cases hlk : k < 17
        · have hx := hnd _ (List.getElem_mem (show k < n.length by omega))
          have hy := hbd _ (List.getElem_mem (show k < B.length by omega))
          have hg1 := mixN_get S B k (by omega) (by omega) (by omega)
          have hg2 := hpg k (by omega) (by omega) (by omega)
          have hg3 := mixN_set S B k (by omega) (by omega)
          rw [hg2] at hg3
          simp -implicitDefEqProofs -dsimp +contextual (maxSteps := 5000000) (disch := first | omega | simp only [go_sem] <;> omega | refine ib ?_; kernel_rfl) only [go_sem, Nat.reduceBEq, Int.reduceNeg, Int.reduceLT, Int.reduceLE, Int.reduceAdd, Int.reduceSub, Int.reduceToNat, Int.reduceMul, Int.reduceMod, Int.reduceTMod, Int.reduceTDiv, Int.reduceEq, Nat.reducePow, Nat.reduceDiv, Nat.reduceShiftRight, Nat.reduceMod, List.reduceReplicate, ↓reduceIte, Nat.reduceEqDiff, Nat.reduceAdd, Nat.reduceSub, Nat.reduceLeDiff, Nat.reduceLT, Nat.reduceMul, f0, f1, f6, f7, f8, f10, f11, H120, H121, H140, hlk, hm17, hn, hg1, hg3]
          exact ih2 (k + 1) _ _ ⟨f0, f1, f6, f7, f8, f10, rfl, H120, H121, rfl, (by repeat (first | exact hf | refine heap_far ?_ (by omega))), by omega⟩ (by omega)
        · obtain rfl : k = 17 := by omega
          rw [mixN_all _ _ _ (by omega) (by omega)] at H140
          simp -implicitDefEqProofs -dsimp +contextual (maxSteps := 5000000) (disch := first | omega | simp only [go_sem] <;> omega | refine ib ?_; kernel_rfl) only [go_sem, Nat.reduceBEq, Int.reduceNeg, Int.reduceLT, Int.reduceLE, Int.reduceAdd, Int.reduceSub, Int.reduceToNat, Int.reduceMul, Int.reduceMod, Int.reduceTMod, Int.reduceTDiv, Int.reduceEq, Nat.reducePow, Nat.reduceDiv, Nat.reduceShiftRight, Nat.reduceMod, List.reduceReplicate, ↓reduceIte, Nat.reduceEqDiff, Nat.reduceAdd, Nat.reduceSub, Nat.reduceLeDiff, Nat.reduceLT, Nat.reduceMul, f0, f1, f6, f7, f8, f10, f11, H120, H121, H140, hlk, hp17, hr, htim]
          exact ih _ _ ⟨f0, f1, f6, .inr ⟨rfl, rfl⟩, rfl, rfl, (by repeat (first | exact hf | refine heap_far ?_ (by omega))), by omega, hml, hmd⟩ (by omega)
      · simp -implicitDefEqProofs -dsimp +contextual (maxSteps := 5000000) (disch := first | omega | simp only [go_sem] <;> omega | refine ib ?_; kernel_rfl) only [go_sem, Nat.reduceBEq, Int.reduceNeg, Int.reduceLT, Int.reduceLE, Int.reduceAdd, Int.reduceSub, Int.reduceToNat, Int.reduceMul, Int.reduceMod, Int.reduceTMod, Int.reduceTDiv, Int.reduceEq, Nat.reducePow, Nat.reduceDiv, Nat.reduceShiftRight, Nat.reduceMod, List.reduceReplicate, ↓reduceIte, Nat.reduceEqDiff, Nat.reduceAdd, Nat.reduceSub, Nat.reduceLeDiff, Nat.reduceLT, Nat.reduceMul, f0, f1, f6, f7, f8, H120, g140, hl, hlt, et, hdig, hset, hd17, e2, em2]
        refine kLoop_rec (fun (k : Nat) f H => f 0 = .slice 1 (key.map byteRow) ∧ f 1 = .slice 1 (msg.map byteRow) ∧ f 6 = .osl 120 1 0 17 ∧ f 7 = .slice 1 (n.map nR) ∧ f 8 = .int .i64 ((16 * i : Nat) : Int) ∧ f 10 = .osl 140 (i + 1) 0 17 ∧ f 11 = .int .i64 (k : Int) ∧ H 120 = ⟨1, .froz, 1, r.map nR, false⟩ ∧ H 140 = ⟨i + 1, .live, 1, (mixN S B k).map nR, false⟩ ∧ (∀ k, 165 ≤ k → H k = ⟨0, .dead, 0, [], false⟩) ∧ k ≤ 17) (fun k => 17 - k) (fun _ => some (.tup [.slice 1 ((finR key (accR r (msg.length - 16 * (i + 1)) (mulR S r) nxt)).map byteRow), .int .i64 0], [])) ?_ 0 _ _ ?_
        rotate_left
        · refine ⟨f0, f1, f6, f7, f8, rfl, rfl, H120, by rw [hmz]; rfl, (by repeat (first | exact hf | refine heap_far ?_ (by omega))), by omega⟩
        clear f0 f1 f6 f7 f8 H120 hf g140
        rintro k f H ⟨f0, f1, f6, f7, f8, f10, f11, H120, H140, hf, hk⟩ ih2
        have hm17 := hmid k hk
        by_cases hlk : k < 17
        · have hx := hnd _ (List.getElem_mem (show k < n.length by omega))
          have hy := hbd _ (List.getElem_mem (show k < B.length by omega))
          have hg1 := mixN_get S B k (by omega) (by omega) (by omega)
          have hg2 := hpg k (by omega) (by omega) (by omega)
          have hg3 := mixN_set S B k (by omega) (by omega)
          rw [hg2] at hg3
          simp -implicitDefEqProofs -dsimp +contextual (maxSteps := 5000000) (disch := first | omega | simp only [go_sem] <;> omega | refine ib ?_; kernel_rfl) only [go_sem, Nat.reduceBEq, Int.reduceNeg, Int.reduceLT, Int.reduceLE, Int.reduceAdd, Int.reduceSub, Int.reduceToNat, Int.reduceMul, Int.reduceMod, Int.reduceTMod, Int.reduceTDiv, Int.reduceEq, Nat.reducePow, Nat.reduceDiv, Nat.reduceShiftRight, Nat.reduceMod, List.reduceReplicate, ↓reduceIte, Nat.reduceEqDiff, Nat.reduceAdd, Nat.reduceSub, Nat.reduceLeDiff, Nat.reduceLT, Nat.reduceMul, f0, f1, f6, f7, f8, f10, f11, H120, H140, hlk, hm17, hn, hg1, hg3]
          exact ih2 (k + 1) _ _ ⟨f0, f1, f6, f7, f8, f10, rfl, H120, rfl, (by repeat (first | exact hf | refine heap_far ?_ (by omega))), by omega⟩ (by omega)
        · obtain rfl : k = 17 := by omega
          rw [mixN_all _ _ _ (by omega) (by omega)] at H140
          simp -implicitDefEqProofs -dsimp +contextual (maxSteps := 5000000) (disch := first | omega | simp only [go_sem] <;> omega | refine ib ?_; kernel_rfl) only [go_sem, Nat.reduceBEq, Int.reduceNeg, Int.reduceLT, Int.reduceLE, Int.reduceAdd, Int.reduceSub, Int.reduceToNat, Int.reduceMul, Int.reduceMod, Int.reduceTMod, Int.reduceTDiv, Int.reduceEq, Nat.reducePow, Nat.reduceDiv, Nat.reduceShiftRight, Nat.reduceMod, List.reduceReplicate, ↓reduceIte, Nat.reduceEqDiff, Nat.reduceAdd, Nat.reduceSub, Nat.reduceLeDiff, Nat.reduceLT, Nat.reduceMul, f0, f1, f6, f7, f8, f10, f11, H120, H140, hlk, hp17, hr, htim]
          exact ih _ _ ⟨f0, f1, f6, .inr ⟨rfl, rfl⟩, rfl, rfl, (by repeat (first | exact hf | refine heap_far ?_ (by omega))), by omega, hml, hmd⟩ (by omega)
    · have em : min (16 * i + 16) msg.length = 16 * i + 16 := by omega
      have em2 : 16 * i + 16 - 16 * i = 16 := by omega
      rw [em, em2] at et hset hbl
      rcases hc with ⟨f7, H120, H121⟩ | ⟨f7, H120⟩
      · simp -implicitDefEqProofs -dsimp +contextual (maxSteps := 5000000) (disch := first | omega | simp only [go_sem] <;> omega | refine ib ?_; kernel_rfl) only [go_sem, Nat.reduceBEq, Int.reduceNeg, Int.reduceLT, Int.reduceLE, Int.reduceAdd, Int.reduceSub, Int.reduceToNat, Int.reduceMul, Int.reduceMod, Int.reduceTMod, Int.reduceTDiv, Int.reduceEq, Nat.reducePow, Nat.reduceDiv, Nat.reduceShiftRight, Nat.reduceMod, List.reduceReplicate, ↓reduceIte, Nat.reduceEqDiff, Nat.reduceAdd, Nat.reduceSub, Nat.reduceLeDiff, Nat.reduceLT, Nat.reduceMul, f0, f1, f6, f7, f8, H120, H121, g140, hl, hlt, et, hdig, hset, hd17, e2, em2]
        refine kLoop_rec (fun (k : Nat) f H => f 0 = .slice 1 (key.map byteRow) ∧ f 1 = .slice 1 (msg.map byteRow) ∧ f 6 = .osl 120 1 0 17 ∧ f 7 = .osl 121 1 0 17 ∧ f 8 = .int .i64 ((16 * i : Nat) : Int) ∧ f 10 = .osl 140 (i + 1) 0 17 ∧ f 11 = .int .i64 (k : Int) ∧ H 120 = ⟨1, .live, 1, r.map nR, false⟩ ∧ H 121 = ⟨1, .live, 1, n.map nR, true⟩ ∧ H 140 = ⟨i + 1, .live, 1, (mixN S B k).map nR, false⟩ ∧ (∀ k, 165 ≤ k → H k = ⟨0, .dead, 0, [], false⟩) ∧ k ≤ 17) (fun k => 17 - k) (fun _ => some (.tup [.slice 1 ((finR key (accR r (msg.length - 16 * (i + 1)) (mulR S r) nxt)).map byteRow), .int .i64 0], [])) ?_ 0 _ _ ?_
        rotate_left
        · refine ⟨f0, f1, f6, f7, f8, rfl, rfl, H120, H121, by rw [hmz]; rfl, (by repeat (first | exact hf | refine heap_far ?_ (by omega))), by omega⟩
        clear f0 f1 f6 f7 f8 H120 H121 hf g140
        rintro k f H ⟨f0, f1, f6, f7, f8, f10, f11, H120, H121, H140, hf, hk⟩ ih2
        have hm17 := hmid k hk
        by_cases hlk : k < 17
        · have hx := hnd _ (List.getElem_mem (show k < n.length by omega))
          have hy := hbd _ (List.getElem_mem (show k < B.length by omega))
          have hg1 := mixN_get S B k (by omega) (by omega) (by omega)
          have hg2 := hpg k (by omega) (by omega) (by omega)
          have hg3 := mixN_set S B k (by omega) (by omega)
          rw [hg2] at hg3
          simp -implicitDefEqProofs -dsimp +contextual (maxSteps := 5000000) (disch := first | omega | simp only [go_sem] <;> omega | refine ib ?_; kernel_rfl) only [go_sem, Nat.reduceBEq, Int.reduceNeg, Int.reduceLT, Int.reduceLE, Int.reduceAdd, Int.reduceSub, Int.reduceToNat, Int.reduceMul, Int.reduceMod, Int.reduceTMod, Int.reduceTDiv, Int.reduceEq, Nat.reducePow, Nat.reduceDiv, Nat.reduceShiftRight, Nat.reduceMod, List.reduceReplicate, ↓reduceIte, Nat.reduceEqDiff, Nat.reduceAdd, Nat.reduceSub, Nat.reduceLeDiff, Nat.reduceLT, Nat.reduceMul, f0, f1, f6, f7, f8, f10, f11, H120, H121, H140, hlk, hm17, hn, hg1, hg3]
          exact ih2 (k + 1) _ _ ⟨f0, f1, f6, f7, f8, f10, rfl, H120, H121, rfl, (by repeat (first | exact hf | refine heap_far ?_ (by omega))), by omega⟩ (by omega)
        · obtain rfl : k = 17 := by omega
          rw [mixN_all _ _ _ (by omega) (by omega)] at H140
          simp -implicitDefEqProofs -dsimp +contextual (maxSteps := 5000000) (disch := first | omega | simp only [go_sem] <;> omega | refine ib ?_; kernel_rfl) only [go_sem, Nat.reduceBEq, Int.reduceNeg, Int.reduceLT, Int.reduceLE, Int.reduceAdd, Int.reduceSub, Int.reduceToNat, Int.reduceMul, Int.reduceMod, Int.reduceTMod, Int.reduceTDiv, Int.reduceEq, Nat.reducePow, Nat.reduceDiv, Nat.reduceShiftRight, Nat.reduceMod, List.reduceReplicate, ↓reduceIte, Nat.reduceEqDiff, Nat.reduceAdd, Nat.reduceSub, Nat.reduceLeDiff, Nat.reduceLT, Nat.reduceMul, f0, f1, f6, f7, f8, f10, f11, H120, H121, H140, hlk, hp17, hr, htim]
          exact ih _ _ ⟨f0, f1, f6, .inr ⟨rfl, rfl⟩, rfl, rfl, (by repeat (first | exact hf | refine heap_far ?_ (by omega))), by omega, hml, hmd⟩ (by omega)
      · simp -implicitDefEqProofs -dsimp +contextual (maxSteps := 5000000) (disch := first | omega | simp only [go_sem] <;> omega | refine ib ?_; kernel_rfl) only [go_sem, Nat.reduceBEq, Int.reduceNeg, Int.reduceLT, Int.reduceLE, Int.reduceAdd, Int.reduceSub, Int.reduceToNat, Int.reduceMul, Int.reduceMod, Int.reduceTMod, Int.reduceTDiv, Int.reduceEq, Nat.reducePow, Nat.reduceDiv, Nat.reduceShiftRight, Nat.reduceMod, List.reduceReplicate, ↓reduceIte, Nat.reduceEqDiff, Nat.reduceAdd, Nat.reduceSub, Nat.reduceLeDiff, Nat.reduceLT, Nat.reduceMul, f0, f1, f6, f7, f8, H120, g140, hl, hlt, et, hdig, hset, hd17, e2, em2]
        refine kLoop_rec (fun (k : Nat) f H => f 0 = .slice 1 (key.map byteRow) ∧ f 1 = .slice 1 (msg.map byteRow) ∧ f 6 = .osl 120 1 0 17 ∧ f 7 = .slice 1 (n.map nR) ∧ f 8 = .int .i64 ((16 * i : Nat) : Int) ∧ f 10 = .osl 140 (i + 1) 0 17 ∧ f 11 = .int .i64 (k : Int) ∧ H 120 = ⟨1, .froz, 1, r.map nR, false⟩ ∧ H 140 = ⟨i + 1, .live, 1, (mixN S B k).map nR, false⟩ ∧ (∀ k, 165 ≤ k → H k = ⟨0, .dead, 0, [], false⟩) ∧ k ≤ 17) (fun k => 17 - k) (fun _ => some (.tup [.slice 1 ((finR key (accR r (msg.length - 16 * (i + 1)) (mulR S r) nxt)).map byteRow), .int .i64 0], [])) ?_ 0 _ _ ?_
        rotate_left
        · refine ⟨f0, f1, f6, f7, f8, rfl, rfl, H120, by rw [hmz]; rfl, (by repeat (first | exact hf | refine heap_far ?_ (by omega))), by omega⟩
        clear f0 f1 f6 f7 f8 H120 hf g140
        rintro k f H ⟨f0, f1, f6, f7, f8, f10, f11, H120, H140, hf, hk⟩ ih2
        have hm17 := hmid k hk
        by_cases hlk : k < 17
        · have hx := hnd _ (List.getElem_mem (show k < n.length by omega))
          have hy := hbd _ (List.getElem_mem (show k < B.length by omega))
          have hg1 := mixN_get S B k (by omega) (by omega) (by omega)
          have hg2 := hpg k (by omega) (by omega) (by omega)
          have hg3 := mixN_set S B k (by omega) (by omega)
          rw [hg2] at hg3
          simp -implicitDefEqProofs -dsimp +contextual (maxSteps := 5000000) (disch := first | omega | simp only [go_sem] <;> omega | refine ib ?_; kernel_rfl) only [go_sem, Nat.reduceBEq, Int.reduceNeg, Int.reduceLT, Int.reduceLE, Int.reduceAdd, Int.reduceSub, Int.reduceToNat, Int.reduceMul, Int.reduceMod, Int.reduceTMod, Int.reduceTDiv, Int.reduceEq, Nat.reducePow, Nat.reduceDiv, Nat.reduceShiftRight, Nat.reduceMod, List.reduceReplicate, ↓reduceIte, Nat.reduceEqDiff, Nat.reduceAdd, Nat.reduceSub, Nat.reduceLeDiff, Nat.reduceLT, Nat.reduceMul, f0, f1, f6, f7, f8, f10, f11, H120, H140, hlk, hm17, hn, hg1, hg3]
          exact ih2 (k + 1) _ _ ⟨f0, f1, f6, f7, f8, f10, rfl, H120, rfl, (by repeat (first | exact hf | refine heap_far ?_ (by omega))), by omega⟩ (by omega)
        · obtain rfl : k = 17 := by omega
          rw [mixN_all _ _ _ (by omega) (by omega)] at H140
          simp -implicitDefEqProofs -dsimp +contextual (maxSteps := 5000000) (disch := first | omega | simp only [go_sem] <;> omega | refine ib ?_; kernel_rfl) only [go_sem, Nat.reduceBEq, Int.reduceNeg, Int.reduceLT, Int.reduceLE, Int.reduceAdd, Int.reduceSub, Int.reduceToNat, Int.reduceMul, Int.reduceMod, Int.reduceTMod, Int.reduceTDiv, Int.reduceEq, Nat.reducePow, Nat.reduceDiv, Nat.reduceShiftRight, Nat.reduceMod, List.reduceReplicate, ↓reduceIte, Nat.reduceEqDiff, Nat.reduceAdd, Nat.reduceSub, Nat.reduceLeDiff, Nat.reduceLT, Nat.reduceMul, f0, f1, f6, f7, f8, f10, f11, H120, H140, hlk, hp17, hr, htim]
          exact ih _ _ ⟨f0, f1, f6, .inr ⟨rfl, rfl⟩, rfl, rfl, (by repeat (first | exact hf | refine heap_far ?_ (by omega))), by omega, hml, hmd⟩ (by omega)
  · have hnil : accR r (msg.length - 16 * i) n [] = n := by cases (msg.length - 16 * i) <;> simp [accR]
    have H168 := hf 168 (by omega)
    have hl1 := leastR_len n hn
    have hd1 := leastR_dg n hnd
    have hl2 := leastR_len _ hl1
    have hd2 := leastR_dg _ hd1
    have hf1 := e122 n hn hnd
    have hf2 := e122 (leastR n) hl1 hd1
    have hfin : finR key n = sumP (((leastR (leastR n)).take 16).map UInt8.ofNat) (key.drop 16) := rfl
    rcases hc with ⟨f7, H120, H121⟩ | ⟨f7, H120⟩
    · simp -implicitDefEqProofs -dsimp +contextual (maxSteps := 5000000) (disch := first | omega | simp only [go_sem] <;> omega | refine ib ?_; kernel_rfl) only [go_sem, Nat.reduceBEq, Int.reduceNeg, Int.reduceLT, Int.reduceLE, Int.reduceAdd, Int.reduceSub, Int.reduceToNat, Int.reduceMul, Int.reduceMod, Int.reduceTMod, Int.reduceTDiv, Int.reduceEq, Nat.reducePow, Nat.reduceDiv, Nat.reduceShiftRight, Nat.reduceMod, List.reduceReplicate, ↓reduceIte, Nat.reduceEqDiff, Nat.reduceAdd, Nat.reduceSub, Nat.reduceLeDiff, Nat.reduceLT, Nat.reduceMul, f0, f1, f6, f7, f8, H120, H121, hl, hnil, hf1, hf2, H168]
      rw [hfin]
      have hlen : (sumP (((leastR (leastR n)).take 16).map UInt8.ofNat) (key.drop 16)).length = 16 := by simp [sumP]
      have hget : ∀ (i : Nat) (h1 : i < (sumP (((leastR (leastR n)).take 16).map UInt8.ofNat) (key.drop 16)).length), (sumP (((leastR (leastR n)).take 16).map UInt8.ofNat) (key.drop 16))[i] = UInt8.ofNat (sumV (((leastR (leastR n)).take 16).map UInt8.ofNat) (key.drop 16) i + (((((leastR (leastR n)).take 16).map UInt8.ofNat).getD i 0).toNat + ((key.drop 16).getD i 0).toNat)) := fun i h1 => by simp [sumP]
      have ea : ∀ (k : Nat) (h : k < 16) (h2 : k < (leastR (leastR n)).length), (((leastR (leastR n)).take 16).map UInt8.ofNat).getD k 0 = UInt8.ofNat ((leastR (leastR n))[k]) := fun k h h2 => by
        rw [List.getD_eq_getElem?_getD, List.getElem?_eq_getElem (by simp; omega)]; simp
      have eb : ∀ (k : Nat) (h : k < 16), (key.drop 16).getD k 0 = key[16 + k]'(by omega) := fun k h => by
        rw [List.getD_eq_getElem?_getD, List.getElem?_eq_getElem (by simp; omega)]; simp
      have hvv := sumV_le (((leastR (leastR n)).take 16).map UInt8.ofNat) (key.drop 16)
      have hss : ∀ i, sumV (((leastR (leastR n)).take 16).map UInt8.ofNat) (key.drop 16) (i + 1) = (sumV (((leastR (leastR n)).take 16).map UInt8.ofNat) (key.drop 16) i + (((((leastR (leastR n)).take 16).map UInt8.ofNat).getD i 0).toNat + ((key.drop 16).getD i 0).toNat)) / 256 := fun i => rfl
      have hs0 : sumV (((leastR (leastR n)).take 16).map UInt8.ofNat) (key.drop 16) 0 = 0 := rfl
      generalize hW : sumV (((leastR (leastR n)).take 16).map UInt8.ofNat) (key.drop 16) = W at *
      generalize sumP (((leastR (leastR n)).take 16).map UInt8.ofNat) (key.drop 16) = A at *
      generalize leastR (leastR n) = nn at *
      have z1 := fillTo_zero A
      rw [hlen] at z1
      refine kLoop_rec (fun (i : Nat) f H => f 0 = .slice 1 (key.map byteRow) ∧ f 7 = .slice 1 (nn.map nR) ∧ f 12 = .osl 168 1 0 16 ∧ f 13 = .int .i64 (W i : Int) ∧ f 14 = .int .i64 (i : Int) ∧ H 168 = ⟨1, .live, 1, (fillTo A i).map byteRow, true⟩ ∧ i ≤ 16) (fun i => 16 - i) (fun _ => some (.tup [.slice 1 (A.map byteRow), .int .i64 0], [])) ?_ 0 _ _ ?_
      rotate_left
      · refine ⟨f0, rfl, rfl, by rw [hs0]; rfl, rfl, ?_, by omega⟩
        rw [z1]; rfl
      clear ih f0 f1 f6 f7 f8 H120 H168 hl hf1 hf2 hf
      rintro i f H ⟨f0, f7, f12, f13, f14, H168, hi⟩ ih
      by_cases hl : i < 16
      · have hf := fillTo_len A i (by omega)
        rw [hlen] at hf
        have hA := hget i (by omega)
        have hv := hvv i
        have hs := hss i
        have u2 := u8_lt (key[16 + i]'(by omega))
        have hx := hd2 _ (List.getElem_mem (show i < nn.length by omega))
        have hx2 : (UInt8.ofNat nn[i]).toNat = nn[i] := by simp [UInt8.toNat_ofNat']; omega
        rw [ea i hl (by omega), eb i hl, hx2] at hA hs
        simp -implicitDefEqProofs -dsimp +contextual (maxSteps := 5000000) (disch := first | omega | simp only [go_sem] <;> omega | refine ib ?_; kernel_rfl) only [go_sem, Nat.reduceBEq, Int.reduceNeg, Int.reduceLT, Int.reduceLE, Int.reduceAdd, Int.reduceSub, Int.reduceToNat, Int.reduceMul, Int.reduceMod, Int.reduceTMod, Int.reduceTDiv, Int.reduceEq, Nat.reducePow, Nat.reduceDiv, Nat.reduceShiftRight, Nat.reduceMod, List.reduceReplicate, ↓reduceIte, Nat.reduceEqDiff, Nat.reduceAdd, Nat.reduceSub, Nat.reduceLeDiff, Nat.reduceLT, Nat.reduceMul, f0, f7, f12, f13, f14, H168, hl, hl2, hf, hk, u8_wrap]
        rw [ofNat8 _ (W i + (nn[i] + (key[16 + i]'(by omega)).toNat)) (by omega), ← hA, fillTo_set _ _ (by omega)]
        refine ih (i + 1) _ _ ⟨f0, f7, f12, ?_, rfl, rfl, by omega⟩ (by omega)
        rw [hs]
        show AVal.int IntKind.i64 _ = AVal.int IntKind.i64 _
        congr 1; omega
      · obtain rfl : i = 16 := by omega
        rw [fillTo_all _ _ (by omega)] at H168
        simp -implicitDefEqProofs -dsimp +contextual (maxSteps := 5000000) (disch := first | omega | simp only [go_sem] <;> omega | refine ib ?_; kernel_rfl) only [go_sem, Nat.reduceBEq, Int.reduceNeg, Int.reduceLT, Int.reduceLE, Int.reduceAdd, Int.reduceSub, Int.reduceToNat, Int.reduceMul, Int.reduceMod, Int.reduceTMod, Int.reduceTDiv, Int.reduceEq, Nat.reducePow, Nat.reduceDiv, Nat.reduceShiftRight, Nat.reduceMod, List.reduceReplicate, ↓reduceIte, Nat.reduceEqDiff, Nat.reduceAdd, Nat.reduceSub, Nat.reduceLeDiff, Nat.reduceLT, Nat.reduceMul, f0, f7, f12, f13, f14, H168, hl, hlen]
    · simp -implicitDefEqProofs -dsimp +contextual (maxSteps := 5000000) (disch := first | omega | simp only [go_sem] <;> omega | refine ib ?_; kernel_rfl) only [go_sem, Nat.reduceBEq, Int.reduceNeg, Int.reduceLT, Int.reduceLE, Int.reduceAdd, Int.reduceSub, Int.reduceToNat, Int.reduceMul, Int.reduceMod, Int.reduceTMod, Int.reduceTDiv, Int.reduceEq, Nat.reducePow, Nat.reduceDiv, Nat.reduceShiftRight, Nat.reduceMod, List.reduceReplicate, ↓reduceIte, Nat.reduceEqDiff, Nat.reduceAdd, Nat.reduceSub, Nat.reduceLeDiff, Nat.reduceLT, Nat.reduceMul, f0, f1, f6, f7, f8, H120, hl, hnil, hf1, hf2, H168]
      rw [hfin]
      have hlen : (sumP (((leastR (leastR n)).take 16).map UInt8.ofNat) (key.drop 16)).length = 16 := by simp [sumP]
      have hget : ∀ (i : Nat) (h1 : i < (sumP (((leastR (leastR n)).take 16).map UInt8.ofNat) (key.drop 16)).length), (sumP (((leastR (leastR n)).take 16).map UInt8.ofNat) (key.drop 16))[i] = UInt8.ofNat (sumV (((leastR (leastR n)).take 16).map UInt8.ofNat) (key.drop 16) i + (((((leastR (leastR n)).take 16).map UInt8.ofNat).getD i 0).toNat + ((key.drop 16).getD i 0).toNat)) := fun i h1 => by simp [sumP]
      have ea : ∀ (k : Nat) (h : k < 16) (h2 : k < (leastR (leastR n)).length), (((leastR (leastR n)).take 16).map UInt8.ofNat).getD k 0 = UInt8.ofNat ((leastR (leastR n))[k]) := fun k h h2 => by
        rw [List.getD_eq_getElem?_getD, List.getElem?_eq_getElem (by simp; omega)]; simp
      have eb : ∀ (k : Nat) (h : k < 16), (key.drop 16).getD k 0 = key[16 + k]'(by omega) := fun k h => by
        rw [List.getD_eq_getElem?_getD, List.getElem?_eq_getElem (by simp; omega)]; simp
      have hvv := sumV_le (((leastR (leastR n)).take 16).map UInt8.ofNat) (key.drop 16)
      have hss : ∀ i, sumV (((leastR (leastR n)).take 16).map UInt8.ofNat) (key.drop 16) (i + 1) = (sumV (((leastR (leastR n)).take 16).map UInt8.ofNat) (key.drop 16) i + (((((leastR (leastR n)).take 16).map UInt8.ofNat).getD i 0).toNat + ((key.drop 16).getD i 0).toNat)) / 256 := fun i => rfl
      have hs0 : sumV (((leastR (leastR n)).take 16).map UInt8.ofNat) (key.drop 16) 0 = 0 := rfl
      generalize hW : sumV (((leastR (leastR n)).take 16).map UInt8.ofNat) (key.drop 16) = W at *
      generalize sumP (((leastR (leastR n)).take 16).map UInt8.ofNat) (key.drop 16) = A at *
      generalize leastR (leastR n) = nn at *
      have z1 := fillTo_zero A
      rw [hlen] at z1
      refine kLoop_rec (fun (i : Nat) f H => f 0 = .slice 1 (key.map byteRow) ∧ f 7 = .slice 1 (nn.map nR) ∧ f 12 = .osl 168 1 0 16 ∧ f 13 = .int .i64 (W i : Int) ∧ f 14 = .int .i64 (i : Int) ∧ H 168 = ⟨1, .live, 1, (fillTo A i).map byteRow, true⟩ ∧ i ≤ 16) (fun i => 16 - i) (fun _ => some (.tup [.slice 1 (A.map byteRow), .int .i64 0], [])) ?_ 0 _ _ ?_
      rotate_left
      · refine ⟨f0, rfl, rfl, by rw [hs0]; rfl, rfl, ?_, by omega⟩
        rw [z1]; rfl
      clear ih f0 f1 f6 f7 f8 H120 H168 hl hf1 hf2 hf
      rintro i f H ⟨f0, f7, f12, f13, f14, H168, hi⟩ ih
      by_cases hl : i < 16
      · have hf := fillTo_len A i (by omega)
        rw [hlen] at hf
        have hA := hget i (by omega)
        have hv := hvv i
        have hs := hss i
        have u2 := u8_lt (key[16 + i]'(by omega))
        have hx := hd2 _ (List.getElem_mem (show i < nn.length by omega))
        have hx2 : (UInt8.ofNat nn[i]).toNat = nn[i] := by simp [UInt8.toNat_ofNat']; omega
        rw [ea i hl (by omega), eb i hl, hx2] at hA hs
        simp -implicitDefEqProofs -dsimp +contextual (maxSteps := 5000000) (disch := first | omega | simp only [go_sem] <;> omega | refine ib ?_; kernel_rfl) only [go_sem, Nat.reduceBEq, Int.reduceNeg, Int.reduceLT, Int.reduceLE, Int.reduceAdd, Int.reduceSub, Int.reduceToNat, Int.reduceMul, Int.reduceMod, Int.reduceTMod, Int.reduceTDiv, Int.reduceEq, Nat.reducePow, Nat.reduceDiv, Nat.reduceShiftRight, Nat.reduceMod, List.reduceReplicate, ↓reduceIte, Nat.reduceEqDiff, Nat.reduceAdd, Nat.reduceSub, Nat.reduceLeDiff, Nat.reduceLT, Nat.reduceMul, f0, f7, f12, f13, f14, H168, hl, hl2, hf, hk, u8_wrap]
        rw [ofNat8 _ (W i + (nn[i] + (key[16 + i]'(by omega)).toNat)) (by omega), ← hA, fillTo_set _ _ (by omega)]
        refine ih (i + 1) _ _ ⟨f0, f7, f12, ?_, rfl, rfl, by omega⟩ (by omega)
        rw [hs]
        show AVal.int IntKind.i64 _ = AVal.int IntKind.i64 _
        congr 1; omega
      · obtain rfl : i = 16 := by omega
        rw [fillTo_all _ _ (by omega)] at H168
        simp -implicitDefEqProofs -dsimp +contextual (maxSteps := 5000000) (disch := first | omega | simp only [go_sem] <;> omega | refine ib ?_; kernel_rfl) only [go_sem, Nat.reduceBEq, Int.reduceNeg, Int.reduceLT, Int.reduceLE, Int.reduceAdd, Int.reduceSub, Int.reduceToNat, Int.reduceMul, Int.reduceMod, Int.reduceTMod, Int.reduceTDiv, Int.reduceEq, Nat.reducePow, Nat.reduceDiv, Nat.reduceShiftRight, Nat.reduceMod, List.reduceReplicate, ↓reduceIte, Nat.reduceEqDiff, Nat.reduceAdd, Nat.reduceSub, Nat.reduceLeDiff, Nat.reduceLT, Nat.reduceMul, f0, f7, f12, f13, f14, H168, hl, hlen]

end Go.Proofs.YtccfjidpdlfenaaGreatDoor
namespace Go.Proofs.YtccfjidpdlfenaaGreatDoor
open Go.Am
set_option linter.unusedSimpArgs false
set_option linter.unusedVariables false
set_option maxRecDepth 100000
/-! Layer 7: both tags are the same. -/
theorem dV_set2 : ∀ (l : List Nat) (j v : Nat) (h : j < l.length), dV (l.set j v) + l[j] * 256 ^ j = dV l + v * 256 ^ j
  | [], _, _, h => by simp at h
  | x :: l, 0, v, _ => by simp [dV]; omega
  | x :: l, j + 1, v, h => by
    have := dV_set2 l j v (by simpa using h)
    simp only [List.getElem_cons_succ, List.set_cons_succ, dV, Nat.pow_succ]
    grind
def N130 : Nat := 1361129467683753853853498429727072845824
theorem fold_mod (x : Nat) : (x % N130 + 5 * (x / N130)) % P0 = x % P0 := by
  have e : x = (x % N130 + 5 * (x / N130)) + P0 * (x / N130) := by
    have := Nat.mod_add_div x N130
    have h : N130 * (x / N130) = 5 * (x / N130) + P0 * (x / N130) := by rw [← Nat.add_mul]; rfl
    omega
  rw (occs := .pos [3]) [e]
  rw [Nat.add_mul_mod_self_left]
theorem fold_step (n : List Nat) (hd : Dg n) (h17 : 17 ≤ n.length) (h41 : n.length ≤ 41) (hv : dV n < N130 * N130) : dV (carrR (foldR n)) = dV n % N130 + 5 * (dV n / N130) := by
  have e := foldR_val n hd h17 h41
  have h1 : dV n % N130 < N130 := Nat.mod_lt _ (by decide)
  have h2 : dV n / N130 < N130 := Nat.div_lt_of_lt_mul hv
  rw [carrR_val]
  · exact e
  · rw [foldR_len n (by omega), e]
    have : (N130 + 5 * N130) < 256 ^ (24 + 4) := by decide
    change dV n % N130 + 5 * (dV n / N130) < _
    omega
theorem fold_small (x : Nat) (h : x < N130) : x % N130 + 5 * (x / N130) = x := by
  rw [Nat.mod_eq_of_lt h, Nat.div_eq_of_lt h, Nat.mul_zero, Nat.add_zero]
theorem mulR_val (a b : List Nat) (ha : a.length = 17) (hb : b.length = 17) (hv : dV a * dV b < N130 * (N130 / 2)) : dV (mulR a b) < N130 ∧ dV (mulR a b) % P0 = dV a * dV b % P0 := by
  have c0 : dV (convG b (List.replicate 34 0) 0 a) = dV a * dV b := by
    rw [convG_val _ _ _ _ (by simp; omega), dV_rep]; simp
  have cl : (convG b (List.replicate 34 0) 0 a).length = 34 := by rw [convG_len]; simp
  have s1 := carrR_len (convG b (List.replicate 34 0) 0 a)
  have d1 := carrR_dg (convG b (List.replicate 34 0) 0 a)
  have e1 : dV (carrR (convG b (List.replicate 34 0) 0 a)) = dV a * dV b := by
    rw [carrR_val _ (by rw [cl, c0]; exact Nat.lt_trans hv (by decide)), c0]
  rw [mulR, foldsR]
  generalize carrR (convG b (List.replicate 34 0) 0 a) = m1 at *
  have w1 := foldR_len m1 (by omega)
  have s2 := carrR_len (foldR m1)
  have d2 := carrR_dg (foldR m1)
  have e2 := fold_step m1 d1 (by omega) (by omega) (by rw [e1]; exact Nat.lt_trans hv (by decide))
  have q1 : dV m1 / N130 < N130 / 2 := Nat.div_lt_of_lt_mul (by rw [e1]; exact hv)
  have r1 : dV m1 % N130 < N130 := Nat.mod_lt _ (by decide)
  have t2 := fold_mod (dV m1)
  rw [← e2] at t2
  generalize carrR (foldR m1) = m2 at *
  have b2 : dV m2 < 4 * N130 := by simp only [N130] at *; omega
  have w2 := foldR_len m2 (by omega)
  have s3 := carrR_len (foldR m2)
  have d3 := carrR_dg (foldR m2)
  have e3 := fold_step m2 d2 (by omega) (by omega) (Nat.lt_trans b2 (by decide))
  have t3 := fold_mod (dV m2)
  rw [← e3] at t3
  generalize carrR (foldR m2) = m3 at *
  have b3 : dV m3 < N130 + 20 := by simp only [N130] at *; omega
  have w3 := foldR_len m3 (by omega)
  have s4 := carrR_len (foldR m3)
  have d4 := carrR_dg (foldR m3)
  have e4 := fold_step m3 d3 (by omega) (by omega) (Nat.lt_trans b3 (by decide))
  have t4 := fold_mod (dV m3)
  rw [← e4] at t4
  generalize carrR (foldR m3) = m4 at *
  have b4 : dV m4 < N130 := by simp only [N130] at *; omega
  have w4 := foldR_len m4 (by omega)
  have d5 := carrR_dg (foldR m4)
  have e5 := fold_step m4 d4 (by omega) (by omega) (Nat.lt_trans b4 (by decide))
  rw [fold_small _ b4] at e5
  generalize carrR (foldR m4) = m5 at *
  have e6 : dV (m5.take 17) = dV m4 := by
    rw [dV_take _ _ d5, e5]
    exact Nat.mod_eq_of_lt (Nat.lt_trans b4 (by decide))
  rw [e6, t4, t3, t2, e1]
  exact ⟨b4, rfl⟩
theorem leastR_val (n : List Nat) (hn : n.length = 17) (hd : Dg n) (hv : dV n < N130) : dV (leastR n) = dV n % P0 := by
  have hs := dV_set n 0 5 (by omega)
  rw [Nat.pow_zero, Nat.mul_one] at hs
  have e1 : dV (carrR (n.set 0 (n[0] + 5))) = dV n + 5 := by
    rw [carrR_val, hs]
    rw [hs, List.length_set, hn]
    have : N130 + 5 < 256 ^ (17 + 4) := by decide
    omega
  have d1 := carrR_dg (n.set 0 (n[0] + 5))
  have l1 := carrR_len (n.set 0 (n[0] + 5))
  rw [List.length_set] at l1
  simp only [leastR]
  rw [getD_at n 0 (by omega)]
  generalize carrR (n.set 0 (n[0] + 5)) = m at *
  have g16 := dV_get m 16 d1 (by omega)
  have g17 := dV_get m 17 d1 (by omega)
  rw [getD_at _ 16 (by omega), getD_at _ 17 (by omega)]
  have ds := dV_set2 m 16 (m[16] % 4) (by omega)
  have dd : Dg (m.set 16 (m[16] % 4)) := by
    intro x hx
    rcases List.mem_or_eq_of_mem_set hx with hx | rfl
    · exact d1 x hx
    · omega
  have et := dV_take (m.set 16 (m[16] % 4)) 17 dd
  generalize m[16] = x at *
  generalize m[17] = y at *
  generalize hD : dV (m.set 16 (x % 4)) = D at *
  simp only [show (256 : Nat) ^ 16 = 340282366920938463463374607431768211456 by decide, show (256 : Nat) ^ 17 = 87112285931760246646623899502532662132736 by decide] at *
  rw [e1] at *
  simp only [N130] at hv
  split
  · rename_i hc
    rw [P0, Nat.mod_eq_of_lt (by omega)]
  · rename_i hc
    rw [et, P0]
    have h4 : x = 4 := by omega
    subst h4
    have : dV n = 1361129467683753853853498429727072845819 + D := by omega
    rw [this, Nat.add_mod_left, Nat.mod_eq_of_lt (show D < 87112285931760246646623899502532662132736 by omega), Nat.mod_eq_of_lt (by omega)]
theorem blkR_val (b : List UInt8) (h : b.length ≤ 16) : dV (blkR b) = leV (b ++ [1]) := by
  have hl := digR_len b (by omega)
  have hs := dV_set2 (digR b) b.length 1 (by omega)
  have e0 : (digR b)[b.length]'(by omega) = 0 := by
    simp only [digR]
    rw [List.getElem_append_right (by simp)]
    simp
  rw [e0, digR_val] at hs
  rw [blkR, leV_app]
  simp only [leV]
  simpa using hs
theorem plusR_val : ∀ (a b : List Nat), a.length = b.length → dV (plusR a b) = dV a + dV b
  | [], [], _ => rfl
  | x :: a, y :: b, h => by
    have := plusR_val a b (by simpa using h)
    rw [plusR] at this ⊢
    simp only [List.zipWith_cons_cons, dV, this]; omega
theorem leV_block2 (b : List UInt8) (h : b.length ≤ 16) : leV (b ++ [1]) ≤ 2 * 256 ^ 16 := by
  have h1 := leV_lt b
  have h2 : (256 : Nat) ^ b.length ≤ 256 ^ 16 := Nat.pow_le_pow_right (by decide) h
  rw [leV_app]
  have h3 : leV [1] = 1 := rfl
  rw [h3, Nat.mul_one]
  omega
theorem mac_mod (a b c p : Nat) : (a + b) * c % p = (b % p + a) * c % p := by
  rw [Nat.mul_mod, Nat.mul_mod (b % p + a), Nat.mod_add_mod, Nat.add_comm]
theorem accR_val (r : List Nat) (hr : r.length = 17) (hv : dV r < 256 ^ 16) : ∀ (k : Nat) (n : List Nat) (msg : List UInt8), n.length = 17 → Dg n → dV n < N130 →
    (accR r k n msg).length = 17 ∧ Dg (accR r k n msg) ∧ dV (accR r k n msg) < N130 ∧ dV (accR r k n msg) % P0 = macV (dV r) k (dV n % P0) msg
  | 0, n, msg, hn, hd, hl => ⟨hn, hd, hl, rfl⟩
  | k + 1, n, msg, hn, hd, hl => by
    rw [accR, macV]
    split
    · exact ⟨hn, hd, hl, rfl⟩
    · have hb : (msg.take 16).length ≤ 16 := by simp; omega
      have hbl := blkR_len _ hb
      have e1 : dV (plusR (blkR (msg.take 16)) n) = leV (msg.take 16 ++ [1]) + dV n := by rw [plusR_val _ _ (by omega), blkR_val _ hb]
      have h1 := leV_block _ hb
      have h2 : dV (plusR (blkR (msg.take 16)) n) * dV r < N130 * (N130 / 2) := by
        have h3 := leV_block2 _ hb
        refine Nat.lt_of_le_of_lt (Nat.mul_le_mul (show _ ≤ 2 * 256 ^ 16 + N130 by rw [e1]; omega) (Nat.le_of_lt hv)) (by decide)
      obtain ⟨m1, m2⟩ := mulR_val _ r (plusR_len _ n hbl hn) hr h2
      obtain ⟨k1, k2, k3, k4⟩ := accR_val r hr hv k _ (msg.drop 16) (mulR_len _ _) (mulR_dg _ _) m1
      refine ⟨k1, k2, k3, ?_⟩
      rw [k4, m2, e1, mac_mod]
theorem bytes_leB (n : List Nat) (hn : n.length = 17) (hd : Dg n) : (n.take 16).map UInt8.ofNat = leB (dV n) 16 := by
  refine List.ext_getElem (by simp [leB]; omega) fun i h1 h2 => ?_
  simp only [leB, List.getElem_map, List.getElem_range, List.getElem_take]
  rw [dV_get n i hd (by simp [leB] at h2; omega)]
  exact ofNat8 _ _ (by simp)
theorem tag_same (key msg : List UInt8) (hk : key.length = 32) : finR key (accR (digR (clampB key)) msg.length Z17 msg) = tagB key msg := by
  have hcl := clampB_len key (by omega)
  have hr := digR_len (clampB key) (by omega)
  have hv := leV_lt (clampB key)
  rw [hcl] at hv
  have hv2 : dV (digR (clampB key)) < 256 ^ 16 := by rw [digR_val]; exact hv
  obtain ⟨k1, k2, k3, k4⟩ := accR_val _ hr hv2 msg.length Z17 msg rfl (by simp [Dg, Z17]) (by decide)
  rw [tagB_val, finR]
  generalize hA : accR (digR (clampB key)) msg.length Z17 msg = A at *
  have l1 := leastR_len A k1
  have d1 := leastR_dg A k2
  have v1 := leastR_val A k1 k2 k3
  have v2 := leastR_val _ l1 d1 (by rw [v1]; exact Nat.lt_trans (Nat.mod_lt _ (by decide)) (by decide : P0 < N130))
  rw [bytes_leB _ (leastR_len _ l1) (leastR_dg _ d1), v2, v1, Nat.mod_mod, k4, digR_val, Nat.mod_eq_of_lt (Nat.lt_trans hv (by decide))]
  rfl

@[go_sem] theorem refTag (key msg : List UInt8) (hk : key.length = 32) (hm : msg.length ≤ 1000000000) : fn C 92 [] [.slice 1 (key.map byteRow), .slice 1 (msg.map byteRow)] = some (.tup [.slice 1 ((tagB key msg).map byteRow), .int .i64 0], []) := by
  rw [e92 key msg hk hm, tag_same key msg hk]

end Go.Proofs.YtccfjidpdlfenaaGreatDoor
namespace Go.Proofs.YtccfjidpdlfenaaGreatDoor
open Go.Am
set_option linter.unusedSimpArgs false
set_option linter.unusedVariables false
set_option maxRecDepth 100000
/-! Layer 8: boxes. -/
def padB (l : List UInt8) : List UInt8 := l ++ List.replicate ((16 - l.length % 16) % 16) 0
theorem padB_done (l : List UInt8) (h : l.length % 16 = 0) : padB l = l := by simp [padB, h]
theorem padB_more (l : List UInt8) (h : l.length % 16 ≠ 0) : padB (l ++ [0]) = padB l := by
  unfold padB
  rw [List.append_assoc]
  congr 1
  rw [show [(0 : UInt8)] = List.replicate 1 0 from rfl, List.replicate_append_replicate]
  congr 1
  simp; omega
theorem padB_len (l : List UInt8) : (padB l).length ≤ l.length + 15 := by simp [padB]; omega
def le8 (n : Nat) : List UInt8 := [UInt8.ofNat (n / 1), UInt8.ofNat (n / 256), UInt8.ofNat (n / 65536), UInt8.ofNat (n / 16777216), UInt8.ofNat (n / 4294967296), UInt8.ofNat (n / 1099511627776), UInt8.ofNat (n / 281474976710656), UInt8.ofNat (n / 72057594037927936)]
@[go_sem] theorem le8_len (n : Nat) : (le8 n).length = 8 := rfl
theorem row0 (l : List UInt8) : l.map byteRow ++ [[AVal.int .u8 0]] = (l ++ [0]).map byteRow := by simp [byteRow]

@[go_sem] theorem e72 (l : List UInt8) (hl : l.length ≤ 1000000000) : fn C 72 [] [.usl 1 (l.map byteRow)] = some (.usl 1 ((padB l).map byteRow), []) := by
  rw [fn_text Tryz.func72 rfl rfl Tryz.results72 fq72.1 rfl rfl (by kernel_rfl)]
  simp -implicitDefEqProofs -dsimp +contextual (maxSteps := 9999999) (disch := first | omega | simp only [go_sem] <;> omega | refine ib ?_; kernel_rfl) only [go_sem, seval, ↓reduceIte]
  refine kLoop_rec2 (fun (g : Nat) (m : List UInt8) f H => f 0 = .osl 1 g 0 m.length ∧ (∃ e, H 1 = ⟨g, .live, 1, m.map byteRow, e⟩) ∧ m.length ≤ 1000000016) (fun _ m => (16 - m.length % 16) % 16) (fun _ m => some (.usl 1 ((padB m).map byteRow), [])) ?_ 1 l _ _ ⟨rfl, ⟨_, rfl⟩, by omega⟩
  rintro g m f H ⟨f0, ⟨e, H1⟩, hm⟩ ih
  by_cases h : m.length % 16 = 0
  · simp -implicitDefEqProofs -dsimp +contextual (maxSteps := 9999999) (disch := first | omega | simp only [go_sem] <;> omega | refine ib ?_; kernel_rfl) only [go_sem, seval, ↓reduceIte, f0, H1, h]
    rw [padB_done m h]
  · simp -implicitDefEqProofs -dsimp +contextual (maxSteps := 9999999) (disch := first | omega | simp only [go_sem] <;> omega | refine ib ?_; kernel_rfl) only [go_sem, seval, ↓reduceIte, f0, H1, h, row0]
    rw [← padB_more m h]
    exact ih (g + 1) (m ++ [0]) _ _ ⟨by simp [upd, restr], ⟨_, rfl⟩, by simp; omega⟩ (by simp; omega)

theorem boxLength (ex : List Nat) (hex : ex = [] ∨ ex = [0]) (l : List UInt8) (n : Nat) (hn : n ≤ 1000000000) (hl : l.length ≤ 1000000000) : fn C 74 ex [.usl 1 (l.map byteRow), .int .i64 (n : Int)] = some (.usl 1 ((l ++ le8 n).map byteRow), []) := by
  rcases hex with rfl | rfl
  · rw [fn_text Tryz.func74 rfl rfl Tryz.results74 fq74.1 rfl rfl (by kernel_rfl)]
    simp -implicitDefEqProofs -dsimp +contextual (maxSteps := 9999999) (disch := first | omega | simp only [go_sem] <;> omega | refine ib ?_; kernel_rfl) only [go_sem, seval, ↓reduceIte, kLoop_eq, u8_wrap]
    simp only [le8, List.append_assoc, List.cons_append, List.nil_append]
  · rw [fn_text Tryz.func74 rfl rfl Tryz.results74 fq74.1 rfl rfl (by kernel_rfl)]
    simp -implicitDefEqProofs -dsimp +contextual (maxSteps := 9999999) (disch := first | omega | simp only [go_sem] <;> omega | refine ib ?_; kernel_rfl) only [go_sem, seval, ↓reduceIte, kLoop_eq, u8_wrap]
    simp only [le8, List.append_assoc, List.cons_append, List.nil_append]

@[go_sem] theorem e74 (l : List UInt8) (n : Nat) (hn : n ≤ 1000000000) (hl : l.length ≤ 1000000000) : fn C 74 [] [.usl 1 (l.map byteRow), .int .i64 (n : Int)] = some (.usl 1 ((l ++ le8 n).map byteRow), []) := boxLength [] (.inl rfl) l n hn hl

@[go_sem] theorem e41 (key nonce : List UInt8) : fn C 41 [] [.slice 1 (key.map byteRow), .slice 1 (nonce.map byteRow)] = some (.bool (decide (key.length = 32) && decide (nonce.length = 12)), []) := by
  rw [fn_text Tryz.func41 rfl rfl Tryz.results41 fq41.1 rfl rfl (by kernel_rfl)]
  simp -implicitDefEqProofs -dsimp +contextual (maxSteps := 9999999) (disch := first | omega | simp only [go_sem] <;> omega | refine ib ?_; kernel_rfl) only [go_sem, seval, ↓reduceIte]
  (repeat' (refine kD_intro (fun _ => ?_) (fun _ => ?_))) <;> exact Res_bool (by simp [*])

theorem ofNat0 : ((0 : UInt32).toNat : Int) = 0 := rfl
@[go_sem] theorem eBlock0 (key nonce : List UInt8) : fn C 71 [] [.slice 1 (key.map byteRow), .slice 1 (nonce.map byteRow), .int .u32 0] = some (if key.length = 32 ∧ nonce.length = 12 then .tup [.slice 1 ((blockB key nonce 0).map byteRow), .int .i64 0] else .tup [.slice 1 [], .int .i64 2], []) := e71 key nonce 0
@[go_sem] theorem eXor1 (key nonce msg : List UInt8) (hm : msg.length ≤ 1000000000) : fn C 42 [] [.slice 1 (key.map byteRow), .slice 1 (nonce.map byteRow), .int .u32 1, .slice 1 (msg.map byteRow)] = some (xorR .usl key nonce 1 msg) := e42 key nonce 1 msg hm

def tagX (key nonce wth text : List UInt8) : List UInt8 := tagB ((blockB key nonce 0).take 32) (padB (padB wth ++ text) ++ le8 wth.length ++ le8 text.length)
@[go_sem] theorem tagX_len (key nonce wth text : List UInt8) : (tagX key nonce wth text).length = 16 := by simp [tagX, tagB_len]
set_option maxHeartbeats 4000000 in
@[go_sem] theorem e43 (key nonce wth text : List UInt8) (hk : key.length = 32) (hn : nonce.length = 12) (hw : wth.length ≤ 100000000) (ht : text.length ≤ 100000000) : fn C 43 [] [.slice 1 (key.map byteRow), .slice 1 (nonce.map byteRow), .slice 1 (wth.map byteRow), .slice 1 (text.map byteRow)] = some (.usl 1 ((tagX key nonce wth text).map byteRow), []) := by
  have hp := padB_len wth
  have hp2 := padB_len (padB wth ++ text)
  simp only [List.length_append] at hp2
  rw [fn_text Tryz.func43 rfl rfl Tryz.results43 fq43.1 rfl rfl (by kernel_rfl)]
  have hne : ¬ (wth.length = wth.length + text.length + 64) := by omega
  simp -implicitDefEqProofs -dsimp +contextual (maxSteps := 9999999) (disch := first | omega | simp only [go_sem] <;> omega | refine ib ?_; kernel_rfl) only [go_sem, seval, ↓reduceIte, hk, hn, hne]
  rfl

end Go.Proofs.YtccfjidpdlfenaaGreatDoor
namespace Go.Proofs.YtccfjidpdlfenaaGreatDoor
open Go.Am
set_option linter.unusedSimpArgs false
set_option linter.unusedVariables false
set_option maxRecDepth 100000
/-! Layer 8: boxes, sealed and opened. -/
def z4B : List UInt8 := [0, 0, 0, 0]
@[go_sem] theorem z4B_len : z4B.length = 4 := rfl
def nonceB (n : Nat) : List UInt8 := z4B ++ beN 8 n
@[go_sem] theorem nonceB_len (n : Nat) : (nonceB n).length = 12 := by simp [nonceB, z4B, beN_len]
theorem z4rows : [[AVal.int .u8 (((0 : UInt8).toNat : Nat) : Int)], [AVal.int .u8 (((0 : UInt8).toNat : Nat) : Int)], [AVal.int .u8 (((0 : UInt8).toNat : Nat) : Int)], [AVal.int .u8 (((0 : UInt8).toNat : Nat) : Int)]] = z4B.map byteRow := rfl
theorem z4lits : [[AVal.int .u8 0], [AVal.int .u8 0], [AVal.int .u8 0], [AVal.int .u8 0]] = z4B.map byteRow := rfl
@[go_sem] theorem e18 (n : Nat) (hn : n ≤ 18446744073709551615) : fn C 18 [] [.int .u64 (n : Int)] = some (.slice 1 ((nonceB n).map byteRow), []) := by
  rw [fn_text Tryz.func18 rfl rfl Tryz.results18 fq18.1 rfl rfl (by kernel_rfl)]
  simp -implicitDefEqProofs -dsimp +contextual (maxSteps := 5000000) (disch := first | omega | simp only [go_sem] <;> omega | refine ib ?_; kernel_rfl) only [go_sem, Nat.reduceBEq, Int.reduceNeg, Int.reduceLT, Int.reduceLE, Int.reduceAdd, Int.reduceSub, Int.reduceToNat, Int.reduceMul, Int.reduceMod, Int.reduceTMod, Int.reduceTDiv, Int.reduceEq, Nat.reducePow, Nat.reduceDiv, Nat.reduceShiftRight, Nat.reduceMod, List.reduceReplicate, ↓reduceIte, Nat.reduceEqDiff, Nat.reduceAdd, Nat.reduceSub, Nat.reduceLeDiff, Nat.reduceLT, Nat.reduceMul, z4rows]
  rfl

@[go_sem] theorem e33 (n : Nat) (hn : n ≤ 18446744073709551615) : fn C 33 [] [.int .u64 (n : Int)] = some (.slice 1 ((nonceB n).map byteRow), []) := by
  rw [fn_text Tryz.func33 rfl rfl Tryz.results33 fq33.1 rfl rfl (by kernel_rfl)]
  simp -implicitDefEqProofs -dsimp +contextual (maxSteps := 5000000) (disch := first | omega | simp only [go_sem] <;> omega | refine ib ?_; kernel_rfl) only [go_sem, Nat.reduceBEq, Int.reduceNeg, Int.reduceLT, Int.reduceLE, Int.reduceAdd, Int.reduceSub, Int.reduceToNat, Int.reduceMul, Int.reduceMod, Int.reduceTMod, Int.reduceTDiv, Int.reduceEq, Nat.reducePow, Nat.reduceDiv, Nat.reduceShiftRight, Nat.reduceMod, List.reduceReplicate, ↓reduceIte, Nat.reduceEqDiff, Nat.reduceAdd, Nat.reduceSub, Nat.reduceLeDiff, Nat.reduceLT, Nat.reduceMul, z4lits]
  rfl

def sealB (key nonce wth msg : List UInt8) : List UInt8 := xorB key nonce 1 msg ++ tagX key nonce wth (xorB key nonce 1 msg)
theorem sealB_len (key nonce wth msg : List UInt8) : (sealB key nonce wth msg).length = msg.length + 16 := by simp [sealB, xorB_len, tagX_len]
def sealR (mk : Nat → List (List AVal) → AVal) (key nonce wth msg : List UInt8) : Res :=
  if key.length = 32 ∧ nonce.length = 12 then (.tup [mk 1 ((sealB key nonce wth msg).map byteRow), .int .i64 0], []) else (.tup [mk 1 [], .int .i64 2], [])
theorem xorR_ok (mk : Nat → List (List AVal) → AVal) (key nonce msg : List UInt8) (hk : key.length = 32) (hn : nonce.length = 12) (hm : msg.length ≤ 100000000) : xorR mk key nonce 1 msg = (.tup [mk 1 ((xorB key nonce 1 msg).map byteRow), .int .i64 0], []) := by
  rw [xorR, if_pos ⟨hk, hn⟩, if_pos]
  have : (1 : UInt32).toNat = 1 := rfl
  rw [this]; omega

set_option maxHeartbeats 4000000 in
@[go_sem] theorem e16 (key nonce wth msg : List UInt8) (hw : wth.length ≤ 100000000) (hm : msg.length ≤ 100000000) : fn C 16 [] [.slice 1 (key.map byteRow), .slice 1 (nonce.map byteRow), .slice 1 (wth.map byteRow), .slice 1 (msg.map byteRow)] = some (sealR .usl key nonce wth msg) := by
  rw [fn_text Tryz.func16 rfl rfl Tryz.results16 fq16.1 rfl rfl (by kernel_rfl)]
  by_cases hk : key.length = 32
  · by_cases hn : nonce.length = 12
    · have hx := eXor1 key nonce msg (by omega)
      rw [xorR_ok _ _ _ _ hk hn hm] at hx
      rw [sealR, if_pos ⟨hk, hn⟩, sealB]
      have hl := xorB_len key nonce 1 msg
      have ht := e43 key nonce wth (xorB key nonce 1 msg) hk hn hw (by omega)
      have htl := tagX_len key nonce wth (xorB key nonce 1 msg)
      generalize xorB key nonce 1 msg = x at *
      generalize tagX key nonce wth x = t at *
      simp -implicitDefEqProofs -dsimp +contextual (maxSteps := 5000000) (disch := first | omega | simp only [go_sem] <;> omega | refine ib ?_; kernel_rfl) only [go_sem, Nat.reduceBEq, Int.reduceNeg, Int.reduceLT, Int.reduceLE, Int.reduceAdd, Int.reduceSub, Int.reduceToNat, Int.reduceMul, Int.reduceMod, Int.reduceTMod, Int.reduceTDiv, Int.reduceEq, Nat.reducePow, Nat.reduceDiv, Nat.reduceShiftRight, Nat.reduceMod, List.reduceReplicate, ↓reduceIte, Nat.reduceEqDiff, Nat.reduceAdd, Nat.reduceSub, Nat.reduceLeDiff, Nat.reduceLT, Nat.reduceMul, hk, hn, hx, ht, hl, htl]
    · simp -implicitDefEqProofs -dsimp +contextual (maxSteps := 5000000) (disch := first | omega | simp only [go_sem] <;> omega | refine ib ?_; kernel_rfl) only [go_sem, Nat.reduceBEq, Int.reduceNeg, Int.reduceLT, Int.reduceLE, Int.reduceAdd, Int.reduceSub, Int.reduceToNat, Int.reduceMul, Int.reduceMod, Int.reduceTMod, Int.reduceTDiv, Int.reduceEq, Nat.reducePow, Nat.reduceDiv, Nat.reduceShiftRight, Nat.reduceMod, List.reduceReplicate, ↓reduceIte, Nat.reduceEqDiff, Nat.reduceAdd, Nat.reduceSub, Nat.reduceLeDiff, Nat.reduceLT, Nat.reduceMul, hk, hn]
      simp [sealR, hn]
  · simp -implicitDefEqProofs -dsimp +contextual (maxSteps := 5000000) (disch := first | omega | simp only [go_sem] <;> omega | refine ib ?_; kernel_rfl) only [go_sem, Nat.reduceBEq, Int.reduceNeg, Int.reduceLT, Int.reduceLE, Int.reduceAdd, Int.reduceSub, Int.reduceToNat, Int.reduceMul, Int.reduceMod, Int.reduceTMod, Int.reduceTDiv, Int.reduceEq, Nat.reducePow, Nat.reduceDiv, Nat.reduceShiftRight, Nat.reduceMod, List.reduceReplicate, ↓reduceIte, Nat.reduceEqDiff, Nat.reduceAdd, Nat.reduceSub, Nat.reduceLeDiff, Nat.reduceLT, Nat.reduceMul, hk]
    simp [sealR, hk]

theorem pad_mod (l : List UInt8) : (padB l).length % 16 = 0 := by simp [padB]; omega
theorem pad_pad (a b : List UInt8) : padB (padB a ++ b) = padB a ++ padB b := by
  have h := pad_mod a
  rw [padB, padB.eq_1 b, List.append_assoc, List.length_append]
  congr 3
  omega
@[go_sem] theorem e90 (l : List UInt8) (hl : l.length ≤ 1000000000) : fn C 90 [] [.slice 1 (l.map byteRow)] = some (.usl 1 ((padB l).map byteRow), []) := by
  rw [fn_text Tryz.func90 rfl rfl Tryz.results90 fq90.1 rfl rfl (by kernel_rfl)]
  simp -implicitDefEqProofs -dsimp +contextual (maxSteps := 5000000) (disch := first | omega | simp only [go_sem] <;> omega | refine ib ?_; kernel_rfl) only [go_sem, Nat.reduceBEq, Int.reduceNeg, Int.reduceLT, Int.reduceLE, Int.reduceAdd, Int.reduceSub, Int.reduceToNat, Int.reduceMul, Int.reduceMod, Int.reduceTMod, Int.reduceTDiv, Int.reduceEq, Nat.reducePow, Nat.reduceDiv, Nat.reduceShiftRight, Nat.reduceMod, List.reduceReplicate, ↓reduceIte, Nat.reduceEqDiff, Nat.reduceAdd, Nat.reduceSub, Nat.reduceLeDiff, Nat.reduceLT, Nat.reduceMul]
  refine kLoop_rec2 (fun (g : Nat) (m : List UInt8) f H => f 3 = .osl 104 g 0 m.length ∧ (∃ e, H 104 = ⟨g, .live, 1, m.map byteRow, e⟩) ∧ m.length ≤ 1000000016) (fun _ m => (16 - m.length % 16) % 16) (fun _ m => some (.usl 1 ((padB m).map byteRow), [])) ?_ 2 l _ _ ⟨rfl, ⟨_, rfl⟩, by omega⟩
  rintro g m f H ⟨f0, ⟨e, H1⟩, hm⟩ ih
  by_cases h : m.length % 16 = 0
  · simp -implicitDefEqProofs -dsimp +contextual (maxSteps := 5000000) (disch := first | omega | simp only [go_sem] <;> omega | refine ib ?_; kernel_rfl) only [go_sem, Nat.reduceBEq, Int.reduceNeg, Int.reduceLT, Int.reduceLE, Int.reduceAdd, Int.reduceSub, Int.reduceToNat, Int.reduceMul, Int.reduceMod, Int.reduceTMod, Int.reduceTDiv, Int.reduceEq, Nat.reducePow, Nat.reduceDiv, Nat.reduceShiftRight, Nat.reduceMod, List.reduceReplicate, ↓reduceIte, Nat.reduceEqDiff, Nat.reduceAdd, Nat.reduceSub, Nat.reduceLeDiff, Nat.reduceLT, Nat.reduceMul, f0, H1, h]
    rw [padB_done m h]
  · simp -implicitDefEqProofs -dsimp +contextual (maxSteps := 5000000) (disch := first | omega | simp only [go_sem] <;> omega | refine ib ?_; kernel_rfl) only [go_sem, Nat.reduceBEq, Int.reduceNeg, Int.reduceLT, Int.reduceLE, Int.reduceAdd, Int.reduceSub, Int.reduceToNat, Int.reduceMul, Int.reduceMod, Int.reduceTMod, Int.reduceTDiv, Int.reduceEq, Nat.reducePow, Nat.reduceDiv, Nat.reduceShiftRight, Nat.reduceMod, List.reduceReplicate, ↓reduceIte, Nat.reduceEqDiff, Nat.reduceAdd, Nat.reduceSub, Nat.reduceLeDiff, Nat.reduceLT, Nat.reduceMul, f0, H1, h, row0]
    rw [← padB_more m h]
    exact ih (g + 1) (m ++ [0]) _ _ ⟨by simp [upd, restr], ⟨_, rfl⟩, by simp; omega⟩ (by simp; omega)

@[go_sem] theorem e91 (n : Nat) (hn : n ≤ 1000000000) : fn C 91 [] [.int .i64 (n : Int)] = some (.slice 1 ((le8 n).map byteRow), []) := by
  rw [fn_text Tryz.func91 rfl rfl Tryz.results91 fq91.1 rfl rfl (by kernel_rfl)]
  simp -implicitDefEqProofs -dsimp +contextual (maxSteps := 5000000) (disch := first | omega | simp only [go_sem] <;> omega | refine ib ?_; kernel_rfl) only [go_sem, Nat.reduceBEq, Int.reduceNeg, Int.reduceLT, Int.reduceLE, Int.reduceAdd, Int.reduceSub, Int.reduceToNat, Int.reduceMul, Int.reduceMod, Int.reduceTMod, Int.reduceTDiv, Int.reduceEq, Nat.reducePow, Nat.reduceDiv, Nat.reduceShiftRight, Nat.reduceMod, List.reduceReplicate, ↓reduceIte, Nat.reduceEqDiff, Nat.reduceAdd, Nat.reduceSub, Nat.reduceLeDiff, Nat.reduceLT, Nat.reduceMul, kLoop_eq, u8_wrap, Nat.div_div_eq_div_mul]
  have hm : ∀ m : Nat, UInt8.ofNat (m % 256) = UInt8.ofNat m := fun m => ofNat8 _ _ (by omega)
  simp only [hm, le8, Nat.div_one, List.map_cons, List.map_nil, byteRow]

@[go_sem] theorem eRBlock0 (key nonce : List UInt8) : fn C 89 [] [.slice 1 (key.map byteRow), .slice 1 (nonce.map byteRow), .int .u32 0] = some (if key.length = 32 ∧ nonce.length = 12 then .tup [.slice 1 ((blockB key nonce 0).map byteRow), .int .i64 0] else .tup [.slice 1 [], .int .i64 2], []) := e89 key nonce 0
@[go_sem] theorem eRXor1 (key nonce msg : List UInt8) (hm : msg.length ≤ 1000000000) : fn C 63 [] [.slice 1 (key.map byteRow), .slice 1 (nonce.map byteRow), .int .u32 1, .slice 1 (msg.map byteRow)] = some (xorR .slice key nonce 1 msg) := e63 key nonce 1 msg hm

set_option maxHeartbeats 4000000 in
@[go_sem] theorem e64 (key nonce wth text : List UInt8) (hk : key.length = 32) (hn : nonce.length = 12) (hw : wth.length ≤ 100000000) (ht : text.length ≤ 100000000) : fn C 64 [] [.slice 1 (key.map byteRow), .slice 1 (nonce.map byteRow), .slice 1 (wth.map byteRow), .slice 1 (text.map byteRow)] = some (.slice 1 ((tagX key nonce wth text).map byteRow), []) := by
  have hp := padB_len wth
  have hp2 := padB_len text
  rw [fn_text Tryz.func64 rfl rfl Tryz.results64 fq64.1 rfl rfl (by kernel_rfl)]
  simp -implicitDefEqProofs -dsimp +contextual (maxSteps := 5000000) (disch := first | omega | simp only [go_sem] <;> omega | refine ib ?_; kernel_rfl) only [go_sem, Nat.reduceBEq, Int.reduceNeg, Int.reduceLT, Int.reduceLE, Int.reduceAdd, Int.reduceSub, Int.reduceToNat, Int.reduceMul, Int.reduceMod, Int.reduceTMod, Int.reduceTDiv, Int.reduceEq, Nat.reducePow, Nat.reduceDiv, Nat.reduceShiftRight, Nat.reduceMod, List.reduceReplicate, ↓reduceIte, Nat.reduceEqDiff, Nat.reduceAdd, Nat.reduceSub, Nat.reduceLeDiff, Nat.reduceLT, Nat.reduceMul, hk, hn]
  simp only [tagX, pad_pad, List.append_assoc]

set_option maxHeartbeats 4000000 in
@[go_sem] theorem e32 (key nonce wth msg : List UInt8) (hw : wth.length ≤ 100000000) (hm : msg.length ≤ 100000000) : fn C 32 [] [.slice 1 (key.map byteRow), .slice 1 (nonce.map byteRow), .slice 1 (wth.map byteRow), .slice 1 (msg.map byteRow)] = some (sealR .slice key nonce wth msg) := by
  rw [fn_text Tryz.func32 rfl rfl Tryz.results32 fq32.1 rfl rfl (by kernel_rfl)]
  by_cases hk : key.length = 32
  · by_cases hn : nonce.length = 12
    · have hx := eRXor1 key nonce msg (by omega)
      rw [xorR_ok _ _ _ _ hk hn hm] at hx
      rw [sealR, if_pos ⟨hk, hn⟩, sealB]
      have hl := xorB_len key nonce 1 msg
      have ht := e64 key nonce wth (xorB key nonce 1 msg) hk hn hw (by omega)
      have htl := tagX_len key nonce wth (xorB key nonce 1 msg)
      generalize xorB key nonce 1 msg = x at *
      generalize tagX key nonce wth x = t at *
      simp -implicitDefEqProofs -dsimp +contextual (maxSteps := 5000000) (disch := first | omega | simp only [go_sem] <;> omega | refine ib ?_; kernel_rfl) only [go_sem, Nat.reduceBEq, Int.reduceNeg, Int.reduceLT, Int.reduceLE, Int.reduceAdd, Int.reduceSub, Int.reduceToNat, Int.reduceMul, Int.reduceMod, Int.reduceTMod, Int.reduceTDiv, Int.reduceEq, Nat.reducePow, Nat.reduceDiv, Nat.reduceShiftRight, Nat.reduceMod, List.reduceReplicate, ↓reduceIte, Nat.reduceEqDiff, Nat.reduceAdd, Nat.reduceSub, Nat.reduceLeDiff, Nat.reduceLT, Nat.reduceMul, hk, hn, hx, ht, hl, htl]
    · simp -implicitDefEqProofs -dsimp +contextual (maxSteps := 5000000) (disch := first | omega | simp only [go_sem] <;> omega | refine ib ?_; kernel_rfl) only [go_sem, Nat.reduceBEq, Int.reduceNeg, Int.reduceLT, Int.reduceLE, Int.reduceAdd, Int.reduceSub, Int.reduceToNat, Int.reduceMul, Int.reduceMod, Int.reduceTMod, Int.reduceTDiv, Int.reduceEq, Nat.reducePow, Nat.reduceDiv, Nat.reduceShiftRight, Nat.reduceMod, List.reduceReplicate, ↓reduceIte, Nat.reduceEqDiff, Nat.reduceAdd, Nat.reduceSub, Nat.reduceLeDiff, Nat.reduceLT, Nat.reduceMul, hk, hn]
      simp [sealR, hn]
  · simp -implicitDefEqProofs -dsimp +contextual (maxSteps := 5000000) (disch := first | omega | simp only [go_sem] <;> omega | refine ib ?_; kernel_rfl) only [go_sem, Nat.reduceBEq, Int.reduceNeg, Int.reduceLT, Int.reduceLE, Int.reduceAdd, Int.reduceSub, Int.reduceToNat, Int.reduceMul, Int.reduceMod, Int.reduceTMod, Int.reduceTDiv, Int.reduceEq, Nat.reducePow, Nat.reduceDiv, Nat.reduceShiftRight, Nat.reduceMod, List.reduceReplicate, ↓reduceIte, Nat.reduceEqDiff, Nat.reduceAdd, Nat.reduceSub, Nat.reduceLeDiff, Nat.reduceLT, Nat.reduceMul, hk]
    simp [sealR, hk]

def openR (mk : Nat → List (List AVal) → AVal) (key nonce wth sealed : List UInt8) : Res :=
  if key.length = 32 ∧ nonce.length = 12 then
    if sealed.length < 16 then (.tup [mk 1 [], .int .i64 10], [])
    else if tagX key nonce wth (sealed.take (sealed.length - 16)) = sealed.drop (sealed.length - 16) then (.tup [mk 1 ((xorB key nonce 1 (sealed.take (sealed.length - 16))).map byteRow), .int .i64 0], [])
    else (.tup [mk 1 [], .int .i64 21], [])
  else (.tup [mk 1 [], .int .i64 2], [])
theorem len_sub (n m : Nat) (h : ¬ n < m) : ((n : Int) - (m : Int)) = ((n - m : Nat) : Int) := by omega

set_option maxHeartbeats 4000000 in
@[go_sem] theorem e46 (key nonce wth sealed : List UInt8) (hw : wth.length ≤ 100000000) (hm : sealed.length ≤ 100000000) : fn C 46 [] [.slice 1 (key.map byteRow), .slice 1 (nonce.map byteRow), .slice 1 (wth.map byteRow), .slice 1 (sealed.map byteRow)] = some (openR .usl key nonce wth sealed) := by
  rw [fn_text Tryz.func46 rfl rfl Tryz.results46 fq46.1 rfl rfl (by kernel_rfl)]
  by_cases hk : key.length = 32
  · by_cases hn : nonce.length = 12
    · by_cases hs : sealed.length < 16
      · simp -implicitDefEqProofs -dsimp +contextual (maxSteps := 5000000) (disch := first | omega | simp only [go_sem] <;> omega | refine ib ?_; kernel_rfl) only [go_sem, Nat.reduceBEq, Int.reduceNeg, Int.reduceLT, Int.reduceLE, Int.reduceAdd, Int.reduceSub, Int.reduceToNat, Int.reduceMul, Int.reduceMod, Int.reduceTMod, Int.reduceTDiv, Int.reduceEq, Nat.reducePow, Nat.reduceDiv, Nat.reduceShiftRight, Nat.reduceMod, List.reduceReplicate, ↓reduceIte, Nat.reduceEqDiff, Nat.reduceAdd, Nat.reduceSub, Nat.reduceLeDiff, Nat.reduceLT, Nat.reduceMul, hk, hn, hs]
        simp [openR, hk, hn, hs]
      · have e1 : (sealed.length : Int) - 16 = ((sealed.length - 16 : Nat) : Int) := by omega
        have el : (sealed.take (sealed.length - 16)).length = sealed.length - 16 := by simp
        have hx := eXor1 key nonce (sealed.take (sealed.length - 16)) (by omega)
        rw [xorR_ok _ _ _ _ hk hn (by omega)] at hx
        rw [openR, if_pos ⟨hk, hn⟩, if_neg hs]
        have htx : tagX key nonce wth (sealed.take (sealed.length - 16)) = tagB ((blockB key nonce 0).take 32) (padB (padB wth ++ sealed.take (sealed.length - 16)) ++ le8 wth.length ++ le8 (sealed.take (sealed.length - 16)).length) := rfl
        have hp := padB_len wth
        have hp2 := padB_len (padB wth ++ sealed.take (sealed.length - 16))
        simp only [List.length_append] at hp2
        generalize hT : sealed.take (sealed.length - 16) = T at *
        generalize hD : sealed.drop (sealed.length - 16) = D at *
        have hl1 := boxLength [] (.inl rfl) (padB (padB wth ++ T)) wth.length (by omega) (by omega)
        simp -implicitDefEqProofs -dsimp +contextual (maxSteps := 5000000) (disch := first | omega | simp only [go_sem] <;> omega | refine ib ?_; kernel_rfl) only [go_sem, Nat.reduceBEq, Int.reduceNeg, Int.reduceLT, Int.reduceLE, Int.reduceAdd, Int.reduceSub, Int.reduceToNat, Int.reduceMul, Int.reduceMod, Int.reduceTMod, Int.reduceTDiv, Int.reduceEq, Nat.reducePow, Nat.reduceDiv, Nat.reduceShiftRight, Nat.reduceMod, List.reduceReplicate, ↓reduceIte, Nat.reduceEqDiff, Nat.reduceAdd, Nat.reduceSub, Nat.reduceLeDiff, Nat.reduceLT, Nat.reduceMul, hk, hn, hs, e1, el, hx, hT, hD]
        have eD : List.take (sealed.length - (sealed.length - 16)) D = D := List.take_of_length_le (by rw [← hD]; simp)
        rw [htx, el, eD]
        unfold kD
        split <;> rfl
    · simp -implicitDefEqProofs -dsimp +contextual (maxSteps := 5000000) (disch := first | omega | simp only [go_sem] <;> omega | refine ib ?_; kernel_rfl) only [go_sem, Nat.reduceBEq, Int.reduceNeg, Int.reduceLT, Int.reduceLE, Int.reduceAdd, Int.reduceSub, Int.reduceToNat, Int.reduceMul, Int.reduceMod, Int.reduceTMod, Int.reduceTDiv, Int.reduceEq, Nat.reducePow, Nat.reduceDiv, Nat.reduceShiftRight, Nat.reduceMod, List.reduceReplicate, ↓reduceIte, Nat.reduceEqDiff, Nat.reduceAdd, Nat.reduceSub, Nat.reduceLeDiff, Nat.reduceLT, Nat.reduceMul, hk, hn]
      simp [openR, hn]
  · simp -implicitDefEqProofs -dsimp +contextual (maxSteps := 5000000) (disch := first | omega | simp only [go_sem] <;> omega | refine ib ?_; kernel_rfl) only [go_sem, Nat.reduceBEq, Int.reduceNeg, Int.reduceLT, Int.reduceLE, Int.reduceAdd, Int.reduceSub, Int.reduceToNat, Int.reduceMul, Int.reduceMod, Int.reduceTMod, Int.reduceTDiv, Int.reduceEq, Nat.reducePow, Nat.reduceDiv, Nat.reduceShiftRight, Nat.reduceMod, List.reduceReplicate, ↓reduceIte, Nat.reduceEqDiff, Nat.reduceAdd, Nat.reduceSub, Nat.reduceLeDiff, Nat.reduceLT, Nat.reduceMul, hk]
    simp [openR, hk]

set_option maxHeartbeats 4000000 in
@[go_sem] theorem e48 (key nonce wth sealed : List UInt8) (hw : wth.length ≤ 100000000) (hm : sealed.length ≤ 100000000) : fn C 48 [] [.slice 1 (key.map byteRow), .slice 1 (nonce.map byteRow), .slice 1 (wth.map byteRow), .slice 1 (sealed.map byteRow)] = some (openR .slice key nonce wth sealed) := by
  rw [fn_text Tryz.func48 rfl rfl Tryz.results48 fq48.1 rfl rfl (by kernel_rfl)]
  by_cases hk : key.length = 32
  · by_cases hn : nonce.length = 12
    · by_cases hs : sealed.length < 16
      · simp -implicitDefEqProofs -dsimp +contextual (maxSteps := 5000000) (disch := first | omega | simp only [go_sem] <;> omega | refine ib ?_; kernel_rfl) only [go_sem, Nat.reduceBEq, Int.reduceNeg, Int.reduceLT, Int.reduceLE, Int.reduceAdd, Int.reduceSub, Int.reduceToNat, Int.reduceMul, Int.reduceMod, Int.reduceTMod, Int.reduceTDiv, Int.reduceEq, Nat.reducePow, Nat.reduceDiv, Nat.reduceShiftRight, Nat.reduceMod, List.reduceReplicate, ↓reduceIte, Nat.reduceEqDiff, Nat.reduceAdd, Nat.reduceSub, Nat.reduceLeDiff, Nat.reduceLT, Nat.reduceMul, hk, hn, hs]
        simp [openR, hk, hn, hs]
      · have e1 : (sealed.length : Int) - 16 = ((sealed.length - 16 : Nat) : Int) := by omega
        have el : (sealed.take (sealed.length - 16)).length = sealed.length - 16 := by simp
        have hx := eRXor1 key nonce (sealed.take (sealed.length - 16)) (by omega)
        rw [xorR_ok _ _ _ _ hk hn (by omega)] at hx
        rw [openR, if_pos ⟨hk, hn⟩, if_neg hs]
        have ht := e64 key nonce wth (sealed.take (sealed.length - 16)) hk hn hw (by omega)
        generalize hT : sealed.take (sealed.length - 16) = T at *
        generalize hD : sealed.drop (sealed.length - 16) = D at *
        simp -implicitDefEqProofs -dsimp +contextual (maxSteps := 5000000) (disch := first | omega | simp only [go_sem] <;> omega | refine ib ?_; kernel_rfl) only [go_sem, Nat.reduceBEq, Int.reduceNeg, Int.reduceLT, Int.reduceLE, Int.reduceAdd, Int.reduceSub, Int.reduceToNat, Int.reduceMul, Int.reduceMod, Int.reduceTMod, Int.reduceTDiv, Int.reduceEq, Nat.reducePow, Nat.reduceDiv, Nat.reduceShiftRight, Nat.reduceMod, List.reduceReplicate, ↓reduceIte, Nat.reduceEqDiff, Nat.reduceAdd, Nat.reduceSub, Nat.reduceLeDiff, Nat.reduceLT, Nat.reduceMul, hk, hn, hs, e1, el, hx, ht, hT, hD]
        have eD : List.take (sealed.length - (sealed.length - 16)) D = D := List.take_of_length_le (by rw [← hD]; simp)
        rw [eD]
        unfold kD
        split <;> rfl
    · simp -implicitDefEqProofs -dsimp +contextual (maxSteps := 5000000) (disch := first | omega | simp only [go_sem] <;> omega | refine ib ?_; kernel_rfl) only [go_sem, Nat.reduceBEq, Int.reduceNeg, Int.reduceLT, Int.reduceLE, Int.reduceAdd, Int.reduceSub, Int.reduceToNat, Int.reduceMul, Int.reduceMod, Int.reduceTMod, Int.reduceTDiv, Int.reduceEq, Nat.reducePow, Nat.reduceDiv, Nat.reduceShiftRight, Nat.reduceMod, List.reduceReplicate, ↓reduceIte, Nat.reduceEqDiff, Nat.reduceAdd, Nat.reduceSub, Nat.reduceLeDiff, Nat.reduceLT, Nat.reduceMul, hk, hn]
      simp [openR, hn]
  · simp -implicitDefEqProofs -dsimp +contextual (maxSteps := 5000000) (disch := first | omega | simp only [go_sem] <;> omega | refine ib ?_; kernel_rfl) only [go_sem, Nat.reduceBEq, Int.reduceNeg, Int.reduceLT, Int.reduceLE, Int.reduceAdd, Int.reduceSub, Int.reduceToNat, Int.reduceMul, Int.reduceMod, Int.reduceTMod, Int.reduceTDiv, Int.reduceEq, Nat.reducePow, Nat.reduceDiv, Nat.reduceShiftRight, Nat.reduceMod, List.reduceReplicate, ↓reduceIte, Nat.reduceEqDiff, Nat.reduceAdd, Nat.reduceSub, Nat.reduceLeDiff, Nat.reduceLT, Nat.reduceMul, hk]
    simp [openR, hk]


end Go.Proofs.YtccfjidpdlfenaaGreatDoor
namespace Go.Proofs.YtccfjidpdlfenaaGreatDoor
open Go.Am
set_option linter.unusedSimpArgs false
set_option linter.unusedVariables false
set_option maxRecDepth 100000
/-! Layer 8: what boxes come to. -/
theorem open_seal (mk : Nat → List (List AVal) → AVal) (key nonce wth msg : List UInt8) (hk : key.length = 32) (hn : nonce.length = 12) : openR mk key nonce wth (sealB key nonce wth msg) = (.tup [mk 1 (msg.map byteRow), .int .i64 0], []) := by
  have hl := xorB_len key nonce 1 msg
  have ht := tagX_len key nonce wth (xorB key nonce 1 msg)
  have e1 : (sealB key nonce wth msg).length - 16 = (xorB key nonce 1 msg).length := by rw [sealB_len, hl]; omega
  rw [openR, if_pos ⟨hk, hn⟩, if_neg (by rw [sealB_len]; omega), e1, sealB, List.take_left, List.drop_left, if_pos rfl, xorB_xorB]

theorem sealR_cases (key nonce wth msg : List UInt8) : (∃ (l : List UInt8) (e : Int), (∀ mk, sealR mk key nonce wth msg = (.tup [mk 1 (l.map byteRow), .int .i64 e], []))) := by
  by_cases h : key.length = 32 ∧ nonce.length = 12
  · exact ⟨sealB key nonce wth msg, 0, fun mk => by rw [sealR, if_pos h]⟩
  · exact ⟨[], 2, fun mk => by rw [sealR, if_neg h]; rfl⟩
theorem openR_cases (key nonce wth sealed : List UInt8) : (∃ (l : List UInt8) (e : Int), (∀ mk, openR mk key nonce wth sealed = (.tup [mk 1 (l.map byteRow), .int .i64 e], []))) := by
  by_cases h : key.length = 32 ∧ nonce.length = 12
  · by_cases hs : sealed.length < 16
    · exact ⟨[], 10, fun mk => by rw [openR, if_pos h, if_pos hs]; rfl⟩
    · by_cases ht : tagX key nonce wth (sealed.take (sealed.length - 16)) = sealed.drop (sealed.length - 16)
      · exact ⟨_, 0, fun mk => by rw [openR, if_pos h, if_neg hs, if_pos ht]⟩
      · exact ⟨[], 21, fun mk => by rw [openR, if_pos h, if_neg hs, if_neg ht]; rfl⟩
  · exact ⟨[], 2, fun mk => by rw [openR, if_neg h]; rfl⟩

theorem xor_ne (x y : UInt8) (h : y ≠ 0) : x ^^^ y ≠ x := by
  intro e
  apply h
  have : x ^^^ (x ^^^ y) = x ^^^ x := by rw [e]
  rwa [← UInt8.xor_assoc, UInt8.xor_self, UInt8.zero_xor] at this
theorem open_changed (mk : Nat → List (List AVal) → AVal) (key nonce wth msg : List UInt8) (hk : key.length = 32) (hn : nonce.length = 12) (i : Nat) (hi : i < 16) (y : UInt8) (hy : y ≠ 0) (hx : msg.length + i < (sealB key nonce wth msg).length) :
    openR mk key nonce wth ((sealB key nonce wth msg).set (msg.length + i) ((sealB key nonce wth msg)[msg.length + i] ^^^ y)) = (.tup [mk 1 [], .int .i64 21], []) := by
  have hl := xorB_len key nonce 1 msg
  have ht := tagX_len key nonce wth (xorB key nonce 1 msg)
  have hsl := sealB_len key nonce wth msg
  have e1 : ((sealB key nonce wth msg).set (msg.length + i) ((sealB key nonce wth msg)[msg.length + i] ^^^ y)).length - 16 = (xorB key nonce 1 msg).length := by rw [List.length_set, sealB_len, hl]; omega
  rw [openR, if_pos ⟨hk, hn⟩, if_neg (by rw [List.length_set, sealB_len]; omega), e1, if_neg]
  have e2 : (sealB key nonce wth msg)[msg.length + i] = (tagX key nonce wth (xorB key nonce 1 msg))[i]'(by omega) := by
    simp only [sealB]
    rw [List.getElem_append_right (by omega)]
    congr 1; omega
  rw [e2]
  rw [sealB, List.set_append_right _ _ (by omega), List.take_left, List.drop_left, show msg.length + i - (xorB key nonce 1 msg).length = i by omega]
  intro h
  have h2 := congrArg (fun l => l[i]?) h
  simp only [List.getElem?_set_self (show i < (tagX key nonce wth (xorB key nonce 1 msg)).length by omega), List.getElem?_eq_getElem (show i < (tagX key nonce wth (xorB key nonce 1 msg)).length by omega), Option.some.injEq] at h2
  exact xor_ne _ _ hy h2.symm


end Go.Proofs.YtccfjidpdlfenaaGreatDoor
namespace Go.Proofs.YtccfjidpdlfenaaGreatDoor
open Go.Am
set_option linter.unusedSimpArgs false
set_option linter.unusedVariables false
set_option maxRecDepth 100000
/-! Layer 8: what boxes are opened to, as a text and an error. -/
def openE (key nonce wth sealed : List UInt8) : List UInt8 × Int :=
  match openR .usl key nonce wth sealed with
  | (.tup [.usl 1 es, .int .i64 e], _) => ((unbyte es).getD [], e)
  | _ => ([], 0)
theorem openE_eq (mk : Nat → List (List AVal) → AVal) (key nonce wth sealed : List UInt8) : openR mk key nonce wth sealed = (.tup [mk 1 ((openE key nonce wth sealed).1.map byteRow), .int .i64 (openE key nonce wth sealed).2], []) := by
  obtain ⟨l, e, h⟩ := openR_cases key nonce wth sealed
  rw [h, openE, h]
  simp [unbyte_map]
theorem openE_le (key nonce wth sealed : List UInt8) : (openE key nonce wth sealed).1.length ≤ sealed.length := by
  have h := openE_eq .usl key nonce wth sealed
  unfold openR at h
  split at h
  · split at h
    · simp only [Prod.mk.injEq, AVal.tup.injEq, List.cons.injEq, AVal.usl.injEq, true_and] at h
      have := congrArg List.length h.1.1; simp at this; omega
    · split at h
      · simp only [Prod.mk.injEq, AVal.tup.injEq, List.cons.injEq, AVal.usl.injEq, true_and] at h
        have := congrArg List.length h.1.1
        simp [xorB_len] at this; omega
      · simp only [Prod.mk.injEq, AVal.tup.injEq, List.cons.injEq, AVal.usl.injEq, true_and] at h
        have := congrArg List.length h.1.1; simp at this; omega
  · simp only [Prod.mk.injEq, AVal.tup.injEq, List.cons.injEq, AVal.usl.injEq, true_and] at h
    have := congrArg List.length h.1.1; simp at this; omega

theorem openE_seal (key nonce wth msg : List UInt8) (hk : key.length = 32) (hn : nonce.length = 12) : openE key nonce wth (sealB key nonce wth msg) = (msg, 0) := by
  rw [openE, open_seal _ _ _ _ _ hk hn]
  simp [unbyte_map]
theorem openE_changed (key nonce wth msg : List UInt8) (hk : key.length = 32) (hn : nonce.length = 12) (i : Nat) (hi : i < 16) (y : UInt8) (hy : y ≠ 0) (hx : msg.length + i < (sealB key nonce wth msg).length) :
    openE key nonce wth ((sealB key nonce wth msg).set (msg.length + i) ((sealB key nonce wth msg)[msg.length + i] ^^^ y)) = ([], 21) := by
  rw [openE, open_changed _ _ _ _ _ hk hn i hi y hy hx]
  simp [unbyte]

end Go.Proofs.YtccfjidpdlfenaaGreatDoor
namespace Go.Proofs.YtccfjidpdlfenaaGreatDoor
open Go.Am
set_option linter.unusedSimpArgs false
set_option linter.unusedVariables false
set_option maxRecDepth 100000
/-! Layer 49: vaults, locked and unlocked. -/
theorem chainR_mem (p : Option It) (l : List It) (h : chainR p l = true) : ∀ x ∈ l, itemR x = true := by
  induction l generalizing p with
  | nil => intro x hx; cases hx
  | cons y l ih =>
    simp only [chainR, Bool.and_eq_true] at h
    intro x hx
    rcases List.mem_cons.1 hx with rfl | hx
    · exact h.1.1
    · exact ih _ h.2 x hx
theorem rightR_le (l : List It) (h : rightR l = true) : l.length ≤ 16 ∧ ∀ x ∈ l, x.k.length ≤ 300 ∧ x.v.length ≤ 300 := by
  simp only [rightR, Bool.and_eq_true, decide_eq_true_eq] at h
  refine ⟨h.2, fun x hx => ?_⟩
  have := chainR_mem _ _ h.1 x hx
  simp only [itemR, keyR, Bool.and_eq_true, decide_eq_true_eq] at this
  omega
theorem vtextB_le (l : List It) (h : rightR l = true) : (vtextB l).length ≤ 10000 := by
  obtain ⟨h1, h2⟩ := rightR_le l h
  have := flat_le l h2
  simp only [vtextB, List.length_cons]
  omega
def nameV : List UInt8 := [118, 97, 117, 108, 116]
@[go_sem] theorem nameV_len : nameV.length = 5 := rfl
theorem nameV_fold : ([118, 97, 117, 108, 116] : List UInt8) = nameV := rfl
def secB (key : List UInt8) : List UInt8 := namedB key nameV
@[go_sem] theorem secB_len (key : List UInt8) : (secB key).length = 32 := namedB_len _ _
def lockB (key : List UInt8) (v : Vt) : List UInt8 := vheadB v ++ sealB (secB key) (nonceB v.n) (vheadB v) (vtextB v.items)
@[go_sem] theorem lockB_len (key : List UInt8) (v : Vt) : (lockB key v).length = v.owner.length + 42 + (vtextB v.items).length := by simp [lockB, vheadB_len, sealB_len]; omega
def vlockR (key : List UInt8) (v : Vt) : List UInt8 × Int := if vrightB v = true then (lockB key v, 0) else ([], 2)

@[go_sem] theorem e29 (key : List UInt8) (hk : key.length ≤ 10000) : fn C 29 [] [.str key] = some (.slice 1 ((secB key).map byteRow), []) := by
  rw [fn_text Tryz.func29 rfl rfl Tryz.results29 fq29.1 rfl rfl (by kernel_rfl)]
  have e := e17 key nameV hk (by decide)
  simp -implicitDefEqProofs -dsimp +contextual (maxSteps := 9999999) (disch := first | omega | simp only [go_sem] <;> omega | refine ib ?_; kernel_rfl) only [go_sem, seval, ↓reduceIte, nameV_fold, e]
  rfl

structure Vt.ok (v : Vt) : Prop where
  n : v.n ≤ 18446744073709551615
  o : v.owner.length ≤ 9223372036854775807
  l : v.items.length ≤ 9223372036854775807
  k : ∀ x ∈ v.items, x.k.length ≤ 9223372036854775807 ∧ x.v.length ≤ 9223372036854775807

set_option maxHeartbeats 4000000 in
@[go_sem] theorem e10 (key : List UInt8) (v : Vt) (hk : key.length ≤ 10000) (hv : v.ok) : fn C 10 [] [.str key, .agg [.str v.owner, .int .u64 (v.n : Int), .slice 4 (v.items.map It.cs)]] = some (.tup [.usl 1 ((vlockR key v).1.map byteRow), .int .i64 (vlockR key v).2], []) := by
  rw [fn_text Tryz.func10 rfl rfl Tryz.results10 fq10.1 rfl rfl (by kernel_rfl)]
  have e0 := e14 v hv.l (fun x hx => (hv.k x hx).1)
  rw [vlockR]
  by_cases h : vrightB v = true
  · have h' := h
    simp only [vrightB, Bool.and_eq_true, decide_eq_true_eq] at h'
    obtain ⟨h1, h2⟩ := rightR_le _ h'.1
    have h3 := vtextB_le _ h'.1
    have e1 := e12 v hv.n (by omega)
    have e2 := e30 v.items (by omega) h2
    have e3 := e16 (secB key) (nonceB v.n) (vheadB v) (vtextB v.items) (by rw [vheadB_len]; omega) (by omega)
    rw [sealR, if_pos ⟨secB_len _, nonceB_len _⟩] at e3
    have e4 := e18 v.n hv.n
    have l := sealB_len (secB key) (nonceB v.n) (vheadB v) (vtextB v.items)
    simp -implicitDefEqProofs -dsimp +contextual (maxSteps := 9999999) (disch := first | omega | simp only [go_sem] <;> omega | refine ib ?_; kernel_rfl) only [go_sem, seval, ↓reduceIte, h, e0, e1, e2, e3, e4, l]
    rfl
  · simp -implicitDefEqProofs -dsimp +contextual (maxSteps := 9999999) (disch := first | omega | simp only [go_sem] <;> omega | refine ib ?_; kernel_rfl) only [go_sem, seval, ↓reduceIte, h, e0]

set_option maxHeartbeats 4000000 in
@[go_sem] theorem e11 (key : List UInt8) (v : Vt) (hk : key.length ≤ 10000) (hv : v.ok) : fn C 11 [] [.str key, .agg [.str v.owner, .int .u64 (v.n : Int), .slice 4 (v.items.map It.cs)]] = some (.tup [.slice 1 ((vlockR key v).1.map byteRow), .int .i64 (vlockR key v).2], []) := by
  rw [fn_text Tryz.func11 rfl rfl Tryz.results11 fq11.1 rfl rfl (by kernel_rfl)]
  have e0 := e15 v hv.l (fun x hx => (hv.k x hx).1)
  rw [vlockR]
  by_cases h : vrightB v = true
  · have h' := h
    simp only [vrightB, Bool.and_eq_true, decide_eq_true_eq] at h'
    obtain ⟨h1, h2⟩ := rightR_le _ h'.1
    have h3 := vtextB_le _ h'.1
    have e1 := e13 v hv.n (by omega)
    have e2 := e34 v.items (by omega) h2
    have e5 : fn C 31 [] [.slice 1 (key.map byteRow), .str nameV] = some (.slice 1 ((secB key).map byteRow), []) := e31 key nameV hk (by decide)
    have e3 := e32 (secB key) (nonceB v.n) (vheadB v) (vtextB v.items) (by rw [vheadB_len]; omega) (by omega)
    rw [sealR, if_pos ⟨secB_len _, nonceB_len _⟩] at e3
    have e4 := e33 v.n hv.n
    have l := sealB_len (secB key) (nonceB v.n) (vheadB v) (vtextB v.items)
    simp -implicitDefEqProofs -dsimp +contextual (maxSteps := 9999999) (disch := first | omega | simp only [go_sem] <;> omega | refine ib ?_; kernel_rfl) only [go_sem, seval, ↓reduceIte, nameV_fold, h, e0, e1, e2, e3, e4, e5, l]
    rfl
  · simp -implicitDefEqProofs -dsimp +contextual (maxSteps := 9999999) (disch := first | omega | simp only [go_sem] <;> omega | refine ib ?_; kernel_rfl) only [go_sem, seval, ↓reduceIte, h, e0]

/-! Items, as they are read. -/
def readIt (s : Rd) : It × Rd :=
  let a := textS s 24
  let b := textS a.2 32
  let c := numS b.2 4
  let d := numS c.2 1
  (⟨a.1, b.1, (c.1 : Int), decide (d.1 = 1)⟩, d.2)
def rdS (s : Rd) : Nat → Rd
  | 0 => s
  | k + 1 => (readIt (rdS s k)).2
def itsS (s : Rd) (k : Nat) : List It := (List.range k).map fun i => (readIt (rdS s i)).1
@[go_sem] theorem itsS_len (s : Rd) (k : Nat) : (itsS s k).length = k := by simp [itsS]
theorem itsS_succ (s : Rd) (k : Nat) : itsS s (k + 1) = itsS s k ++ [(readIt (rdS s k)).1] := by simp [itsS, List.range_succ]
theorem readIt_le (s : Rd) : (readIt s).2.rest.length ≤ s.rest.length := by
  unfold readIt
  have h1 := textS_le s 24
  have h2 := textS_le (textS s 24).2 32
  have h3 := numS_rest (textS (textS s 24).2 32).2 4
  have h4 := numS_rest (numS (textS (textS s 24).2 32).2 4).2 1
  simp only
  omega
theorem rdS_le (s : Rd) (k : Nat) : (rdS s k).rest.length ≤ s.rest.length := by
  induction k with
  | zero => exact Nat.le_refl _
  | succ k ih => exact Nat.le_trans (readIt_le _) ih
theorem textS_most (s : Rd) (k : Nat) : (textS s (k : Int)).1.length ≤ k := by
  unfold textS
  split
  · simp
  · rename_i h
    by_cases hm : (numS s 2).2.met = 0
    · have := rawS_most (numS s 2).2 (numS s 2).1
      have h2 : ¬ (k : Int) < ((numS s 2).1 : Int) := fun h3 => h ⟨hm, h3⟩
      omega
    · unfold rawS; rw [if_neg hm]; simp
theorem readIt_k (s : Rd) : (readIt s).1.k.length ≤ 300 ∧ (readIt s).1.v.length ≤ 300 := by
  unfold readIt
  have h1 := textS_most s 24
  have h2 := textS_most (textS s 24).2 32
  exact ⟨Nat.le_trans h1 (by decide), Nat.le_trans h2 (by decide)⟩
theorem itsS_mem (s : Rd) (k : Nat) : ∀ x ∈ itsS s k, x.k.length ≤ 300 ∧ x.v.length ≤ 300 := by
  intro x hx
  simp only [itsS, List.mem_map, List.mem_range] at hx
  obtain ⟨i, _, rfl⟩ := hx
  exact readIt_k _
theorem readIt_of {B : List UInt8} {s : Rd} (h : RdOf B s) : RdOf B (readIt s).2 := RdOf_num 1 (RdOf_num 4 (RdOf_text 32 (RdOf_text 24 h)))
theorem rdS_of {B : List UInt8} {s : Rd} (h : RdOf B s) (k : Nat) : RdOf B (rdS s k) := by
  induction k with
  | zero => exact h
  | succ k ih => exact readIt_of ih
/-- What is read of a vault's text. -/
def manyS (b : List UInt8) : Nat := (numS (openS b) 1).1
def headI (b : List UInt8) : Rd := (numS (openS b) 1).2
theorem manyS_lt (b : List UInt8) : manyS b < 256 := numS_lt (openS b) 1
def itemsS (b : List UInt8) (most : Nat) : List It := itsS (headI b) (min (manyS b) most)
def itemsOk (b : List UInt8) : Bool := decide (endS (rdS (headI b) (min (manyS b) 16)) = 0) && decide (vtextB (itemsS b 16) = b)

set_option maxHeartbeats 4000000 in
@[go_sem] theorem e47 (b : List UInt8) (hb : b.length ≤ 1000000) : fn C 47 [] [.slice 1 (b.map byteRow)] = some (.tup [.slice 4 ((itemsS b 16).map It.cs), .bool (itemsOk b)], []) := by
  rw [fn_text Tryz.func47 rfl rfl Tryz.results47 fq47.1 rfl rfl (by kernel_rfl)]
  have hm := manyS_lt b
  have r0 : (openS b).rest.length ≤ 1000000 := hb
  unfold manyS at hm
  have hK : (if 16 < (numS (openS b) 1).1 then (16 : Int) else ((numS (openS b) 1).1 : Int)) = ((min (manyS b) 16 : Nat) : Int) := by unfold manyS; split <;> omega
  have hK2 : min (manyS b) 16 ≤ 16 := Nat.min_le_right _ _
  simp -implicitDefEqProofs -dsimp +contextual (maxSteps := 9999999) (disch := first | omega | simp only [go_sem] <;> omega | refine ib ?_; kernel_rfl) only [go_sem, seval, ↓reduceIte, hK]
  unfold itemsOk itemsS
  have hh : (numS (openS b) 1).2 = headI b := rfl
  have hl0 : (headI b).rest.length ≤ 1000000 := Nat.le_trans (numS_rest (openS b) 1) r0
  rw [hh]
  generalize headI b = s0 at *
  generalize min (manyS b) 16 = K at *
  refine kLoop_rec (fun (i : Nat) f H => f 0 = .slice 1 (b.map byteRow) ∧ f 4 = .ptr 111 1 0 0 ∧ f 5 = .int .i64 (K : Int) ∧ f 6 = .osl 116 1 0 16 ∧ f 17 = .int .i64 (K : Int) ∧ f 18 = .int .i64 (i : Int) ∧ H 111 = ⟨1, .live, 2, [[.str (rdS s0 i).rest, .int .i64 (rdS s0 i).met]], false⟩ ∧ H 116 = ⟨1, .live, 4, (itsS s0 i ++ List.replicate (16 - i) zeroIt).map It.cs, true⟩ ∧ i ≤ K) (fun i => K - i) (fun _ => some (.tup [.slice 4 ((itsS s0 K).map It.cs), .bool (decide (endS (rdS s0 K) = 0) && decide (vtextB (itsS s0 K) = b))], [])) ?_ 0 _ _ ?_
  rotate_left
  · refine ⟨rfl, rfl, rfl, rfl, rfl, rfl, ?_, ?_, by omega⟩
    · simp [Heap.set, rdS]
    · simp [Heap.set, itsS, List.replicate, It.cs, zeroIt]
  rintro i f H ⟨f0, f4, f5, f6, f17, f18, H1, H2, hi⟩ ih
  have hle := rdS_le s0 i
  by_cases hl : i < K
  · have r1 := textS_le (rdS s0 i) 24
    have r2 := textS_le (textS (rdS s0 i) 24).2 32
    have r3 := numS_rest (textS (textS (rdS s0 i) 24).2 32).2 4
    have n4 := numS_lt (textS (textS (rdS s0 i) 24).2 32).2 4
    have hlen : (itsS s0 i ++ List.replicate (16 - i) zeroIt).length = 16 := by simp [itsS_len]; omega
    have hset : (itsS s0 i ++ List.replicate (16 - i) zeroIt).set i (readIt (rdS s0 i)).1 = itsS s0 (i + 1) ++ List.replicate (16 - (i + 1)) zeroIt := by
      rw [List.set_append_right _ _ (by rw [itsS_len]; omega), itsS_len, Nat.sub_self, show 16 - i = (16 - (i + 1)) + 1 by omega, List.replicate_succ, List.set_cons_zero, itsS_succ, List.append_assoc]; rfl
    simp -implicitDefEqProofs -dsimp +contextual (maxSteps := 9999999) (disch := first | omega | simp only [go_sem] <;> omega | refine ib ?_; kernel_rfl) only [go_sem, seval, ↓reduceIte, f0, f4, f5, f6, f17, f18, H1, H2, hl, hlen, List.set_set, List.getElem_set_self]
    refine ih (i + 1) _ _ ?_ (by omega)
    refine ⟨f0, f4, f5, f6, f17, rfl, rfl, ?_, by omega⟩
    rw [← hset]
    rfl
  · obtain rfl : i = K := by omega
    have hcut : ((itsS s0 i ++ List.replicate (16 - i) zeroIt).take i) = itsS s0 i := by rw [List.take_append_of_le_length (by rw [itsS_len]; omega), List.take_of_length_le (by rw [itsS_len]; omega)]
    have hlen : (itsS s0 i ++ List.replicate (16 - i) zeroIt).length = 16 := by simp [itsS_len]; omega
    have ht := e30 (itsS s0 i) (by rw [itsS_len]; omega) (itsS_mem s0 i)
    simp -implicitDefEqProofs -dsimp +contextual (maxSteps := 9999999) (disch := first | omega | simp only [go_sem] <;> omega | refine ib ?_; kernel_rfl) only [go_sem, seval, ↓reduceIte, f0, f4, f5, f6, f17, f18, H1, H2, hcut, hlen, ht]
    by_cases he : endS (rdS s0 i) = 0 <;> simp [kD, he]

def zeroV : Vt := ⟨[], 0, []⟩
def unlockR (key b : List UInt8) : Vt × Int :=
  if (peekS b).2.2.2 = 0 then
    let o := openE (secB key) (nonceB (peekS b).2.1) (b.take (peekS b).2.2.1) (b.drop (peekS b).2.2.1)
    if o.2 = 0 then
      if itemsOk o.1 = true then if vrightB ⟨(peekS b).1, (peekS b).2.1, itemsS o.1 16⟩ = true then (⟨(peekS b).1, (peekS b).2.1, itemsS o.1 16⟩, 0) else (zeroV, 11) else (zeroV, 11)
    else (zeroV, o.2)
  else (zeroV, (peekS b).2.2.2)
theorem peekS_le (b : List UInt8) : (peekS b).2.2.1 ≤ b.length ∧ (peekS b).2.1 ≤ 18446744073709551615 ∧ (peekS b).1.length ≤ 16 := by
  unfold peekS
  simp only
  have h := numS_lt (textS (textS (openS b) 14).2 16).2 8
  have h2 := textS_most (textS (openS b) 14).2 16
  split
  · split
    · exact ⟨Nat.sub_le _ _, Nat.le_of_lt_succ h, h2⟩
    · simp
  · simp

set_option maxHeartbeats 4000000 in
@[go_sem] theorem e19 (key b : List UInt8) (hk : key.length ≤ 10000) (hb : b.length ≤ 1000000) : fn C 19 [] [.str key, .slice 1 (b.map byteRow)] = some (.tup [.agg [.str (unlockR key b).1.owner, .int .u64 ((unlockR key b).1.n : Int), .slice 4 ((unlockR key b).1.items.map It.cs)], .int .i64 (unlockR key b).2], []) := by
  rw [fn_text Tryz.func19 rfl rfl Tryz.results19 fq19.1 rfl rfl (by kernel_rfl)]
  obtain ⟨p1, p2, p3⟩ := peekS_le b
  rw [unlockR]
  by_cases h1 : (peekS b).2.2.2 = 0
  · have e0 := e18 (peekS b).2.1 p2
    have e3 := e46 (secB key) (nonceB (peekS b).2.1) (b.take (peekS b).2.2.1) (b.drop (peekS b).2.2.1) (by simp; omega) (by simp; omega)
    rw [openE_eq] at e3
    have ho := openE_le (secB key) (nonceB (peekS b).2.1) (b.take (peekS b).2.2.1) (b.drop (peekS b).2.2.1)
    rw [List.length_drop] at ho
    generalize openE (secB key) (nonceB (peekS b).2.1) (b.take (peekS b).2.2.1) (b.drop (peekS b).2.2.1) = o at *
    have e4 := e47 o.1 (by omega)
    have e5 := e14 ⟨(peekS b).1, (peekS b).2.1, itemsS o.1 16⟩ (by simp [itemsS, itsS_len]; omega) (fun x hx => by have := itsS_mem _ _ x hx; omega)
    simp only at e5
    by_cases h2 : o.2 = 0
    · by_cases h3 : itemsOk o.1 = true
      · by_cases h4 : vrightB ⟨(peekS b).1, (peekS b).2.1, itemsS o.1 16⟩ = true
        · simp -implicitDefEqProofs -dsimp +contextual (maxSteps := 9999999) (disch := first | omega | simp only [go_sem] <;> omega | refine ib ?_; kernel_rfl) only [go_sem, seval, ↓reduceIte, h1, h2, h3, h4, e0, e3, e4, e5]
        · simp -implicitDefEqProofs -dsimp +contextual (maxSteps := 9999999) (disch := first | omega | simp only [go_sem] <;> omega | refine ib ?_; kernel_rfl) only [go_sem, seval, ↓reduceIte, h1, h2, h3, h4, e0, e3, e4, e5]
          rfl
      · simp -implicitDefEqProofs -dsimp +contextual (maxSteps := 9999999) (disch := first | omega | simp only [go_sem] <;> omega | refine ib ?_; kernel_rfl) only [go_sem, seval, ↓reduceIte, h1, h2, h3, e0, e3, e4, e5]
        rfl
    · simp -implicitDefEqProofs -dsimp +contextual (maxSteps := 9999999) (disch := first | omega | simp only [go_sem] <;> omega | refine ib ?_; kernel_rfl) only [go_sem, seval, ↓reduceIte, h1, h2, e0, e3]
      rfl
  · simp -implicitDefEqProofs -dsimp +contextual (maxSteps := 9999999) (disch := first | omega | simp only [go_sem] <;> omega | refine ib ?_; kernel_rfl) only [go_sem, seval, ↓reduceIte, h1]
    rfl

theorem manyS_first (b : List UInt8) (h : 17 ≤ manyS b) : vtextB (itemsS b 16) ≠ b := by
  intro e
  cases b with
  | nil => simp [manyS, numS, rawS, openS, beV] at h
  | cons x l =>
    have hx := u8_lt x
    have hm : manyS (x :: l) = x.toNat := by
      unfold manyS openS
      rw [numS_ok (x :: l) 1 (by simp)]
      simp [beV]
    rw [vtextB] at e
    have h1 := (List.cons.inj e).1
    have h2 : (itemsS (x :: l) 16).length = 16 := by rw [itemsS, itsS_len]; omega
    rw [h2] at h1
    rw [hm, ← h1] at h
    revert h; decide

set_option maxHeartbeats 4000000 in
@[go_sem] theorem e20 (key b : List UInt8) (hk : key.length ≤ 10000) (hb : b.length ≤ 1000000) : fn C 20 [] [.str key, .slice 1 (b.map byteRow)] = some (.tup [.agg [.str (unlockR key b).1.owner, .int .u64 ((unlockR key b).1.n : Int), .slice 4 ((unlockR key b).1.items.map It.cs)], .int .i64 (unlockR key b).2], []) := by
  rw [fn_text Tryz.func20 rfl rfl Tryz.results20 fq20.1 rfl rfl (by kernel_rfl)]
  obtain ⟨p1, p2, p3⟩ := peekS_le b
  have e5 : fn C 31 [] [.slice 1 (key.map byteRow), .str nameV] = some (.slice 1 ((secB key).map byteRow), []) := e31 key nameV hk (by decide)
  have hU : unlockR key b = unlockR key b := rfl
  conv at hU => rhs; rw [unlockR]
  generalize unlockR key b = R at hU ⊢
  by_cases h1 : (peekS b).2.2.2 = 0
  · have e0 := e33 (peekS b).2.1 p2
    have e3 := e48 (secB key) (nonceB (peekS b).2.1) (b.take (peekS b).2.2.1) (b.drop (peekS b).2.2.1) (by simp; omega) (by simp; omega)
    rw [openE_eq] at e3
    have ho := openE_le (secB key) (nonceB (peekS b).2.1) (b.take (peekS b).2.2.1) (b.drop (peekS b).2.2.1)
    rw [List.length_drop] at ho
    generalize openE (secB key) (nonceB (peekS b).2.1) (b.take (peekS b).2.2.1) (b.drop (peekS b).2.2.1) = o at *
    rw [if_pos h1] at hU
    dsimp only at hU
    by_cases h2 : o.2 = 0
    · rw [if_pos h2] at hU
      have hm := manyS_lt o.1
      have hw : IntKind.i64.wrap ((numS (openS o.1) 1).1 : Int) = (manyS o.1 : Int) := by
        have : (numS (openS o.1) 1).1 = manyS o.1 := rfl
        rw [this]; exact wrap_i64_id (by omega) (by omega)
      simp -implicitDefEqProofs -dsimp +contextual (maxSteps := 9999999) (disch := first | omega | simp only [go_sem] <;> omega | refine ib ?_; kernel_rfl) only [go_sem, seval, ↓reduceIte, nameV_fold, h1, h2, e0, e3, e5, hw]
      have hh : (numS (openS o.1) 1).2 = headI o.1 := rfl
      have hd0 : RdOf o.1 (headI o.1) := RdOf_num 1 (RdOf_open _)
      have hl0 : (headI o.1).rest.length ≤ 1000000 := Nat.le_trans (numS_rest (openS o.1) 1) (by simp [openS]; omega)
      rw [hh]
      refine kLoop_rec (fun (i : Nat) f H => f 11 = .slice 1 (o.1.map byteRow) ∧ f 12 = .ptr 149 1 0 0 ∧ f 13 = .int .i64 (manyS o.1 : Int) ∧ f 14 = .ptr 114 1 0 0 ∧ f 15 = .int .i64 (i : Int) ∧ H 149 = ⟨1, .live, 3, [[.slice 1 (o.1.map byteRow), .int .i64 ((atS o.1 (rdS (headI o.1) i) : Nat) : Int), .int .i64 (rdS (headI o.1) i).met]], false⟩ ∧ ((i = 0 ∧ H 114 = ⟨1, .live, 3, [[.str (peekS b).1, .int .u64 ((peekS b).2.1 : Int), .sc (.slice none 0 0)]], false⟩) ∨ ∃ g, H 114 = ⟨1, .live, 3, [[.str (peekS b).1, .int .u64 ((peekS b).2.1 : Int), .osl 184 g 0 i]], false⟩ ∧ H 184 = ⟨g, .live, 4, (itsS (headI o.1) i).map It.cs, false⟩) ∧ f 4 = .ptr 104 1 0 0 ∧ H 104 = ⟨1, .live, 3, [[.str [], .int .u64 0, .sc (.slice none 0 0)]], false⟩ ∧ i ≤ min (manyS o.1) 17) (fun i => min (manyS o.1) 17 - i) (fun _ => some (.tup [.agg [.str R.1.owner, .int .u64 (R.1.n : Int), .slice 4 (R.1.items.map It.cs)], .int .i64 R.2], [])) ?_ 0 _ _ ?_
      rotate_left
      · refine ⟨rfl, rfl, rfl, rfl, rfl, ?_, .inl ⟨rfl, ?_⟩, rfl, ?_, by omega⟩
        · simp [Heap.set, rdS]
        · simp [Heap.set]
        · simp [Heap.set]
      rintro i f H ⟨f11, f12, f13, f14, f15, H1, H2, f4, H4, hi⟩ ih
      have hle := rdS_le (headI o.1) i
      have d0 := rdS_of hd0 i
      by_cases hl : i < min (manyS o.1) 17
      · have d1 := RdOf_text 24 d0
        have d2 := RdOf_text 32 d1
        have d3 := RdOf_num 4 d2
        have n4 := numS_lt (textS (textS (rdS (headI o.1) i) 24).2 32).2 4
        have l1 : i < manyS o.1 := by omega
        have l2 : i < 17 := by omega
        rcases H2 with ⟨rfl, H2⟩ | ⟨g, H2, H3⟩
        · simp -implicitDefEqProofs -dsimp +contextual (maxSteps := 9999999) (disch := first | omega | simp only [go_sem] <;> omega | refine ib ?_; kernel_rfl) only [go_sem, seval, ↓reduceIte, f11, f12, f13, f14, f15, H1, H2, l1, l2, d0, d1, d2, d3]
          refine ih 1 _ _ ?_ (by omega)
          exact ⟨f11, f12, f13, f14, rfl, rfl, .inr ⟨_, rfl, rfl⟩, f4, H4, by omega⟩
        · simp -implicitDefEqProofs -dsimp +contextual (maxSteps := 9999999) (disch := first | omega | simp only [go_sem] <;> omega | refine ib ?_; kernel_rfl) only [go_sem, seval, ↓reduceIte, f11, f12, f13, f14, f15, H1, H2, H3, l1, l2, d0, d1, d2, d3]
          refine ih (i + 1) _ _ ?_ (by omega)
          refine ⟨f11, f12, f13, f14, rfl, rfl, .inr ⟨_, rfl, ?_⟩, f4, H4, by omega⟩
          rw [itsS_succ]; rfl
      · have hx : ∀ x ∈ itsS (headI o.1) i, x.k.length ≤ 300 ∧ x.v.length ≤ 300 := itsS_mem _ _
        have e4 := e34 (itsS (headI o.1) i) (by rw [itsS_len]; omega) hx
        have e6 := e15 ⟨(peekS b).1, (peekS b).2.1, itsS (headI o.1) i⟩ (by simp [itsS_len]; omega) (fun x h => by have := hx x h; omega)
        simp only at e6
        have hvl : (vtextB (itsS (headI o.1) i)).length ≤ 1000000 := by
          have := flat_le _ hx
          rw [itsS_len] at this
          simp only [vtextB, List.length_cons]
          omega
        by_cases h17 : manyS o.1 ≤ 16
        · obtain rfl : i = manyS o.1 := by omega
          have hK : min (manyS o.1) 16 = manyS o.1 := by omega
          have hI : itemsS o.1 16 = itsS (headI o.1) (manyS o.1) := by rw [itemsS, hK]
          rw [itemsOk, hI, hK] at hU
          generalize manyS o.1 = i at *
          have hr : R = if endS (rdS (headI o.1) i) = 0 then (if vtextB (itsS (headI o.1) i) = o.1 then (if vrightB ⟨(peekS b).1, (peekS b).2.1, itsS (headI o.1) i⟩ = true then (⟨(peekS b).1, (peekS b).2.1, itsS (headI o.1) i⟩, 0) else (zeroV, 11)) else (zeroV, 11)) else (zeroV, 11) := by
            rw [hU]
            by_cases q1 : endS (rdS (headI o.1) i) = 0 <;> by_cases q2 : vtextB (itsS (headI o.1) i) = o.1 <;> simp [q1, q2]
          clear hU
          rcases H2 with ⟨rfl, H2⟩ | ⟨g, H2, H3⟩
          · have z0 : itsS (headI o.1) 0 = [] := rfl
            simp only [z0, List.map_nil] at e4 e6 hr
            by_cases q1 : endS (rdS (headI o.1) 0) = 0
            · by_cases q2 : vtextB [] = o.1
              · by_cases q3 : vrightB ⟨(peekS b).1, (peekS b).2.1, []⟩ = true
                · rw [if_pos q1, if_pos q2, if_pos q3] at hr
                  subst hr
                  simp -implicitDefEqProofs -dsimp +contextual (maxSteps := 9999999) (disch := first | omega | simp only [go_sem] <;> omega | refine ib ?_; kernel_rfl) only [go_sem, seval, ↓reduceIte, f11, f12, f13, f14, f15, f4, H4, H1, H2, d0, e4, e6, q1, q2, q3] <;> rfl
                · rw [if_pos q1, if_pos q2, if_neg q3] at hr
                  subst hr
                  simp -implicitDefEqProofs -dsimp +contextual (maxSteps := 9999999) (disch := first | omega | simp only [go_sem] <;> omega | refine ib ?_; kernel_rfl) only [go_sem, seval, ↓reduceIte, f11, f12, f13, f14, f15, f4, H4, H1, H2, d0, e4, e6, q1, q2, q3] <;> rfl
              · rw [if_pos q1, if_neg q2] at hr
                subst hr
                simp -implicitDefEqProofs -dsimp +contextual (maxSteps := 9999999) (disch := first | omega | simp only [go_sem] <;> omega | refine ib ?_; kernel_rfl) only [go_sem, seval, ↓reduceIte, f11, f12, f13, f14, f15, f4, H4, H1, H2, d0, e4, e6, q1, q2] <;> rfl
            · rw [if_neg q1] at hr
              subst hr
              simp -implicitDefEqProofs -dsimp +contextual (maxSteps := 9999999) (disch := first | omega | simp only [go_sem] <;> omega | refine ib ?_; kernel_rfl) only [go_sem, seval, ↓reduceIte, f11, f12, f13, f14, f15, f4, H4, H1, H2, d0, e4, e6, q1] <;> rfl
          · have hii : ¬ i < i := Nat.lt_irrefl i
            by_cases q1 : endS (rdS (headI o.1) i) = 0
            · by_cases q2 : vtextB (itsS (headI o.1) i) = o.1
              · by_cases q3 : vrightB ⟨(peekS b).1, (peekS b).2.1, itsS (headI o.1) i⟩ = true
                · rw [if_pos q1, if_pos q2, if_pos q3] at hr
                  subst hr
                  simp -implicitDefEqProofs -dsimp +contextual (maxSteps := 9999999) (disch := first | omega | simp only [go_sem] <;> omega | refine ib ?_; kernel_rfl) only [go_sem, seval, ↓reduceIte, f11, f12, f13, f14, f15, f4, H4, H1, H2, H3, hii, d0, e4, e6, q1, q2, q3] <;> rfl
                · rw [if_pos q1, if_pos q2, if_neg q3] at hr
                  subst hr
                  simp -implicitDefEqProofs -dsimp +contextual (maxSteps := 9999999) (disch := first | omega | simp only [go_sem] <;> omega | refine ib ?_; kernel_rfl) only [go_sem, seval, ↓reduceIte, f11, f12, f13, f14, f15, f4, H4, H1, H2, H3, hii, d0, e4, e6, q1, q2, q3] <;> rfl
              · rw [if_pos q1, if_neg q2] at hr
                subst hr
                simp -implicitDefEqProofs -dsimp +contextual (maxSteps := 9999999) (disch := first | omega | simp only [go_sem] <;> omega | refine ib ?_; kernel_rfl) only [go_sem, seval, ↓reduceIte, f11, f12, f13, f14, f15, f4, H4, H1, H2, H3, hii, d0, e4, e6, q1, q2] <;> rfl
            · rw [if_neg q1] at hr
              subst hr
              simp -implicitDefEqProofs -dsimp +contextual (maxSteps := 9999999) (disch := first | omega | simp only [go_sem] <;> omega | refine ib ?_; kernel_rfl) only [go_sem, seval, ↓reduceIte, f11, f12, f13, f14, f15, f4, H4, H1, H2, H3, hii, d0, e4, e6, q1] <;> rfl
        · obtain rfl : i = 17 := by omega
          have hno : itemsOk o.1 = false := by
            rw [itemsOk, Bool.and_eq_false_iff]
            exact .inr (decide_eq_false (manyS_first o.1 (by omega)))
          have hnr : vrightB ⟨(peekS b).1, (peekS b).2.1, itsS (headI o.1) 17⟩ = false := by
            simp [vrightB, rightR, itsS_len]
          rw [hno] at hU
          rw [hnr] at e6
          simp only [Bool.false_eq_true, if_false] at hU
          subst hU
          have l1 : 17 ≤ manyS o.1 := by omega
          rcases H2 with ⟨h0, H2⟩ | ⟨g, H2, H3⟩
          · omega
          · by_cases hq : 17 < manyS o.1
            · simp -implicitDefEqProofs -dsimp +contextual (maxSteps := 9999999) (disch := first | omega | simp only [go_sem] <;> omega | refine ib ?_; kernel_rfl) only [go_sem, seval, ↓reduceIte, f11, f12, f13, f14, f15, f4, H4, H1, H2, H3, hq, d0, e4, e6]
              by_cases he : endS (rdS (headI o.1) 17) = 0 <;> simp [kD, he, zeroV]
            · simp -implicitDefEqProofs -dsimp +contextual (maxSteps := 9999999) (disch := first | omega | simp only [go_sem] <;> omega | refine ib ?_; kernel_rfl) only [go_sem, seval, ↓reduceIte, f11, f12, f13, f14, f15, f4, H4, H1, H2, H3, hq, d0, e4, e6]
              by_cases he : endS (rdS (headI o.1) 17) = 0 <;> simp [kD, he, zeroV]
    · rw [if_neg h2] at hU
      subst hU
      simp -implicitDefEqProofs -dsimp +contextual (maxSteps := 9999999) (disch := first | omega | simp only [go_sem] <;> omega | refine ib ?_; kernel_rfl) only [go_sem, seval, ↓reduceIte, nameV_fold, h1, h2, e0, e3, e5]
      rfl
  · rw [if_neg h1] at hU
    subst hU
    simp -implicitDefEqProofs -dsimp +contextual (maxSteps := 9999999) (disch := first | omega | simp only [go_sem] <;> omega | refine ib ?_; kernel_rfl) only [go_sem, seval, ↓reduceIte, h1]
    rfl

end Go.Proofs.YtccfjidpdlfenaaGreatDoor
namespace Go.Proofs.YtccfjidpdlfenaaGreatDoor
open Go.Am
set_option linter.unusedSimpArgs false
set_option linter.unusedVariables false
set_option maxRecDepth 100000
/-! Layer 49: the statements. -/
theorem flat_cons (x : It) (l : List It) : (x :: l).flatMap itB = itB x ++ l.flatMap itB := by simp
theorem readIt_back (x : It) (r : List UInt8) (h : itemR x = true) : readIt ⟨itB x ++ r, 0⟩ = (x, ⟨r, 0⟩) := by
  simp only [itemR, keyR, Bool.and_eq_true, decide_eq_true_eq] at h
  obtain ⟨⟨⟨⟨⟨h1, h2⟩, _⟩, h3⟩, h4⟩, h5⟩ := h
  have e : itB x ++ r = textB x.k ++ (textB x.v ++ (beN 4 (u64V x.n) ++ (beN 1 (goneN x.g) ++ r))) := by simp [itB]
  have hu := u64V_id x.n (by omega) (by omega)
  have b1 := textS_back x.k (textB x.v ++ (beN 4 (u64V x.n) ++ (beN 1 (goneN x.g) ++ r))) 24 h2 (by omega)
  have b2 := textS_back x.v (beN 4 (u64V x.n) ++ (beN 1 (goneN x.g) ++ r)) 32 h3 (by omega)
  have b3 := numS_back 4 (u64V x.n) (beN 1 (goneN x.g) ++ r) (by rw [hu]; omega)
  have b4 := numS_back 1 (goneN x.g) r (by unfold goneN; split <;> decide)
  rw [e, readIt]
  simp only [Int.cast_ofNat_Int] at b1 b2
  simp only [b1, b2, b3, b4]
  obtain ⟨k, v, n, g⟩ := x
  simp only [Prod.mk.injEq, It.mk.injEq, and_true, true_and]
  simp only at hu h4
  refine ⟨by rw [hu]; omega, ?_⟩
  cases g <;> simp [goneN]
theorem rdS_back (l : List It) (h : ∀ x ∈ l, itemR x = true) (r : List UInt8) (i : Nat) (hi : i ≤ l.length) : rdS ⟨l.flatMap itB ++ r, 0⟩ i = ⟨(l.drop i).flatMap itB ++ r, 0⟩ := by
  induction i with
  | zero => rfl
  | succ i ih =>
    rw [rdS, ih (by omega), List.drop_eq_getElem_cons (by omega), flat_cons, List.append_assoc, readIt_back _ _ (h _ (List.getElem_mem _))]
theorem itsS_back (l : List It) (h : ∀ x ∈ l, itemR x = true) (r : List UInt8) : itsS ⟨l.flatMap itB ++ r, 0⟩ l.length = l := by
  apply List.ext_getElem (by simp [itsS_len])
  intro i h1 h2
  simp only [itsS, List.getElem_map, List.getElem_range]
  rw [rdS_back l h r i (by omega), List.drop_eq_getElem_cons h2, flat_cons, List.append_assoc, readIt_back _ _ (h _ (List.getElem_mem _))]
theorem items_back (l : List It) (h : rightR l = true) : itemsS (vtextB l) 16 = l ∧ itemsOk (vtextB l) = true := by
  obtain ⟨h1, _⟩ := rightR_le l h
  have h2 : ∀ x ∈ l, itemR x = true := by
    simp only [rightR, Bool.and_eq_true] at h
    exact chainR_mem _ _ h.1
  have e : numS (openS (vtextB l)) 1 = (l.length, ⟨l.flatMap itB ++ [], 0⟩) := by
    unfold openS
    rw [numS_ok _ 1 (by simp [vtextB])]
    simp [vtextB, beV]; omega
  have hm : manyS (vtextB l) = l.length := by rw [manyS, e]
  have hh : headI (vtextB l) = ⟨l.flatMap itB ++ [], 0⟩ := by rw [headI, e]
  have h3 : itemsS (vtextB l) 16 = l := by rw [itemsS, hm, hh, show min l.length 16 = l.length by omega, itsS_back l h2]
  refine ⟨h3, ?_⟩
  rw [itemsOk, h3, hm, hh, show min l.length 16 = l.length by omega, rdS_back l h2 [] l.length (Nat.le_refl _)]
  simp [endS]
theorem peek_back (key : List UInt8) (v : Vt) (hn : v.n ≤ 18446744073709551615) (ho : v.owner.length ≤ 16) : peekS (lockB key v) = (v.owner, v.n, v.owner.length + 26, 0) := by
  have hl := lockB_len key v
  have e : lockB key v = textB titleV ++ (textB v.owner ++ (beN 8 v.n ++ sealB (secB key) (nonceB v.n) (vheadB v) (vtextB v.items))) := by simp [lockB, vheadB]
  have b1 := textS_back titleV (textB v.owner ++ (beN 8 v.n ++ sealB (secB key) (nonceB v.n) (vheadB v) (vtextB v.items))) 14 (by decide) (by decide)
  have b2 := textS_back v.owner (beN 8 v.n ++ sealB (secB key) (nonceB v.n) (vheadB v) (vtextB v.items)) 16 ho (by omega)
  have b3 := numS_back 8 v.n (sealB (secB key) (nonceB v.n) (vheadB v) (vtextB v.items)) (by omega)
  simp only [Int.cast_ofNat_Int] at b1 b2
  unfold peekS openS
  rw [e] at hl ⊢
  simp only [b1, b2, b3, if_true, Prod.mk.injEq, true_and, and_true]
  unfold atS
  rw [hl, sealB_len]
  omega
theorem unlock_lock (key : List UInt8) (v : Vt) (hn : v.n ≤ 18446744073709551615) (h : vrightB v = true) : unlockR key (lockB key v) = (v, 0) := by
  have h' := h
  simp only [vrightB, Bool.and_eq_true, decide_eq_true_eq] at h'
  obtain ⟨i1, i2⟩ := items_back v.items h'.1
  have e1 : (lockB key v).take (v.owner.length + 26) = vheadB v := take_pre _ _ _ (vheadB_len v)
  have e2 : (lockB key v).drop (v.owner.length + 26) = sealB (secB key) (nonceB v.n) (vheadB v) (vtextB v.items) := drop_pre _ _ _ (vheadB_len v)
  rw [unlockR, peek_back key v hn h'.2]
  simp only [if_true, e1, e2, openE_seal _ _ _ _ (secB_len _) (nonceB_len _), i1, i2]
  rw [if_pos h]

def key3 : List UInt8 := [107, 101, 121]
theorem key3_fold : ([107, 101, 121] : List UInt8) = key3 := rfl
def it1 : It := ⟨[107], [118], 3, false⟩
def v1 : Vt := ⟨[97], 5, [it1]⟩
def v0 : Vt := ⟨[], 0, []⟩
theorem v1_right : vrightB v1 = true := by decide
theorem v0_right : vrightB v0 = true := by decide
theorem v1_ok : v1.ok := ⟨by decide, by decide, by decide, by intro x hx; simp [v1] at hx; subst hx; decide⟩
theorem v0_ok : v0.ok := ⟨by decide, by decide, by decide, by intro x hx; simp [v0] at hx⟩
theorem unlock_nil (key : List UInt8) : unlockR key [] = (zeroV, 10) := by
  have h : peekS [] = ([], 0, 0, 10) := by decide
  rw [unlockR, h]
  rfl

set_option maxHeartbeats 4000000 in
@[go_sem] theorem e9 : fn C 9 [] [] = some (.bool true, []) := by
  rw [fn_text Tryz.func9 rfl rfl Tryz.results9 fq9.1 rfl rfl (by kernel_rfl)]
  have e1 : fn C 10 [] [.str key3, .agg [.str [97], .int .u64 5, .slice 4 [[.str [107], .str [118], .int .i64 3, .bool false]]]] = some (.tup [.usl 1 ((lockB key3 v1).map byteRow), .int .i64 0], []) := by
    have h := e10 key3 v1 (by decide) v1_ok
    rw [vlockR, if_pos v1_right] at h
    exact h
  have e2 : fn C 19 [] [.str key3, .slice 1 ((lockB key3 v1).map byteRow)] = some (.tup [.agg [.str [97], .int .u64 5, .slice 4 [[.str [107], .str [118], .int .i64 3, .bool false]]], .int .i64 0], []) := by
    have h := e19 key3 (lockB key3 v1) (by decide) (by rw [lockB_len]; decide)
    rw [unlock_lock key3 v1 (by decide) v1_right] at h
    exact h
  have e3 : fn C 10 [] [.str key3, .agg [.str [], .int .u64 0, .slice 4 []]] = some (.tup [.usl 1 ((lockB key3 v0).map byteRow), .int .i64 0], []) := by
    have h := e10 key3 v0 (by decide) v0_ok
    rw [vlockR, if_pos v0_right] at h
    exact h
  have e4 : fn C 19 [] [.str key3, .slice 1 []] = some (.tup [.agg [.str [], .int .u64 0, .slice 4 []], .int .i64 10], []) := by
    have h := e19 key3 [] (by decide) (by decide)
    rw [unlock_nil] at h
    exact h
  have e5 : fn C 21 [] [.slice 4 [[.str [107], .str [118], .int .i64 3, .bool false]], .slice 4 [[.str [107], .str [118], .int .i64 3, .bool false]]] = some (.bool true, []) := by
    have h := e21 [it1] [it1] (by decide)
    rw [decide_eq_true rfl] at h
    exact h
  have hl : (lockB key3 v0).length = 43 := by rw [lockB_len]; rfl
  have hl2 : (lockB key3 v1).length = 55 := by rw [lockB_len]; rfl
  simp -implicitDefEqProofs -dsimp +contextual (maxSteps := 9999999) (disch := first | omega | simp only [go_sem] <;> omega | refine ib ?_; kernel_rfl) only [go_sem, seval, ↓reduceIte, key3_fold, e1, e2, e3, e4, e5, hl, hl2]

theorem lock_le (key : List UInt8) (v : Vt) : (vlockR key v).1.length ≤ 20000 := by
  unfold vlockR
  split
  · rename_i h
    simp only [vrightB, Bool.and_eq_true, decide_eq_true_eq] at h
    have := vtextB_le _ h.1
    simp only [lockB_len]; omega
  · simp

set_option maxHeartbeats 4000000 in
@[go_sem] theorem e3 (key : List UInt8) (v : Vt) (hk : key.length ≤ 9223372036854775807) (hv : v.ok) : fn C 3 [] [.str key, .agg [.str v.owner, .int .u64 (v.n : Int), .slice 4 (v.items.map It.cs)]] = some (.bool true, []) := by
  rw [fn_text Tryz.func3 rfl rfl Tryz.results3 fq3.1 rfl rfl (by kernel_rfl)]
  have h1 := hv.n
  have h2 := hv.o
  have eg := e8 v.items hv.l hv.k
  by_cases g1 : 300 < key.length
  · simp -implicitDefEqProofs -dsimp +contextual (maxSteps := 9999999) (disch := first | omega | simp only [go_sem] <;> omega | refine ib ?_; kernel_rfl) only [go_sem, seval, ↓reduceIte, g1]
  by_cases g2 : 300 < v.owner.length
  · simp -implicitDefEqProofs -dsimp +contextual (maxSteps := 9999999) (disch := first | omega | simp only [go_sem] <;> omega | refine ib ?_; kernel_rfl) only [go_sem, seval, ↓reduceIte, g1, g2]
  by_cases g3 : greatR v.items = true
  · simp -implicitDefEqProofs -dsimp +contextual (maxSteps := 9999999) (disch := first | omega | simp only [go_sem] <;> omega | refine ib ?_; kernel_rfl) only [go_sem, seval, ↓reduceIte, g1, g2, eg, g3]
  have hk2 : ∀ x ∈ v.items, x.k.length ≤ 9223372036854775807 := fun x hx => (hv.k x hx).1
  have e1 := e10 key v (by omega) hv
  have e2 := e11 key v (by omega) hv
  have e3 := e12 v hv.n (by omega)
  have e4 := e13 v hv.n (by omega)
  have e5 := e14 v hv.l hk2
  have e6 := e15 v hv.l hk2
  have l1 := lock_le key v
  have l2 := vheadB_len v
  simp -implicitDefEqProofs -dsimp +contextual (maxSteps := 9999999) (disch := first | omega | simp only [go_sem] <;> omega | refine ib ?_; kernel_rfl) only [go_sem, seval, ↓reduceIte, g1, g2, eg, g3, e1, e2, e3, e4, e5, e6, l2]

theorem unlock_le (key b : List UInt8) : (unlockR key b).1.items.length ≤ 16 := by
  unfold unlockR
  split
  · dsimp only
    split
    · split
      · split
        · simp [itemsS, itsS_len]; omega
        · simp [zeroV]
      · simp [zeroV]
    · simp [zeroV]
  · simp [zeroV]

set_option maxHeartbeats 4000000 in
@[go_sem] theorem e5 (key b : List UInt8) (hk : key.length ≤ 9223372036854775807) (hb : b.length ≤ 9223372036854775807) : fn C 5 [] [.str key, .slice 1 (b.map byteRow)] = some (.bool true, []) := by
  rw [fn_text Tryz.func5 rfl rfl Tryz.results5 fq5.1 rfl rfl (by kernel_rfl)]
  by_cases g1 : 300 < key.length
  · simp -implicitDefEqProofs -dsimp +contextual (maxSteps := 9999999) (disch := first | omega | simp only [go_sem] <;> omega | refine ib ?_; kernel_rfl) only [go_sem, seval, ↓reduceIte, g1]
  by_cases g2 : 2000 < b.length
  · simp -implicitDefEqProofs -dsimp +contextual (maxSteps := 9999999) (disch := first | omega | simp only [go_sem] <;> omega | refine ib ?_; kernel_rfl) only [go_sem, seval, ↓reduceIte, g1, g2]
  have e1 := e19 key b (by omega) (by omega)
  have e2 := e20 key b (by omega) (by omega)
  have e3 := e22 b (by omega)
  have e4 := e23 b (by omega)
  have e5 := e21 (unlockR key b).1.items (unlockR key b).1.items (by have := unlock_le key b; omega)
  simp -implicitDefEqProofs -dsimp +contextual (maxSteps := 9999999) (disch := first | omega | simp only [go_sem] <;> omega | refine ib ?_; kernel_rfl) only [go_sem, seval, ↓reduceIte, g1, g2, e1, e2, e3, e4, e5]

set_option maxHeartbeats 4000000 in
@[go_sem] theorem e4 (key owner : List UInt8) (n : Nat) (text : List UInt8) (hn : n ≤ 18446744073709551615) (hk : key.length ≤ 9223372036854775807) (ho : owner.length ≤ 9223372036854775807) (hb : text.length ≤ 9223372036854775807) : fn C 4 [] [.str key, .str owner, .int .u64 (n : Int), .slice 1 (text.map byteRow)] = some (.bool true, []) := by
  rw [fn_text Tryz.func4 rfl rfl Tryz.results4 fq4.1 rfl rfl (by kernel_rfl)]
  by_cases g1 : 300 < key.length
  · simp -implicitDefEqProofs -dsimp +contextual (maxSteps := 9999999) (disch := first | omega | simp only [go_sem] <;> omega | refine ib ?_; kernel_rfl) only [go_sem, seval, ↓reduceIte, g1]
  by_cases g2 : 16 < owner.length
  · simp -implicitDefEqProofs -dsimp +contextual (maxSteps := 9999999) (disch := first | omega | simp only [go_sem] <;> omega | refine ib ?_; kernel_rfl) only [go_sem, seval, ↓reduceIte, g1, g2]
  by_cases g3 : 1500 < text.length
  · simp -implicitDefEqProofs -dsimp +contextual (maxSteps := 9999999) (disch := first | omega | simp only [go_sem] <;> omega | refine ib ?_; kernel_rfl) only [go_sem, seval, ↓reduceIte, g1, g2, g3]
  have e1 := e12 ⟨owner, n, []⟩ hn (by simp only; omega)
  simp only [List.map_nil] at e1
  have e2 : fn C 17 [] [.slice 1 (key.map byteRow), .str nameV] = some (.slice 1 ((secB key).map byteRow), []) := e17 key nameV (by omega) (by decide)
  have e3 := e18 n hn
  have l2 := vheadB_len ⟨owner, n, []⟩
  simp only at l2
  have e4 := e16 (secB key) (nonceB n) (vheadB ⟨owner, n, []⟩) text (by rw [l2]; omega) (by omega)
  rw [sealR, if_pos ⟨secB_len _, nonceB_len _⟩] at e4
  have l3 := sealB_len (secB key) (nonceB n) (vheadB ⟨owner, n, []⟩) text
  generalize hb : vheadB ⟨owner, n, []⟩ ++ sealB (secB key) (nonceB n) (vheadB ⟨owner, n, []⟩) text = b
  have hbe : b.length = owner.length + 26 + (text.length + 16) := by rw [← hb, List.length_append, l2, l3]
  have hbl : b.length ≤ 2000 := by omega
  have e5 := e19 key b (by omega) (by omega)
  have e6 := e20 key b (by omega) (by omega)
  have e7 := e21 (unlockR key b).1.items (unlockR key b).1.items (by have := unlock_le key b; omega)
  simp -implicitDefEqProofs -dsimp +contextual (maxSteps := 9999999) (disch := first | omega | simp only [go_sem] <;> omega | refine ib ?_; kernel_rfl) only [go_sem, seval, ↓reduceIte, nameV_fold, g1, g2, g3, e1, e2, e3, e4, l2, l3, hb, e5, e6, e7]
end Go.Proofs.YtccfjidpdlfenaaGreatDoor
