import Derived.Test.YtnpkhdjgedeppaaGreatDoorTOwnconcat
import Derived.Lib.ItoaLen
namespace Go.Proofs.YtnpkhdjgedeppaaGreatDoor
set_option maxHeartbeats 64000000
open Go.Am
set_option linter.unusedSimpArgs false
set_option linter.unusedVariables false
set_option maxRecDepth 100000
def H0 : S8 := ⟨1779033703, 3144134277, 1013904242, 2773480762, 1359893119, 2600822924, 528734635, 1541459225⟩
theorem H0_w : [AVal.int .u32 1779033703, .int .u32 3144134277, .int .u32 1013904242, .int .u32 2773480762, .int .u32 1359893119, .int .u32 2600822924, .int .u32 528734635, .int .u32 1541459225] = H0.l.map w32 := by kernel_rfl
@[go_sem] theorem S8_len (s : S8) : s.l.length = 8 := rfl
def stS (all : List UInt8) : Nat → S8
  | 0 => H0
  | i + 1 => blockS (stS all i) ((all.drop (64 * i)).take 64)
def be8 (x : UInt32) : List UInt8 := [(W32.shr x 24).toUInt8, (W32.shr x 16).toUInt8, (W32.shr x 8).toUInt8, x.toUInt8]
def outS (s : S8) : List UInt8 := s.l.flatMap be8
def allB (b : List UInt8) : List UInt8 := b ++ padD b.length
def sumB (b : List UInt8) : List UInt8 := outS (stS (allB b) ((allB b).length / 64))
theorem padD_len (n : Nat) : (padD n).length = (119 - n % 64) % 64 + 9 := by simp [padD, beN_len]
theorem allB_len (b : List UInt8) : (allB b).length = b.length + ((119 - b.length % 64) % 64 + 9) := by rw [allB, List.length_append, padD_len]
theorem allB_mod (b : List UInt8) : (allB b).length % 64 = 0 := by rw [allB_len]; omega
@[go_sem] theorem e264 : fn C 264 [] [] = some (.agg (H0.l.map w32), []) := by
  rw [fn_text Tryz.func264 rfl rfl Tryz.results264 fq264.1 rfl rfl (by kernel_rfl)]
  simp -implicitDefEqProofs -dsimp +contextual (maxSteps := 5000000) (disch := first | omega | simp only [go_sem] <;> omega | refine ib ?_; kernel_rfl) only [go_sem, Nat.reduceBEq, Int.reduceNeg, Int.reduceLT, Int.reduceLE, Int.reduceAdd, Int.reduceSub, Int.reduceToNat, Int.reduceMul, Int.reduceMod, Int.reduceTMod, Int.reduceTDiv, Int.reduceEq, Nat.reducePow, Nat.reduceDiv, Nat.reduceShiftRight, Nat.reduceMod, List.reduceReplicate, ↓reduceIte, Nat.reduceEqDiff, Nat.reduceAdd, Nat.reduceSub, Nat.reduceLeDiff, Nat.reduceLT, Nat.reduceMul, H0_w]
attribute [local irreducible] blockS padD
@[go_sem] theorem e239 (b : List UInt8) (h : b.length ≤ 1000000) : fn C 239 [] [.slice 1 (b.map byteRow)] = some (.slice 1 ((sumB b).map byteRow), []) := by
  rw [fn_text Tryz.func239 rfl rfl Tryz.results239 fq239.1 rfl rfl (by kernel_rfl)]
  have hp := padD_len b.length
  simp -implicitDefEqProofs -dsimp +contextual (maxSteps := 5000000) (disch := first | omega | simp only [go_sem] <;> omega | refine ib ?_; kernel_rfl) only [go_sem, Nat.reduceBEq, Int.reduceNeg, Int.reduceLT, Int.reduceLE, Int.reduceAdd, Int.reduceSub, Int.reduceToNat, Int.reduceMul, Int.reduceMod, Int.reduceTMod, Int.reduceTDiv, Int.reduceEq, Nat.reducePow, Nat.reduceDiv, Nat.reduceShiftRight, Nat.reduceMod, List.reduceReplicate, ↓reduceIte, Nat.reduceEqDiff, Nat.reduceAdd, Nat.reduceSub, Nat.reduceLeDiff, Nat.reduceLT, Nat.reduceMul, h, hp]
  have hmod := allB_mod b
  have hAl := allB_len b
  rw [show b ++ padD b.length = allB b from rfl, sumB]
  generalize hA : allB b = A at *
  have hAm : A.length ≤ 1001000 := by omega
  obtain ⟨m, hm⟩ : ∃ m, A.length = 64 * m := ⟨A.length / 64, by omega⟩
  rw [show A.length / 64 = m by omega]
  refine (kLoop_rec (fun (i : Nat) f H => f 3 = .slice 1 (A.map byteRow) ∧ f 4 = .ptr 104 1 0 0 ∧ f 5 = .int .i64 ((64 * i : Nat) : Int) ∧ H 104 = ⟨1, .live, 8, [(stS A i).l.map w32], false⟩ ∧ (H 148).gen = 0 ∧ i ≤ m) (fun i => m - i) (fun _ => some (.slice 1 ((outS (stS A m)).map byteRow), [])) ?_ 0 _ _ ⟨rfl, rfl, rfl, rfl, rfl, by omega⟩)
  rintro i f H ⟨f3, f4, f5, H4, g, hi⟩ ih
  by_cases hl : 64 * i + 64 ≤ A.length
  · simp -implicitDefEqProofs -dsimp +contextual (maxSteps := 5000000) (disch := first | omega | simp only [go_sem] <;> omega | refine ib ?_; kernel_rfl) only [go_sem, Nat.reduceBEq, Int.reduceNeg, Int.reduceLT, Int.reduceLE, Int.reduceAdd, Int.reduceSub, Int.reduceToNat, Int.reduceMul, Int.reduceMod, Int.reduceTMod, Int.reduceTDiv, Int.reduceEq, Nat.reducePow, Nat.reduceDiv, Nat.reduceShiftRight, Nat.reduceMod, List.reduceReplicate, ↓reduceIte, Nat.reduceEqDiff, Nat.reduceAdd, Nat.reduceSub, Nat.reduceLeDiff, Nat.reduceLT, Nat.reduceMul, f3, f4, f5, H4, g, hl]
    refine ih (i + 1) _ _ ⟨f3, f4, by simp only [upd, if_true]; congr 1, ?_, g, by omega⟩ (by omega)
    rw [stS, show 64 * i + 64 - 64 * i = 64 by omega]
    rfl
  · obtain rfl : i = m := by omega
    simp -implicitDefEqProofs -dsimp +contextual (maxSteps := 5000000) (disch := first | omega | simp only [go_sem] <;> omega | refine ib ?_; kernel_rfl) only [go_sem, Nat.reduceBEq, Int.reduceNeg, Int.reduceLT, Int.reduceLE, Int.reduceAdd, Int.reduceSub, Int.reduceToNat, Int.reduceMul, Int.reduceMod, Int.reduceTMod, Int.reduceTDiv, Int.reduceEq, Nat.reducePow, Nat.reduceDiv, Nat.reduceShiftRight, Nat.reduceMod, List.reduceReplicate, ↓reduceIte, Nat.reduceEqDiff, Nat.reduceAdd, Nat.reduceSub, Nat.reduceLeDiff, Nat.reduceLT, Nat.reduceMul, f3, f4, f5, H4, g, hl]
    generalize stS A i = s
    have hsl : s.l.map w32 = [.int .u32 (s.a.toNat : Int), .int .u32 (s.b.toNat : Int), .int .u32 (s.c.toNat : Int), .int .u32 (s.d.toNat : Int), .int .u32 (s.e.toNat : Int), .int .u32 (s.f.toNat : Int), .int .u32 (s.g.toNat : Int), .int .u32 (s.h.toNat : Int)] := rfl
    rw [hsl]
    simp -implicitDefEqProofs -dsimp +contextual (maxSteps := 5000000) (disch := first | omega | simp only [go_sem] <;> omega | refine ib ?_; kernel_rfl) only [go_sem, Nat.reduceBEq, Int.reduceNeg, Int.reduceLT, Int.reduceLE, Int.reduceAdd, Int.reduceSub, Int.reduceToNat, Int.reduceMul, Int.reduceMod, Int.reduceTMod, Int.reduceTDiv, Int.reduceEq, Nat.reducePow, Nat.reduceDiv, Nat.reduceShiftRight, Nat.reduceMod, List.reduceReplicate, ↓reduceIte, Nat.reduceEqDiff, Nat.reduceAdd, Nat.reduceSub, Nat.reduceLeDiff, Nat.reduceLT, Nat.reduceMul, kLoop_eq, f3, H4, g]
    rfl
@[go_sem] theorem sumB_len (b : List UInt8) : (sumB b).length = 32 := by rw [sumB]; rfl
end Go.Proofs.YtnpkhdjgedeppaaGreatDoor
namespace Go.Proofs.YtnpkhdjgedeppaaGreatDoor
set_option maxHeartbeats 64000000
open Go.Am
set_option linter.unusedSimpArgs false
set_option linter.unusedVariables false
set_option maxRecDepth 100000
attribute [local irreducible] sumB
def idB (b : List UInt8) : Nat := beV ((sumB b).take 8)
@[go_sem] theorem e190 (b : List UInt8) (h : b.length ≤ 1000000) : fn C 190 [] [.slice 1 (b.map byteRow)] = some (.int .u64 (idB b : Int), []) := by
  rw [fn_text Tryz.func190 rfl rfl Tryz.results190 fq190.1 rfl rfl (by kernel_rfl)]
  have hl := sumB_len b
  simp -implicitDefEqProofs -dsimp +contextual (maxSteps := 5000000) (disch := first | omega | simp only [go_sem] <;> omega | refine ib ?_; kernel_rfl) only [go_sem, Nat.reduceBEq, Int.reduceNeg, Int.reduceLT, Int.reduceLE, Int.reduceAdd, Int.reduceSub, Int.reduceToNat, Int.reduceMul, Int.reduceMod, Int.reduceTMod, Int.reduceTDiv, Int.reduceEq, Nat.reducePow, Nat.reduceDiv, Nat.reduceShiftRight, Nat.reduceMod, List.reduceReplicate, ↓reduceIte, Nat.reduceEqDiff, Nat.reduceAdd, Nat.reduceSub, Nat.reduceLeDiff, Nat.reduceLT, Nat.reduceMul, h, hl]
  generalize hm : (sumB b).take 8 = m
  have h8 : m.length = 8 := by rw [← hm, List.length_take, hl]; rfl
  rw [idB, hm]
  refine (kLoop_rec (fun (i : Nat) f H => f 3 = .int .u64 (beV (m.take i) : Int) ∧ f 8 = .slice 1 (m.map byteRow) ∧ f 9 = .int .i64 8 ∧ f 10 = .int .i64 (i : Int) ∧ i ≤ 8) (fun i => 8 - i) (fun _ => some (.int .u64 (beV m : Int), [])) ?_ 0 _ _ ⟨rfl, rfl, rfl, rfl, by omega⟩)
  rintro i f H ⟨f3, f8, f9, f10, hi⟩ ih
  by_cases hl : i < 8
  · have hb := beV_lt (m.take i)
    have h7 : beV (m.take i) < 72057594037927936 := Nat.lt_of_lt_of_le hb (by
      rw [List.length_take, Nat.min_eq_left (by omega)]
      exact Nat.le_trans (Nat.pow_le_pow_right (by decide) (show i ≤ 7 by omega)) (by decide))
    have hc := u8_lt (m[i]'(by omega))
    have ht := beV_take m i (by omega)
    simp -implicitDefEqProofs -dsimp +contextual (maxSteps := 5000000) (disch := first | omega | simp only [go_sem] <;> omega | refine ib ?_; kernel_rfl) only [go_sem, Nat.reduceBEq, Int.reduceNeg, Int.reduceLT, Int.reduceLE, Int.reduceAdd, Int.reduceSub, Int.reduceToNat, Int.reduceMul, Int.reduceMod, Int.reduceTMod, Int.reduceTDiv, Int.reduceEq, Nat.reducePow, Nat.reduceDiv, Nat.reduceShiftRight, Nat.reduceMod, List.reduceReplicate, ↓reduceIte, Nat.reduceEqDiff, Nat.reduceAdd, Nat.reduceSub, Nat.reduceLeDiff, Nat.reduceLT, Nat.reduceMul, f3, f8, f9, f10, hl, h8, u64_shl8, u64_or8, UInt8.toNat_toUInt64]
    rw [← ht]
    exact ih (i + 1) _ _ ⟨rfl, f8, f9, rfl, by omega⟩ (by omega)
  · obtain rfl : i = 8 := by omega
    rw [List.take_of_length_le (by omega)] at f3
    simp -implicitDefEqProofs -dsimp +contextual (maxSteps := 5000000) (disch := first | omega | simp only [go_sem] <;> omega | refine ib ?_; kernel_rfl) only [go_sem, Nat.reduceBEq, Int.reduceNeg, Int.reduceLT, Int.reduceLE, Int.reduceAdd, Int.reduceSub, Int.reduceToNat, Int.reduceMul, Int.reduceMod, Int.reduceTMod, Int.reduceTDiv, Int.reduceEq, Nat.reducePow, Nat.reduceDiv, Nat.reduceShiftRight, Nat.reduceMod, List.reduceReplicate, ↓reduceIte, Nat.reduceEqDiff, Nat.reduceAdd, Nat.reduceSub, Nat.reduceLeDiff, Nat.reduceLT, Nat.reduceMul, f3, f8, f9, f10, hl, h8]
def keyS : List UInt8 := [107, 101, 121, 32]
@[go_sem] theorem e129 (b : List UInt8) (h : b.length ≤ 10000) : fn C 129 [] [.str b] = some (.int .u64 (idB (keyS ++ b) : Int), []) := by
  rw [fn_text Tryz.func129 rfl rfl Tryz.results129 fq129.1 rfl rfl (by kernel_rfl)]
  have e : fn C 190 [] [.slice 1 ([.int .u8 (UInt8.toNat 107 : Int)] :: [.int .u8 (UInt8.toNat 101 : Int)] :: [.int .u8 (UInt8.toNat 121 : Int)] :: [.int .u8 (UInt8.toNat 32 : Int)] :: b.map byteRow)] = some (.int .u64 (idB (keyS ++ b) : Int), []) := e190 (keyS ++ b) (by simp [keyS]; omega)
  simp -implicitDefEqProofs -dsimp +contextual (maxSteps := 5000000) (disch := first | omega | simp only [go_sem] <;> omega | refine ib ?_; kernel_rfl) only [go_sem, Nat.reduceBEq, Int.reduceNeg, Int.reduceLT, Int.reduceLE, Int.reduceAdd, Int.reduceSub, Int.reduceToNat, Int.reduceMul, Int.reduceMod, Int.reduceTMod, Int.reduceTDiv, Int.reduceEq, Nat.reducePow, Nat.reduceDiv, Nat.reduceShiftRight, Nat.reduceMod, List.reduceReplicate, ↓reduceIte, Nat.reduceEqDiff, Nat.reduceAdd, Nat.reduceSub, Nat.reduceLeDiff, Nat.reduceLT, Nat.reduceMul, e]
end Go.Proofs.YtnpkhdjgedeppaaGreatDoor
namespace Go.Proofs.YtnpkhdjgedeppaaGreatDoor
set_option maxHeartbeats 64000000
open Go.Am
set_option linter.unusedSimpArgs false
set_option linter.unusedVariables false
set_option maxRecDepth 100000
def distR (a b : Nat) : Nat := (b + 18446744073709551616 - a) % 18446744073709551616
@[go_sem] theorem e158 (a b : Nat) (ha : a ≤ 18446744073709551615) (hb : b ≤ 18446744073709551615) : fn C 158 [] [.int .u64 (a : Int), .int .u64 (b : Int)] = some (.int .u64 (distR a b : Int), []) := by
  rw [fn_text Tryz.func158 rfl rfl Tryz.results158 fq158.1 rfl rfl (by kernel_rfl)]
  simp -implicitDefEqProofs -dsimp +contextual (maxSteps := 9999999) (disch := first | omega | simp only [go_sem] <;> omega | refine ib ?_; kernel_rfl) only [go_sem, seval, ↓reduceIte]
  rw [show IntKind.u64.wrap ((b : Int) - a) = ((distR a b : Nat) : Int) by rw [IntKind.wrap_u64, distR]; omega]
end Go.Proofs.YtnpkhdjgedeppaaGreatDoor
namespace Go.Proofs.YtnpkhdjgedeppaaGreatDoor
set_option maxHeartbeats 64000000
open Go.Am
set_option linter.unusedSimpArgs false
set_option linter.unusedVariables false
set_option maxRecDepth 100000
attribute [local irreducible] sumB idB
theorem idB_lt (l : List UInt8) : idB l ≤ 18446744073709551615 := by
  have h := beV_lt ((sumB l).take 8)
  have h8 : ((sumB l).take 8).length = 8 := by rw [List.length_take, sumB_len]; rfl
  rw [h8] at h
  unfold idB
  omega
end Go.Proofs.YtnpkhdjgedeppaaGreatDoor
namespace Go.Proofs.YtnpkhdjgedeppaaGreatDoor
set_option maxHeartbeats 64000000
open Go.Am
set_option linter.unusedSimpArgs false
set_option linter.unusedVariables false
set_option maxRecDepth 100000
@[go_sem] theorem e267 (a b : List UInt8) (h : a.length + b.length ≤ 1000000) : fn C 267 [] [.slice 1 (a.map byteRow), .slice 1 (b.map byteRow)] = some (.slice 1 ((sumB (a ++ b)).map byteRow), []) := by
  rw [fn_text Tryz.func267 rfl rfl Tryz.results267 fq267.1 rfl rfl (by kernel_rfl)]
  simp -implicitDefEqProofs -dsimp +contextual (maxSteps := 9999999) (disch := first | omega | simp only [go_sem] <;> omega | refine ib ?_; kernel_rfl) only [go_sem, seval, ↓reduceIte]
def keyB (k : List UInt8) : List UInt8 := (if 64 < k.length then sumB k else k) ++ List.replicate (64 - (if 64 < k.length then sumB k else k).length) 0
@[go_sem] theorem keyB_len (k : List UInt8) : (keyB k).length = 64 := by
  unfold keyB; split
  · simp [sumB_len]
  · simp; omega
def xorK (k : List UInt8) (y : UInt8) : List UInt8 := k.map (· ^^^ y)
@[go_sem] theorem xorK_len (k : List UInt8) (y : UInt8) : (xorK k y).length = k.length := by simp [xorK]
theorem xorK_take (k : List UInt8) (y : UInt8) (i : Nat) (h : i < k.length) : (xorK k y).take (i + 1) = (xorK k y).take i ++ [k[i] ^^^ y] := by
  rw [List.take_succ_eq_append_getElem (by rw [xorK_len]; exact h)]; simp [xorK]
def macB (k m : List UInt8) : List UInt8 := sumB (xorK (keyB k) 92 ++ sumB (xorK (keyB k) 54 ++ m))
@[go_sem] theorem macB_len (k m : List UInt8) : (macB k m).length = 32 := sumB_len _
theorem keyB_short (k : List UInt8) (h : ¬ 64 < k.length) : keyB k = k ++ List.replicate (64 - k.length) 0 := by simp [keyB, h]
theorem keyB_long (k : List UInt8) (h : 64 < k.length) : keyB k = sumB k ++ List.replicate 32 0 := by simp [keyB, h, sumB_len]
theorem turn_get (k : List UInt8) (y : UInt8) (i : Nat) (h : i < k.length) : ((xorK k y).take i ++ k.drop i)[i]'(by simp [xorK_len]; omega) = k[i] := by
  rw [List.getElem_append_right (by simp [xorK_len]; omega)]
  simp [xorK_len, show min i k.length = i by omega]
theorem turn_len (k : List UInt8) (y : UInt8) (i : Nat) : ((xorK k y).take i ++ k.drop i).length = k.length := by simp [xorK_len]; omega
theorem turn_set (k : List UInt8) (y : UInt8) (i : Nat) (h : i < k.length) : ((xorK k y).take i ++ k.drop i).set i (k[i] ^^^ y) = (xorK k y).take (i + 1) ++ k.drop (i + 1) := by
  rw [xorK_take k y i h, List.set_append_right _ _ (by simp [xorK_len]; omega)]
  simp only [List.length_take, xorK_len, show min i k.length = i by omega, Nat.sub_self]
  rw [List.drop_eq_getElem_cons h, List.set_cons_zero, List.append_assoc]; rfl
@[go_sem] theorem e281 (k : List UInt8) (h : k.length ≤ 1000000) : fn C 281 [] [.slice 1 (k.map byteRow)] = some (.usl 1 ((keyB k).map byteRow), []) := by
  rw [fn_text Tryz.func281 rfl rfl Tryz.results281 fq281.1 rfl rfl (by kernel_rfl)]
  by_cases h1 : 64 < k.length
  · simp -implicitDefEqProofs -dsimp +contextual (maxSteps := 9999999) (disch := first | omega | simp only [go_sem] <;> omega | refine ib ?_; kernel_rfl) only [go_sem, seval, ↓reduceIte, h1]
    rw [keyB_long k h1, List.map_append]; rfl
  · simp -implicitDefEqProofs -dsimp +contextual (maxSteps := 9999999) (disch := first | omega | simp only [go_sem] <;> omega | refine ib ?_; kernel_rfl) only [go_sem, seval, ↓reduceIte, h1]
    rw [keyB_short k h1, show (64 - (k.length : Int)).toNat = 64 - k.length by omega]
@[go_sem] theorem e266 (k : List UInt8) (y : UInt8) (h : k.length ≤ 1000000) : fn C 266 [] [.slice 1 (k.map byteRow), .int .u8 (y.toNat : Int)] = some (.slice 1 ((xorK (keyB k) y).map byteRow), []) := by
  rw [fn_text Tryz.func266 rfl rfl Tryz.results266 fq266.1 rfl rfl (by kernel_rfl)]
  simp -implicitDefEqProofs -dsimp +contextual (maxSteps := 9999999) (disch := first | omega | simp only [go_sem] <;> omega | refine ib ?_; kernel_rfl) only [go_sem, seval, ↓reduceIte]
  have hk := keyB_len k
  generalize keyB k = K at *
  refine (kLoop_rec (fun (i : Nat) f H => f 1 = .int .u8 (y.toNat : Int) ∧ f 5 = .osl 108 1 0 64 ∧ f 10 = .int .i64 64 ∧ f 11 = .int .i64 (i : Int) ∧ H 108 = ⟨1, .live, 1, ((xorK K y).take i ++ K.drop i).map byteRow, false⟩ ∧ i ≤ 64) (fun i => 64 - i) (fun _ => some (.slice 1 ((xorK K y).map byteRow), [])) ?_ 0 _ _ ⟨rfl, rfl, rfl, rfl, rfl, by omega⟩)
  rintro i f H ⟨h1, h5, h10, h11, hH, hi⟩ ih
  by_cases hl : i < 64
  · have hc := turn_get K y i (by omega)
    have hs := turn_set K y i (by omega)
    have hn := turn_len K y i
    obtain ⟨L, hL⟩ : ∃ L, L = (xorK K y).take i ++ K.drop i := ⟨_, rfl⟩
    simp only [← hL] at hH hc hs hn
    simp -implicitDefEqProofs -dsimp +contextual (maxSteps := 9999999) (disch := first | omega | simp only [go_sem] <;> omega | refine ib ?_; kernel_rfl) only [go_sem, seval, ↓reduceIte, h1, h5, h10, h11, hH, hl, hn, hk, hc]
    exact ih (i + 1) _ _ ⟨h1, h5, h10, rfl, by rw [← hs]; rfl, by omega⟩ (by omega)
  · obtain rfl : i = 64 := by omega
    rw [List.take_of_length_le (by simp [xorK_len, hk]), List.drop_of_length_le (by omega), List.append_nil] at hH
    simp -implicitDefEqProofs -dsimp +contextual (maxSteps := 9999999) (disch := first | omega | simp only [go_sem] <;> omega | refine ib ?_; kernel_rfl) only [go_sem, seval, ↓reduceIte, h1, h5, h10, h11, hH]
@[go_sem] theorem eTurn54 (k : List UInt8) (h : k.length ≤ 1000000) : fn C 266 [] [.slice 1 (k.map byteRow), .int .u8 54] = some (.slice 1 ((xorK (keyB k) 54).map byteRow), []) := e266 k 54 h
@[go_sem] theorem eTurn92 (k : List UInt8) (h : k.length ≤ 1000000) : fn C 266 [] [.slice 1 (k.map byteRow), .int .u8 92] = some (.slice 1 ((xorK (keyB k) 92).map byteRow), []) := e266 k 92 h
theorem e240 (k : List UInt8) (rs : List (List AVal)) (ps : List (List UInt8)) (hr : rs.map normRow = ps.map partRow) (ho : ones rs = true) (hc : rs.all clos = true) (hp : ps.length ≤ 900) (h : k.length ≤ 1000000) (hf : ps.flatten.length ≤ 500000) : fn C 240 [] [.slice 1 (k.map byteRow), .slice 1 rs] = some (.slice 1 ((macB k ps.flatten).map byteRow), []) := by
  rw [fn_text Tryz.func240 rfl rfl Tryz.results240 fq240.1 rfl rfl (by kernel_rfl)]
  have hrl : rs.length = ps.length := by have := congrArg List.length hr; simpa using this
  have hcc := concat_all (xorK (keyB k) 54) rs ps hr (by omega) (by rw [List.length_append, xorK_len, keyB_len]; omega)
  simp -implicitDefEqProofs -dsimp +contextual (maxSteps := 9999999) (disch := first | omega | simp only [go_sem] <;> omega | refine ib ?_; kernel_rfl) only [go_sem, seval, ↓reduceIte, hcc, ho, hc]
  rfl
@[go_sem] theorem e191 (k m : List UInt8) (h : k.length ≤ 1000000) (hf : m.length ≤ 500000) : fn C 191 [] [.slice 1 (k.map byteRow), .slice 1 (m.map byteRow)] = some (.slice 1 ((macB k m).map byteRow), []) := by
  rw [fn_text Tryz.func191 rfl rfl Tryz.results191 fq191.1 rfl rfl (by kernel_rfl)]
  have hc := e240 k [[.slice 1 (m.map byteRow)]] [m] rfl rfl (by simp only [go_sem]) (by simp) h (by simpa using hf)
  simp only [List.flatten_cons, List.flatten_nil, List.append_nil] at hc
  simp -implicitDefEqProofs -dsimp +contextual (maxSteps := 9999999) (disch := first | omega | simp only [go_sem] <;> omega | refine ib ?_; kernel_rfl) only [go_sem, seval, ↓reduceIte, hc]
def fillTo (l : List UInt8) (m : Nat) : List UInt8 := l.take m ++ List.replicate (l.length - m) 0
theorem fillTo_len (l : List UInt8) (m : Nat) (h : m ≤ l.length) : (fillTo l m).length = l.length := by simp [fillTo]; omega
theorem fillTo_zero (l : List UInt8) : fillTo l 0 = List.replicate l.length 0 := by simp [fillTo]
theorem fillTo_all (l : List UInt8) (m : Nat) (h : l.length ≤ m) : fillTo l m = l := by simp [fillTo, List.take_of_length_le h, show l.length - m = 0 by omega]
theorem fillTo_set (l : List UInt8) (m : Nat) (h : m < l.length) : (fillTo l m).set m l[m] = fillTo l (m + 1) := by
  unfold fillTo
  rw [List.set_append_right _ _ (by simp; omega), show l.length - m = (l.length - (m + 1)) + 1 by omega, List.replicate_succ, List.length_take, Nat.min_eq_left (by omega), Nat.sub_self, List.set_cons_zero, List.take_succ_eq_append_getElem h, List.append_assoc]
  rfl
def gatherB (l : List UInt8) : UInt8 := l.foldl (· ||| ·) 0
theorem or_zero8 (a b : UInt8) : a ||| b = 0 ↔ a = 0 ∧ b = 0 := by
  have h := @UInt8.toBitVec_inj (a ||| b) 0
  rw [← h, ← @UInt8.toBitVec_inj a 0, ← @UInt8.toBitVec_inj b 0]
  simp [UInt8.toBitVec_or]
theorem gather_foldl (l : List UInt8) : ∀ a : UInt8, l.foldl (· ||| ·) a = 0 ↔ a = 0 ∧ ∀ x ∈ l, x = 0 := by
  induction l with
  | nil => intro a; simp
  | cons x l ih => intro a; rw [List.foldl_cons, ih, or_zero8]; simp [and_assoc]
theorem gather_zero (l : List UInt8) : gatherB l = 0 ↔ ∀ x ∈ l, x = 0 := by rw [gatherB, gather_foldl]; simp
@[go_sem] theorem e290 (l : List UInt8) (hm : l.length ≤ 1000000000) : fn C 290 [] [.slice 1 (l.map byteRow)] = some (.int .u8 ((gatherB l).toNat : Int), []) := by
  rw [fn_text Tryz.func290 rfl rfl Tryz.results290 fq290.1 rfl rfl (by kernel_rfl)]
  simp -implicitDefEqProofs -dsimp +contextual (maxSteps := 9999999) (disch := first | omega | simp only [go_sem] <;> omega | refine ib ?_; kernel_rfl) only [go_sem, seval, ↓reduceIte]
  refine (kLoop_rec (fun i f H => f 3 = .int .u8 ((gatherB (l.take i)).toNat : Int) ∧ f 6 = .slice 1 (l.map byteRow) ∧ f 7 = .int .i64 l.length ∧ f 8 = .int .i64 (i : Nat) ∧ i ≤ l.length) (fun i => l.length - i) (fun _ => some (.int .u8 ((gatherB l).toNat : Int), [])) ?_ 0 _ _ ⟨rfl, rfl, rfl, rfl, by omega⟩)
  rintro i f H ⟨f3, f6, f7, f8, hi⟩ ih
  by_cases hl : i < l.length
  · simp -implicitDefEqProofs -dsimp +contextual (maxSteps := 9999999) (disch := first | omega | simp only [go_sem] <;> omega | refine ib ?_; kernel_rfl) only [go_sem, seval, ↓reduceIte, f3, f6, f7, f8, hl]
    refine ih (i + 1) _ _ ⟨?_, f6, f7, rfl, by omega⟩ (by omega)
    have e : gatherB (l.take (i + 1)) = gatherB (l.take i) ||| l[i] := by
      rw [List.take_succ_eq_append_getElem hl]; simp only [gatherB, List.foldl_append, List.foldl_cons, List.foldl_nil]
    rw [e]; rfl
  · obtain rfl : i = l.length := by omega
    simp -implicitDefEqProofs -dsimp +contextual (maxSteps := 9999999) (disch := first | omega | simp only [go_sem] <;> omega | refine ib ?_; kernel_rfl) only [go_sem, seval, ↓reduceIte, f3, f6, f7, f8, hl]
@[go_sem] theorem e282 (l : List UInt8) (hm : l.length ≤ 1000000000) : fn C 282 [] [.slice 1 (l.map byteRow)] = some (.bool (l.all (· == 0)), []) := by
  rw [fn_text Tryz.func282 rfl rfl Tryz.results282 fq282.1 rfl rfl (by kernel_rfl)]
  simp -implicitDefEqProofs -dsimp +contextual (maxSteps := 9999999) (disch := first | omega | simp only [go_sem] <;> omega | refine ib ?_; kernel_rfl) only [go_sem, seval, ↓reduceIte]
  refine Res_bool ?_
  rw [decide_eq_true_eq, List.all_eq_true]
  have := gather_zero l
  rw [← UInt8.toNat_inj] at this
  simpa using this
@[go_sem] theorem e283 (a b : List UInt8) (h : a.length = b.length) (hm : a.length ≤ 1000000000) : fn C 283 [] [.slice 1 (a.map byteRow), .slice 1 (b.map byteRow)] = some (.slice 1 ((List.zipWith (· ^^^ ·) a b).map byteRow), []) := by
  rw [fn_text Tryz.func283 rfl rfl Tryz.results283 fq283.1 rfl rfl (by kernel_rfl)]
  simp -implicitDefEqProofs -dsimp +contextual (maxSteps := 9999999) (disch := first | omega | simp only [go_sem] <;> omega | refine ib ?_; kernel_rfl) only [go_sem, seval, ↓reduceIte, h, ite_self]
  obtain ⟨A, hA⟩ : ∃ A, A = List.zipWith (· ^^^ ·) a b := ⟨_, rfl⟩
  have hl : A.length = b.length := by rw [hA]; simp [h]
  have hget : ∀ (i : Nat) (h1 : i < A.length) (h2 : i < a.length) (h3 : i < b.length), A[i] = a[i] ^^^ b[i] := fun i h1 h2 h3 => by subst hA; simp
  have z1 := fillTo_zero A
  rw [hl] at z1
  rw [← z1, ← hA]
  refine kLoop_rec (fun i f H => f 0 = .slice 1 (a.map byteRow) ∧ f 1 = .slice 1 (b.map byteRow) ∧ f 6 = .osl 114 1 0 b.length ∧ f 15 = .int .i64 b.length ∧ f 16 = .int .i64 (i : Nat) ∧ H 114 = ⟨1, .live, 1, (fillTo A i).map byteRow, true⟩ ∧ i ≤ b.length) (fun i => b.length - i) (fun _ => some (.slice 1 (A.map byteRow), [])) ?_ 0 _ _ ⟨rfl, rfl, rfl, rfl, rfl, rfl, by omega⟩
  rintro i f H ⟨f0, f1, f6, f15, f16, H114, hi⟩ ih
  have hf := fillTo_len A i (by omega)
  by_cases hlt : i < b.length
  · simp -implicitDefEqProofs -dsimp +contextual (maxSteps := 9999999) (disch := first | omega | simp only [go_sem] <;> omega | refine ib ?_; kernel_rfl) only [go_sem, seval, ↓reduceIte, f0, f1, f6, f15, f16, H114, hlt, hf]
    rw [← hget i (by omega) (by omega) hlt, fillTo_set _ _ (by omega)]
    exact ih (i + 1) _ _ ⟨f0, f1, f6, f15, rfl, rfl, by omega⟩ (by omega)
  · have e : fillTo A b.length = A := fillTo_all _ _ (by omega)
    obtain rfl : i = b.length := by omega
    simp -implicitDefEqProofs -dsimp +contextual (maxSteps := 9999999) (disch := first | omega | simp only [go_sem] <;> omega | refine ib ?_; kernel_rfl) only [go_sem, seval, ↓reduceIte, f0, f1, f6, f15, f16, H114, hlt, hf, e]
theorem xor_zip (a b : List UInt8) (h : a.length = b.length) : (List.zipWith (· ^^^ ·) a b).all (· == 0) = decide (a = b) := by
  induction a generalizing b with
  | nil => cases b <;> simp at h ⊢
  | cons x a ih =>
    cases b with
    | nil => simp at h
    | cons y b =>
      simp only [List.zipWith_cons_cons, List.all_cons, ih b (by simpa using h), List.cons.injEq]
      rw [Bool.eq_iff_iff]
      simp [UInt8.xor_eq_zero_iff]
@[go_sem] theorem e269 (a b : List UInt8) (hm : a.length ≤ 1000000000) : fn C 269 [] [.slice 1 (a.map byteRow), .slice 1 (b.map byteRow)] = some (.bool (decide (a = b)), []) := by
  rw [fn_text Tryz.func269 rfl rfl Tryz.results269 fq269.1 rfl rfl (by kernel_rfl)]
  by_cases h : a.length = b.length
  · have hz : (List.zipWith (· ^^^ ·) a b).length ≤ 1000000000 := by simp; omega
    simp -implicitDefEqProofs -dsimp +contextual (maxSteps := 9999999) (disch := first | omega | simp only [go_sem] <;> omega | refine ib ?_; kernel_rfl) only [go_sem, seval, ↓reduceIte, h]
    rw [xor_zip a b h]
  · simp -implicitDefEqProofs -dsimp +contextual (maxSteps := 9999999) (disch := first | omega | simp only [go_sem] <;> omega | refine ib ?_; kernel_rfl) only [go_sem, seval, ↓reduceIte, h]
    have : a ≠ b := fun e => h (by rw [e])
    simp [this]
def bodyB (e : En) : List UInt8 := textB e.name ++ beN 8 e.id ++ beN 4 (u64V e.fr) ++ beN 4 (u64V e.un) ++ beN 2 (u64V e.ix)
@[go_sem] theorem bodyB_len (e : En) : (bodyB e).length = e.name.length + 20 := by simp [bodyB, beN_len, textB_len]
@[go_sem] theorem e192 (e : En) (h : e.ok) (hn : e.name.length ≤ 60000) : fn C 192 [] [.agg [.str e.name, .int .u64 (e.id : Int), .int .i64 e.fr, .int .i64 e.un, .int .i64 e.ix, .str e.tag]] = some (.usl 1 ((bodyB e).map byteRow), []) := by
  rw [fn_text Tryz.func192 rfl rfl Tryz.results192 fq192.1 rfl rfl (by kernel_rfl)]
  have h1 := u64V_le e.fr; have h2 := u64V_le e.un; have h3 := u64V_le e.ix
  have h4 := h.id
  simp -implicitDefEqProofs -dsimp +contextual (maxSteps := 9999999) (disch := first | omega | simp only [go_sem] <;> omega | refine ib ?_; kernel_rfl) only [go_sem, seval, ↓reduceIte, wrap_u64V e.fr, wrap_u64V e.un, wrap_u64V e.ix]
  rfl
def placeG {α : Type} (q : α → Bool) (l : List α) : Int := if l.findIdx q < l.length then (l.findIdx q : Nat) else -1
theorem placeG_at {α : Type} {q : α → Bool} {l : List α} {i : Nat} (h : i < l.length) (hn : (l.take i).any q = false) (he : q l[i] = true) : placeG q l = i := by
  have : l.findIdx q = i := by
    rw [List.findIdx_eq h]
    refine ⟨he, fun j hj => ?_⟩
    exact any_mem hn l[j] (by rw [List.mem_take_iff_getElem]; exact ⟨j, by omega, rfl⟩)
  unfold placeG
  rw [this, if_pos h]
theorem placeG_none {α : Type} {q : α → Bool} {l : List α} (hn : l.any q = false) : placeG q l = -1 := by
  unfold placeG
  rw [if_neg]
  intro hlt
  have := List.findIdx_getElem (w := hlt)
  rw [any_mem hn _ (List.getElem_mem hlt)] at this
  cases this
theorem placeG_cases {α : Type} (q : α → Bool) (l : List α) : (∃ (j : Nat) (h : j < l.length), q l[j] = true ∧ (l.take j).any q = false ∧ placeG q l = j) ∨ (l.any q = false ∧ placeG q l = -1) := by
  rcases Bool.eq_false_or_eq_true (l.any q) with h | h
  · left
    have hlt : l.findIdx q < l.length := by
      rw [List.findIdx_lt_length]; rw [List.any_eq_true] at h; exact h
    have hn : (l.take (l.findIdx q)).any q = false := by
      rw [List.any_eq_false]
      intro x hx
      rw [List.mem_take_iff_getElem] at hx
      obtain ⟨j, hj, rfl⟩ := hx
      have := List.not_of_lt_findIdx (p := q) (xs := l) (i := j) (by omega)
      simpa using this
    exact ⟨_, hlt, List.findIdx_getElem (w := hlt), hn, placeG_at hlt hn (List.findIdx_getElem (w := hlt))⟩
  · exact .inr ⟨h, placeG_none h⟩
structure Ac where
  ans : Bool
  to : En
  m : Ms
  why : Int
  job : Int
deriving DecidableEq
theorem Ac.eq_iff (x y : Ac) : x = y ↔ x.ans = y.ans ∧ x.to = y.to ∧ x.why = y.why ∧ x.job = y.job ∧ x.m = y.m :=
  ⟨fun h => by subst h; simp, fun h => by cases x; cases y; simp_all⟩
def Ac.cs (a : Ac) : List AVal := [.bool a.ans, .str a.to.name, .int .u64 (a.to.id : Int), .int .i64 a.to.fr, .int .i64 a.to.un, .int .i64 a.to.ix, .str a.to.tag, .int .i64 a.m.kind, .int .i64 a.m.rid, .int .i64 a.m.ver, .int .i64 a.m.err, .int .u64 (a.m.id : Int), .bool a.m.has, .bool a.m.gone, .str a.m.key, .str a.m.val, .slice 6 (a.m.ents.map En.cs), .slice 4 (a.m.items.map It.cs), .int .i64 a.why, .int .i64 a.job]
@[go_sem] theorem Ac.cs_eq (a : Ac) : a.cs = [.bool a.ans, .str a.to.name, .int .u64 (a.to.id : Int), .int .i64 a.to.fr, .int .i64 a.to.un, .int .i64 a.to.ix, .str a.to.tag, .int .i64 a.m.kind, .int .i64 a.m.rid, .int .i64 a.m.ver, .int .i64 a.m.err, .int .u64 (a.m.id : Int), .bool a.m.has, .bool a.m.gone, .str a.m.key, .str a.m.val, .slice 6 (a.m.ents.map En.cs), .slice 4 (a.m.items.map It.cs), .int .i64 a.why, .int .i64 a.job] := rfl
@[go_sem] theorem Ac_ones (l : List Ac) : ones (l.map Ac.cs) = true := ones_map _ _ fun _ => rfl
@[go_sem] theorem Ac_clos (l : List Ac) : (l.map Ac.cs).all clos = true := allclos_map _ (fun _ => rfl) l
def aheadR (me : En) (a b : Pr) : Bool := if distR me.id a.e.id = distR me.id b.e.id then Op.bytesLess a.e.name b.e.name else decide (distR me.id a.e.id < distR me.id b.e.id)
@[go_sem] theorem e185 (me : En) (a b : Pr) (h1 : U64 me.id) (h2 : U64 a.e.id) (h3 : U64 b.e.id) : fn C 185 [] [.agg [.str me.name, .int .u64 (me.id : Int), .int .i64 me.fr, .int .i64 me.un, .int .i64 me.ix, .str me.tag], .agg [.str a.e.name, .int .u64 (a.e.id : Int), .int .i64 a.e.fr, .int .i64 a.e.un, .int .i64 a.e.ix, .str a.e.tag, .int .i64 a.since, .int .i64 a.under], .agg [.str b.e.name, .int .u64 (b.e.id : Int), .int .i64 b.e.fr, .int .i64 b.e.un, .int .i64 b.e.ix, .str b.e.tag, .int .i64 b.since, .int .i64 b.under]] = some (.bool (aheadR me a b), []) := by
  rw [fn_text Tryz.func185 rfl rfl Tryz.results185 fq185.1 rfl rfl (by kernel_rfl)]
  simp -implicitDefEqProofs -dsimp +contextual (maxSteps := 9999999) (disch := first | omega | simp only [go_sem] <;> omega | refine ib ?_; kernel_rfl) only [go_sem, seval, ↓reduceIte]
  (repeat' (refine kD_intro (fun _ => ?_) (fun _ => ?_)))
  · rename_i h; exact Res_bool (by simp [aheadR, h])
  · rename_i h; exact Res_bool (by simp [aheadR, h])
structure Nd.mid (n : Nd) (k : Nat) : Prop where
  pl : n.pred.length ≤ k
  ll : n.list.length ≤ k
  fl : n.fingers.length ≤ k
  sl : n.sessions.length ≤ k
  dl : n.pends.length ≤ k
  il : n.items.length ≤ k
  jl : n.jobs.length ≤ k
  wl : n.draws.length ≤ k
  rl : n.results.length ≤ k
  pe : ∀ p ∈ n.pends, p.m.ents.length ≤ k
  pi : ∀ p ∈ n.pends, p.m.items.length ≤ k
  ja : ∀ j ∈ n.jobs, j.asked.length ≤ k
  ik : ∀ x ∈ n.items, x.k.length ≤ 9223372036854775807
theorem Nd.mid.le {n : Nd} {k m : Nat} (h : n.mid k) (hk : k ≤ m) : n.mid m :=
  ⟨Nat.le_trans h.pl hk, Nat.le_trans h.ll hk, Nat.le_trans h.fl hk, Nat.le_trans h.sl hk, Nat.le_trans h.dl hk, Nat.le_trans h.il hk, Nat.le_trans h.jl hk, Nat.le_trans h.wl hk, Nat.le_trans h.rl hk,
    fun p hp => Nat.le_trans (h.pe p hp) hk, fun p hp => Nat.le_trans (h.pi p hp) hk, fun j hj => Nat.le_trans (h.ja j hj) hk, h.ik⟩
theorem Nd.small.mid {n : Nd} (h : n.small) : n.mid 70 :=
  ⟨by have := h.pl; omega, by have := h.ll; omega, h.fl, by have := h.sl; omega, by have := h.dl; omega, by have := h.il; omega, by have := h.jl; omega, by have := h.wl; omega, by have := h.rl; omega,
    fun p hp => by have := (h.d p hp).m.e; omega, fun p hp => by have := (h.d p hp).m.i; omega, fun j hj => by have := (h.j j hj).a; omega, fun x hx => by have := (h.i x hx).k; omega⟩
def enZ : En := ⟨[], 0, 0, 0, 0, []⟩
def jbZ : Jb := ⟨0, 0, 0, 0, 0, 0, [], [], enZ, zeroIt, 0, 0, [], enZ, 0, 0⟩
def msZ : Ms := ⟨0, 0, 0, 0, 0, false, false, [], [], [], []⟩
def jobAt (id : Int) (j : Jb) : Bool := decide (j.id = id)
def findR (l : List Jb) (id : Int) : Int := placeG (jobAt id) l
def jobG (l : List Jb) (i : Nat) : Jb := l.getD i jbZ
theorem jobG_at {l : List Jb} {i : Nat} (h : i < l.length) : jobG l i = l[i] := by simp [jobG, h]
def lastR (l : List Rs) : List Rs := l.drop (l.length - 16)
def resR (id : Int) (j : Jb) (x : It) (has : Bool) (e : Int) : Rs := ⟨id, j.kind, x.n, j.key, x.v, has, x.g, e⟩
def settleR (n : Nd) (id : Int) (x : It) (has : Bool) (e : Int) : Nd :=
  if 0 ≤ findR n.jobs id then { n with jobs := n.jobs.eraseIdx (findR n.jobs id).toNat, results := lastR (n.results ++ [resR id (jobG n.jobs (findR n.jobs id).toNat) x has e]) } else n
def doneA (back : En) (rid : Int) (x : It) (e : Int) : Ac := ⟨true, back, { msZ with kind := 9, rid := rid, ver := x.n, err := e }, 0, 0⟩
def tellR (n : Nd) (back : En) (rid job : Int) (x : It) (has : Bool) (e : Int) : Nd × List Ac :=
  if job = 0 then (n, [doneA back rid x e]) else (settleR n job x has e, [])
def fewR (n : Int) : Int := if n < 0 then 0 else if 2 < n then 2 else n
def copyA (e : En) (x : It) (id : Int) : Ac := ⟨false, e, { msZ with kind := 12, items := [x] }, 7, id⟩
def askR (id : Int) : List Pr → Jb → Jb × List Ac
  | [], j => (j, [])
  | p :: l, j => if 2 ≤ fewR j.acks + fewR j.waits then (j, []) else if p.e.name ∈ j.asked then askR id l j
      else ((askR id l { j with waits := fewR j.waits + 1, asked := j.asked ++ [p.e.name] }).1, copyA p.e j.item id :: (askR id l { j with waits := fewR j.waits + 1, asked := j.asked ++ [p.e.name] }).2)
def copR (l : List Jb) (id : Int) : Int := if 0 ≤ findR l id ∧ (jobG l (findR l id).toNat).kind = 4 then findR l id else -1
def moreFin (n : Nd) (i : Nat) (q : Jb × List Ac) : Nd × List Ac :=
  if 0 < q.1.waits then ({ n with jobs := n.jobs.set i q.1 }, q.2)
  else ((tellR { n with jobs := n.jobs.eraseIdx i } q.1.back q.1.backRid q.1.backJob q.1.item (!q.1.item.g) 0).1, q.2 ++ (tellR { n with jobs := n.jobs.eraseIdx i } q.1.back q.1.backRid q.1.backJob q.1.item (!q.1.item.g) 0).2)
def moreAt (n : Nd) (id : Int) (i : Nat) : Nd × List Ac := moreFin n i (askR id n.list (jobG n.jobs i))
def moreR (n : Nd) (id : Int) : Nd × List Ac := if 0 ≤ copR n.jobs id then moreAt n id (copR n.jobs id).toNat else (n, [])
def nextI (id : Int) : Int := if id < 0 ∨ 1073741824 ≤ id then 1 else id + 1
def copyJ (n : Nd) (x : It) (back : En) (rid job : Int) : Jb := { jbZ with id := nextI n.jobId, kind := 4, til := n.clock + 192, item := x, back := back, backRid := rid, backJob := job }
def beginE (n : Nd) (key val : List UInt8) (gone : Bool) : Int := if 8 ≤ n.jobs.length then 41 else (putR n.items key val gone).2.2
def begunR (n : Nd) (key val : List UInt8) (gone : Bool) (back : En) (rid job : Int) : Nd :=
  { n with items := (putR n.items key val gone).1, jobId := nextI n.jobId, jobs := n.jobs ++ [copyJ n (putR n.items key val gone).2.1 back rid job] }
def beginR (n : Nd) (key val : List UInt8) (gone : Bool) (back : En) (rid job : Int) : Nd × List Ac :=
  if beginE n key val gone = 0 then moreR (begunR n key val gone back rid job) (nextI n.jobId) else tellR n back rid job zeroIt false (beginE n key val gone)
def cameJ (taken : Bool) (j : Jb) : Jb := { j with waits := if fewR j.waits - 1 < 0 then 0 else fewR j.waits - 1, acks := if taken = true then fewR j.acks + 1 else j.acks }
def cameR (n : Nd) (id : Int) (taken : Bool) : Nd × List Ac :=
  if 0 ≤ copR n.jobs id then moreR { n with jobs := n.jobs.set (copR n.jobs id).toNat (cameJ taken (jobG n.jobs (copR n.jobs id).toNat)) } id else (n, [])
theorem set_row {α : Type} (f : α → List AVal) (l : List α) (i : Nat) (h : i < l.length) : (l.map f).set i (f l[i]) = l.map f := by
  rw [← List.map_set, List.set_getElem_self]
theorem erase_take {α : Type} (l : List α) (i : Nat) : l.take i ++ l.drop (i + 1) = l.eraseIdx i := List.eraseIdx_eq_take_drop_succ .. |>.symm
theorem findR_cases (l : List Jb) (id : Int) : (∃ (j : Nat) (h : j < l.length), l[j].id = id ∧ (l.take j).any (jobAt id) = false ∧ findR l id = (j : Int)) ∨ (l.any (jobAt id) = false ∧ findR l id = -1) := by
  rcases placeG_cases (jobAt id) l with ⟨j, hj, h1, h2, h3⟩ | h
  · exact .inl ⟨j, hj, by simpa [jobAt] using h1, h2, h3⟩
  · exact .inr h
theorem jb_row (l : List Jb) (i : Nat) (h : i < l.length) : (l.map Jb.cs)[i]? = some [.int .i64 l[i].id, .int .i64 l[i].kind, .int .i64 l[i].phase, .int .i64 l[i].hops, .int .i64 l[i].tries, .int .i64 l[i].til, .str l[i].key, .str l[i].val, .str l[i].owner.name, .int .u64 (l[i].owner.id : Int), .int .i64 l[i].owner.fr, .int .i64 l[i].owner.un, .int .i64 l[i].owner.ix, .str l[i].owner.tag, .str l[i].item.k, .str l[i].item.v, .int .i64 l[i].item.n, .bool l[i].item.g, .int .i64 l[i].acks, .int .i64 l[i].waits, .slice 1 (l[i].asked.map strRow), .str l[i].back.name, .int .u64 (l[i].back.id : Int), .int .i64 l[i].back.fr, .int .i64 l[i].back.un, .int .i64 l[i].back.ix, .str l[i].back.tag, .int .i64 l[i].backRid, .int .i64 l[i].backJob] := by
  rw [List.getElem?_map, List.getElem?_eq_getElem h]; rfl
def Nd.ocs (n : Nd) : List AVal := [.str n.me.name, .int .u64 (n.me.id : Int), .int .i64 n.me.fr, .int .i64 n.me.un, .int .i64 n.me.ix, .str n.me.tag, .int .i64 n.clock, .str n.psk, .int .i64 n.gateI, .str n.gateK, .bool n.ready, .slice 8 (n.pred.map Pr.cs), .slice 8 (n.list.map Pr.cs), .slice 9 (n.fingers.map Fg.cs), .usl 20 (n.sessions.map Se.cs), .usl 23 (n.pends.map Pd.cs), .slice 4 (n.items.map It.cs), .usl 29 (n.jobs.map Jb.cs), .int .i64 n.rid, .int .i64 n.jobId, .slice 1 (n.draws.map u64Row), .usl 8 (n.results.map Rs.cs)]
@[go_sem] theorem Nd.ocs_eq (n : Nd) : n.ocs = [.str n.me.name, .int .u64 (n.me.id : Int), .int .i64 n.me.fr, .int .i64 n.me.un, .int .i64 n.me.ix, .str n.me.tag, .int .i64 n.clock, .str n.psk, .int .i64 n.gateI, .str n.gateK, .bool n.ready, .slice 8 (n.pred.map Pr.cs), .slice 8 (n.list.map Pr.cs), .slice 9 (n.fingers.map Fg.cs), .usl 20 (n.sessions.map Se.cs), .usl 23 (n.pends.map Pd.cs), .slice 4 (n.items.map It.cs), .usl 29 (n.jobs.map Jb.cs), .int .i64 n.rid, .int .i64 n.jobId, .slice 1 (n.draws.map u64Row), .usl 8 (n.results.map Rs.cs)] := rfl
theorem settle_ocs (n : Nd) (id : Int) (x : It) (has : Bool) (e : Int) : (settleR n id x has e).ocs = [.str n.me.name, .int .u64 (n.me.id : Int), .int .i64 n.me.fr, .int .i64 n.me.un, .int .i64 n.me.ix, .str n.me.tag, .int .i64 n.clock, .str n.psk, .int .i64 n.gateI, .str n.gateK, .bool n.ready, .slice 8 (n.pred.map Pr.cs), .slice 8 (n.list.map Pr.cs), .slice 9 (n.fingers.map Fg.cs), .usl 20 (n.sessions.map Se.cs), .usl 23 (n.pends.map Pd.cs), .slice 4 (n.items.map It.cs), .usl 29 ((settleR n id x has e).jobs.map Jb.cs), .int .i64 n.rid, .int .i64 n.jobId, .slice 1 (n.draws.map u64Row), .usl 8 ((settleR n id x has e).results.map Rs.cs)] := by
  unfold settleR; split <;> rfl
theorem settle_eta (n : Nd) (id : Int) (x : It) (has : Bool) (e : Int) : ∃ js rs, settleR n id x has e = { n with jobs := js, results := rs } := by
  unfold settleR; split
  · exact ⟨_, _, rfl⟩
  · exact ⟨n.jobs, n.results, rfl⟩
theorem pd_row (l : List Pd) (i : Nat) (h : i < l.length) : (l.map Pd.cs)[i]? = some [.int .i64 l[i].rid, .int .i64 l[i].why, .int .i64 l[i].job, .int .i64 l[i].til, .int .i64 l[i].tries, .int .u64 (l[i].session : Int), .str l[i].to.name, .int .u64 (l[i].to.id : Int), .int .i64 l[i].to.fr, .int .i64 l[i].to.un, .int .i64 l[i].to.ix, .str l[i].to.tag, .int .i64 l[i].m.kind, .int .i64 l[i].m.rid, .int .i64 l[i].m.ver, .int .i64 l[i].m.err, .int .u64 (l[i].m.id : Int), .bool l[i].m.has, .bool l[i].m.gone, .str l[i].m.key, .str l[i].m.val, .slice 6 (l[i].m.ents.map En.cs), .slice 4 (l[i].m.items.map It.cs)] := by
  rw [List.getElem?_map, List.getElem?_eq_getElem h]; rfl
@[go_sem] theorem e148 (m : Ms) (h1 : m.ents.length ≤ 1000000) (h2 : m.items.length ≤ 1000000) : fn C 148 [] [.agg [.int .i64 m.kind, .int .i64 m.rid, .int .i64 m.ver, .int .i64 m.err, .int .u64 (m.id : Int), .bool m.has, .bool m.gone, .str m.key, .str m.val, .slice 6 (m.ents.map En.cs), .slice 4 (m.items.map It.cs)]] = some (.agg [.int .i64 m.kind, .int .i64 m.rid, .int .i64 m.ver, .int .i64 m.err, .int .u64 (m.id : Int), .bool m.has, .bool m.gone, .str m.key, .str m.val, .slice 6 (m.ents.map En.cs), .slice 4 (m.items.map It.cs)], []) := by
  rw [fn_text Tryz.func148 rfl rfl Tryz.results148 fq148.1 rfl rfl (by kernel_rfl)]
  simp -implicitDefEqProofs -dsimp +contextual (maxSteps := 9999999) (disch := first | omega | simp only [go_sem] <;> omega | refine ib ?_; kernel_rfl) only [go_sem, seval, ↓reduceIte]
@[go_sem] theorem e57 (l : List Pd) (hl : l.length ≤ 1000000) (h1 : ∀ p ∈ l, p.m.ents.length ≤ 1000000) (h2 : ∀ p ∈ l, p.m.items.length ≤ 1000000) : fn C 57 [] [.slice 23 (l.map Pd.cs)] = some (.usl 23 (l.map Pd.cs), []) := by
  rw [fn_text Tryz.func57 rfl rfl Tryz.results57 fq57.1 rfl rfl (by kernel_rfl)]
  simp -implicitDefEqProofs -dsimp +contextual (maxSteps := 9999999) (disch := first | omega | simp only [go_sem] <;> omega | refine ib ?_; kernel_rfl) only [go_sem, seval, ↓reduceIte]
  refine kFor l.length (fun i f H => f 3 = .osl 106 1 0 l.length ∧ f 8 = .int .i64 (l.length : Nat) ∧ f 9 = .int .i64 (i : Nat) ∧ H 106 = ⟨1, .live, 23, l.map Pd.cs, false⟩) ?_ ?_ (by exact ⟨rfl, rfl, rfl, by simp [Heap.set, Heap.nil]⟩)
  · rintro i f H hi ⟨f3, f8, f9, H1⟩ ih
    have row := pd_row l i hi
    have st : (l.map Pd.cs).set i [.int .i64 l[i].rid, .int .i64 l[i].why, .int .i64 l[i].job, .int .i64 l[i].til, .int .i64 l[i].tries, .int .u64 (l[i].session : Int), .str l[i].to.name, .int .u64 (l[i].to.id : Int), .int .i64 l[i].to.fr, .int .i64 l[i].to.un, .int .i64 l[i].to.ix, .str l[i].to.tag, .int .i64 l[i].m.kind, .int .i64 l[i].m.rid, .int .i64 l[i].m.ver, .int .i64 l[i].m.err, .int .u64 (l[i].m.id : Int), .bool l[i].m.has, .bool l[i].m.gone, .str l[i].m.key, .str l[i].m.val, .slice 6 (l[i].m.ents.map En.cs), .slice 4 (l[i].m.items.map It.cs)] = l.map Pd.cs := set_row Pd.cs l i hi
    have c := e148 l[i].m (h1 _ (List.getElem_mem hi)) (h2 _ (List.getElem_mem hi))
    simp -implicitDefEqProofs -dsimp +contextual (maxSteps := 9999999) (disch := first | omega | simp only [go_sem] <;> omega | refine ib ?_; kernel_rfl) only [go_sem, seval, ↓reduceIte, f3, f8, f9, H1, hi, row, c, st]
    exact ih _ _ (by exact ⟨f3, f8, rfl, rfl⟩)
  · rintro f H ⟨f3, f8, f9, H1⟩
    simp -implicitDefEqProofs -dsimp +contextual (maxSteps := 9999999) (disch := first | omega | simp only [go_sem] <;> omega | refine ib ?_; kernel_rfl) only [go_sem, seval, ↓reduceIte, f3, f8, f9, H1]
@[go_sem] theorem e13 (n : Nd) (h : n.mid 1000000) : fn C 13 [] [(aNd n)] = some (.agg [.str n.me.name, .int .u64 (n.me.id : Int), .int .i64 n.me.fr, .int .i64 n.me.un, .int .i64 n.me.ix, .str n.me.tag, .int .i64 n.clock, .str n.psk, .int .i64 n.gateI, .str n.gateK, .bool n.ready, .slice 8 (n.pred.map Pr.cs), .slice 8 (n.list.map Pr.cs), .slice 9 (n.fingers.map Fg.cs), .usl 20 (n.sessions.map Se.cs), .usl 23 (n.pends.map Pd.cs), .slice 4 (n.items.map It.cs), .usl 29 (n.jobs.map Jb.cs), .int .i64 n.rid, .int .i64 n.jobId, .slice 1 (n.draws.map u64Row), .usl 8 (n.results.map Rs.cs)], []) := by
  have := h.pl; have := h.ll; have := h.fl; have := h.sl; have := h.dl; have := h.il; have := h.jl; have := h.wl; have := h.rl
  have pc := e57 n.pends h.dl h.pe h.pi
  rw [fn_text Tryz.func13 rfl rfl Tryz.results13 fq13.1 rfl rfl (by kernel_rfl)]
  simp -implicitDefEqProofs -dsimp +contextual (maxSteps := 9999999) (disch := first | omega | simp only [go_sem] <;> omega | refine ib ?_; kernel_rfl) only [go_sem, seval, ↓reduceIte, pc]
  refine kFor n.jobs.length (fun i f H => f 1 = .ptr 101 1 0 0 ∧ f 2 = .ptr 102 1 0 0 ∧ f 42 = .int .i64 (n.jobs.length : Nat) ∧ f 43 = .int .i64 (i : Nat) ∧
    H 101 = ⟨1, .live, 22, [[.str n.me.name, .int .u64 (n.me.id : Int), .int .i64 n.me.fr, .int .i64 n.me.un, .int .i64 n.me.ix, .str n.me.tag, .int .i64 n.clock, .str n.psk, .int .i64 n.gateI, .str n.gateK, .bool n.ready, .slice 8 (n.pred.map Pr.cs), .slice 8 (n.list.map Pr.cs), .slice 9 (n.fingers.map Fg.cs), .osl 118 1 0 n.sessions.length, .osl 121 1 0 n.pends.length, .slice 4 (n.items.map It.cs), .osl 130 1 0 n.jobs.length, .int .i64 n.rid, .int .i64 n.jobId, .slice 1 (n.draws.map u64Row), .osl 136 1 0 n.results.length]], false⟩ ∧ (H 102).gen = 1 ∧ (H 102).mode = .live ∧ (∃ r : List AVal, r.length = 22 ∧ (H 102).rows = [r]) ∧
    H 118 = ⟨1, .live, 20, n.sessions.map Se.cs, false⟩ ∧ H 121 = ⟨1, .live, 23, n.pends.map Pd.cs, false⟩ ∧ H 130 = ⟨1, .live, 29, n.jobs.map Jb.cs, false⟩ ∧ H 136 = ⟨1, .live, 8, n.results.map Rs.cs, false⟩) ?_ ?_ (by exact ⟨rfl, rfl, rfl, rfl, rfl, rfl, rfl, ⟨_, rfl, rfl⟩, rfl, rfl, rfl, rfl⟩)
  · rintro i f H hi ⟨f1, f2, f42, f43, H1, H2, H2m, ⟨r, hr, H2r⟩, H3, H4, H5, H6⟩ ih
    have row := jb_row n.jobs i hi
    have st : (n.jobs.map Jb.cs).set i [.int .i64 n.jobs[i].id, .int .i64 n.jobs[i].kind, .int .i64 n.jobs[i].phase, .int .i64 n.jobs[i].hops, .int .i64 n.jobs[i].tries, .int .i64 n.jobs[i].til, .str n.jobs[i].key, .str n.jobs[i].val, .str n.jobs[i].owner.name, .int .u64 (n.jobs[i].owner.id : Int), .int .i64 n.jobs[i].owner.fr, .int .i64 n.jobs[i].owner.un, .int .i64 n.jobs[i].owner.ix, .str n.jobs[i].owner.tag, .str n.jobs[i].item.k, .str n.jobs[i].item.v, .int .i64 n.jobs[i].item.n, .bool n.jobs[i].item.g, .int .i64 n.jobs[i].acks, .int .i64 n.jobs[i].waits, .slice 1 (n.jobs[i].asked.map strRow), .str n.jobs[i].back.name, .int .u64 (n.jobs[i].back.id : Int), .int .i64 n.jobs[i].back.fr, .int .i64 n.jobs[i].back.un, .int .i64 n.jobs[i].back.ix, .str n.jobs[i].back.tag, .int .i64 n.jobs[i].backRid, .int .i64 n.jobs[i].backJob] = n.jobs.map Jb.cs := set_row Jb.cs n.jobs i hi
    have al := h.ja _ (List.getElem_mem hi)
    simp -implicitDefEqProofs -dsimp +contextual (maxSteps := 9999999) (disch := first | omega | simp only [go_sem] <;> omega | refine ib ?_; kernel_rfl) only [go_sem, seval, ↓reduceIte, f1, f2, f42, f43, H1, H5, hi, row, st, al]
    exact ih _ _ (by exact ⟨f1, f2, f42, rfl, H1, H2, H2m, ⟨r, hr, H2r⟩, H3, H4, rfl, H6⟩)
  · rintro f H ⟨f1, f2, f42, f43, H1, H2, H2m, ⟨r, hr, H2r⟩, H3, H4, H5, H6⟩
    simp -implicitDefEqProofs -dsimp +contextual (maxSteps := 9999999) (disch := first | omega | simp only [go_sem] <;> omega | refine ib ?_; kernel_rfl) only [go_sem, seval, ↓reduceIte, f1, f2, f42, f43, H1, H2, H2m, H2r, hr, H3, H4, H5, H6]
    trace_state
inductive AcC : AVal → List Ac → Prop
  | nil : AcC (.sc (.slice none 0 0)) []
  | us (l : List Ac) : AcC (.usl 20 (l.map Ac.cs)) l
@[go_sem] theorem e211 (j : Jb) (id : Int) : fn C 211 [] [.agg [.int .i64 j.id, .int .i64 j.kind, .int .i64 j.phase, .int .i64 j.hops, .int .i64 j.tries, .int .i64 j.til, .str j.key, .str j.val, .str j.owner.name, .int .u64 (j.owner.id : Int), .int .i64 j.owner.fr, .int .i64 j.owner.un, .int .i64 j.owner.ix, .str j.owner.tag, .str j.item.k, .str j.item.v, .int .i64 j.item.n, .bool j.item.g, .int .i64 j.acks, .int .i64 j.waits, .slice 1 (j.asked.map strRow), .str j.back.name, .int .u64 (j.back.id : Int), .int .i64 j.back.fr, .int .i64 j.back.un, .int .i64 j.back.ix, .str j.back.tag, .int .i64 j.backRid, .int .i64 j.backJob], .iptr [.int .i64 id]] = some (.bool (decide (j.id = id)), []) := by
  rw [fn_text Tryz.func211 rfl rfl Tryz.results211 fq211.1 rfl rfl (by kernel_rfl)]
  simp -implicitDefEqProofs -dsimp +contextual (maxSteps := 9999999) (disch := first | omega | simp only [go_sem] <;> omega | refine ib ?_; kernel_rfl) only [go_sem, seval, ↓reduceIte]
@[go_sem] theorem eIdxFind (l : List Jb) (id : Int) (hl : l.length ≤ 9223372036854775807) : fn C 84 [] [.slice 29 (l.map Jb.cs), .fn (.func 211) [] [.iptr [.int .i64 id]]] = some (.int .i64 (findR l id), []) := by
  rw [fn_text Tryz.func84 rfl rfl Tryz.results84 fq84.1 rfl rfl (by kernel_rfl)]
  simp -implicitDefEqProofs -dsimp +contextual (maxSteps := 9999999) (disch := first | omega | simp only [go_sem] <;> omega | refine ib ?_; kernel_rfl) only [go_sem, seval, ↓reduceIte]
  refine kFor l.length (fun i f H => f 0 = .slice 29 (l.map Jb.cs) ∧ f 1 = .fn (.func 211) [] [.iptr [.int .i64 id]] ∧ f 7 = .int .i64 l.length ∧ f 8 = .int .i64 (i : Nat) ∧ H = Heap.nil ∧ (l.take i).any (jobAt id) = false) ?_ ?_ (by exact ⟨rfl, rfl, rfl, rfl, rfl, rfl⟩)
  · rintro i f _ hi ⟨f0, f1, f7, f8, rfl, ha⟩ ih
    simp -implicitDefEqProofs -dsimp +contextual (maxSteps := 9999999) (disch := first | omega | simp only [go_sem] <;> omega | refine ib ?_; kernel_rfl) only [go_sem, seval, ↓reduceIte, f0, f1, f7, f8, hi]
    (repeat' (refine kD_intro (fun _ => ?_) (fun _ => ?_)))
    · rename_i h; rw [findR, placeG_at hi ha (by simp [jobAt, h])]
    · rename_i h; exact ih _ _ ⟨f0, f1, f7, rfl, rfl, any_take hi ha (by simp [jobAt, h])⟩
  · rintro f _ ⟨f0, f1, f7, f8, rfl, ha⟩
    simp -implicitDefEqProofs -dsimp +contextual (maxSteps := 9999999) (disch := first | omega | simp only [go_sem] <;> omega | refine ib ?_; kernel_rfl) only [go_sem, seval, ↓reduceIte, f0, f1, f7, f8]
    rw [findR, placeG_none (any_end ha)]
@[go_sem] theorem e150 (l : List Jb) (id : Int) (hl : l.length ≤ 9223372036854775807) : fn C 150 [] [.slice 29 (l.map Jb.cs), .int .i64 id] = some (.int .i64 (findR l id), []) := by
  rw [fn_text Tryz.func150 rfl rfl Tryz.results150 fq150.1 rfl rfl (by kernel_rfl)]
  simp -implicitDefEqProofs -dsimp +contextual (maxSteps := 9999999) (disch := first | omega | simp only [go_sem] <;> omega | refine ib ?_; kernel_rfl) only [go_sem, seval, ↓reduceIte]
@[go_sem] theorem e225 (n : Int) : fn C 225 [] [.int .i64 n] = some (.int .i64 (fewR n), []) := by
  rw [fn_text Tryz.func225 rfl rfl Tryz.results225 fq225.1 rfl rfl (by kernel_rfl)]
  simp -implicitDefEqProofs -dsimp +contextual (maxSteps := 9999999) (disch := first | omega | simp only [go_sem] <;> omega | refine ib ?_; kernel_rfl) only [go_sem, seval, ↓reduceIte]
  refine congrArg (fun z => some (AVal.int .i64 z, [])) ?_
  unfold fewR
  repeat' split
  all_goals omega
@[go_sem] theorem e167 (n : Int) : fn C 167 [] [.int .i64 n] = some (.int .i64 (nextI n), []) := by
  rw [fn_text Tryz.func167 rfl rfl Tryz.results167 fq167.1 rfl rfl (by kernel_rfl)]
  simp -implicitDefEqProofs -dsimp +contextual (maxSteps := 9999999) (disch := first | omega | simp only [go_sem] <;> omega | refine ib ?_; kernel_rfl) only [go_sem, seval, ↓reduceIte]
  (repeat' (refine kD_intro (fun _ => ?_) (fun _ => ?_)))
  all_goals (unfold nextI; simp [*])
theorem eDelJob (es : List (List AVal)) (i : Nat) (hi : i < es.length) (hl : es.length ≤ 1000001) (h1 : es.all clos = true) (h2 : ones es = true) : fn C 85 [] [.usl 29 es, .int .i64 (i : Nat), .int .i64 ((i + 1 : Nat) : Int)] = some (.usl 29 (es.eraseIdx i), []) := by
  rw [fn_textN Tryz.func85 rfl rfl Tryz.results85 fq85.1 rfl rfl (by kernel_rfl)]
  have h3 : ones (es.drop (i + 1)) = true := List.all_eq_true.2 fun r hr => List.all_eq_true.1 h2 r (List.mem_of_mem_drop hr)
  simp -implicitDefEqProofs -dsimp +contextual (maxSteps := 9999999) (disch := first | omega | simp only [go_sem] <;> omega | refine ib ?_; kernel_rfl) only [go_sem, seval, ↓reduceIte, hi, h1, h2, h3]
  rw [if_pos (by omega), if_pos ⟨List.all_eq_true.2 fun r hr => List.all_eq_true.1 h1 r (List.mem_of_mem_take hr), List.all_eq_true.2 fun r hr => List.all_eq_true.1 h1 r (List.mem_of_mem_drop hr)⟩, erase_take]
theorem erase_map {α : Type} (f : α → List AVal) (l : List α) (i : Nat) : (l.map f).eraseIdx i = (l.eraseIdx i).map f := by
  rw [← erase_take, ← erase_take, List.map_append, List.map_take, List.map_drop]
theorem eDelJobs (l : List Jb) (i : Nat) (hi : i < l.length) (hl : l.length ≤ 1000001) : fn C 85 [] [.usl 29 (l.map Jb.cs), .int .i64 (i : Nat), .int .i64 ((i + 1 : Nat) : Int)] = some (.usl 29 ((l.eraseIdx i).map Jb.cs), []) := by
  rw [eDelJob _ i (by simpa using hi) (by simpa using hl) (Jb_clos l) (Jb_ones l), erase_map]
theorem dropW (n : Nd) (A : AVal) (acts : List Ac) (hA : AcC A acts) (i : Nat) (hi : i < n.jobs.length) (h : n.mid 1000001) : fn C 213 [] [.uptr [.str n.me.name, .int .u64 (n.me.id : Int), .int .i64 n.me.fr, .int .i64 n.me.un, .int .i64 n.me.ix, .str n.me.tag, .int .i64 n.clock, .str n.psk, .int .i64 n.gateI, .str n.gateK, .bool n.ready, .slice 8 (n.pred.map Pr.cs), .slice 8 (n.list.map Pr.cs), .slice 9 (n.fingers.map Fg.cs), .usl 20 (n.sessions.map Se.cs), .usl 23 (n.pends.map Pd.cs), .slice 4 (n.items.map It.cs), .usl 29 (n.jobs.map Jb.cs), .int .i64 n.rid, .int .i64 n.jobId, .slice 1 (n.draws.map u64Row), .usl 8 (n.results.map Rs.cs), A], .int .i64 (i : Nat)] = some (.agg [.int .i64 n.jobs[i].id, .int .i64 n.jobs[i].kind, .int .i64 n.jobs[i].phase, .int .i64 n.jobs[i].hops, .int .i64 n.jobs[i].tries, .int .i64 n.jobs[i].til, .str n.jobs[i].key, .str n.jobs[i].val, .str n.jobs[i].owner.name, .int .u64 (n.jobs[i].owner.id : Int), .int .i64 n.jobs[i].owner.fr, .int .i64 n.jobs[i].owner.un, .int .i64 n.jobs[i].owner.ix, .str n.jobs[i].owner.tag, .str n.jobs[i].item.k, .str n.jobs[i].item.v, .int .i64 n.jobs[i].item.n, .bool n.jobs[i].item.g, .int .i64 n.jobs[i].acks, .int .i64 n.jobs[i].waits, .slice 1 (n.jobs[i].asked.map strRow), .str n.jobs[i].back.name, .int .u64 (n.jobs[i].back.id : Int), .int .i64 n.jobs[i].back.fr, .int .i64 n.jobs[i].back.un, .int .i64 n.jobs[i].back.ix, .str n.jobs[i].back.tag, .int .i64 n.jobs[i].backRid, .int .i64 n.jobs[i].backJob], [.uptr [.str n.me.name, .int .u64 (n.me.id : Int), .int .i64 n.me.fr, .int .i64 n.me.un, .int .i64 n.me.ix, .str n.me.tag, .int .i64 n.clock, .str n.psk, .int .i64 n.gateI, .str n.gateK, .bool n.ready, .slice 8 (n.pred.map Pr.cs), .slice 8 (n.list.map Pr.cs), .slice 9 (n.fingers.map Fg.cs), .usl 20 (n.sessions.map Se.cs), .usl 23 (n.pends.map Pd.cs), .slice 4 (n.items.map It.cs), .usl 29 ((n.jobs.eraseIdx i).map Jb.cs), .int .i64 n.rid, .int .i64 n.jobId, .slice 1 (n.draws.map u64Row), .usl 8 (n.results.map Rs.cs), A]]) := by
  have row := jb_row n.jobs i hi
  have jl := h.jl
  have del := eDelJobs n.jobs i hi h.jl
  rcases hA with _ | l
  · rw [fn_text Tryz.func213 rfl rfl Tryz.results213 fq213.1 rfl rfl (by kernel_rfl)]
    simp -implicitDefEqProofs -dsimp +contextual (maxSteps := 9999999) (disch := first | omega | simp only [go_sem] <;> omega | refine ib ?_; kernel_rfl) only [go_sem, seval, ↓reduceIte, row, del, hi]
  · rw [fn_text Tryz.func213 rfl rfl Tryz.results213 fq213.1 rfl rfl (by kernel_rfl)]
    simp -implicitDefEqProofs -dsimp +contextual (maxSteps := 9999999) (disch := first | omega | simp only [go_sem] <;> omega | refine ib ?_; kernel_rfl) only [go_sem, seval, ↓reduceIte, row, del, hi]
theorem Rs_app (l : List Rs) (a b c e : Int) (k v : List UInt8) (x g : Bool) : l.map Rs.cs ++ [[.int .i64 a, .int .i64 b, .int .i64 c, .str k, .str v, .bool x, .bool g, .int .i64 e]] = (l ++ [(⟨a, b, c, k, v, x, g, e⟩ : Rs)]).map Rs.cs := by rw [List.map_append]; rfl
theorem settleW (n : Nd) (A : AVal) (acts : List Ac) (hA : AcC A acts) (id : Int) (x : It) (has : Bool) (e : Int) (h : n.mid 1000000) : fn C 155 [] [.uptr [.str n.me.name, .int .u64 (n.me.id : Int), .int .i64 n.me.fr, .int .i64 n.me.un, .int .i64 n.me.ix, .str n.me.tag, .int .i64 n.clock, .str n.psk, .int .i64 n.gateI, .str n.gateK, .bool n.ready, .slice 8 (n.pred.map Pr.cs), .slice 8 (n.list.map Pr.cs), .slice 9 (n.fingers.map Fg.cs), .usl 20 (n.sessions.map Se.cs), .usl 23 (n.pends.map Pd.cs), .slice 4 (n.items.map It.cs), .usl 29 (n.jobs.map Jb.cs), .int .i64 n.rid, .int .i64 n.jobId, .slice 1 (n.draws.map u64Row), .usl 8 (n.results.map Rs.cs), A], .int .i64 id, .agg [.str x.k, .str x.v, .int .i64 x.n, .bool x.g], .bool has, .int .i64 e] =
    some (.tup [], [.uptr [.str n.me.name, .int .u64 (n.me.id : Int), .int .i64 n.me.fr, .int .i64 n.me.un, .int .i64 n.me.ix, .str n.me.tag, .int .i64 n.clock, .str n.psk, .int .i64 n.gateI, .str n.gateK, .bool n.ready, .slice 8 (n.pred.map Pr.cs), .slice 8 (n.list.map Pr.cs), .slice 9 (n.fingers.map Fg.cs), .usl 20 (n.sessions.map Se.cs), .usl 23 (n.pends.map Pd.cs), .slice 4 (n.items.map It.cs), .usl 29 ((settleR n id x has e).jobs.map Jb.cs), .int .i64 n.rid, .int .i64 n.jobId, .slice 1 (n.draws.map u64Row), .usl 8 ((settleR n id x has e).results.map Rs.cs), A]]) := by
  have jl := h.jl; have rl := h.rl
  rcases findR_cases n.jobs id with ⟨i, hi, hid, _, hf⟩ | ⟨_, hf⟩
  · have drp := dropW n A acts hA i hi (h.le (by omega))
    have hs : settleR n id x has e = { n with jobs := n.jobs.eraseIdx i, results := lastR (n.results ++ [resR id n.jobs[i] x has e]) } := by
      unfold settleR; rw [hf, if_pos (by omega), Int.toNat_natCast, jobG_at hi]
    rw [hs]
    simp only [lastR, List.length_append, List.length_singleton, resR]
    by_cases hc : 16 ≤ n.results.length
    · have dd : (if 0 < n.results.length - 15 then ((n.results.length - 15 : Nat) : Int) else 0).toNat = n.results.length - 15 := by split <;> omega
      rcases hA with _ | l
      · rw [fn_text Tryz.func155 rfl rfl Tryz.results155 fq155.1 rfl rfl (by kernel_rfl)]
        simp -implicitDefEqProofs -dsimp +contextual (maxSteps := 9999999) (disch := first | omega | simp only [go_sem] <;> omega | refine ib ?_; kernel_rfl) only [go_sem, seval, ↓reduceIte, drp, hf, hi, hid, hc, Rs_app]
        rw [dd]
      · rw [fn_text Tryz.func155 rfl rfl Tryz.results155 fq155.1 rfl rfl (by kernel_rfl)]
        simp -implicitDefEqProofs -dsimp +contextual (maxSteps := 9999999) (disch := first | omega | simp only [go_sem] <;> omega | refine ib ?_; kernel_rfl) only [go_sem, seval, ↓reduceIte, drp, hf, hi, hid, hc, Rs_app]
        rw [dd]
    · rw [show n.results.length + 1 - 16 = 0 from by omega, List.drop_zero]
      rcases hA with _ | l
      · rw [fn_text Tryz.func155 rfl rfl Tryz.results155 fq155.1 rfl rfl (by kernel_rfl)]
        simp -implicitDefEqProofs -dsimp +contextual (maxSteps := 9999999) (disch := first | omega | simp only [go_sem] <;> omega | refine ib ?_; kernel_rfl) only [go_sem, seval, ↓reduceIte, drp, hf, hi, hid, hc, Rs_app]
        rw [if_neg (by omega)]
        rfl
      · rw [fn_text Tryz.func155 rfl rfl Tryz.results155 fq155.1 rfl rfl (by kernel_rfl)]
        simp -implicitDefEqProofs -dsimp +contextual (maxSteps := 9999999) (disch := first | omega | simp only [go_sem] <;> omega | refine ib ?_; kernel_rfl) only [go_sem, seval, ↓reduceIte, drp, hf, hi, hid, hc, Rs_app]
        rw [if_neg (by omega)]
        rfl
  · have hs : settleR n id x has e = n := by unfold settleR; rw [hf, if_neg (by omega)]
    rw [hs]
    rcases hA with _ | l
    · rw [fn_text Tryz.func155 rfl rfl Tryz.results155 fq155.1 rfl rfl (by kernel_rfl)]
      simp -implicitDefEqProofs -dsimp +contextual (maxSteps := 9999999) (disch := first | omega | simp only [go_sem] <;> omega | refine ib ?_; kernel_rfl) only [go_sem, seval, ↓reduceIte, hf]
    · rw [fn_text Tryz.func155 rfl rfl Tryz.results155 fq155.1 rfl rfl (by kernel_rfl)]
      simp -implicitDefEqProofs -dsimp +contextual (maxSteps := 9999999) (disch := first | omega | simp only [go_sem] <;> omega | refine ib ?_; kernel_rfl) only [go_sem, seval, ↓reduceIte, hf]
theorem Ac_app (l : List Ac) (a : Ac) : l.map Ac.cs ++ [[.bool a.ans, .str a.to.name, .int .u64 (a.to.id : Int), .int .i64 a.to.fr, .int .i64 a.to.un, .int .i64 a.to.ix, .str a.to.tag, .int .i64 a.m.kind, .int .i64 a.m.rid, .int .i64 a.m.ver, .int .i64 a.m.err, .int .u64 (a.m.id : Int), .bool a.m.has, .bool a.m.gone, .str a.m.key, .str a.m.val, .slice 6 (a.m.ents.map En.cs), .slice 4 (a.m.items.map It.cs), .int .i64 a.why, .int .i64 a.job]] = (l ++ [a]).map Ac.cs := by rw [List.map_append]; rfl
theorem tellW0 (n : Nd) (A : AVal) (acts : List Ac) (hA : AcC A acts) (back : En) (rid : Int) (x : It) (has : Bool) (e : Int) (h : n.mid 1000000) (ha : acts.length ≤ 1000000) : fn C 165 [] [.uptr [.str n.me.name, .int .u64 (n.me.id : Int), .int .i64 n.me.fr, .int .i64 n.me.un, .int .i64 n.me.ix, .str n.me.tag, .int .i64 n.clock, .str n.psk, .int .i64 n.gateI, .str n.gateK, .bool n.ready, .slice 8 (n.pred.map Pr.cs), .slice 8 (n.list.map Pr.cs), .slice 9 (n.fingers.map Fg.cs), .usl 20 (n.sessions.map Se.cs), .usl 23 (n.pends.map Pd.cs), .slice 4 (n.items.map It.cs), .usl 29 (n.jobs.map Jb.cs), .int .i64 n.rid, .int .i64 n.jobId, .slice 1 (n.draws.map u64Row), .usl 8 (n.results.map Rs.cs), A], .agg [.str back.name, .int .u64 (back.id : Int), .int .i64 back.fr, .int .i64 back.un, .int .i64 back.ix, .str back.tag], .int .i64 rid, .int .i64 0, .agg [.str x.k, .str x.v, .int .i64 x.n, .bool x.g], .bool has, .int .i64 e] =
    some (.tup [], [.uptr [.str n.me.name, .int .u64 (n.me.id : Int), .int .i64 n.me.fr, .int .i64 n.me.un, .int .i64 n.me.ix, .str n.me.tag, .int .i64 n.clock, .str n.psk, .int .i64 n.gateI, .str n.gateK, .bool n.ready, .slice 8 (n.pred.map Pr.cs), .slice 8 (n.list.map Pr.cs), .slice 9 (n.fingers.map Fg.cs), .usl 20 (n.sessions.map Se.cs), .usl 23 (n.pends.map Pd.cs), .slice 4 (n.items.map It.cs), .usl 29 (n.jobs.map Jb.cs), .int .i64 n.rid, .int .i64 n.jobId, .slice 1 (n.draws.map u64Row), .usl 8 (n.results.map Rs.cs), .usl 20 ((acts ++ [doneA back rid x e]).map Ac.cs)]]) := by
  have ap := fun l : List Ac => (Ac_app l (doneA back rid x e)).symm
  rw [List.map_append]
  rcases hA with _ | l
  · rw [fn_textN Tryz.func165 rfl rfl Tryz.results165 fq165.1 rfl rfl (by kernel_rfl)]
    simp -implicitDefEqProofs -dsimp +contextual (maxSteps := 9999999) (disch := first | omega | simp only [go_sem] <;> omega | refine ib ?_; kernel_rfl) only [go_sem, seval, ↓reduceIte]
    rfl
  · rw [fn_textN Tryz.func165 rfl rfl Tryz.results165 fq165.1 rfl rfl (by kernel_rfl)]
    simp -implicitDefEqProofs -dsimp +contextual (maxSteps := 9999999) (disch := first | omega | simp only [go_sem] <;> omega | refine ib ?_; kernel_rfl) only [go_sem, seval, ↓reduceIte]
    rfl
theorem tellW1 (n : Nd) (A : AVal) (acts : List Ac) (hA : AcC A acts) (back : En) (rid job : Int) (x : It) (has : Bool) (e : Int) (hj : ¬ job = 0) (h : n.mid 1000000) : fn C 165 [] [.uptr [.str n.me.name, .int .u64 (n.me.id : Int), .int .i64 n.me.fr, .int .i64 n.me.un, .int .i64 n.me.ix, .str n.me.tag, .int .i64 n.clock, .str n.psk, .int .i64 n.gateI, .str n.gateK, .bool n.ready, .slice 8 (n.pred.map Pr.cs), .slice 8 (n.list.map Pr.cs), .slice 9 (n.fingers.map Fg.cs), .usl 20 (n.sessions.map Se.cs), .usl 23 (n.pends.map Pd.cs), .slice 4 (n.items.map It.cs), .usl 29 (n.jobs.map Jb.cs), .int .i64 n.rid, .int .i64 n.jobId, .slice 1 (n.draws.map u64Row), .usl 8 (n.results.map Rs.cs), A], .agg [.str back.name, .int .u64 (back.id : Int), .int .i64 back.fr, .int .i64 back.un, .int .i64 back.ix, .str back.tag], .int .i64 rid, .int .i64 job, .agg [.str x.k, .str x.v, .int .i64 x.n, .bool x.g], .bool has, .int .i64 e] =
    some (.tup [], [.uptr [.str n.me.name, .int .u64 (n.me.id : Int), .int .i64 n.me.fr, .int .i64 n.me.un, .int .i64 n.me.ix, .str n.me.tag, .int .i64 n.clock, .str n.psk, .int .i64 n.gateI, .str n.gateK, .bool n.ready, .slice 8 (n.pred.map Pr.cs), .slice 8 (n.list.map Pr.cs), .slice 9 (n.fingers.map Fg.cs), .usl 20 (n.sessions.map Se.cs), .usl 23 (n.pends.map Pd.cs), .slice 4 (n.items.map It.cs), .usl 29 ((settleR n job x has e).jobs.map Jb.cs), .int .i64 n.rid, .int .i64 n.jobId, .slice 1 (n.draws.map u64Row), .usl 8 ((settleR n job x has e).results.map Rs.cs), A]]) := by
  have st := settleW n A acts hA job x has e h
  rcases hA with _ | l
  · rw [fn_textN Tryz.func165 rfl rfl Tryz.results165 fq165.1 rfl rfl (by kernel_rfl)]
    simp -implicitDefEqProofs -dsimp +contextual (maxSteps := 9999999) (disch := first | omega | simp only [go_sem] <;> omega | refine ib ?_; kernel_rfl) only [go_sem, seval, ↓reduceIte, hj, st]
  · rw [fn_textN Tryz.func165 rfl rfl Tryz.results165 fq165.1 rfl rfl (by kernel_rfl)]
    simp -implicitDefEqProofs -dsimp +contextual (maxSteps := 9999999) (disch := first | omega | simp only [go_sem] <;> omega | refine ib ?_; kernel_rfl) only [go_sem, seval, ↓reduceIte, hj, st]
theorem endW0 (n : Nd) (A : AVal) (acts : List Ac) (hA : AcC A acts) (j : Jb) (hj : j.backJob = 0) (h : n.mid 1000000) (ha : acts.length ≤ 1000000) : fn C 227 [] [.uptr [.str n.me.name, .int .u64 (n.me.id : Int), .int .i64 n.me.fr, .int .i64 n.me.un, .int .i64 n.me.ix, .str n.me.tag, .int .i64 n.clock, .str n.psk, .int .i64 n.gateI, .str n.gateK, .bool n.ready, .slice 8 (n.pred.map Pr.cs), .slice 8 (n.list.map Pr.cs), .slice 9 (n.fingers.map Fg.cs), .usl 20 (n.sessions.map Se.cs), .usl 23 (n.pends.map Pd.cs), .slice 4 (n.items.map It.cs), .usl 29 (n.jobs.map Jb.cs), .int .i64 n.rid, .int .i64 n.jobId, .slice 1 (n.draws.map u64Row), .usl 8 (n.results.map Rs.cs), A], .agg [.int .i64 j.id, .int .i64 j.kind, .int .i64 j.phase, .int .i64 j.hops, .int .i64 j.tries, .int .i64 j.til, .str j.key, .str j.val, .str j.owner.name, .int .u64 (j.owner.id : Int), .int .i64 j.owner.fr, .int .i64 j.owner.un, .int .i64 j.owner.ix, .str j.owner.tag, .str j.item.k, .str j.item.v, .int .i64 j.item.n, .bool j.item.g, .int .i64 j.acks, .int .i64 j.waits, .slice 1 (j.asked.map strRow), .str j.back.name, .int .u64 (j.back.id : Int), .int .i64 j.back.fr, .int .i64 j.back.un, .int .i64 j.back.ix, .str j.back.tag, .int .i64 j.backRid, .int .i64 j.backJob]] = some (.tup [], [.uptr [.str n.me.name, .int .u64 (n.me.id : Int), .int .i64 n.me.fr, .int .i64 n.me.un, .int .i64 n.me.ix, .str n.me.tag, .int .i64 n.clock, .str n.psk, .int .i64 n.gateI, .str n.gateK, .bool n.ready, .slice 8 (n.pred.map Pr.cs), .slice 8 (n.list.map Pr.cs), .slice 9 (n.fingers.map Fg.cs), .usl 20 (n.sessions.map Se.cs), .usl 23 (n.pends.map Pd.cs), .slice 4 (n.items.map It.cs), .usl 29 (n.jobs.map Jb.cs), .int .i64 n.rid, .int .i64 n.jobId, .slice 1 (n.draws.map u64Row), .usl 8 (n.results.map Rs.cs), .usl 20 ((acts ++ [doneA j.back j.backRid j.item 0]).map Ac.cs)]]) := by
  have t := tellW0 n A acts hA j.back j.backRid j.item (!j.item.g) 0 h ha
  rcases hA with _ | l
  · rw [fn_text Tryz.func227 rfl rfl Tryz.results227 fq227.1 rfl rfl (by kernel_rfl)]
    simp -implicitDefEqProofs -dsimp +contextual (maxSteps := 9999999) (disch := first | omega | simp only [go_sem] <;> omega | refine ib ?_; kernel_rfl) only [go_sem, seval, ↓reduceIte, hj, t]
  · rw [fn_text Tryz.func227 rfl rfl Tryz.results227 fq227.1 rfl rfl (by kernel_rfl)]
    simp -implicitDefEqProofs -dsimp +contextual (maxSteps := 9999999) (disch := first | omega | simp only [go_sem] <;> omega | refine ib ?_; kernel_rfl) only [go_sem, seval, ↓reduceIte, hj, t]
theorem endW1 (n : Nd) (A : AVal) (acts : List Ac) (hA : AcC A acts) (j : Jb) (hj : ¬ j.backJob = 0) (h : n.mid 1000000) : fn C 227 [] [.uptr [.str n.me.name, .int .u64 (n.me.id : Int), .int .i64 n.me.fr, .int .i64 n.me.un, .int .i64 n.me.ix, .str n.me.tag, .int .i64 n.clock, .str n.psk, .int .i64 n.gateI, .str n.gateK, .bool n.ready, .slice 8 (n.pred.map Pr.cs), .slice 8 (n.list.map Pr.cs), .slice 9 (n.fingers.map Fg.cs), .usl 20 (n.sessions.map Se.cs), .usl 23 (n.pends.map Pd.cs), .slice 4 (n.items.map It.cs), .usl 29 (n.jobs.map Jb.cs), .int .i64 n.rid, .int .i64 n.jobId, .slice 1 (n.draws.map u64Row), .usl 8 (n.results.map Rs.cs), A], .agg [.int .i64 j.id, .int .i64 j.kind, .int .i64 j.phase, .int .i64 j.hops, .int .i64 j.tries, .int .i64 j.til, .str j.key, .str j.val, .str j.owner.name, .int .u64 (j.owner.id : Int), .int .i64 j.owner.fr, .int .i64 j.owner.un, .int .i64 j.owner.ix, .str j.owner.tag, .str j.item.k, .str j.item.v, .int .i64 j.item.n, .bool j.item.g, .int .i64 j.acks, .int .i64 j.waits, .slice 1 (j.asked.map strRow), .str j.back.name, .int .u64 (j.back.id : Int), .int .i64 j.back.fr, .int .i64 j.back.un, .int .i64 j.back.ix, .str j.back.tag, .int .i64 j.backRid, .int .i64 j.backJob]] =
    some (.tup [], [.uptr [.str n.me.name, .int .u64 (n.me.id : Int), .int .i64 n.me.fr, .int .i64 n.me.un, .int .i64 n.me.ix, .str n.me.tag, .int .i64 n.clock, .str n.psk, .int .i64 n.gateI, .str n.gateK, .bool n.ready, .slice 8 (n.pred.map Pr.cs), .slice 8 (n.list.map Pr.cs), .slice 9 (n.fingers.map Fg.cs), .usl 20 (n.sessions.map Se.cs), .usl 23 (n.pends.map Pd.cs), .slice 4 (n.items.map It.cs), .usl 29 ((settleR n j.backJob j.item (!j.item.g) 0).jobs.map Jb.cs), .int .i64 n.rid, .int .i64 n.jobId, .slice 1 (n.draws.map u64Row), .usl 8 ((settleR n j.backJob j.item (!j.item.g) 0).results.map Rs.cs), A]]) := by
  have t := tellW1 n A acts hA j.back j.backRid j.backJob j.item (!j.item.g) 0 hj h
  rcases hA with _ | l
  · rw [fn_text Tryz.func227 rfl rfl Tryz.results227 fq227.1 rfl rfl (by kernel_rfl)]
    simp -implicitDefEqProofs -dsimp +contextual (maxSteps := 9999999) (disch := first | omega | simp only [go_sem] <;> omega | refine ib ?_; kernel_rfl) only [go_sem, seval, ↓reduceIte, t]
  · rw [fn_text Tryz.func227 rfl rfl Tryz.results227 fq227.1 rfl rfl (by kernel_rfl)]
    simp -implicitDefEqProofs -dsimp +contextual (maxSteps := 9999999) (disch := first | omega | simp only [go_sem] <;> omega | refine ib ?_; kernel_rfl) only [go_sem, seval, ↓reduceIte, t]
theorem copR_at {l : List Jb} {id : Int} {i : Nat} (hi : i < l.length) (hf : findR l id = (i : Int)) (hk : l[i].kind = 4) : copR l id = (i : Int) := by
  unfold copR; rw [hf, if_pos ⟨by omega, by rw [Int.toNat_natCast, jobG_at hi]; exact hk⟩]
theorem copR_kind {l : List Jb} {id : Int} {i : Nat} (hi : i < l.length) (hf : findR l id = (i : Int)) (hk : ¬ l[i].kind = 4) : copR l id = -1 := by
  unfold copR; rw [hf, if_neg (fun h => hk (by rw [Int.toNat_natCast, jobG_at hi] at h; exact h.2))]
theorem copR_none {l : List Jb} {id : Int} (hf : findR l id = -1) : copR l id = -1 := by
  unfold copR; rw [hf, if_neg (fun h => by omega)]
theorem placeI (n : Nd) (A : AVal) (id : Int) (h : n.jobs.length ≤ 1000000) : fn C 224 [] [.iptr [.str n.me.name, .int .u64 (n.me.id : Int), .int .i64 n.me.fr, .int .i64 n.me.un, .int .i64 n.me.ix, .str n.me.tag, .int .i64 n.clock, .str n.psk, .int .i64 n.gateI, .str n.gateK, .bool n.ready, .slice 8 (n.pred.map Pr.cs), .slice 8 (n.list.map Pr.cs), .slice 9 (n.fingers.map Fg.cs), .slice 20 (n.sessions.map Se.cs), .slice 23 (n.pends.map Pd.cs), .slice 4 (n.items.map It.cs), .slice 29 (n.jobs.map Jb.cs), .int .i64 n.rid, .int .i64 n.jobId, .slice 1 (n.draws.map u64Row), .slice 8 (n.results.map Rs.cs), A], .int .i64 id] = some (.int .i64 (copR n.jobs id), []) := by
  rcases findR_cases n.jobs id with ⟨i, hi, hid, _, hf⟩ | ⟨_, hf⟩
  · have row := jb_row n.jobs i hi
    by_cases hk : n.jobs[i].kind = 4
    · rw [copR_at hi hf hk]
      rw [fn_text Tryz.func224 rfl rfl Tryz.results224 fq224.1 rfl rfl (by kernel_rfl)]
      simp -implicitDefEqProofs -dsimp +contextual (maxSteps := 9999999) (disch := first | omega | simp only [go_sem] <;> omega | refine ib ?_; kernel_rfl) only [go_sem, seval, ↓reduceIte, hf, row, hk, Nat.not_lt_zero]
    · rw [copR_kind hi hf hk]
      rw [fn_text Tryz.func224 rfl rfl Tryz.results224 fq224.1 rfl rfl (by kernel_rfl)]
      simp -implicitDefEqProofs -dsimp +contextual (maxSteps := 9999999) (disch := first | omega | simp only [go_sem] <;> omega | refine ib ?_; kernel_rfl) only [go_sem, seval, ↓reduceIte, hf, row, hk, Nat.not_lt_zero]
  · rw [copR_none hf]
    rw [fn_text Tryz.func224 rfl rfl Tryz.results224 fq224.1 rfl rfl (by kernel_rfl)]
    simp -implicitDefEqProofs -dsimp +contextual (maxSteps := 9999999) (disch := first | omega | simp only [go_sem] <;> omega | refine ib ?_; kernel_rfl) only [go_sem, seval, ↓reduceIte, hf]
@[go_sem] theorem e154 (n : Nd) (h : n.mid 1000000) : fn C 154 [] [(aNd n)] = some (.uptr [.str n.me.name, .int .u64 (n.me.id : Int), .int .i64 n.me.fr, .int .i64 n.me.un, .int .i64 n.me.ix, .str n.me.tag, .int .i64 n.clock, .str n.psk, .int .i64 n.gateI, .str n.gateK, .bool n.ready, .slice 8 (n.pred.map Pr.cs), .slice 8 (n.list.map Pr.cs), .slice 9 (n.fingers.map Fg.cs), .usl 20 (n.sessions.map Se.cs), .usl 23 (n.pends.map Pd.cs), .slice 4 (n.items.map It.cs), .usl 29 (n.jobs.map Jb.cs), .int .i64 n.rid, .int .i64 n.jobId, .slice 1 (n.draws.map u64Row), .usl 8 (n.results.map Rs.cs), .sc (.slice none 0 0)], []) := by
  rw [fn_text Tryz.func154 rfl rfl Tryz.results154 fq154.1 rfl rfl (by kernel_rfl)]
  simp -implicitDefEqProofs -dsimp +contextual (maxSteps := 9999999) (disch := first | omega | simp only [go_sem] <;> omega | refine ib ?_; kernel_rfl) only [go_sem, seval, ↓reduceIte, e13 n h]
@[go_sem] theorem e86 (n : Nd) (id : Int) (x : It) (has : Bool) (e : Int) (h : n.mid 1000000) : fn C 86 [] [(aNd n), .int .i64 id, .agg [.str x.k, .str x.v, .int .i64 x.n, .bool x.g], .bool has, .int .i64 e] = some (.agg (settleR n id x has e).ocs, []) := by
  have st := settleW n _ _ .nil id x has e h
  rw [settle_ocs]
  rw [fn_text Tryz.func86 rfl rfl Tryz.results86 fq86.1 rfl rfl (by kernel_rfl)]
  simp -implicitDefEqProofs -dsimp +contextual (maxSteps := 9999999) (disch := first | omega | simp only [go_sem] <;> omega | refine ib ?_; kernel_rfl) only [go_sem, seval, ↓reduceIte, e154 n h, st]
theorem mid_erase {n : Nd} {k : Nat} (i : Nat) (h : n.mid k) : ({ n with jobs := n.jobs.eraseIdx i } : Nd).mid k :=
  ⟨h.pl, h.ll, h.fl, h.sl, h.dl, h.il, Nat.le_trans (List.length_eraseIdx_le ..) h.jl, h.wl, h.rl, h.pe, h.pi, fun j hj => h.ja j (List.mem_of_mem_eraseIdx hj), h.ik⟩
theorem lastR_le (l : List Rs) : (lastR l).length ≤ 16 := by unfold lastR; simp; omega
theorem mid_settle {n : Nd} {k : Nat} (id : Int) (x : It) (has : Bool) (e : Int) (h : n.mid k) (hk : 16 ≤ k) : (settleR n id x has e).mid k := by
  unfold settleR
  split
  · exact ⟨h.pl, h.ll, h.fl, h.sl, h.dl, h.il, Nat.le_trans (List.length_eraseIdx_le ..) h.jl, h.wl, Nat.le_trans (lastR_le _) hk, h.pe, h.pi, fun j hj => h.ja j (List.mem_of_mem_eraseIdx hj), h.ik⟩
  · exact h
def WorkAt (o : Nat) (n : Nd) (acts : List Ac) (H : Heap) : Prop := ∃ A a b c d : Nat, ∃ X, H o = ⟨1, .live, 23, [[.str n.me.name, .int .u64 (n.me.id : Int), .int .i64 n.me.fr, .int .i64 n.me.un, .int .i64 n.me.ix, .str n.me.tag, .int .i64 n.clock, .str n.psk, .int .i64 n.gateI, .str n.gateK, .bool n.ready, .slice 8 (n.pred.map Pr.cs), .slice 8 (n.list.map Pr.cs), .slice 9 (n.fingers.map Fg.cs), .osl (o * 1000 + 15) a 0 n.sessions.length, .osl (o * 1000 + 16) b 0 n.pends.length, .slice 4 (n.items.map It.cs), .osl (o * 1000 + 18) c 0 n.jobs.length, .int .i64 n.rid, .int .i64 n.jobId, .slice 1 (n.draws.map u64Row), .osl (o * 1000 + 22) d 0 n.results.length, X]], false⟩ ∧
  H (o * 1000 + 15) = ⟨a, .live, 20, n.sessions.map Se.cs, false⟩ ∧ H (o * 1000 + 16) = ⟨b, .live, 23, n.pends.map Pd.cs, false⟩ ∧ H (o * 1000 + 18) = ⟨c, .live, 29, n.jobs.map Jb.cs, false⟩ ∧ H (o * 1000 + 22) = ⟨d, .live, 8, n.results.map Rs.cs, false⟩ ∧
  ((X = .sc (.slice none 0 0) ∧ acts = []) ∨ (X = .osl (o * 1000 + 23) A 0 acts.length ∧ H (o * 1000 + 23) = ⟨A, .live, 20, acts.map Ac.cs, false⟩))
@[go_sem] theorem Jb.app_cs (l : List Jb) (j : Jb) : l.map Jb.cs ++ [[.int .i64 j.id, .int .i64 j.kind, .int .i64 j.phase, .int .i64 j.hops, .int .i64 j.tries, .int .i64 j.til, .str j.key, .str j.val, .str j.owner.name, .int .u64 (j.owner.id : Int), .int .i64 j.owner.fr, .int .i64 j.owner.un, .int .i64 j.owner.ix, .str j.owner.tag, .str j.item.k, .str j.item.v, .int .i64 j.item.n, .bool j.item.g, .int .i64 j.acks, .int .i64 j.waits, .slice 1 (j.asked.map strRow), .str j.back.name, .int .u64 (j.back.id : Int), .int .i64 j.back.fr, .int .i64 j.back.un, .int .i64 j.back.ix, .str j.back.tag, .int .i64 j.backRid, .int .i64 j.backJob]] = (l ++ [j]).map Jb.cs := by rw [List.map_append]; rfl
@[go_sem] theorem Nd.cs_eq (n : Nd) : n.cs = [.str n.me.name, .int .u64 (n.me.id : Int), .int .i64 n.me.fr, .int .i64 n.me.un, .int .i64 n.me.ix, .str n.me.tag, .int .i64 n.clock, .str n.psk, .int .i64 n.gateI, .str n.gateK, .bool n.ready, .slice 8 (n.pred.map Pr.cs), .slice 8 (n.list.map Pr.cs), .slice 9 (n.fingers.map Fg.cs), .slice 20 (n.sessions.map Se.cs), .slice 23 (n.pends.map Pd.cs), .slice 4 (n.items.map It.cs), .slice 29 (n.jobs.map Jb.cs), .int .i64 n.rid, .int .i64 n.jobId, .slice 1 (n.draws.map u64Row), .slice 8 (n.results.map Rs.cs)] := rfl
@[go_sem] theorem e258 (l : List (List UInt8)) (name : List UInt8) (hl : l.length ≤ 9223372036854775807) : fn C 258 [] [.slice 1 (l.map strRow), .str name] = some (.int .i64 (placeG (fun s => decide (s = name)) l), []) := by
  rw [fn_text Tryz.func258 rfl rfl Tryz.results258 fq258.1 rfl rfl (by kernel_rfl)]
  simp -implicitDefEqProofs -dsimp +contextual (maxSteps := 9999999) (disch := first | omega | simp only [go_sem] <;> omega | refine ib ?_; kernel_rfl) only [go_sem, seval, ↓reduceIte]
  refine kFor l.length (fun i f H => f 0 = .slice 1 (l.map strRow) ∧ f 1 = .str name ∧ f 7 = .int .i64 (l.length : Nat) ∧ f 8 = .int .i64 (i : Nat) ∧ H = Heap.nil ∧ (l.take i).any (fun s => decide (s = name)) = false) ?_ ?_ (by exact ⟨rfl, rfl, rfl, rfl, rfl, rfl⟩)
  · rintro i f _ hi ⟨f0, f1, f7, f8, rfl, ha⟩ ih
    have row : (l.map strRow)[i]? = some [.str l[i]] := by rw [List.getElem?_map, List.getElem?_eq_getElem hi]; rfl
    by_cases h : l[i] = name
    · simp -implicitDefEqProofs -dsimp +contextual (maxSteps := 9999999) (disch := first | omega | simp only [go_sem] <;> omega | refine ib ?_; kernel_rfl) only [go_sem, seval, ↓reduceIte, f0, f1, f7, f8, hi, row, h]
      rw [placeG_at hi ha (by simp [h])]
    · have h' : ¬ name = l[i] := fun e => h e.symm
      simp -implicitDefEqProofs -dsimp +contextual (maxSteps := 9999999) (disch := first | omega | simp only [go_sem] <;> omega | refine ib ?_; kernel_rfl) only [go_sem, seval, ↓reduceIte, f0, f1, f7, f8, hi, row, h, h']
      exact ih _ _ ⟨f0, f1, f7, rfl, rfl, any_take hi ha (by simp [h])⟩
  · rintro f _ ⟨f0, f1, f7, f8, rfl, ha⟩
    simp -implicitDefEqProofs -dsimp +contextual (maxSteps := 9999999) (disch := first | omega | simp only [go_sem] <;> omega | refine ib ?_; kernel_rfl) only [go_sem, seval, ↓reduceIte, f0, f1, f7, f8]
    rw [placeG_none (any_end ha)]
@[go_sem] theorem e226 (l : List (List UInt8)) (name : List UInt8) (hl : l.length ≤ 9223372036854775807) : fn C 226 [] [.slice 1 (l.map strRow), .str name] = some (.bool (decide (name ∈ l)), []) := by
  rw [fn_text Tryz.func226 rfl rfl Tryz.results226 fq226.1 rfl rfl (by kernel_rfl)]
  rcases placeG_cases (fun s => decide (s = name)) l with ⟨i, hi, h1, _, h3⟩ | ⟨h1, h3⟩
  · simp -implicitDefEqProofs -dsimp +contextual (maxSteps := 9999999) (disch := first | omega | simp only [go_sem] <;> omega | refine ib ?_; kernel_rfl) only [go_sem, seval, ↓reduceIte, h3, Nat.not_lt_zero, Nat.zero_le]
    rw [decide_eq_true (by have := of_decide_eq_true h1; rw [← this]; exact List.getElem_mem hi)]
  · simp -implicitDefEqProofs -dsimp +contextual (maxSteps := 9999999) (disch := first | omega | simp only [go_sem] <;> omega | refine ib ?_; kernel_rfl) only [go_sem, seval, ↓reduceIte, h3]
    rw [decide_eq_false (fun hm => by have := any_mem h1 name hm; simp at this)]
theorem askR_full (id : Int) {j : Jb} (h : 2 ≤ fewR j.acks + fewR j.waits) : ∀ l, askR id l j = (j, [])
  | [] => rfl
  | p :: l => by rw [askR, if_pos h]
theorem fewR_b (n : Int) : 0 ≤ fewR n ∧ fewR n ≤ 2 := by unfold fewR; split <;> (try split) <;> omega
theorem askR_go (id : Int) (p : Pr) (l : List Pr) {j : Jb} (h : ¬ 2 ≤ fewR j.acks + fewR j.waits) (hn : ¬ p.e.name ∈ j.asked) :
    askR id (p :: l) j = ((askR id l { j with waits := fewR j.waits + 1, asked := j.asked ++ [p.e.name] }).1, copyA p.e j.item id :: (askR id l { j with waits := fewR j.waits + 1, asked := j.asked ++ [p.e.name] }).2) := by
  rw [askR, if_neg h, if_neg hn]
theorem askR_skip (id : Int) (p : Pr) (l : List Pr) {j : Jb} (h : ¬ 2 ≤ fewR j.acks + fewR j.waits) (hn : p.e.name ∈ j.asked) : askR id (p :: l) j = askR id l j := by
  rw [askR, if_neg h, if_pos hn]
theorem pr_row (l : List Pr) (i : Nat) (h : i < l.length) : (l.map Pr.cs)[i]? = some [.str l[i].e.name, .int .u64 (l[i].e.id : Int), .int .i64 l[i].e.fr, .int .i64 l[i].e.un, .int .i64 l[i].e.ix, .str l[i].e.tag, .int .i64 l[i].since, .int .i64 l[i].under] := by
  rw [List.getElem?_map, List.getElem?_eq_getElem h]; rfl
def pairC (q : Nd × List Ac) : AVal := .tup [.agg q.1.cs, .slice 20 (q.2.map Ac.cs)]
@[go_sem] theorem pairC_eq (q : Nd × List Ac) : pairC q = .tup [.agg q.1.cs, .slice 20 (q.2.map Ac.cs)] := rfl
theorem mid_set {n : Nd} {k : Nat} (i : Nat) (j : Jb) (h : n.mid k) (hj : j.asked.length ≤ k) : ({ n with jobs := n.jobs.set i j } : Nd).mid k :=
  ⟨h.pl, h.ll, h.fl, h.sl, h.dl, h.il, by simp; exact h.jl, h.wl, h.rl, h.pe, h.pi, fun x hx => by
    rcases List.mem_or_eq_of_mem_set hx with hx | rfl
    · exact h.ja x hx
    · exact hj, h.ik⟩
theorem setR_len (l : List It) (x : It) : (setR l x).length ≤ l.length + 1 := by
  unfold setR; split
  · simp
  · simp; omega
theorem setR_mem (l : List It) (x y : It) (h : y ∈ setR l x) : y ∈ l ∨ y = x := by
  unfold setR at h; split at h
  · exact List.mem_or_eq_of_mem_set h
  · rcases List.mem_append.1 h with h | h
    · exact .inl (List.mem_of_mem_take h)
    · rcases List.mem_cons.1 h with h | h
      · exact .inr h
      · exact .inl (List.mem_of_mem_drop h)
theorem putR_len (l : List It) (k v : List UInt8) (g : Bool) : (putR l k v g).1.length ≤ l.length + 1 := by
  have := setR_len l ⟨k, if g = true then [] else v, putV (getR l k).1.n, g⟩
  unfold putR; split
  · split
    · simp
    · split
      · simp
      · exact this
  · simp
theorem putR_key (l : List It) (k v : List UInt8) (g : Bool) (hk : k.length ≤ 9223372036854775807) (h : ∀ x ∈ l, x.k.length ≤ 9223372036854775807) : ∀ x ∈ (putR l k v g).1, x.k.length ≤ 9223372036854775807 := by
  intro y hy
  unfold putR at hy; split at hy
  · split at hy
    · exact h y hy
    · split at hy
      · exact h y hy
      · rcases setR_mem _ _ _ hy with hy | rfl
        · exact h y hy
        · exact hk
  · exact h y hy
theorem mid_begun {n : Nd} {k : Nat} (key val : List UInt8) (gone : Bool) (back : En) (rid job : Int) (hk : key.length ≤ 9223372036854775807) (h : n.mid k) : (begunR n key val gone back rid job).mid (k + 1) :=
  ⟨Nat.le_succ_of_le h.pl, Nat.le_succ_of_le h.ll, Nat.le_succ_of_le h.fl, Nat.le_succ_of_le h.sl, Nat.le_succ_of_le h.dl, Nat.le_trans (putR_len ..) (Nat.succ_le_succ h.il), by simp [begunR]; exact h.jl, Nat.le_succ_of_le h.wl, Nat.le_succ_of_le h.rl,
    fun p hp => Nat.le_succ_of_le (h.pe p hp), fun p hp => Nat.le_succ_of_le (h.pi p hp), fun j hj => by
      rcases List.mem_append.1 hj with hj | hj
      · exact Nat.le_succ_of_le (h.ja j hj)
      · rw [List.mem_singleton] at hj; rw [hj]; exact Nat.zero_le _, putR_key _ _ _ _ hk h.ik⟩
end Go.Proofs.YtnpkhdjgedeppaaGreatDoor
namespace Go.Proofs.YtnpkhdjgedeppaaGreatDoor
set_option maxHeartbeats 64000000
open Go.Am
set_option linter.unusedSimpArgs false
set_option linter.unusedVariables false
set_option maxRecDepth 100000
noncomputable def rowsG (js : List Jb) (i : Nat) (R : List AVal) : List (List AVal) := (js.map Jb.cs).set i R
@[go_sem] theorem rowsG_len (js i R) : (rowsG js i R).length = js.length := by simp [rowsG]
theorem rowsG_at {js : List Jb} {i : Nat} (hi : i < js.length) (R) : (rowsG js i R)[i]? = some R := by simp [rowsG, hi]
@[go_sem] theorem rowsG_set (js i R R') : (rowsG js i R).set i R' = rowsG js i R' := by simp [rowsG]
@[go_sem] theorem rowsG_close (js : List Jb) (i : Nat) (a0 a1 a2 a3 a4 a5 a6 a7 a8 a9 : Int) (k v : List UInt8) (o b : En) (x : It) (l : List (List UInt8)) : rowsG js i [.int .i64 a0, .int .i64 a1, .int .i64 a2, .int .i64 a3, .int .i64 a4, .int .i64 a5, .str k, .str v, .str o.name, .int .u64 (o.id : Int), .int .i64 o.fr, .int .i64 o.un, .int .i64 o.ix, .str o.tag, .str x.k, .str x.v, .int .i64 x.n, .bool x.g, .int .i64 a6, .int .i64 a7, .slice 1 (l.map strRow), .str b.name, .int .u64 (b.id : Int), .int .i64 b.fr, .int .i64 b.un, .int .i64 b.ix, .str b.tag, .int .i64 a8, .int .i64 a9] = (js.set i ⟨a0, a1, a2, a3, a4, a5, k, v, o, x, a6, a7, l, b, a8, a9⟩).map Jb.cs := by unfold rowsG; rw [List.map_set]; rfl
theorem rowsG_start {js : List Jb} {i : Nat} (R) : (js.map Jb.cs).set i R = rowsG js i R := rfl
theorem clo_pkE (H : Heap) : ∀ (d : Nat) (v : AVal), v.plain = true → pkE H d v = some (v, [])
  | 0, v, h => by cases v <;> simp [AVal.plain] at h <;> rfl
  | d + 1, v, h => by cases v <;> simp [AVal.plain] at h <;> rfl
theorem plain_pkL (H : Heap) (d : Nat) : ∀ l : List AVal, (∀ v ∈ l, v.plain = true) → pkL (pkE H d) l = some (l, [])
  | [], _ => rfl
  | v :: l, h => by
    rw [pkL, clo_pkE H d v (h v (by simp)), Option.bind_some, plain_pkL H d l (fun w hw => h w (by simp [hw]))]
    rfl
theorem plain_jb (j : Jb) : ∀ v ∈ j.cs, v.plain = true := by
  intro v hv
  simp only [Jb.cs, List.mem_cons, List.not_mem_nil, or_false] at hv
  rcases hv with rfl | rfl | rfl | rfl | rfl | rfl | rfl | rfl | rfl | rfl | rfl | rfl | rfl | rfl | rfl | rfl | rfl | rfl | rfl | rfl | rfl | rfl | rfl | rfl | rfl | rfl | rfl | rfl | rfl <;> rfl
theorem pkLL_jobs (H : Heap) (d : Nat) : ∀ js : List Jb, pkLL (pkE H d) (js.map Jb.cs) = some (js.map Jb.cs, [])
  | [] => rfl
  | j :: js => by
    rw [List.map_cons, pkLL, plain_pkL H d _ (plain_jb j), Option.bind_some, pkLL_jobs H d js]
    rfl
theorem pkLL_set (H : Heap) (d : Nat) (R : List AVal) : ∀ (js : List Jb) (i : Nat), i < js.length → pkLL (pkE H d) ((js.map Jb.cs).set i R) = (pkL (pkE H d) R).bind fun p => some ((js.map Jb.cs).set i p.1, p.2)
  | [], i, h => by simp at h
  | j :: js, 0, _ => by
    rw [List.map_cons, List.set_cons_zero, pkLL, pkLL_jobs]
    cases pkL (pkE H d) R <;> simp
  | j :: js, i + 1, h => by
    rw [List.map_cons, List.set_cons_succ, pkLL, plain_pkL H d _ (plain_jb j), Option.bind_some, pkLL_set H d R js i (by simpa using h)]
    cases pkL (pkE H d) R <;> simp
theorem pkL_app (f : AVal → Option (AVal × List Nat)) : ∀ (a b : List AVal), (∀ v ∈ a, f v = some (v, [])) → pkL f (a ++ b) = (pkL f b).bind fun p => some (a ++ p.1, p.2)
  | [], b, _ => by cases h : pkL f b <;> simp [h]
  | v :: a, b, h => by
    rw [List.cons_append, pkL, h v (by simp), Option.bind_some, pkL_app f a b (fun w hw => h w (by simp [hw]))]
    cases h2 : pkL f b <;> simp [h2]
theorem pkL_one (f : AVal → Option (AVal × List Nat)) (a b : List AVal) (A : AVal) (ha : ∀ v ∈ a, f v = some (v, [])) (hb : ∀ v ∈ b, f v = some (v, [])) : pkL f (a ++ A :: b) = (f A).bind fun p => some (a ++ p.1 :: b, p.2) := by
  have e := pkL_app f b [] hb
  simp only [List.append_nil, pkL, Option.bind_some] at e
  rw [pkL_app f a _ ha, pkL, e]
  cases h2 : f A <;> simp [h2]
def jbPre (a0 a1 a2 a3 a4 a5 a6 a7 : Int) (k v : List UInt8) (o : En) (x : It) : List AVal := [.int .i64 a0, .int .i64 a1, .int .i64 a2, .int .i64 a3, .int .i64 a4, .int .i64 a5, .str k, .str v, .str o.name, .int .u64 (o.id : Int), .int .i64 o.fr, .int .i64 o.un, .int .i64 o.ix, .str o.tag, .str x.k, .str x.v, .int .i64 x.n, .bool x.g, .int .i64 a6, .int .i64 a7]
def jbPost (b : En) (a8 a9 : Int) : List AVal := [.str b.name, .int .u64 (b.id : Int), .int .i64 b.fr, .int .i64 b.un, .int .i64 b.ix, .str b.tag, .int .i64 a8, .int .i64 a9]
theorem jb_split (a0 a1 a2 a3 a4 a5 a6 a7 a8 a9 : Int) (k v : List UInt8) (o b : En) (x : It) (A : AVal) : [.int .i64 a0, .int .i64 a1, .int .i64 a2, .int .i64 a3, .int .i64 a4, .int .i64 a5, .str k, .str v, .str o.name, .int .u64 (o.id : Int), .int .i64 o.fr, .int .i64 o.un, .int .i64 o.ix, .str o.tag, .str x.k, .str x.v, .int .i64 x.n, .bool x.g, .int .i64 a6, .int .i64 a7, A, .str b.name, .int .u64 (b.id : Int), .int .i64 b.fr, .int .i64 b.un, .int .i64 b.ix, .str b.tag, .int .i64 a8, .int .i64 a9] = jbPre a0 a1 a2 a3 a4 a5 a6 a7 k v o x ++ A :: jbPost b a8 a9 := rfl
theorem jbPre_plain (a0 a1 a2 a3 a4 a5 a6 a7 : Int) (k v : List UInt8) (o : En) (x : It) : ∀ w ∈ jbPre a0 a1 a2 a3 a4 a5 a6 a7 k v o x, w.plain = true := by
  intro w hw
  simp only [jbPre, List.mem_cons, List.not_mem_nil, or_false] at hw
  rcases hw with rfl | rfl | rfl | rfl | rfl | rfl | rfl | rfl | rfl | rfl | rfl | rfl | rfl | rfl | rfl | rfl | rfl | rfl | rfl | rfl <;> rfl
theorem jbPost_plain (b : En) (a8 a9 : Int) : ∀ w ∈ jbPost b a8 a9, w.plain = true := by
  intro w hw
  simp only [jbPost, List.mem_cons, List.not_mem_nil, or_false] at hw
  rcases hw with rfl | rfl | rfl | rfl | rfl | rfl | rfl | rfl <;> rfl
theorem k_rowsG {β : Type} (H : Heap) (d : Nat) (js : List Jb) (i : Nat) (a0 a1 a2 a3 a4 a5 a6 a7 a8 a9 : Int) (k v : List UInt8) (o b : En) (x : It) (A : AVal) (hi : i < js.length) (hA : A.clo = false ∨ A.plain = true) (K : List (List AVal) × List Nat → Option β) :
    @kB _ _ (pkRows (pkE H d) (rowsG js i [.int .i64 a0, .int .i64 a1, .int .i64 a2, .int .i64 a3, .int .i64 a4, .int .i64 a5, .str k, .str v, .str o.name, .int .u64 (o.id : Int), .int .i64 o.fr, .int .i64 o.un, .int .i64 o.ix, .str o.tag, .str x.k, .str x.v, .int .i64 x.n, .bool x.g, .int .i64 a6, .int .i64 a7, A, .str b.name, .int .u64 (b.id : Int), .int .i64 b.fr, .int .i64 b.un, .int .i64 b.ix, .str b.tag, .int .i64 a8, .int .i64 a9])) ⟨K⟩ = @kB _ _ (pkE H d A) ⟨fun p => K (rowsG js i [.int .i64 a0, .int .i64 a1, .int .i64 a2, .int .i64 a3, .int .i64 a4, .int .i64 a5, .str k, .str v, .str o.name, .int .u64 (o.id : Int), .int .i64 o.fr, .int .i64 o.un, .int .i64 o.ix, .str o.tag, .str x.k, .str x.v, .int .i64 x.n, .bool x.g, .int .i64 a6, .int .i64 a7, p.1, .str b.name, .int .u64 (b.id : Int), .int .i64 b.fr, .int .i64 b.un, .int .i64 b.ix, .str b.tag, .int .i64 a8, .int .i64 a9], p.2)⟩ := by
  have h1 := pkL_one (pkE H d) (jbPre a0 a1 a2 a3 a4 a5 a6 a7 k v o x) (jbPost b a8 a9) A (fun w hw => clo_pkE H d w (jbPre_plain _ _ _ _ _ _ _ _ _ _ _ _ w hw)) (fun w hw => clo_pkE H d w (jbPost_plain _ _ _ w hw))
  rw [← jb_split] at h1
  have h2 := pkLL_set H d [.int .i64 a0, .int .i64 a1, .int .i64 a2, .int .i64 a3, .int .i64 a4, .int .i64 a5, .str k, .str v, .str o.name, .int .u64 (o.id : Int), .int .i64 o.fr, .int .i64 o.un, .int .i64 o.ix, .str o.tag, .str x.k, .str x.v, .int .i64 x.n, .bool x.g, .int .i64 a6, .int .i64 a7, A, .str b.name, .int .u64 (b.id : Int), .int .i64 b.fr, .int .i64 b.un, .int .i64 b.ix, .str b.tag, .int .i64 a8, .int .i64 a9] js i hi
  rw [h1] at h2
  unfold pkRows rowsG
  split
  · rename_i hc
    have hp : A.plain = true := by
      rcases hA with hA | hA
      · have := List.all_eq_true.1 hc [.int .i64 a0, .int .i64 a1, .int .i64 a2, .int .i64 a3, .int .i64 a4, .int .i64 a5, .str k, .str v, .str o.name, .int .u64 (o.id : Int), .int .i64 o.fr, .int .i64 o.un, .int .i64 o.ix, .str o.tag, .str x.k, .str x.v, .int .i64 x.n, .bool x.g, .int .i64 a6, .int .i64 a7, A, .str b.name, .int .u64 (b.id : Int), .int .i64 b.fr, .int .i64 b.un, .int .i64 b.ix, .str b.tag, .int .i64 a8, .int .i64 a9] (List.mem_of_getElem? (i := i) (by simp [hi]))
        simp [clos, hA] at this
      · exact hA
    rw [clo_pkE H d A hp]
    rfl
  · rw [h2]
    cases h3 : pkE H d A with
    | none => rfl
    | some p => rfl
noncomputable def nlB (g : Int) : FuncId → List (Nat × Nat) := fun f => if f = 109 then (if g = -2 then [] else [(91, 2001)]) else M.nl f
noncomputable def M1 (g : Int) : Mds := { M with nl := nlB g, inls := [(166, 20000), (154, 40000), (13, 60000), (168, 80000)], gh := some (55, 3, g) }
noncomputable def own1 : Own := fun f => if f = 62 then some (cloneUO 1) else if f = 109 then none else if f = 999999 then none else if f = 203 then none else some (fun ex ds => fn C f ex ds)
theorem own1_ok : OwnOk E own1 := by
  intro f g ex ds q hf hg
  unfold own1 at hf
  split at hf
  · rename_i e
    subst e
    simp only [Option.some.injEq] at hf
    subst hf
    exact cloneUO_ok own_62_0 own_62 ex ds q hg
  · split at hf
    · cases hf
    · split at hf
      · cases hf
      · split at hf
        · cases hf
        · simp only [Option.some.injEq] at hf
          subst hf
          exact fnE_sound mixed own_ok hg
noncomputable def C1 (g : Int) : Cf := ⟨E, M1 g, own1⟩
section
variable (g : Int)
@[go_sem] theorem C1_E : (C1 g).E = E := rfl
@[go_sem] theorem C1_M : (C1 g).M = M1 g := rfl
@[go_sem] theorem M1_par : (M1 g).par = M.par := Eq.trans rfl rfl
@[go_sem] theorem M1_res : (M1 g).res = M.res := Eq.trans rfl rfl
@[go_sem] theorem M1_loc : (M1 g).loc = M.loc := Eq.trans rfl rfl
@[go_sem] theorem M1_nl : (M1 g).nl = nlB g := Eq.trans rfl rfl
@[go_sem] theorem nlB_on : nlB g 154 = M.nl 154 := if_neg (by decide)
@[go_sem] theorem nlB_Copy : nlB g 13 = M.nl 13 := if_neg (by decide)
@[go_sem] theorem nlB_more : nlB g 168 = M.nl 168 := if_neg (by decide)
@[go_sem] theorem nlB_done : nlB g 166 = M.nl 166 := if_neg (by decide)
@[go_sem] theorem nlB_came : nlB g 203 = M.nl 203 := if_neg (by decide)
@[go_sem] theorem nlB_A : nlB (-2) 109 = [] := by unfold nlB; rw [if_pos rfl, if_pos rfl]
theorem nlB_B (h : ¬ g = -2) : nlB g 109 = [(91, 2001)] := by unfold nlB; rw [if_pos rfl, if_neg h]
@[go_sem] theorem M1_cur : (M1 g).cur = [] := Eq.trans rfl rfl
@[go_sem] theorem M1_base : (M1 g).base = 0 := Eq.trans rfl rfl
@[go_sem] theorem M1_inls : (M1 g).inls = [(166, 20000), (154, 40000), (13, 60000), (168, 80000)] := Eq.trans rfl rfl
@[go_sem] theorem M1_gh : (M1 g).gh = some (55, 3, g) := Eq.trans rfl rfl
@[go_sem] theorem kB_map {α γ β : Type} (f : γ → α) (x : Option γ) (K : α → Option β) : @kB _ _ (x.map f) ⟨K⟩ = @kB _ _ x ⟨fun a => K (f a)⟩ := by cases x <;> rfl
def ghV (v : AVal) (n : Int) (C : Orc) : Orc := match v with | .int _ m => if m = n then C else closeO C | _ => C
@[go_sem] theorem gh_some (d t : Nat) (n : Int) (e : Tmp) (ρ : Operand → AVal) (C : Orc) : ghO (some (d, t, n)) (some e) ρ C = if e = d then ghV (ρ (.tmp t)) n C else C := by
  show (if some e = some d then _ else _) = _
  by_cases h : e = d
  · subst h; rw [if_pos rfl, if_pos rfl]; rfl
  · rw [if_neg (by simpa using h), if_neg h]
@[go_sem] theorem ghV_int (k : IntKind) (m n : Int) (C : Orc) : ghV (.int k m) n C = if m = n then C else closeO C := Eq.trans rfl rfl
@[go_sem] theorem closeO_eq (C : Orc) (f ex ds) : closeO C f ex ds = (C f ex ds).map fun q => (closeV q.1, q.2) := Eq.trans rfl rfl
@[go_sem] theorem closeV_usl (st es) : closeV (.usl st es) = .slice st es := Eq.trans rfl rfl
theorem c1_fn (f : FuncId) (h0 : f ≠ 62) (h1 : f ≠ 109) (h2 : f ≠ 999999) (h3 : f ≠ 203) (ex ds) : fn (C1 g) f ex ds = fn C f ex ds :=
  fn_own (g := fun ex ds => fn C f ex ds) (by show own1 f = _; unfold own1; rw [if_neg h0, if_neg h1, if_neg h2, if_neg h3]) ex ds
@[go_sem] theorem c1_Clone (es : List (List AVal)) : fn (C1 g) 62 [] [.slice 1 es] = gu (okRows es = true) (some (.usl 1 es, [])) := by
  rw [fn_own (g := cloneUO 1) (by show own1 62 = _; unfold own1; rw [if_pos rfl])]
  simp [cloneUO, gu]
@[go_sem] theorem c1_copies_work_place (ex ds) : fn (C1 g) 224 ex ds = fn C 224 ex ds := c1_fn g _ (by decide) (by decide) (by decide) (by decide) ex ds
@[go_sem] theorem c1_copies_few (ex ds) : fn (C1 g) 225 ex ds = fn C 225 ex ds := c1_fn g _ (by decide) (by decide) (by decide) (by decide) ex ds
@[go_sem] theorem c1_slices_Contains___string_string_ (ex ds) : fn (C1 g) 226 ex ds = fn C 226 ex ds := c1_fn g _ (by decide) (by decide) (by decide) (by decide) ex ds
@[go_sem] theorem c1_copies_work_drop (ex ds) : fn (C1 g) 213 ex ds = fn C 213 ex ds := c1_fn g _ (by decide) (by decide) (by decide) (by decide) ex ds
@[go_sem] theorem c1_copies_work_end (ex ds) : fn (C1 g) 227 ex ds = fn C 227 ex ds := c1_fn g _ (by decide) (by decide) (by decide) (by decide) ex ds
@[go_sem] theorem c1_copies_work_tell (ex ds) : fn (C1 g) 165 ex ds = fn C 165 ex ds := c1_fn g _ (by decide) (by decide) (by decide) (by decide) ex ds
@[go_sem] theorem c1_store_Put (ex ds) : fn (C1 g) 164 ex ds = fn C 164 ex ds := c1_fn g _ (by decide) (by decide) (by decide) (by decide) ex ds
@[go_sem] theorem c1_copies_next (ex ds) : fn (C1 g) 167 ex ds = fn C 167 ex ds := c1_fn g _ (by decide) (by decide) (by decide) (by decide) ex ds
@[go_sem] theorem c1_pends_Copy (ex ds) : fn (C1 g) 57 ex ds = fn C 57 ex ds := c1_fn g _ (by decide) (by decide) (by decide) (by decide) ex ds
@[go_sem] theorem c1_slices_Clone___api_Peer_api_Peer_ (ex ds) : fn (C1 g) 54 ex ds = fn C 54 ex ds := c1_fn g _ (by decide) (by decide) (by decide) (by decide) ex ds
@[go_sem] theorem c1_slices_Clone___api_Finger_api_Finger_ (ex ds) : fn (C1 g) 55 ex ds = fn C 55 ex ds := c1_fn g _ (by decide) (by decide) (by decide) (by decide) ex ds
@[go_sem] theorem c1_slices_Clone___api_Session_api_Session_ (ex ds) : fn (C1 g) 56 ex ds = fn C 56 ex ds := c1_fn g _ (by decide) (by decide) (by decide) (by decide) ex ds
@[go_sem] theorem c1_slices_Clone___api_Item_api_Item_ (ex ds) : fn (C1 g) 58 ex ds = fn C 58 ex ds := c1_fn g _ (by decide) (by decide) (by decide) (by decide) ex ds
@[go_sem] theorem c1_slices_Clone___api_Job_api_Job_ (ex ds) : fn (C1 g) 59 ex ds = fn C 59 ex ds := c1_fn g _ (by decide) (by decide) (by decide) (by decide) ex ds
@[go_sem] theorem c1_slices_Clone___api_Result_api_Result_ (ex ds) : fn (C1 g) 61 ex ds = fn C 61 ex ds := c1_fn g _ (by decide) (by decide) (by decide) (by decide) ex ds
@[go_sem] theorem c1_slices_Clone___uint64_uint64_ (ex ds) : fn (C1 g) 60 ex ds = fn C 60 ex ds := c1_fn g _ (by decide) (by decide) (by decide) (by decide) ex ds
end
end Go.Proofs.YtnpkhdjgedeppaaGreatDoor
namespace Go.Proofs.YtnpkhdjgedeppaaGreatDoor
set_option maxHeartbeats 64000000
open Go.Am
set_option linter.unusedSimpArgs false
set_option linter.unusedVariables false
set_option maxRecDepth 100000
structure WorkO (H : Heap) (n : Nd) (rows : List (List AVal)) : Prop where
  w : H 40106 = ⟨1, .live, 23, [[.str n.me.name, .int .u64 (n.me.id : Int), .int .i64 n.me.fr, .int .i64 n.me.un, .int .i64 n.me.ix, .str n.me.tag, .int .i64 n.clock, .str n.psk, .int .i64 n.gateI, .str n.gateK, .bool n.ready, .slice 8 (n.pred.map Pr.cs), .slice 8 (n.list.map Pr.cs), .slice 9 (n.fingers.map Fg.cs), .osl 60118 1 0 n.sessions.length, .osl 60121 1 0 n.pends.length, .slice 4 (n.items.map It.cs), .osl 60130 1 0 n.jobs.length, .int .i64 n.rid, .int .i64 n.jobId, .slice 1 (n.draws.map u64Row), .osl 60136 1 0 n.results.length, .sc (.slice none 0 0)]], false⟩
  s : H 60118 = ⟨1, .live, 20, n.sessions.map Se.cs, false⟩
  p : H 60121 = ⟨1, .live, 23, n.pends.map Pd.cs, false⟩
  j : H 60130 = ⟨1, .live, 29, rows, false⟩
  r : H 60136 = ⟨1, .live, 8, n.results.map Rs.cs, false⟩
@[go_sem] theorem nlOn : M.nl 154 = [] := Eq.trans rfl rfl
@[go_sem] theorem nlCopy : M.nl 13 = [] := Eq.trans rfl rfl
theorem il_on0 (n : Nd) (h : n.mid 1000000) (g : Int) (hg : ∀ i : Nat, i < n.jobs.length → ¬ ((i : Int) = g)) (H : Heap) (hH : ∀ o, 40000 ≤ o → H o = ⟨0, .dead, 0, [], false⟩) (K : AVal × Heap → Option Res) (R : Option Res)
    (k : ∀ H', WorkO H' n (n.jobs.map Jb.cs) → (∀ o, o < 40000 → H' o = H o) → K (.ptr 40106 1 0 0, H') = R) : @kB _ _ (il (C1 g) 154 [(aNd n)] H) ⟨K⟩ = R := by
  have := h.pl; have := h.ll; have := h.fl; have := h.sl; have := h.dl; have := h.il; have := h.jl; have := h.wl; have := h.rl
  have pc := e57 n.pends h.dl h.pe h.pi
  have g1 := hH 40101 (by omega); have g2 := hH 40106 (by omega); have g3 := hH 60101 (by omega); have g4 := hH 60102 (by omega); have g5 := hH 60118 (by omega); have g6 := hH 60121 (by omega); have g7 := hH 60130 (by omega); have g8 := hH 60136 (by omega)
  rw [il_text (C := C1 g) Tryz.func154 rfl Tryz.results154 (show (C1 g).M.loc 154 = _ from fq154.1) (by kernel_rfl)]
  simp -implicitDefEqProofs -dsimp +contextual (maxSteps := 9999999) (disch := first | omega | simp only [go_sem] <;> omega | refine ib ?_; kernel_rfl) only [go_sem, seval, ↓reduceIte, g1, g2]
  rw [il_text (C := C1 g) Tryz.func13 rfl Tryz.results13 (show (C1 g).M.loc 13 = _ from fq13.1) (by kernel_rfl)]
  simp -implicitDefEqProofs -dsimp +contextual (maxSteps := 9999999) (disch := first | omega | simp only [go_sem] <;> omega | refine ib ?_; kernel_rfl) only [go_sem, seval, ↓reduceIte, g1, g2, g3, g4, g5, g6, g7, g8, pc]
  refine kFor n.jobs.length (fun i f H' => f 1 = .ptr 60101 1 0 0 ∧ f 2 = .ptr 60102 1 0 0 ∧ f 42 = .int .i64 (n.jobs.length : Nat) ∧ f 43 = .int .i64 (i : Nat) ∧
    H' 60101 = ⟨1, .live, 22, [[.str n.me.name, .int .u64 (n.me.id : Int), .int .i64 n.me.fr, .int .i64 n.me.un, .int .i64 n.me.ix, .str n.me.tag, .int .i64 n.clock, .str n.psk, .int .i64 n.gateI, .str n.gateK, .bool n.ready, .slice 8 (n.pred.map Pr.cs), .slice 8 (n.list.map Pr.cs), .slice 9 (n.fingers.map Fg.cs), .osl 60118 1 0 n.sessions.length, .osl 60121 1 0 n.pends.length, .slice 4 (n.items.map It.cs), .osl 60130 1 0 n.jobs.length, .int .i64 n.rid, .int .i64 n.jobId, .slice 1 (n.draws.map u64Row), .osl 60136 1 0 n.results.length]], false⟩ ∧ (H' 60102).gen = 1 ∧ (H' 60102).mode = .live ∧ (∃ r : List AVal, r.length = 22 ∧ (H' 60102).rows = [r]) ∧
    H' 60118 = ⟨1, .live, 20, n.sessions.map Se.cs, false⟩ ∧ H' 60121 = ⟨1, .live, 23, n.pends.map Pd.cs, false⟩ ∧ H' 60130 = ⟨1, .live, 29, n.jobs.map Jb.cs, false⟩ ∧ H' 60136 = ⟨1, .live, 8, n.results.map Rs.cs, false⟩ ∧ H' 40106 = ⟨0, .dead, 0, [], false⟩ ∧ (∀ o, o < 40000 → H' o = H o)) ?_ ?_
    (by exact ⟨rfl, rfl, rfl, rfl, rfl, rfl, rfl, ⟨_, rfl, rfl⟩, rfl, rfl, rfl, rfl, g2, fun o ho => by repeat (first | rfl | rw [Heap.set_ne _ _ (by omega)])⟩)
  · rintro i f H' hi ⟨f1, f2, f42, f43, H1, H2, H2m, ⟨r, hr, H2r⟩, H3, H4, H5, H6, H7, H8⟩ ih
    have row := jb_row n.jobs i hi
    have st : (n.jobs.map Jb.cs).set i [.int .i64 n.jobs[i].id, .int .i64 n.jobs[i].kind, .int .i64 n.jobs[i].phase, .int .i64 n.jobs[i].hops, .int .i64 n.jobs[i].tries, .int .i64 n.jobs[i].til, .str n.jobs[i].key, .str n.jobs[i].val, .str n.jobs[i].owner.name, .int .u64 (n.jobs[i].owner.id : Int), .int .i64 n.jobs[i].owner.fr, .int .i64 n.jobs[i].owner.un, .int .i64 n.jobs[i].owner.ix, .str n.jobs[i].owner.tag, .str n.jobs[i].item.k, .str n.jobs[i].item.v, .int .i64 n.jobs[i].item.n, .bool n.jobs[i].item.g, .int .i64 n.jobs[i].acks, .int .i64 n.jobs[i].waits, .slice 1 (n.jobs[i].asked.map strRow), .str n.jobs[i].back.name, .int .u64 (n.jobs[i].back.id : Int), .int .i64 n.jobs[i].back.fr, .int .i64 n.jobs[i].back.un, .int .i64 n.jobs[i].back.ix, .str n.jobs[i].back.tag, .int .i64 n.jobs[i].backRid, .int .i64 n.jobs[i].backJob] = n.jobs.map Jb.cs := set_row Jb.cs n.jobs i hi
    have al := h.ja _ (List.getElem_mem hi)
    have ne := hg i hi
    simp -implicitDefEqProofs -dsimp +contextual (maxSteps := 9999999) (disch := first | omega | simp only [go_sem] <;> omega | refine ib ?_; kernel_rfl) only [go_sem, seval, ↓reduceIte, f1, f2, f42, f43, H1, H5, hi, row, st, al, ne]
    exact ih _ _ (by exact ⟨f1, f2, f42, rfl, H1, H2, H2m, ⟨r, hr, H2r⟩, H3, H4, by first | exact H5 | rfl, H6, H7, fun o ho => by repeat (first | exact H8 o ho | rw [Heap.set_ne _ _ (by omega)])⟩)
  · rintro f H' ⟨f1, f2, f42, f43, H1, H2, H2m, ⟨r, hr, H2r⟩, H3, H4, H5, H6, H7, H8⟩
    simp -implicitDefEqProofs -dsimp +contextual (maxSteps := 9999999) (disch := first | omega | simp only [go_sem] <;> omega | refine ib ?_; kernel_rfl) only [go_sem, seval, ↓reduceIte, f1, f2, f42, f43, H1, H2, H2m, H2r, hr, H3, H4, H5, H6, H7]
    exact k _ ⟨rfl, H3, H4, H5, H6⟩ (fun o ho => by repeat (first | exact H8 o ho | rw [Heap.set_ne _ _ (by omega)]))
theorem rowsG_mid {js : List Jb} {i k : Nat} (hk : k < js.length) (hn : ¬ k = i) (R) : (rowsG js i R)[k]? = some js[k].cs := by
  unfold rowsG; rw [List.getElem?_set_ne (fun e => hn e.symm), List.getElem?_map, List.getElem?_eq_getElem hk]; rfl
theorem rowsG_same {js : List Jb} {i k : Nat} (hk : k < js.length) (hn : ¬ k = i) (R) : (rowsG js i R).set k [.int .i64 js[k].id, .int .i64 js[k].kind, .int .i64 js[k].phase, .int .i64 js[k].hops, .int .i64 js[k].tries, .int .i64 js[k].til, .str js[k].key, .str js[k].val, .str js[k].owner.name, .int .u64 (js[k].owner.id : Int), .int .i64 js[k].owner.fr, .int .i64 js[k].owner.un, .int .i64 js[k].owner.ix, .str js[k].owner.tag, .str js[k].item.k, .str js[k].item.v, .int .i64 js[k].item.n, .bool js[k].item.g, .int .i64 js[k].acks, .int .i64 js[k].waits, .slice 1 (js[k].asked.map strRow), .str js[k].back.name, .int .u64 (js[k].back.id : Int), .int .i64 js[k].back.fr, .int .i64 js[k].back.un, .int .i64 js[k].back.ix, .str js[k].back.tag, .int .i64 js[k].backRid, .int .i64 js[k].backJob] = rowsG js i R := by
  unfold rowsG
  rw [List.set_comm _ _ (fun e => hn e.symm)]
  congr 1
  exact set_row Jb.cs js k hk
noncomputable def rowsT (n : Nd) (i m : Nat) (hi : i < n.jobs.length) : List (List AVal) := if i < m then rowsG n.jobs i [.int .i64 n.jobs[i].id, .int .i64 n.jobs[i].kind, .int .i64 n.jobs[i].phase, .int .i64 n.jobs[i].hops, .int .i64 n.jobs[i].tries, .int .i64 n.jobs[i].til, .str n.jobs[i].key, .str n.jobs[i].val, .str n.jobs[i].owner.name, .int .u64 (n.jobs[i].owner.id : Int), .int .i64 n.jobs[i].owner.fr, .int .i64 n.jobs[i].owner.un, .int .i64 n.jobs[i].owner.ix, .str n.jobs[i].owner.tag, .str n.jobs[i].item.k, .str n.jobs[i].item.v, .int .i64 n.jobs[i].item.n, .bool n.jobs[i].item.g, .int .i64 n.jobs[i].acks, .int .i64 n.jobs[i].waits, .osl 60155 1 0 n.jobs[i].asked.length, .str n.jobs[i].back.name, .int .u64 (n.jobs[i].back.id : Int), .int .i64 n.jobs[i].back.fr, .int .i64 n.jobs[i].back.un, .int .i64 n.jobs[i].back.ix, .str n.jobs[i].back.tag, .int .i64 n.jobs[i].backRid, .int .i64 n.jobs[i].backJob] else n.jobs.map Jb.cs
theorem il_on1 (n : Nd) (h : n.mid 1000000) (i : Nat) (hi : i < n.jobs.length) (H : Heap) (hH : ∀ o, 40000 ≤ o → H o = ⟨0, .dead, 0, [], false⟩) (K : AVal × Heap → Option Res) (R : Option Res)
    (k : ∀ H', WorkO H' n (rowsG n.jobs i [.int .i64 n.jobs[i].id, .int .i64 n.jobs[i].kind, .int .i64 n.jobs[i].phase, .int .i64 n.jobs[i].hops, .int .i64 n.jobs[i].tries, .int .i64 n.jobs[i].til, .str n.jobs[i].key, .str n.jobs[i].val, .str n.jobs[i].owner.name, .int .u64 (n.jobs[i].owner.id : Int), .int .i64 n.jobs[i].owner.fr, .int .i64 n.jobs[i].owner.un, .int .i64 n.jobs[i].owner.ix, .str n.jobs[i].owner.tag, .str n.jobs[i].item.k, .str n.jobs[i].item.v, .int .i64 n.jobs[i].item.n, .bool n.jobs[i].item.g, .int .i64 n.jobs[i].acks, .int .i64 n.jobs[i].waits, .osl 60155 1 0 n.jobs[i].asked.length, .str n.jobs[i].back.name, .int .u64 (n.jobs[i].back.id : Int), .int .i64 n.jobs[i].back.fr, .int .i64 n.jobs[i].back.un, .int .i64 n.jobs[i].back.ix, .str n.jobs[i].back.tag, .int .i64 n.jobs[i].backRid, .int .i64 n.jobs[i].backJob]) → H' 60155 = ⟨1, .live, 1, n.jobs[i].asked.map strRow, false⟩ → (∀ o, o < 40000 → H' o = H o) → K (.ptr 40106 1 0 0, H') = R) : @kB _ _ (il (C1 (i : Int)) 154 [(aNd n)] H) ⟨K⟩ = R := by
  have := h.pl; have := h.ll; have := h.fl; have := h.sl; have := h.dl; have := h.il; have := h.jl; have := h.wl; have := h.rl
  have pc := e57 n.pends h.dl h.pe h.pi
  have g1 := hH 40101 (by omega); have g2 := hH 40106 (by omega); have g3 := hH 60101 (by omega); have g4 := hH 60102 (by omega); have g5 := hH 60118 (by omega); have g6 := hH 60121 (by omega); have g7 := hH 60130 (by omega); have g8 := hH 60136 (by omega); have g9 := hH 60155 (by omega)
  obtain ⟨g, hg⟩ : ∃ g : Int, g = (i : Int) := ⟨_, rfl⟩
  rw [← hg]
  rw [il_text (C := C1 g) Tryz.func154 rfl Tryz.results154 (show (C1 g).M.loc 154 = _ from fq154.1) (by kernel_rfl)]
  simp -implicitDefEqProofs -dsimp +contextual (maxSteps := 9999999) (disch := first | omega | simp only [go_sem] <;> omega | refine ib ?_; kernel_rfl) only [go_sem, seval, ↓reduceIte, g1, g2]
  rw [il_text (C := C1 g) Tryz.func13 rfl Tryz.results13 (show (C1 g).M.loc 13 = _ from fq13.1) (by kernel_rfl)]
  simp -implicitDefEqProofs -dsimp +contextual (maxSteps := 9999999) (disch := first | omega | simp only [go_sem] <;> omega | refine ib ?_; kernel_rfl) only [go_sem, seval, ↓reduceIte, g1, g2, g3, g4, g5, g6, g7, g8, pc]
  refine kFor n.jobs.length (fun m f H' => f 1 = .ptr 60101 1 0 0 ∧ f 2 = .ptr 60102 1 0 0 ∧ f 42 = .int .i64 (n.jobs.length : Nat) ∧ f 43 = .int .i64 (m : Nat) ∧
    H' 60101 = ⟨1, .live, 22, [[.str n.me.name, .int .u64 (n.me.id : Int), .int .i64 n.me.fr, .int .i64 n.me.un, .int .i64 n.me.ix, .str n.me.tag, .int .i64 n.clock, .str n.psk, .int .i64 n.gateI, .str n.gateK, .bool n.ready, .slice 8 (n.pred.map Pr.cs), .slice 8 (n.list.map Pr.cs), .slice 9 (n.fingers.map Fg.cs), .osl 60118 1 0 n.sessions.length, .osl 60121 1 0 n.pends.length, .slice 4 (n.items.map It.cs), .osl 60130 1 0 n.jobs.length, .int .i64 n.rid, .int .i64 n.jobId, .slice 1 (n.draws.map u64Row), .osl 60136 1 0 n.results.length]], false⟩ ∧ (H' 60102).gen = 1 ∧ (H' 60102).mode = .live ∧ (∃ r : List AVal, r.length = 22 ∧ (H' 60102).rows = [r]) ∧
    H' 60118 = ⟨1, .live, 20, n.sessions.map Se.cs, false⟩ ∧ H' 60121 = ⟨1, .live, 23, n.pends.map Pd.cs, false⟩ ∧ H' 60130 = ⟨1, .live, 29, rowsT n i m hi, false⟩ ∧ H' 60136 = ⟨1, .live, 8, n.results.map Rs.cs, false⟩ ∧ H' 40106 = ⟨0, .dead, 0, [], false⟩ ∧ (∀ o, o < 40000 → H' o = H o) ∧
    H' 60155 = (if i < m then ⟨1, .live, 1, n.jobs[i].asked.map strRow, false⟩ else ⟨0, .dead, 0, [], false⟩)) ?_ ?_
    (by exact ⟨rfl, rfl, rfl, rfl, rfl, rfl, rfl, ⟨_, rfl, rfl⟩, rfl, rfl, by unfold rowsT; rw [if_neg (by omega)]; rfl, rfl, g2, fun o ho => by repeat (first | rfl | rw [Heap.set_ne _ _ (by omega)]), by rw [if_neg (by omega)]; repeat (first | exact g9 | rw [Heap.set_ne _ _ (by omega)])⟩)
  · rintro m f H' hm ⟨f1, f2, f42, f43, H1, H2, H2m, ⟨r, hr, H2r⟩, H3, H4, H5, H6, H7, H8, H9⟩ ih
    have al := h.ja _ (List.getElem_mem hm)
    rcases Nat.lt_trichotomy m i with hlt | rfl | hlt
    · have row := jb_row n.jobs m hm
      have st : (n.jobs.map Jb.cs).set m [.int .i64 n.jobs[m].id, .int .i64 n.jobs[m].kind, .int .i64 n.jobs[m].phase, .int .i64 n.jobs[m].hops, .int .i64 n.jobs[m].tries, .int .i64 n.jobs[m].til, .str n.jobs[m].key, .str n.jobs[m].val, .str n.jobs[m].owner.name, .int .u64 (n.jobs[m].owner.id : Int), .int .i64 n.jobs[m].owner.fr, .int .i64 n.jobs[m].owner.un, .int .i64 n.jobs[m].owner.ix, .str n.jobs[m].owner.tag, .str n.jobs[m].item.k, .str n.jobs[m].item.v, .int .i64 n.jobs[m].item.n, .bool n.jobs[m].item.g, .int .i64 n.jobs[m].acks, .int .i64 n.jobs[m].waits, .slice 1 (n.jobs[m].asked.map strRow), .str n.jobs[m].back.name, .int .u64 (n.jobs[m].back.id : Int), .int .i64 n.jobs[m].back.fr, .int .i64 n.jobs[m].back.un, .int .i64 n.jobs[m].back.ix, .str n.jobs[m].back.tag, .int .i64 n.jobs[m].backRid, .int .i64 n.jobs[m].backJob] = n.jobs.map Jb.cs := set_row Jb.cs n.jobs m hm
      have ne : ¬ (m : Int) = g := by omega
      have t1 : rowsT n i m hi = n.jobs.map Jb.cs := by unfold rowsT; rw [if_neg (by omega)]
      have t2 : rowsT n i (m + 1) hi = n.jobs.map Jb.cs := by unfold rowsT; rw [if_neg (by omega)]
      rw [t1] at H5
      rw [if_neg (by omega)] at H9
      simp -implicitDefEqProofs -dsimp +contextual (maxSteps := 9999999) (disch := first | omega | simp only [go_sem] <;> omega | refine ib ?_; kernel_rfl) only [go_sem, seval, ↓reduceIte, f1, f2, f42, f43, H1, H5, hm, row, st, al, ne]
      exact ih _ _ (by exact ⟨f1, f2, f42, rfl, H1, H2, H2m, ⟨r, hr, H2r⟩, H3, H4, by rw [t2]; first | exact H5 | rfl, H6, H7, fun o ho => by repeat (first | exact H8 o ho | rw [Heap.set_ne _ _ (by omega)]), by rw [if_neg (by omega)]; first | exact H9 | rfl⟩)
    · have row := jb_row n.jobs m hm
      have t1 : rowsT n m m hi = n.jobs.map Jb.cs := by unfold rowsT; rw [if_neg (by omega)]
      have t2 : rowsT n m (m + 1) hi = rowsG n.jobs m [.int .i64 n.jobs[m].id, .int .i64 n.jobs[m].kind, .int .i64 n.jobs[m].phase, .int .i64 n.jobs[m].hops, .int .i64 n.jobs[m].tries, .int .i64 n.jobs[m].til, .str n.jobs[m].key, .str n.jobs[m].val, .str n.jobs[m].owner.name, .int .u64 (n.jobs[m].owner.id : Int), .int .i64 n.jobs[m].owner.fr, .int .i64 n.jobs[m].owner.un, .int .i64 n.jobs[m].owner.ix, .str n.jobs[m].owner.tag, .str n.jobs[m].item.k, .str n.jobs[m].item.v, .int .i64 n.jobs[m].item.n, .bool n.jobs[m].item.g, .int .i64 n.jobs[m].acks, .int .i64 n.jobs[m].waits, .osl 60155 1 0 n.jobs[m].asked.length, .str n.jobs[m].back.name, .int .u64 (n.jobs[m].back.id : Int), .int .i64 n.jobs[m].back.fr, .int .i64 n.jobs[m].back.un, .int .i64 n.jobs[m].back.ix, .str n.jobs[m].back.tag, .int .i64 n.jobs[m].backRid, .int .i64 n.jobs[m].backJob] := by unfold rowsT; rw [if_pos (by omega)]
      rw [t1] at H5
      rw [if_neg (by omega)] at H9
      have eq : ((m : Int) = g) = True := eq_true hg.symm
      simp -implicitDefEqProofs -dsimp +contextual (maxSteps := 9999999) (disch := first | omega | simp only [go_sem] <;> omega | refine ib ?_; kernel_rfl) only [go_sem, seval, ↓reduceIte, f1, f2, f42, f43, H1, H5, H9, hm, row, al, eq, rowsG_start]
      exact ih _ _ (by exact ⟨f1, f2, f42, rfl, H1, H2, H2m, ⟨r, hr, H2r⟩, H3, H4, by rw [t2]; rfl, H6, H7, fun o ho => by repeat (first | exact H8 o ho | rw [Heap.set_ne _ _ (by omega)]), by rw [if_pos (by omega)]; rfl⟩)
    · have t1 : rowsT n i m hi = rowsG n.jobs i [.int .i64 n.jobs[i].id, .int .i64 n.jobs[i].kind, .int .i64 n.jobs[i].phase, .int .i64 n.jobs[i].hops, .int .i64 n.jobs[i].tries, .int .i64 n.jobs[i].til, .str n.jobs[i].key, .str n.jobs[i].val, .str n.jobs[i].owner.name, .int .u64 (n.jobs[i].owner.id : Int), .int .i64 n.jobs[i].owner.fr, .int .i64 n.jobs[i].owner.un, .int .i64 n.jobs[i].owner.ix, .str n.jobs[i].owner.tag, .str n.jobs[i].item.k, .str n.jobs[i].item.v, .int .i64 n.jobs[i].item.n, .bool n.jobs[i].item.g, .int .i64 n.jobs[i].acks, .int .i64 n.jobs[i].waits, .osl 60155 1 0 n.jobs[i].asked.length, .str n.jobs[i].back.name, .int .u64 (n.jobs[i].back.id : Int), .int .i64 n.jobs[i].back.fr, .int .i64 n.jobs[i].back.un, .int .i64 n.jobs[i].back.ix, .str n.jobs[i].back.tag, .int .i64 n.jobs[i].backRid, .int .i64 n.jobs[i].backJob] := by unfold rowsT; rw [if_pos (by omega)]
      have t2 : rowsT n i (m + 1) hi = rowsG n.jobs i [.int .i64 n.jobs[i].id, .int .i64 n.jobs[i].kind, .int .i64 n.jobs[i].phase, .int .i64 n.jobs[i].hops, .int .i64 n.jobs[i].tries, .int .i64 n.jobs[i].til, .str n.jobs[i].key, .str n.jobs[i].val, .str n.jobs[i].owner.name, .int .u64 (n.jobs[i].owner.id : Int), .int .i64 n.jobs[i].owner.fr, .int .i64 n.jobs[i].owner.un, .int .i64 n.jobs[i].owner.ix, .str n.jobs[i].owner.tag, .str n.jobs[i].item.k, .str n.jobs[i].item.v, .int .i64 n.jobs[i].item.n, .bool n.jobs[i].item.g, .int .i64 n.jobs[i].acks, .int .i64 n.jobs[i].waits, .osl 60155 1 0 n.jobs[i].asked.length, .str n.jobs[i].back.name, .int .u64 (n.jobs[i].back.id : Int), .int .i64 n.jobs[i].back.fr, .int .i64 n.jobs[i].back.un, .int .i64 n.jobs[i].back.ix, .str n.jobs[i].back.tag, .int .i64 n.jobs[i].backRid, .int .i64 n.jobs[i].backJob] := by unfold rowsT; rw [if_pos (by omega)]
      have row := rowsG_mid (i := i) hm (by omega) [.int .i64 n.jobs[i].id, .int .i64 n.jobs[i].kind, .int .i64 n.jobs[i].phase, .int .i64 n.jobs[i].hops, .int .i64 n.jobs[i].tries, .int .i64 n.jobs[i].til, .str n.jobs[i].key, .str n.jobs[i].val, .str n.jobs[i].owner.name, .int .u64 (n.jobs[i].owner.id : Int), .int .i64 n.jobs[i].owner.fr, .int .i64 n.jobs[i].owner.un, .int .i64 n.jobs[i].owner.ix, .str n.jobs[i].owner.tag, .str n.jobs[i].item.k, .str n.jobs[i].item.v, .int .i64 n.jobs[i].item.n, .bool n.jobs[i].item.g, .int .i64 n.jobs[i].acks, .int .i64 n.jobs[i].waits, .osl 60155 1 0 n.jobs[i].asked.length, .str n.jobs[i].back.name, .int .u64 (n.jobs[i].back.id : Int), .int .i64 n.jobs[i].back.fr, .int .i64 n.jobs[i].back.un, .int .i64 n.jobs[i].back.ix, .str n.jobs[i].back.tag, .int .i64 n.jobs[i].backRid, .int .i64 n.jobs[i].backJob]
      have st := rowsG_same (i := i) hm (by omega) [.int .i64 n.jobs[i].id, .int .i64 n.jobs[i].kind, .int .i64 n.jobs[i].phase, .int .i64 n.jobs[i].hops, .int .i64 n.jobs[i].tries, .int .i64 n.jobs[i].til, .str n.jobs[i].key, .str n.jobs[i].val, .str n.jobs[i].owner.name, .int .u64 (n.jobs[i].owner.id : Int), .int .i64 n.jobs[i].owner.fr, .int .i64 n.jobs[i].owner.un, .int .i64 n.jobs[i].owner.ix, .str n.jobs[i].owner.tag, .str n.jobs[i].item.k, .str n.jobs[i].item.v, .int .i64 n.jobs[i].item.n, .bool n.jobs[i].item.g, .int .i64 n.jobs[i].acks, .int .i64 n.jobs[i].waits, .osl 60155 1 0 n.jobs[i].asked.length, .str n.jobs[i].back.name, .int .u64 (n.jobs[i].back.id : Int), .int .i64 n.jobs[i].back.fr, .int .i64 n.jobs[i].back.un, .int .i64 n.jobs[i].back.ix, .str n.jobs[i].back.tag, .int .i64 n.jobs[i].backRid, .int .i64 n.jobs[i].backJob]
      rw [Jb.cs_eq] at row
      have ne : ¬ (m : Int) = g := by omega
      rw [t1] at H5
      rw [if_pos (by omega)] at H9
      simp -implicitDefEqProofs -dsimp +contextual (maxSteps := 9999999) (disch := first | omega | simp only [go_sem] <;> omega | refine ib ?_; kernel_rfl) only [go_sem, seval, ↓reduceIte, f1, f2, f42, f43, H1, H5, hm, row, st, al, ne]
      exact ih _ _ (by exact ⟨f1, f2, f42, rfl, H1, H2, H2m, ⟨r, hr, H2r⟩, H3, H4, by rw [t2]; first | exact H5 | rfl, H6, H7, fun o ho => by repeat (first | exact H8 o ho | rw [Heap.set_ne _ _ (by omega)]), by rw [if_pos (by omega)]; first | exact H9 | rfl⟩)
  · rintro f H' ⟨f1, f2, f42, f43, H1, H2, H2m, ⟨r, hr, H2r⟩, H3, H4, H5, H6, H7, H8, H9⟩
    have t1 : rowsT n i n.jobs.length hi = rowsG n.jobs i [.int .i64 n.jobs[i].id, .int .i64 n.jobs[i].kind, .int .i64 n.jobs[i].phase, .int .i64 n.jobs[i].hops, .int .i64 n.jobs[i].tries, .int .i64 n.jobs[i].til, .str n.jobs[i].key, .str n.jobs[i].val, .str n.jobs[i].owner.name, .int .u64 (n.jobs[i].owner.id : Int), .int .i64 n.jobs[i].owner.fr, .int .i64 n.jobs[i].owner.un, .int .i64 n.jobs[i].owner.ix, .str n.jobs[i].owner.tag, .str n.jobs[i].item.k, .str n.jobs[i].item.v, .int .i64 n.jobs[i].item.n, .bool n.jobs[i].item.g, .int .i64 n.jobs[i].acks, .int .i64 n.jobs[i].waits, .osl 60155 1 0 n.jobs[i].asked.length, .str n.jobs[i].back.name, .int .u64 (n.jobs[i].back.id : Int), .int .i64 n.jobs[i].back.fr, .int .i64 n.jobs[i].back.un, .int .i64 n.jobs[i].back.ix, .str n.jobs[i].back.tag, .int .i64 n.jobs[i].backRid, .int .i64 n.jobs[i].backJob] := by unfold rowsT; rw [if_pos (by omega)]
    rw [t1] at H5
    rw [if_pos hi] at H9
    simp -implicitDefEqProofs -dsimp +contextual (maxSteps := 9999999) (disch := first | omega | simp only [go_sem] <;> omega | refine ib ?_; kernel_rfl) only [go_sem, seval, ↓reduceIte, f1, f2, f42, f43, H1, H2, H2m, H2r, hr, H3, H4, H5, H6, H7]
    exact k _ ⟨rfl, H3, H4, H5, H6⟩ (by repeat (first | exact H9 | rw [Heap.set_ne _ _ (by omega)])) (fun o ho => by repeat (first | exact H8 o ho | rw [Heap.set_ne _ _ (by omega)]))
end Go.Proofs.YtnpkhdjgedeppaaGreatDoor
