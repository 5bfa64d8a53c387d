import Derived.Test.YtccfjidpdlfenaaDoorTDigest5
namespace Go.Proofs.YtccfjidpdlfenaaDoor
open Go.Am
set_option linter.unusedSimpArgs false
set_option linter.unusedVariables false
set_option maxRecDepth 100000
/-! Layer 3: sums. -/
def H0 : S8 := ⟨1779033703, 3144134277, 1013904242, 2773480762, 1359893119, 2600822924, 528734635, 1541459225⟩
theorem H0_w : [AVal.int .u32 1779033703, .int .u32 3144134277, .int .u32 1013904242, .int .u32 2773480762, .int .u32 1359893119, .int .u32 2600822924, .int .u32 528734635, .int .u32 1541459225] = H0.l.map w32 := by kernel_rfl
theorem H0_r : [[AVal.int .u32 1779033703], [.int .u32 3144134277], [.int .u32 1013904242], [.int .u32 2773480762], [.int .u32 1359893119], [.int .u32 2600822924], [.int .u32 528734635], [.int .u32 1541459225]] = H0.l.map wRow := by kernel_rfl
@[go_sem] theorem S8_len (s : S8) : s.l.length = 8 := rfl
def stS (all : List UInt8) : Nat → S8
  | 0 => H0
  | i + 1 => blockS (stS all i) ((all.drop (64 * i)).take 64)
def be8 (x : UInt32) : List UInt8 := [(W32.shr x 24).toUInt8, (W32.shr x 16).toUInt8, (W32.shr x 8).toUInt8, x.toUInt8]
def outS (s : S8) : List UInt8 := s.l.flatMap be8
def allB (b : List UInt8) : List UInt8 := b ++ padD b.length
def sumB (b : List UInt8) : List UInt8 := outS (stS (allB b) ((allB b).length / 64))
theorem padD_len (n : Nat) : (padD n).length = (119 - n % 64) % 64 + 9 := by simp [padD, beN_len]
theorem allB_len (b : List UInt8) : (allB b).length = b.length + ((119 - b.length % 64) % 64 + 9) := by rw [allB, List.length_append, padD_len]
theorem allB_mod (b : List UInt8) : (allB b).length % 64 = 0 := by rw [allB_len]; omega

@[go_sem] theorem e132 : fn C 132 [] [] = some (.agg (H0.l.map w32), []) := by
  rw [fn_text Tryd.func132 rfl rfl Tryd.results132 locM132 rfl rfl (by kernel_rfl)]
  simp -implicitDefEqProofs -dsimp +contextual (maxSteps := 5000000) (disch := first | omega | (simp only [go_sem] <;> omega) | (show indepB _ _ = true; refine id ?_; kernel_rfl)) only [go_sem, ↓reduceIte, Nat.reduceEqDiff, Nat.reduceBEq, Nat.reduceAdd, Nat.reduceSub, Nat.reduceLeDiff, Nat.reduceLT, Nat.reduceMul, Int.reduceNeg, Int.reduceLT, Int.reduceLE, Int.reduceAdd, Int.reduceSub, Int.reduceToNat, Int.reduceMul, Int.reduceMod, Int.reduceTMod, Int.reduceTDiv, Int.reduceEq, Nat.reducePow, Nat.reduceDiv, Nat.reduceShiftRight, Nat.reduceMod, List.reduceReplicate, H0_w]

@[go_sem] theorem e135 : fn C 135 [] [] = some (.slice 1 (H0.l.map wRow), []) := by
  rw [fn_text Tryd.func135 rfl rfl Tryd.results135 locM135 rfl rfl (by kernel_rfl)]
  simp -implicitDefEqProofs -dsimp +contextual (maxSteps := 5000000) (disch := first | omega | (simp only [go_sem] <;> omega) | (show indepB _ _ = true; refine id ?_; kernel_rfl)) only [go_sem, ↓reduceIte, Nat.reduceEqDiff, Nat.reduceBEq, Nat.reduceAdd, Nat.reduceSub, Nat.reduceLeDiff, Nat.reduceLT, Nat.reduceMul, Int.reduceNeg, Int.reduceLT, Int.reduceLE, Int.reduceAdd, Int.reduceSub, Int.reduceToNat, Int.reduceMul, Int.reduceMod, Int.reduceTMod, Int.reduceTDiv, Int.reduceEq, Nat.reducePow, Nat.reduceDiv, Nat.reduceShiftRight, Nat.reduceMod, List.reduceReplicate, H0_r]

attribute [local irreducible] blockS padD
set_option maxHeartbeats 1000000 in
@[go_sem] theorem e116 (b : List UInt8) (h : b.length ≤ 1000000) : fn C 116 [] [.slice 1 (b.map byteRow)] = some (.slice 1 ((sumB b).map byteRow), []) := by
  rw [fn_text Tryd.func116 rfl rfl Tryd.results116 locM116 rfl rfl (by kernel_rfl)]
  have hp := padD_len b.length
  simp -implicitDefEqProofs -dsimp +contextual (maxSteps := 5000000) (disch := first | omega | (simp only [go_sem] <;> omega) | (show indepB _ _ = true; refine id ?_; kernel_rfl)) only [go_sem, ↓reduceIte, Nat.reduceEqDiff, Nat.reduceBEq, Nat.reduceAdd, Nat.reduceSub, Nat.reduceLeDiff, Nat.reduceLT, Nat.reduceMul, Int.reduceNeg, Int.reduceLT, Int.reduceLE, Int.reduceAdd, Int.reduceSub, Int.reduceToNat, Int.reduceMul, Int.reduceMod, Int.reduceTMod, Int.reduceTDiv, Int.reduceEq, Nat.reducePow, Nat.reduceDiv, Nat.reduceShiftRight, Nat.reduceMod, List.reduceReplicate, h, hp]
  have hmod := allB_mod b
  have hAl := allB_len b
  rw [show b ++ padD b.length = allB b from rfl, sumB]
  generalize hA : allB b = A at *
  have hAm : A.length ≤ 1001000 := by omega
  obtain ⟨m, hm⟩ : ∃ m, A.length = 64 * m := ⟨A.length / 64, by omega⟩
  rw [show A.length / 64 = m by omega]
  refine (kLoop_rec (fun (i : Nat) f H => f 3 = .slice 1 (A.map byteRow) ∧ f 4 = .ptr 104 1 0 0 ∧ f 5 = .int .i64 ((64 * i : Nat) : Int) ∧ H 104 = ⟨1, .live, 8, [(stS A i).l.map w32], false⟩ ∧ (H 148).gen = 0 ∧ i ≤ m) (fun i => m - i) (fun _ => some (.slice 1 ((outS (stS A m)).map byteRow), [])) ?_ 0 _ _ ⟨rfl, rfl, rfl, rfl, rfl, by omega⟩)
  rintro i f H ⟨f3, f4, f5, H4, g, hi⟩ ih
  by_cases hl : 64 * i + 64 ≤ A.length
  · simp -implicitDefEqProofs -dsimp +contextual (maxSteps := 5000000) (disch := first | omega | (simp only [go_sem] <;> omega) | (show indepB _ _ = true; refine id ?_; kernel_rfl)) only [go_sem, ↓reduceIte, Nat.reduceEqDiff, Nat.reduceBEq, Nat.reduceAdd, Nat.reduceSub, Nat.reduceLeDiff, Nat.reduceLT, Nat.reduceMul, Int.reduceNeg, Int.reduceLT, Int.reduceLE, Int.reduceAdd, Int.reduceSub, Int.reduceToNat, Int.reduceMul, Int.reduceMod, Int.reduceTMod, Int.reduceTDiv, Int.reduceEq, Nat.reducePow, Nat.reduceDiv, Nat.reduceShiftRight, Nat.reduceMod, List.reduceReplicate, f3, f4, f5, H4, g, hl]
    refine ih (i + 1) _ _ ⟨f3, f4, by simp only [upd, if_true]; congr 1, ?_, g, by omega⟩ (by omega)
    rw [stS, show 64 * i + 64 - 64 * i = 64 by omega]
    rfl
  · obtain rfl : i = m := by omega
    simp -implicitDefEqProofs -dsimp +contextual (maxSteps := 5000000) (disch := first | omega | (simp only [go_sem] <;> omega) | (show indepB _ _ = true; refine id ?_; kernel_rfl)) only [go_sem, ↓reduceIte, Nat.reduceEqDiff, Nat.reduceBEq, Nat.reduceAdd, Nat.reduceSub, Nat.reduceLeDiff, Nat.reduceLT, Nat.reduceMul, Int.reduceNeg, Int.reduceLT, Int.reduceLE, Int.reduceAdd, Int.reduceSub, Int.reduceToNat, Int.reduceMul, Int.reduceMod, Int.reduceTMod, Int.reduceTDiv, Int.reduceEq, Nat.reducePow, Nat.reduceDiv, Nat.reduceShiftRight, Nat.reduceMod, List.reduceReplicate, f3, f4, f5, H4, g, hl]
    generalize stS A i = s
    have hsl : s.l.map w32 = [.int .u32 (s.a.toNat : Int), .int .u32 (s.b.toNat : Int), .int .u32 (s.c.toNat : Int), .int .u32 (s.d.toNat : Int), .int .u32 (s.e.toNat : Int), .int .u32 (s.f.toNat : Int), .int .u32 (s.g.toNat : Int), .int .u32 (s.h.toNat : Int)] := rfl
    rw [hsl]
    simp -implicitDefEqProofs -dsimp +contextual (maxSteps := 5000000) (disch := first | omega | (simp only [go_sem] <;> omega) | (show indepB _ _ = true; refine id ?_; kernel_rfl)) only [go_sem, ↓reduceIte, Nat.reduceEqDiff, Nat.reduceBEq, Nat.reduceAdd, Nat.reduceSub, Nat.reduceLeDiff, Nat.reduceLT, Nat.reduceMul, Int.reduceNeg, Int.reduceLT, Int.reduceLE, Int.reduceAdd, Int.reduceSub, Int.reduceToNat, Int.reduceMul, Int.reduceMod, Int.reduceTMod, Int.reduceTDiv, Int.reduceEq, Nat.reducePow, Nat.reduceDiv, Nat.reduceShiftRight, Nat.reduceMod, List.reduceReplicate, kLoop_eq, f3, H4, g]
    rfl

set_option maxHeartbeats 1000000 in
@[go_sem] theorem e117 (b : List UInt8) (h : b.length ≤ 1000000) : fn C 117 [] [.slice 1 (b.map byteRow)] = some (.usl 1 ((sumB b).map byteRow), []) := by
  rw [fn_text Tryd.func117 rfl rfl Tryd.results117 locM117 rfl rfl (by kernel_rfl)]
  have hp := padD_len b.length
  simp -implicitDefEqProofs -dsimp +contextual (maxSteps := 5000000) (disch := first | omega | (simp only [go_sem] <;> omega) | (show indepB _ _ = true; refine id ?_; kernel_rfl)) only [go_sem, ↓reduceIte, Nat.reduceEqDiff, Nat.reduceBEq, Nat.reduceAdd, Nat.reduceSub, Nat.reduceLeDiff, Nat.reduceLT, Nat.reduceMul, Int.reduceNeg, Int.reduceLT, Int.reduceLE, Int.reduceAdd, Int.reduceSub, Int.reduceToNat, Int.reduceMul, Int.reduceMod, Int.reduceTMod, Int.reduceTDiv, Int.reduceEq, Nat.reducePow, Nat.reduceDiv, Nat.reduceShiftRight, Nat.reduceMod, List.reduceReplicate, h, hp]
  have hmod := allB_mod b
  have hAl := allB_len b
  rw [show b ++ padD b.length = allB b from rfl, sumB, ← hAl]
  generalize hA : allB b = A at *
  have hAm : A.length ≤ 1001000 := by omega
  obtain ⟨m, hm⟩ : ∃ m, A.length = 64 * m := ⟨A.length / 64, by omega⟩
  rw [show A.length / 64 = m by omega]
  refine (kLoop_rec (fun (i : Nat) f H => f 3 = .osl 108 3 0 A.length ∧ f 4 = .slice 1 ((stS A i).l.map wRow) ∧ f 5 = .int .i64 ((64 * i : Nat) : Int) ∧ (H 108 = ⟨3, .live, 1, A.map byteRow, false⟩ ∨ H 108 = ⟨3, .froz, 1, A.map byteRow, false⟩) ∧ (H 157).gen = 0 ∧ i ≤ m) (fun i => m - i) (fun _ => some (.usl 1 ((outS (stS A m)).map byteRow), [])) ?_ 0 _ _ ⟨rfl, rfl, rfl, .inl rfl, rfl, by omega⟩)
  rintro i f H ⟨f3, f4, f5, H8, g, hi⟩ ih
  by_cases hl : 64 * i < A.length
  · have h64 : 64 * i + 64 ≤ A.length := by omega
    rcases H8 with H8 | H8
    · simp -implicitDefEqProofs -dsimp +contextual (maxSteps := 5000000) (disch := first | omega | (simp only [go_sem] <;> omega) | (show indepB _ _ = true; refine id ?_; kernel_rfl)) only [go_sem, ↓reduceIte, Nat.reduceEqDiff, Nat.reduceBEq, Nat.reduceAdd, Nat.reduceSub, Nat.reduceLeDiff, Nat.reduceLT, Nat.reduceMul, Int.reduceNeg, Int.reduceLT, Int.reduceLE, Int.reduceAdd, Int.reduceSub, Int.reduceToNat, Int.reduceMul, Int.reduceMod, Int.reduceTMod, Int.reduceTDiv, Int.reduceEq, Nat.reducePow, Nat.reduceDiv, Nat.reduceShiftRight, Nat.reduceMod, List.reduceReplicate, f3, f4, f5, H8, g, hl, h64]
      refine ih (i + 1) _ _ ⟨f3, ?_, by simp only [upd, if_true]; congr 1, .inr rfl, g, by omega⟩ (by omega)
      rw [stS, show 64 * i + 64 - 64 * i = 64 by omega]
      rfl
    · simp -implicitDefEqProofs -dsimp +contextual (maxSteps := 5000000) (disch := first | omega | (simp only [go_sem] <;> omega) | (show indepB _ _ = true; refine id ?_; kernel_rfl)) only [go_sem, ↓reduceIte, Nat.reduceEqDiff, Nat.reduceBEq, Nat.reduceAdd, Nat.reduceSub, Nat.reduceLeDiff, Nat.reduceLT, Nat.reduceMul, Int.reduceNeg, Int.reduceLT, Int.reduceLE, Int.reduceAdd, Int.reduceSub, Int.reduceToNat, Int.reduceMul, Int.reduceMod, Int.reduceTMod, Int.reduceTDiv, Int.reduceEq, Nat.reducePow, Nat.reduceDiv, Nat.reduceShiftRight, Nat.reduceMod, List.reduceReplicate, f3, f4, f5, H8, g, hl, h64]
      refine ih (i + 1) _ _ ⟨f3, ?_, by simp only [upd, if_true]; congr 1, .inr rfl, g, by omega⟩ (by omega)
      rw [stS, show 64 * i + 64 - 64 * i = 64 by omega]
      rfl
  · obtain rfl : i = m := by omega
    generalize stS A i = s at *
    have hsl : s.l.map wRow = [[.int .u32 (s.a.toNat : Int)], [.int .u32 (s.b.toNat : Int)], [.int .u32 (s.c.toNat : Int)], [.int .u32 (s.d.toNat : Int)], [.int .u32 (s.e.toNat : Int)], [.int .u32 (s.f.toNat : Int)], [.int .u32 (s.g.toNat : Int)], [.int .u32 (s.h.toNat : Int)]] := rfl
    rw [hsl] at f4
    rcases H8 with H8 | H8
    · simp -implicitDefEqProofs -dsimp +contextual (maxSteps := 5000000) (disch := first | omega | (simp only [go_sem] <;> omega) | (show indepB _ _ = true; refine id ?_; kernel_rfl)) only [go_sem, ↓reduceIte, Nat.reduceEqDiff, Nat.reduceBEq, Nat.reduceAdd, Nat.reduceSub, Nat.reduceLeDiff, Nat.reduceLT, Nat.reduceMul, Int.reduceNeg, Int.reduceLT, Int.reduceLE, Int.reduceAdd, Int.reduceSub, Int.reduceToNat, Int.reduceMul, Int.reduceMod, Int.reduceTMod, Int.reduceTDiv, Int.reduceEq, Nat.reducePow, Nat.reduceDiv, Nat.reduceShiftRight, Nat.reduceMod, List.reduceReplicate, f3, f4, f5, H8, g, hl, kLoop_eq]
      rfl
    · simp -implicitDefEqProofs -dsimp +contextual (maxSteps := 5000000) (disch := first | omega | (simp only [go_sem] <;> omega) | (show indepB _ _ = true; refine id ?_; kernel_rfl)) only [go_sem, ↓reduceIte, Nat.reduceEqDiff, Nat.reduceBEq, Nat.reduceAdd, Nat.reduceSub, Nat.reduceLeDiff, Nat.reduceLT, Nat.reduceMul, Int.reduceNeg, Int.reduceLT, Int.reduceLE, Int.reduceAdd, Int.reduceSub, Int.reduceToNat, Int.reduceMul, Int.reduceMod, Int.reduceTMod, Int.reduceTDiv, Int.reduceEq, Nat.reducePow, Nat.reduceDiv, Nat.reduceShiftRight, Nat.reduceMod, List.reduceReplicate, f3, f4, f5, H8, g, hl, kLoop_eq]
      rfl

end Go.Proofs.YtccfjidpdlfenaaDoor
