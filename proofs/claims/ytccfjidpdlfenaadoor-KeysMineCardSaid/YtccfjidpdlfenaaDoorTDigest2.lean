import Derived.Test.YtccfjidpdlfenaaDoorTDigest
namespace Go.Proofs.YtccfjidpdlfenaaDoor
open Go.Am
set_option linter.unusedSimpArgs false
set_option linter.unusedVariables false
set_option maxRecDepth 100000
/-! Layer 3: a block's words. -/
def wd (blk : List UInt8) (i : Nat) : UInt32 := be4 (blk.getD (4 * i) 0) (blk.getD (4 * i + 1) 0) (blk.getD (4 * i + 2) 0) (blk.getD (4 * i + 3) 0)
def wds (blk : List UInt8) (n : Nat) : List UInt32 := (List.range n).map (wd blk)
@[go_sem] theorem wds_len (blk : List UInt8) (n : Nat) : (wds blk n).length = n := by simp [wds]
theorem wds_succ (blk : List UInt8) (n : Nat) : wds blk (n + 1) = wds blk n ++ [wd blk n] := by simp [wds, List.range_succ]
def nxt (l : List UInt32) : UInt32 := l.getD (l.length - 16) 0 + l.getD (l.length - 7) 0 + sg0 (l.getD (l.length - 15) 0) + sg1 (l.getD (l.length - 2) 0)
def extW : Nat → List UInt32 → List UInt32
  | 0, l => l
  | n + 1, l => extW n (l ++ [nxt l])
theorem extW_len : ∀ (n : Nat) (l : List UInt32), (extW n l).length = l.length + n
  | 0, _ => rfl
  | n + 1, l => by rw [extW, extW_len]; simp; omega
def wsOf (blk : List UInt8) : List UInt32 := extW 48 (wds blk 16)
@[go_sem] theorem wsOf_len (blk : List UInt8) : (wsOf blk).length = 64 := by rw [wsOf, extW_len, wds_len]
def pad64 (l : List UInt32) : List UInt32 := l ++ List.replicate (64 - l.length) 0
theorem pad64_len (l : List UInt32) (h : l.length ≤ 64) : (pad64 l).length = 64 := by simp [pad64]; omega
theorem pad64_set (l : List UInt32) (x : UInt32) (h : l.length < 64) : (pad64 l).set l.length x = pad64 (l ++ [x]) := by
  unfold pad64
  rw [List.set_append_right _ _ (Nat.le_refl _), Nat.sub_self, show 64 - l.length = (64 - (l.length + 1)) + 1 by omega, List.replicate_succ, List.set_cons_zero, List.length_append]
  simp
theorem pad64_get (l : List UInt32) (i : Nat) (h : i < l.length) (h2 : i < (pad64 l).length) : (pad64 l)[i] = l[i] := by
  simp only [pad64]; rw [List.getElem_append_left h]
theorem pad64_all (l : List UInt32) (h : l.length = 64) : pad64 l = l := by simp [pad64, h]
theorem getD_of {α : Type} (l : List α) (i : Nat) (d : α) (h : i < l.length) : l.getD i d = l[i] := by
  rw [List.getD_eq_getElem?_getD, List.getElem?_eq_getElem h]; rfl
def Z64w : List AVal := (List.replicate 64 (0 : UInt32)).map w32
@[go_sem] theorem Z64w_len : Z64w.length = 64 := rfl
@[go_sem] theorem Z64w_drop : Z64w.drop 64 = [] := rfl
theorem pad0 (blk : List UInt8) : (pad64 (wds blk 0)).map w32 = Z64w := rfl
attribute [local irreducible] extW wds pad64 nxt wd
set_option maxHeartbeats 1000000 in
@[go_sem] theorem e154 (blk : List UInt8) (h : blk.length = 64) : fn C 154 [] [.agg (blk.map w8)] = some (.agg ((wsOf blk).map w32), []) := by
  rw [fn_text Tryd.func154 rfl rfl Tryd.results154 locM154 rfl rfl (okArgs_of (by kernel_rfl) (by kernel_rfl) (by simp only [go_sem]) rfl)]
  simp -implicitDefEqProofs -dsimp +contextual (maxSteps := 5000000) (disch := first | omega | (simp only [go_sem] <;> omega) | (show indepB _ _ = true; refine id ?_; kernel_rfl)) only [go_sem, ↓reduceIte, Nat.reduceEqDiff, Nat.reduceBEq, Nat.reduceAdd, Nat.reduceSub, Nat.reduceLeDiff, Nat.reduceLT, Nat.reduceMul, Int.reduceNeg, Int.reduceLT, Int.reduceLE, Int.reduceAdd, Int.reduceSub, Int.reduceToNat, Int.reduceMul, Int.reduceMod, Int.reduceTMod, Int.reduceTDiv, Int.reduceEq, Nat.reducePow, Nat.reduceDiv, Nat.reduceShiftRight, Nat.reduceMod, List.reduceReplicate, h]
  refine (kLoop_rec (fun (i : Nat) f H => f 1 = .ptr 101 1 0 0 ∧ f 2 = .ptr 102 1 0 0 ∧ f 3 = .ptr 103 1 0 0 ∧ f 8 = .int .i64 (i : Int) ∧ H 101 = ⟨1, .live, 64, [blk.map w8], false⟩ ∧ H 102 = ⟨1, .live, 64, [Z64w], false⟩ ∧ H 103 = ⟨1, .live, 64, [(pad64 (wds blk i)).map w32], false⟩ ∧ i ≤ 16) (fun i => 16 - i) (fun _ => some (.agg ((wsOf blk).map w32), [])) ?_ 0 _ _ ⟨rfl, rfl, rfl, rfl, rfl, rfl, by rw [pad0]; rfl, by omega⟩)
  rintro i f H ⟨f1, f2, f3, f8, H1, H2, H3, hi⟩ ih
  have hp := pad64_len (wds blk i) (by rw [wds_len]; omega)
  by_cases hl : i < 16
  · simp -implicitDefEqProofs -dsimp +contextual (maxSteps := 5000000) (disch := first | omega | (simp only [go_sem] <;> omega) | (show indepB _ _ = true; refine id ?_; kernel_rfl)) only [go_sem, ↓reduceIte, Nat.reduceEqDiff, Nat.reduceBEq, Nat.reduceAdd, Nat.reduceSub, Nat.reduceLeDiff, Nat.reduceLT, Nat.reduceMul, Int.reduceNeg, Int.reduceLT, Int.reduceLE, Int.reduceAdd, Int.reduceSub, Int.reduceToNat, Int.reduceMul, Int.reduceMod, Int.reduceTMod, Int.reduceTDiv, Int.reduceEq, Nat.reducePow, Nat.reduceDiv, Nat.reduceShiftRight, Nat.reduceMod, List.reduceReplicate, f1, f2, f3, f8, H1, H3, hl, h, hp]
    have hw : ((W32.shl blk[4 * i].toUInt32 24 ||| W32.shl blk[4 * i + 1].toUInt32 16) ||| W32.shl blk[4 * i + 2].toUInt32 8) ||| blk[4 * i + 3].toUInt32 = wd blk i := by
      rw [wd, getD_of _ _ _ (by omega), getD_of _ _ _ (by omega), getD_of _ _ _ (by omega), getD_of _ _ _ (by omega)]; rfl
    have hs := pad64_set (wds blk i) (wd blk i) (by rw [wds_len]; omega)
    rw [wds_len, ← wds_succ] at hs
    rw [hw, hs]
    exact ih (i + 1) _ _ ⟨f1, f2, f3, rfl, H1, H2, rfl, by omega⟩ (by omega)
  · obtain rfl : i = 16 := by omega
    simp -implicitDefEqProofs -dsimp +contextual (maxSteps := 5000000) (disch := first | omega | (simp only [go_sem] <;> omega) | (show indepB _ _ = true; refine id ?_; kernel_rfl)) only [go_sem, ↓reduceIte, Nat.reduceEqDiff, Nat.reduceBEq, Nat.reduceAdd, Nat.reduceSub, Nat.reduceLeDiff, Nat.reduceLT, Nat.reduceMul, Int.reduceNeg, Int.reduceLT, Int.reduceLE, Int.reduceAdd, Int.reduceSub, Int.reduceToNat, Int.reduceMul, Int.reduceMod, Int.reduceTMod, Int.reduceTDiv, Int.reduceEq, Nat.reducePow, Nat.reduceDiv, Nat.reduceShiftRight, Nat.reduceMod, List.reduceReplicate, f1, f2, f3, f8, H1, H3, hl, h, hp]
    rw [wsOf, show (48 : Nat) = 64 - 16 from rfl]
    refine (kLoop_rec2 (fun (t : Nat) (l : List UInt32) f H => f 1 = .ptr 101 1 0 0 ∧ f 2 = .ptr 102 1 0 0 ∧ f 3 = .ptr 103 1 0 0 ∧ f 5 = .int .i64 (t : Int) ∧ H 102 = ⟨1, .live, 64, [Z64w], false⟩ ∧ H 103 = ⟨1, .live, 64, [(pad64 l).map w32], false⟩ ∧ l.length = t ∧ 16 ≤ t ∧ t ≤ 64) (fun t _ => 64 - t) (fun t l => some (.agg ((extW (64 - t) l).map w32), [])) ?_ 16 (wds blk 16) _ _ ⟨f1, f2, f3, rfl, H2, H3, wds_len _ _, by omega, by omega⟩)
    rintro t l f H ⟨f1, f2, f3, f5, H2, H3, hlen, ht, ht2⟩ ih
    have hp := pad64_len l (by omega)
    by_cases hlt : t < 64
    · have g1 := pad64_get l (t - 15) (by omega) (by omega)
      have g2 := pad64_get l (t - 2) (by omega) (by omega)
      have g3 := pad64_get l (t - 16) (by omega) (by omega)
      have g4 := pad64_get l (t - 7) (by omega) (by omega)
      simp -implicitDefEqProofs -dsimp +contextual (maxSteps := 5000000) (disch := first | omega | (simp only [go_sem] <;> omega) | (show indepB _ _ = true; refine id ?_; kernel_rfl)) only [go_sem, ↓reduceIte, Nat.reduceEqDiff, Nat.reduceBEq, Nat.reduceAdd, Nat.reduceSub, Nat.reduceLeDiff, Nat.reduceLT, Nat.reduceMul, Int.reduceNeg, Int.reduceLT, Int.reduceLE, Int.reduceAdd, Int.reduceSub, Int.reduceToNat, Int.reduceMul, Int.reduceMod, Int.reduceTMod, Int.reduceTDiv, Int.reduceEq, Nat.reducePow, Nat.reduceDiv, Nat.reduceShiftRight, Nat.reduceMod, List.reduceReplicate, f1, f2, f3, f5, H2, H3, hlt, hp, g1, g2, g3, g4]
      have hn : l[t - 16] + l[t - 7] + (rr l[t - 15] 7 ^^^ rr l[t - 15] 18 ^^^ W32.shr l[t - 15] 3) + (rr l[t - 2] 17 ^^^ rr l[t - 2] 19 ^^^ W32.shr l[t - 2] 10) = nxt l := by
        subst hlen
        rw [nxt, getD_of _ _ _ (by omega), getD_of _ _ _ (by omega), getD_of _ _ _ (by omega), getD_of _ _ _ (by omega)]; rfl
      have hs := pad64_set l (nxt l) (by omega)
      rw [hlen] at hs
      rw [hn, hs, show 64 - t = (64 - (t + 1)) + 1 by omega, extW]
      exact ih (t + 1) (l ++ [nxt l]) _ _ ⟨f1, f2, f3, rfl, H2, rfl, by simp [hlen], by omega, by omega⟩ (by omega)
    · simp -implicitDefEqProofs -dsimp +contextual (maxSteps := 5000000) (disch := first | omega | (simp only [go_sem] <;> omega) | (show indepB _ _ = true; refine id ?_; kernel_rfl)) only [go_sem, ↓reduceIte, Nat.reduceEqDiff, Nat.reduceBEq, Nat.reduceAdd, Nat.reduceSub, Nat.reduceLeDiff, Nat.reduceLT, Nat.reduceMul, Int.reduceNeg, Int.reduceLT, Int.reduceLE, Int.reduceAdd, Int.reduceSub, Int.reduceToNat, Int.reduceMul, Int.reduceMod, Int.reduceTMod, Int.reduceTDiv, Int.reduceEq, Nat.reducePow, Nat.reduceDiv, Nat.reduceShiftRight, Nat.reduceMod, List.reduceReplicate, f1, f2, f3, f5, H2, H3, hlt, hp]
      obtain rfl : t = 64 := by omega
      rw [pad64_all l hlen, show 64 - 64 = 0 from rfl, extW]

end Go.Proofs.YtccfjidpdlfenaaDoor
