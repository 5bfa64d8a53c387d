import Derived.Test.YtccfjidpdlfenaaDoorTLabel
namespace Go.Proofs.YtccfjidpdlfenaaDoor
open Go.Am
set_option linter.unusedSimpArgs false
set_option linter.unusedVariables false
set_option maxRecDepth 100000
structure It where
  k : List UInt8
  v : List UInt8
  n : Int
  g : Bool
deriving DecidableEq
def It.cs (x : It) : List AVal := [.str x.k, .str x.v, .int .i64 x.n, .bool x.g]
def zeroIt : It := ⟨[], [], 0, false⟩
@[go_sem] theorem zeroIt_k : zeroIt.k = [] := rfl
@[go_sem] theorem zeroIt_v : zeroIt.v = [] := rfl
@[go_sem] theorem zeroIt_n : zeroIt.n = 0 := rfl
@[go_sem] theorem zeroIt_g : zeroIt.g = false := rfl
@[go_sem] theorem It.cs_eq (x : It) : x.cs = [.str x.k, .str x.v, .int .i64 x.n, .bool x.g] := rfl
@[go_sem] theorem It.ones_cs (l : List It) : ones (l.map It.cs) = true := ones_map _ _ fun x => rfl
@[go_sem] theorem It.clos_cs (l : List It) : (l.map It.cs).all clos = true := allclos_map _ (fun _ => rfl) l
@[go_sem] theorem It.flat_cs (l : List It) : flatss (l.map It.cs) = true := flatss_map _ (fun _ => rfl) l
@[go_sem] theorem It.ok_cs (l : List It) : okRows (l.map It.cs) = decide (l.length ≤ 1073741824) := okRows_map _ (fun _ => rfl) (fun _ => rfl) l
@[go_sem] theorem It.eta (x : It) : (⟨x.k, x.v, x.n, x.g⟩ : It) = x := rfl
@[go_sem] theorem It.set_cs (l : List It) (j : Nat) (k v : List UInt8) (n : Int) (g : Bool) : (l.map It.cs).set j [.str k, .str v, .int .i64 n, .bool g] = (l.set j ⟨k, v, n, g⟩).map It.cs := by rw [List.map_set]; rfl
@[go_sem] theorem It.app_cs (l : List It) (k v : List UInt8) (n : Int) (g : Bool) : l.map It.cs ++ [[.str k, .str v, .int .i64 n, .bool g]] = (l ++ [(⟨k, v, n, g⟩ : It)]).map It.cs := by rw [List.map_append]; rfl
theorem It.eq_iff (x y : It) : x = y ↔ x.k = y.k ∧ x.v = y.v ∧ x.n = y.n ∧ x.g = y.g := by cases x; cases y; simp

def itemR (x : It) : Bool := keyR x.k && decide (x.v.length ≤ 32) && decide (1 ≤ x.n) && decide (x.n ≤ 1073741824)

@[go_sem] theorem e45 (k v : List UInt8) (n : Int) (g : Bool) : fn C 45 [] [.agg [.str k, .str v, .int .i64 n, .bool g]] = some (.bool (itemR ⟨k, v, n, g⟩), []) := by
  rw [fn_text Tryd.func45 rfl rfl Tryd.results45 locM45 rfl rfl (by kernel_rfl)]
  simp -implicitDefEqProofs -dsimp +contextual (maxSteps := 5000000) (disch := first | omega | (simp only [go_sem] <;> omega) | (show indepB _ _ = true; refine id ?_; kernel_rfl)) only [go_sem, ↓reduceIte, Nat.reduceEqDiff, Nat.reduceBEq, Nat.reduceAdd, Nat.reduceSub, Nat.reduceLeDiff, Nat.reduceLT, Nat.reduceMul, Int.reduceNeg, Int.reduceLT, Int.reduceLE, Int.reduceAdd, Int.reduceSub, Int.reduceToNat, Int.reduceMul, Int.reduceMod, Int.reduceTMod, Int.reduceTDiv, Int.reduceEq, Nat.reducePow, Nat.reduceDiv, Nat.reduceShiftRight, Nat.reduceMod, List.reduceReplicate]
  (repeat' (refine kD_intro (fun _ => ?_) (fun _ => ?_))) <;> exact Res_bool (by simp [itemR, *]; try omega)

@[go_sem] theorem e43 (k v : List UInt8) (n : Int) (g : Bool) (hk : k.length ≤ 9223372036854775807) : fn C 43 [] [.agg [.str k, .str v, .int .i64 n, .bool g]] = some (.bool (itemR ⟨k, v, n, g⟩), []) := by
  rw [fn_text Tryd.func43 rfl rfl Tryd.results43 locM43 rfl rfl (by kernel_rfl)]
  simp -implicitDefEqProofs -dsimp +contextual (maxSteps := 5000000) (disch := first | omega | (simp only [go_sem] <;> omega) | (show indepB _ _ = true; refine id ?_; kernel_rfl)) only [go_sem, ↓reduceIte, Nat.reduceEqDiff, Nat.reduceBEq, Nat.reduceAdd, Nat.reduceSub, Nat.reduceLeDiff, Nat.reduceLT, Nat.reduceMul, Int.reduceNeg, Int.reduceLT, Int.reduceLE, Int.reduceAdd, Int.reduceSub, Int.reduceToNat, Int.reduceMul, Int.reduceMod, Int.reduceTMod, Int.reduceTDiv, Int.reduceEq, Nat.reducePow, Nat.reduceDiv, Nat.reduceShiftRight, Nat.reduceMod, List.reduceReplicate]
  (repeat' (refine kD_intro (fun _ => ?_) (fun _ => ?_))) <;> exact Res_bool (by simp [itemR, *]; try omega)

@[go_sem] theorem eqItem (a b a' b' : List UInt8) (c c' : Int) (d d' : Bool) : eqF E.P 8 70 (.agg [.str a, .str b, .int .i64 c, .bool d]) (.agg [.str a', .str b', .int .i64 c', .bool d']) = some (decide ((⟨a, b, c, d⟩ : It) = ⟨a', b', c', d'⟩)) := by
  have u26 : E.P.underlying 70 = _ := Tryd.underlying70
  have u9 : E.P.underlying 9 = _ := Tryd.underlying9
  have u3 : E.P.underlying 3 = _ := Tryd.underlying3
  have u4 : E.P.underlying 4 = _ := Tryd.underlying4
  have hs : E.P.stoodInHeld 70 = false := by kernel_rfl
  simp [eqF, eqGo, u26, u9, u3, u4, hs, szO9, rowO9, szO3, rowO3, szO4, rowO4, mkV, beq_dec, Bool.and_assoc, ← Bool.decide_and]

@[go_sem] theorem e13 (a b : List It) (hl : a.length ≤ 9223372036854775807) : fn C 13 [] [.slice 4 (a.map It.cs), .slice 4 (b.map It.cs)] = some (.bool (decide (a = b)), []) := by
  rw [fn_text Tryd.func13 rfl rfl Tryd.results13 locM13 rfl rfl (by kernel_rfl)]
  simp -implicitDefEqProofs -dsimp +contextual (maxSteps := 5000000) (disch := first | omega | (simp only [go_sem] <;> omega) | (show indepB _ _ = true; refine id ?_; kernel_rfl)) only [go_sem, ↓reduceIte, Nat.reduceEqDiff, Nat.reduceBEq, Nat.reduceAdd, Nat.reduceSub, Nat.reduceLeDiff, Nat.reduceLT, Nat.reduceMul, Int.reduceNeg, Int.reduceLT, Int.reduceLE, Int.reduceAdd, Int.reduceSub, Int.reduceToNat, Int.reduceMul, Int.reduceMod, Int.reduceTMod, Int.reduceTDiv, Int.reduceEq, Nat.reducePow, Nat.reduceDiv, Nat.reduceShiftRight, Nat.reduceMod, List.reduceReplicate]
  (repeat' (refine kD_intro (fun _ => ?_) (fun _ => ?_)))
  · rename_i h1
    refine (kLoop_rec (fun i f H => f 0 = .slice 4 (a.map It.cs) ∧ f 1 = .slice 4 (b.map It.cs) ∧ f 5 = .int .i64 (i : Nat) ∧ H = Heap.nil ∧ i ≤ a.length ∧ a.take i = b.take i) (fun i => a.length - i) (fun i => some (.bool (decide (a = b)), [])) ?_ 0 _ _ ⟨rfl, rfl, rfl, rfl, by omega, rfl⟩).trans rfl
    rintro i f _ ⟨h0, h2, h5, rfl, hi, ht⟩ ih
    by_cases hl : i < a.length
    · simp -implicitDefEqProofs -dsimp +contextual (maxSteps := 5000000) (disch := first | omega | (simp only [go_sem] <;> omega) | (show indepB _ _ = true; refine id ?_; kernel_rfl)) only [go_sem, ↓reduceIte, Nat.reduceEqDiff, Nat.reduceBEq, Nat.reduceAdd, Nat.reduceSub, Nat.reduceLeDiff, Nat.reduceLT, Nat.reduceMul, Int.reduceNeg, Int.reduceLT, Int.reduceLE, Int.reduceAdd, Int.reduceSub, Int.reduceToNat, Int.reduceMul, Int.reduceMod, Int.reduceTMod, Int.reduceTDiv, Int.reduceEq, Nat.reducePow, Nat.reduceDiv, Nat.reduceShiftRight, Nat.reduceMod, List.reduceReplicate, h0, h2, h5, hl, h1]
      (repeat' (refine kD_intro (fun _ => ?_) (fun _ => ?_)))
      · rename_i he
        refine ih (i + 1) _ _ ⟨h0, h2, rfl, rfl, by omega, ?_⟩ (by omega)
        rw [List.take_succ_eq_append_getElem hl, List.take_succ_eq_append_getElem (by omega), ht, he]
      · rename_i he
        have : ¬ a = b := fun e => he (by subst e; rfl)
        exact Res_bool (by simp [this])
    · simp -implicitDefEqProofs -dsimp +contextual (maxSteps := 5000000) (disch := first | omega | (simp only [go_sem] <;> omega) | (show indepB _ _ = true; refine id ?_; kernel_rfl)) only [go_sem, ↓reduceIte, Nat.reduceEqDiff, Nat.reduceBEq, Nat.reduceAdd, Nat.reduceSub, Nat.reduceLeDiff, Nat.reduceLT, Nat.reduceMul, Int.reduceNeg, Int.reduceLT, Int.reduceLE, Int.reduceAdd, Int.reduceSub, Int.reduceToNat, Int.reduceMul, Int.reduceMod, Int.reduceTMod, Int.reduceTDiv, Int.reduceEq, Nat.reducePow, Nat.reduceDiv, Nat.reduceShiftRight, Nat.reduceMod, List.reduceReplicate, h0, h2, h5, hl]
      obtain rfl : i = a.length := by omega
      have : a = b := by rw [List.take_length, h1, List.take_length] at ht; exact ht
      exact Res_bool (by simp [this])
  · rename_i h
    have : ¬ a = b := fun e => h (by rw [e])
    exact Res_bool (by simp [this])

end Go.Proofs.YtccfjidpdlfenaaDoor
