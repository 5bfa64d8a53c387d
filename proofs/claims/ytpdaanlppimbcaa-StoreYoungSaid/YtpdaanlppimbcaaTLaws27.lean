import Derived.Test.YtpdaanlppimbcaaTPlain27
namespace Go.Proofs.Ytpdaanlppimbcaa
open Go.Am
set_option linter.unusedSimpArgs false
set_option linter.unusedVariables false
set_option maxRecDepth 100000
theorem great_len {l : List It} (h : greatR l = false) : l.length ≤ 60 := by simp [greatR] at h; omega
theorem great_mem {l : List It} (h : greatR l = false) : ∀ x ∈ l, x.k.length ≤ 300 ∧ x.v.length ≤ 300 := by
  intro x hx
  have := h
  simp [greatR] at this
  have := this.2 x hx
  omega

theorem putR_len (l : List It) (k v : List UInt8) (g : Bool) : (putR l k v g).1.length ≤ l.length + 1 := by
  unfold putR
  split
  · split
    · simp
    · split
      · simp
      · exact setR_len _ _
  · simp

set_option maxHeartbeats 4000000 in
@[go_sem] theorem e3 (l : List It) (k v : List UInt8) (g : Bool) (hl : l.length ≤ 9223372036854775807) (hk : ∀ x ∈ l, x.k.length ≤ 9223372036854775807 ∧ x.v.length ≤ 9223372036854775807) (hk1 : k.length ≤ 9223372036854775807) (hv1 : v.length ≤ 9223372036854775807) : fn C 3 [] [.slice 4 (l.map It.cs), .str k, .str v, .bool g] = some (.bool true, []) := by
  rw [fn_text Try.func3 rfl rfl Try.results3 locM3 rfl rfl (by kernel_rfl)]
  by_cases hg : greatR l = true
  · simp -implicitDefEqProofs +contextual (maxSteps := 5000000) (disch := first | omega | (simp only [go_sem] <;> omega) | (show indepB _ _ = true; refine id ?_; kernel_rfl)) only [go_sem, ↓reduceIte, Nat.reduceEqDiff, Nat.reduceBEq, Nat.reduceAdd, Nat.reduceSub, Nat.reduceLeDiff, Nat.reduceLT, Nat.reduceMul, Int.reduceNeg, Int.reduceLT, Int.reduceLE, Int.reduceAdd, Int.reduceSub, Int.reduceToNat, Nat.reduceShiftRight, Nat.reduceMod, List.reduceReplicate, hg]
  · rw [Bool.not_eq_true] at hg
    have h1 := great_len hg
    have h2 := fun x hx => (great_mem hg x hx).1
    have h3 : ∀ x ∈ l, x.k.length ≤ 9223372036854775807 := fun x hx => (hk x hx).1
    have h4 := putR_len l k v g
    simp -implicitDefEqProofs +contextual (maxSteps := 5000000) (disch := first | omega | (simp only [go_sem] <;> omega) | (show indepB _ _ = true; refine id ?_; kernel_rfl)) only [go_sem, ↓reduceIte, Nat.reduceEqDiff, Nat.reduceBEq, Nat.reduceAdd, Nat.reduceSub, Nat.reduceLeDiff, Nat.reduceLT, Nat.reduceMul, Int.reduceNeg, Int.reduceLT, Int.reduceLE, Int.reduceAdd, Int.reduceSub, Int.reduceToNat, Nat.reduceShiftRight, Nat.reduceMod, List.reduceReplicate, hg]

theorem right_keys {l : List It} (h : rightR l = true) : ∀ x ∈ l, x.k.length ≤ 9223372036854775807 := fun x hx => by
  have h1 := ((right_iff l).1 h).1 x hx
  simp only [itemR, keyR, Bool.and_eq_true, decide_eq_true_eq] at h1
  omega

set_option maxHeartbeats 4000000 in
@[go_sem] theorem e4 (l more : List It) (k v : List UInt8) (g : Bool) (hl : l.length ≤ 9223372036854775807) (hk : ∀ x ∈ l, x.k.length ≤ 9223372036854775807 ∧ x.v.length ≤ 9223372036854775807) (hl2 : more.length ≤ 9223372036854775807) (hk2 : ∀ x ∈ more, x.k.length ≤ 9223372036854775807 ∧ x.v.length ≤ 9223372036854775807) (hk1 : k.length ≤ 9223372036854775807) (hv1 : v.length ≤ 9223372036854775807) : fn C 4 [] [.slice 4 (l.map It.cs), .str k, .str v, .bool g, .slice 4 (more.map It.cs)] = some (.bool true, []) := by
  rw [fn_text Try.func4 rfl rfl Try.results4 locM4 rfl rfl (by kernel_rfl)]
  by_cases hg : greatR l = true
  · simp -implicitDefEqProofs +contextual (maxSteps := 5000000) (disch := first | omega | (simp only [go_sem] <;> omega) | (show indepB _ _ = true; refine id ?_; kernel_rfl)) only [go_sem, ↓reduceIte, Nat.reduceEqDiff, Nat.reduceBEq, Nat.reduceAdd, Nat.reduceSub, Nat.reduceLeDiff, Nat.reduceLT, Nat.reduceMul, Int.reduceNeg, Int.reduceLT, Int.reduceLE, Int.reduceAdd, Int.reduceSub, Int.reduceToNat, Nat.reduceShiftRight, Nat.reduceMod, List.reduceReplicate, hg]
  by_cases hgm : greatR more = true
  · simp -implicitDefEqProofs +contextual (maxSteps := 5000000) (disch := first | omega | (simp only [go_sem] <;> omega) | (show indepB _ _ = true; refine id ?_; kernel_rfl)) only [go_sem, ↓reduceIte, Nat.reduceEqDiff, Nat.reduceBEq, Nat.reduceAdd, Nat.reduceSub, Nat.reduceLeDiff, Nat.reduceLT, Nat.reduceMul, Int.reduceNeg, Int.reduceLT, Int.reduceLE, Int.reduceAdd, Int.reduceSub, Int.reduceToNat, Nat.reduceShiftRight, Nat.reduceMod, List.reduceReplicate, hg, hgm]
  rw [Bool.not_eq_true] at hg hgm
  have h1 := great_len hg
  have h2 := fun x hx => (great_mem hg x hx).1
  have h3 : ∀ x ∈ l, x.k.length ≤ 9223372036854775807 := fun x hx => (hk x hx).1
  have m1 := great_len hgm
  have m2 := fun x hx => (great_mem hgm x hx).1
  have m3 : ∀ x ∈ more, x.k.length ≤ 9223372036854775807 := fun x hx => (hk2 x hx).1
  have h4 := putR_len l k v g
  have m4 := mergeR_len l more
  by_cases hr : rightR l = true
  · have pr := put_right l k v g hr
    have mr := merge_right l more hr
    have pk := right_keys pr
    have mk := right_keys mr
    by_cases hkl : 300 < k.length
    · simp -implicitDefEqProofs +contextual (maxSteps := 5000000) (disch := first | omega | (simp only [go_sem] <;> omega) | (show indepB _ _ = true; refine id ?_; kernel_rfl)) only [go_sem, ↓reduceIte, Nat.reduceEqDiff, Nat.reduceBEq, Nat.reduceAdd, Nat.reduceSub, Nat.reduceLeDiff, Nat.reduceLT, Nat.reduceMul, Int.reduceNeg, Int.reduceLT, Int.reduceLE, Int.reduceAdd, Int.reduceSub, Int.reduceToNat, Nat.reduceShiftRight, Nat.reduceMod, List.reduceReplicate, hg, hgm, hr, hkl]
    by_cases hvl : 300 < v.length
    · simp -implicitDefEqProofs +contextual (maxSteps := 5000000) (disch := first | omega | (simp only [go_sem] <;> omega) | (show indepB _ _ = true; refine id ?_; kernel_rfl)) only [go_sem, ↓reduceIte, Nat.reduceEqDiff, Nat.reduceBEq, Nat.reduceAdd, Nat.reduceSub, Nat.reduceLeDiff, Nat.reduceLT, Nat.reduceMul, Int.reduceNeg, Int.reduceLT, Int.reduceLE, Int.reduceAdd, Int.reduceSub, Int.reduceToNat, Nat.reduceShiftRight, Nat.reduceMod, List.reduceReplicate, hg, hgm, hr, hkl, hvl]
    rcases put_cases l k v g hr with ⟨h, hp, hx⟩ | ⟨x, h, hxk, hkr, hxv, hxn, hxg, hit, hroom⟩
    · simp -implicitDefEqProofs +contextual (maxSteps := 5000000) (disch := first | omega | (simp only [go_sem] <;> omega) | (show indepB _ _ = true; refine id ?_; kernel_rfl)) only [go_sem, ↓reduceIte, Nat.reduceEqDiff, Nat.reduceBEq, Nat.reduceAdd, Nat.reduceSub, Nat.reduceLeDiff, Nat.reduceLT, Nat.reduceMul, Int.reduceNeg, Int.reduceLT, Int.reduceLE, Int.reduceAdd, Int.reduceSub, Int.reduceToNat, Nat.reduceShiftRight, Nat.reduceMod, List.reduceReplicate, hg, hgm, hr, pr, mr, hkl, hvl, hp, hx, h]
    · simp only [h] at pr pk h4
      subst hxk
      have gn := get_n l x.k hr
      have sg := set_get l x
      have key : ∀ (i : Nat) (hi : i < l.length), l[i].k ≠ x.k → getR (setR l x) l[i].k = (l[i], true) := fun i hi hne => by
        rw [set_other l x _ hne]; exact getR_mem ((right_iff l).1 hr).2.1 (List.getElem_mem hi)
      cases g
      · simp only [Bool.false_eq_true, if_false] at hxv
        simp -implicitDefEqProofs +contextual (maxSteps := 5000000) (disch := first | omega | (simp only [go_sem] <;> omega) | (show indepB _ _ = true; refine id ?_; kernel_rfl)) only [go_sem, ↓reduceIte, Nat.reduceEqDiff, Nat.reduceBEq, Nat.reduceAdd, Nat.reduceSub, Nat.reduceLeDiff, Nat.reduceLT, Nat.reduceMul, Int.reduceNeg, Int.reduceLT, Int.reduceLE, Int.reduceAdd, Int.reduceSub, Int.reduceToNat, Nat.reduceShiftRight, Nat.reduceMod, List.reduceReplicate, hg, hgm, hr, pr, mr, hkl, hvl, hkr, h, hxv, hxn, hxg, sg]
        refine (kLoop_rec (fun i f H => f 1 = .str x.k ∧ f 11 = .slice 4 ((setR l x).map It.cs) ∧ f 136 = .slice 4 (l.map It.cs) ∧ f 137 = .int .i64 l.length ∧ f 138 = .int .i64 (i : Nat) ∧ i ≤ l.length) (fun i => l.length - i) (fun i => some (.bool true, [])) ?_ 0 _ _ ⟨rfl, rfl, rfl, rfl, rfl, by omega⟩).trans rfl
        rintro i f H ⟨f1, f11, f136, f137, f138, hi⟩ ih
        by_cases hil : i < l.length
        · by_cases hne : l[i].k = x.k
          · simp -implicitDefEqProofs +contextual (maxSteps := 5000000) (disch := first | omega | (simp only [go_sem] <;> omega) | (show indepB _ _ = true; refine id ?_; kernel_rfl)) only [go_sem, ↓reduceIte, Nat.reduceEqDiff, Nat.reduceBEq, Nat.reduceAdd, Nat.reduceSub, Nat.reduceLeDiff, Nat.reduceLT, Nat.reduceMul, Int.reduceNeg, Int.reduceLT, Int.reduceLE, Int.reduceAdd, Int.reduceSub, Int.reduceToNat, Nat.reduceShiftRight, Nat.reduceMod, List.reduceReplicate, f1, f11, f136, f137, f138, hil, hne]
            exact ih (i + 1) _ _ ⟨f1, f11, f136, f137, rfl, by omega⟩ (by omega)
          · have kk := key i hil hne
            simp -implicitDefEqProofs +contextual (maxSteps := 5000000) (disch := first | omega | (simp only [go_sem] <;> omega) | (show indepB _ _ = true; refine id ?_; kernel_rfl)) only [go_sem, ↓reduceIte, Nat.reduceEqDiff, Nat.reduceBEq, Nat.reduceAdd, Nat.reduceSub, Nat.reduceLeDiff, Nat.reduceLT, Nat.reduceMul, Int.reduceNeg, Int.reduceLT, Int.reduceLE, Int.reduceAdd, Int.reduceSub, Int.reduceToNat, Nat.reduceShiftRight, Nat.reduceMod, List.reduceReplicate, f1, f11, f136, f137, f138, hil, hne, kk]
            exact ih (i + 1) _ _ ⟨f1, f11, f136, f137, rfl, by omega⟩ (by omega)
        · simp -implicitDefEqProofs +contextual (maxSteps := 5000000) (disch := first | omega | (simp only [go_sem] <;> omega) | (show indepB _ _ = true; refine id ?_; kernel_rfl)) only [go_sem, ↓reduceIte, Nat.reduceEqDiff, Nat.reduceBEq, Nat.reduceAdd, Nat.reduceSub, Nat.reduceLeDiff, Nat.reduceLT, Nat.reduceMul, Int.reduceNeg, Int.reduceLT, Int.reduceLE, Int.reduceAdd, Int.reduceSub, Int.reduceToNat, Nat.reduceShiftRight, Nat.reduceMod, List.reduceReplicate, f1, f11, f136, f137, f138, hil]
      · simp only [if_true] at hxv
        simp -implicitDefEqProofs +contextual (maxSteps := 5000000) (disch := first | omega | (simp only [go_sem] <;> omega) | (show indepB _ _ = true; refine id ?_; kernel_rfl)) only [go_sem, ↓reduceIte, Nat.reduceEqDiff, Nat.reduceBEq, Nat.reduceAdd, Nat.reduceSub, Nat.reduceLeDiff, Nat.reduceLT, Nat.reduceMul, Int.reduceNeg, Int.reduceLT, Int.reduceLE, Int.reduceAdd, Int.reduceSub, Int.reduceToNat, Nat.reduceShiftRight, Nat.reduceMod, List.reduceReplicate, hg, hgm, hr, pr, mr, hkl, hvl, hkr, h, hxv, hxn, hxg, sg]
        refine (kLoop_rec (fun i f H => f 1 = .str x.k ∧ f 11 = .slice 4 ((setR l x).map It.cs) ∧ f 136 = .slice 4 (l.map It.cs) ∧ f 137 = .int .i64 l.length ∧ f 138 = .int .i64 (i : Nat) ∧ i ≤ l.length) (fun i => l.length - i) (fun i => some (.bool true, [])) ?_ 0 _ _ ⟨rfl, rfl, rfl, rfl, rfl, by omega⟩).trans rfl
        rintro i f H ⟨f1, f11, f136, f137, f138, hi⟩ ih
        by_cases hil : i < l.length
        · by_cases hne : l[i].k = x.k
          · simp -implicitDefEqProofs +contextual (maxSteps := 5000000) (disch := first | omega | (simp only [go_sem] <;> omega) | (show indepB _ _ = true; refine id ?_; kernel_rfl)) only [go_sem, ↓reduceIte, Nat.reduceEqDiff, Nat.reduceBEq, Nat.reduceAdd, Nat.reduceSub, Nat.reduceLeDiff, Nat.reduceLT, Nat.reduceMul, Int.reduceNeg, Int.reduceLT, Int.reduceLE, Int.reduceAdd, Int.reduceSub, Int.reduceToNat, Nat.reduceShiftRight, Nat.reduceMod, List.reduceReplicate, f1, f11, f136, f137, f138, hil, hne]
            exact ih (i + 1) _ _ ⟨f1, f11, f136, f137, rfl, by omega⟩ (by omega)
          · have kk := key i hil hne
            simp -implicitDefEqProofs +contextual (maxSteps := 5000000) (disch := first | omega | (simp only [go_sem] <;> omega) | (show indepB _ _ = true; refine id ?_; kernel_rfl)) only [go_sem, ↓reduceIte, Nat.reduceEqDiff, Nat.reduceBEq, Nat.reduceAdd, Nat.reduceSub, Nat.reduceLeDiff, Nat.reduceLT, Nat.reduceMul, Int.reduceNeg, Int.reduceLT, Int.reduceLE, Int.reduceAdd, Int.reduceSub, Int.reduceToNat, Nat.reduceShiftRight, Nat.reduceMod, List.reduceReplicate, f1, f11, f136, f137, f138, hil, hne, kk]
            exact ih (i + 1) _ _ ⟨f1, f11, f136, f137, rfl, by omega⟩ (by omega)
        · simp -implicitDefEqProofs +contextual (maxSteps := 5000000) (disch := first | omega | (simp only [go_sem] <;> omega) | (show indepB _ _ = true; refine id ?_; kernel_rfl)) only [go_sem, ↓reduceIte, Nat.reduceEqDiff, Nat.reduceBEq, Nat.reduceAdd, Nat.reduceSub, Nat.reduceLeDiff, Nat.reduceLT, Nat.reduceMul, Int.reduceNeg, Int.reduceLT, Int.reduceLE, Int.reduceAdd, Int.reduceSub, Int.reduceToNat, Nat.reduceShiftRight, Nat.reduceMod, List.reduceReplicate, f1, f11, f136, f137, f138, hil]
  · simp -implicitDefEqProofs +contextual (maxSteps := 5000000) (disch := first | omega | (simp only [go_sem] <;> omega) | (show indepB _ _ = true; refine id ?_; kernel_rfl)) only [go_sem, ↓reduceIte, Nat.reduceEqDiff, Nat.reduceBEq, Nat.reduceAdd, Nat.reduceSub, Nat.reduceLeDiff, Nat.reduceLT, Nat.reduceMul, Int.reduceNeg, Int.reduceLT, Int.reduceLE, Int.reduceAdd, Int.reduceSub, Int.reduceToNat, Nat.reduceShiftRight, Nat.reduceMod, List.reduceReplicate, hg, hgm, hr]

end Go.Proofs.Ytpdaanlppimbcaa
