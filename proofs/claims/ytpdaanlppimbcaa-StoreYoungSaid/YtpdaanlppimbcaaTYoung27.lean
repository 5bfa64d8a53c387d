import Derived.Test.YtpdaanlppimbcaaTLaws27
namespace Go.Proofs.Ytpdaanlppimbcaa
open Go.Am
set_option linter.unusedSimpArgs false
set_option linter.unusedVariables false
set_option maxRecDepth 100000
theorem taken_bad {l more : List It} {x : It} (h : x ∈ more) (hx : itemR x = true) (hn : (getR (mergeR l more).1 x.k).2 = false) : (mergeR l more).2 = 27 := by
  rw [merge_bad, if_pos]
  simp only [refused, List.any_eq_true, Bool.and_eq_true, Bool.not_eq_true']
  exact ⟨x, h, hx, hn⟩

set_option maxHeartbeats 4000000 in
@[go_sem] theorem e5 (l more : List It) (hl : l.length ≤ 9223372036854775807) (hk : ∀ x ∈ l, x.k.length ≤ 9223372036854775807 ∧ x.v.length ≤ 9223372036854775807) (hl2 : more.length ≤ 9223372036854775807) (hk2 : ∀ x ∈ more, x.k.length ≤ 9223372036854775807 ∧ x.v.length ≤ 9223372036854775807) : fn C 5 [] [.slice 4 (l.map It.cs), .slice 4 (more.map It.cs)] = some (.bool true, []) := by
  rw [fn_text Try.func5 rfl rfl Try.results5 locM5 rfl rfl (by kernel_rfl)]
  by_cases hg : greatR l = true
  · simp -implicitDefEqProofs +contextual (maxSteps := 5000000) (disch := first | omega | (simp only [go_sem] <;> omega) | (show indepB _ _ = true; refine id ?_; kernel_rfl)) only [go_sem, ↓reduceIte, Nat.reduceEqDiff, Nat.reduceBEq, Nat.reduceAdd, Nat.reduceSub, Nat.reduceLeDiff, Nat.reduceLT, Nat.reduceMul, Int.reduceNeg, Int.reduceLT, Int.reduceLE, Int.reduceAdd, Int.reduceSub, Int.reduceToNat, Nat.reduceShiftRight, Nat.reduceMod, List.reduceReplicate, hg]
  by_cases hgm : greatR more = true
  · simp -implicitDefEqProofs +contextual (maxSteps := 5000000) (disch := first | omega | (simp only [go_sem] <;> omega) | (show indepB _ _ = true; refine id ?_; kernel_rfl)) only [go_sem, ↓reduceIte, Nat.reduceEqDiff, Nat.reduceBEq, Nat.reduceAdd, Nat.reduceSub, Nat.reduceLeDiff, Nat.reduceLT, Nat.reduceMul, Int.reduceNeg, Int.reduceLT, Int.reduceLE, Int.reduceAdd, Int.reduceSub, Int.reduceToNat, Nat.reduceShiftRight, Nat.reduceMod, List.reduceReplicate, hg, hgm]
  rw [Bool.not_eq_true] at hg hgm
  have h1 := great_len hg
  have h2 := fun x hx => (great_mem hg x hx).1
  have h3 : ∀ x ∈ l, x.k.length ≤ 9223372036854775807 := fun x hx => (hk x hx).1
  have m1 := great_len hgm
  have m2 := fun x hx => (great_mem hgm x hx).1
  have m3 : ∀ x ∈ more, x.k.length ≤ 9223372036854775807 := fun x hx => (hk2 x hx).1
  have m4 := mergeR_len l more
  by_cases hr : rightR l = true
  · have ma := merge_again l more
    have mn := merge_newer l more
    have mt := merge_taken l more
    have mb := fun x => @taken_bad l more x
    generalize hm : mergeR l more = m at *
    simp -implicitDefEqProofs +contextual (maxSteps := 5000000) (disch := first | omega | (simp only [go_sem] <;> omega) | (show indepB _ _ = true; refine id ?_; kernel_rfl)) only [go_sem, ↓reduceIte, Nat.reduceEqDiff, Nat.reduceBEq, Nat.reduceAdd, Nat.reduceSub, Nat.reduceLeDiff, Nat.reduceLT, Nat.reduceMul, Int.reduceNeg, Int.reduceLT, Int.reduceLE, Int.reduceAdd, Int.reduceSub, Int.reduceToNat, Nat.reduceShiftRight, Nat.reduceMod, List.reduceReplicate, hg, hgm, hr, ma, hm]
    refine (kLoop_rec (fun i f H => f 1 = .slice 4 (more.map It.cs) ∧ f 5 = .slice 4 (m.1.map It.cs) ∧ f 6 = .int .i64 m.2 ∧ f 51 = .slice 4 (l.map It.cs) ∧ f 52 = .int .i64 l.length ∧ f 53 = .int .i64 (i : Nat) ∧ i ≤ l.length) (fun i => l.length - i) (fun i => some (.bool true, [])) ?_ 0 _ _ ⟨rfl, rfl, rfl, rfl, rfl, rfl, by omega⟩).trans rfl
    rintro i f H ⟨f1, f5, f6, f51, f52, f53, hi⟩ ih
    by_cases hil : i < l.length
    · have g1 := getR_mem ((right_iff l).1 hr).2.1 (List.getElem_mem hil)
      obtain ⟨g2, g3⟩ := mn.1 l[i].k (by rw [g1])
      rw [g1] at g3
      simp -implicitDefEqProofs +contextual (maxSteps := 5000000) (disch := first | omega | (simp only [go_sem] <;> omega) | (show indepB _ _ = true; refine id ?_; kernel_rfl)) only [go_sem, ↓reduceIte, Nat.reduceEqDiff, Nat.reduceBEq, Nat.reduceAdd, Nat.reduceSub, Nat.reduceLeDiff, Nat.reduceLT, Nat.reduceMul, Int.reduceNeg, Int.reduceLT, Int.reduceLE, Int.reduceAdd, Int.reduceSub, Int.reduceToNat, Nat.reduceShiftRight, Nat.reduceMod, List.reduceReplicate, f1, f5, f6, f51, f52, f53, hil, g2]
      (repeat' (refine kD_intro (fun _ => ?_) (fun _ => ?_)))
      · exfalso; simp only at g3; omega
      · exact ih (i + 1) _ _ ⟨f1, f5, f6, f51, f52, rfl, by omega⟩ (by omega)
    · simp -implicitDefEqProofs +contextual (maxSteps := 5000000) (disch := first | omega | (simp only [go_sem] <;> omega) | (show indepB _ _ = true; refine id ?_; kernel_rfl)) only [go_sem, ↓reduceIte, Nat.reduceEqDiff, Nat.reduceBEq, Nat.reduceAdd, Nat.reduceSub, Nat.reduceLeDiff, Nat.reduceLT, Nat.reduceMul, Int.reduceNeg, Int.reduceLT, Int.reduceLE, Int.reduceAdd, Int.reduceSub, Int.reduceToNat, Nat.reduceShiftRight, Nat.reduceMod, List.reduceReplicate, f1, f5, f6, f51, f52, f53, hil]
      refine (kLoop_rec (fun i f H => f 5 = .slice 4 (m.1.map It.cs) ∧ f 6 = .int .i64 m.2 ∧ f 74 = .slice 4 (more.map It.cs) ∧ f 75 = .int .i64 more.length ∧ f 76 = .int .i64 (i : Nat) ∧ i ≤ more.length) (fun i => more.length - i) (fun i => some (.bool true, [])) ?_ 0 _ _ (by exact ⟨f5, f6, rfl, rfl, rfl, by omega⟩)).trans rfl
      rintro i f H ⟨f5, f6, f74, f75, f76, hi⟩ ih
      by_cases hil : i < more.length
      · have g1 := mt more[i] (List.getElem_mem hil)
        have g2 := mb more[i] (List.getElem_mem hil)
        unfold Taken at g1
        by_cases hx : itemR more[i] = true
        · rcases g1 hx with ⟨g3, g4⟩ | ⟨g3, g4⟩
          · simp -implicitDefEqProofs +contextual (maxSteps := 5000000) (disch := first | omega | (simp only [go_sem] <;> omega) | (show indepB _ _ = true; refine id ?_; kernel_rfl)) only [go_sem, ↓reduceIte, Nat.reduceEqDiff, Nat.reduceBEq, Nat.reduceAdd, Nat.reduceSub, Nat.reduceLeDiff, Nat.reduceLT, Nat.reduceMul, Int.reduceNeg, Int.reduceLT, Int.reduceLE, Int.reduceAdd, Int.reduceSub, Int.reduceToNat, Nat.reduceShiftRight, Nat.reduceMod, List.reduceReplicate, f5, f6, f74, f75, f76, hil, hx, g3]
            exact ih (i + 1) _ _ ⟨f5, f6, f74, f75, rfl, by omega⟩ (by omega)
          · have g5 := g2 hx g3
            simp -implicitDefEqProofs +contextual (maxSteps := 5000000) (disch := first | omega | (simp only [go_sem] <;> omega) | (show indepB _ _ = true; refine id ?_; kernel_rfl)) only [go_sem, ↓reduceIte, Nat.reduceEqDiff, Nat.reduceBEq, Nat.reduceAdd, Nat.reduceSub, Nat.reduceLeDiff, Nat.reduceLT, Nat.reduceMul, Int.reduceNeg, Int.reduceLT, Int.reduceLE, Int.reduceAdd, Int.reduceSub, Int.reduceToNat, Nat.reduceShiftRight, Nat.reduceMod, List.reduceReplicate, f5, f6, f74, f75, f76, hil, hx, g3, g5]
            exact ih (i + 1) _ _ ⟨f5, f6, f74, f75, rfl, by omega⟩ (by omega)
        · simp -implicitDefEqProofs +contextual (maxSteps := 5000000) (disch := first | omega | (simp only [go_sem] <;> omega) | (show indepB _ _ = true; refine id ?_; kernel_rfl)) only [go_sem, ↓reduceIte, Nat.reduceEqDiff, Nat.reduceBEq, Nat.reduceAdd, Nat.reduceSub, Nat.reduceLeDiff, Nat.reduceLT, Nat.reduceMul, Int.reduceNeg, Int.reduceLT, Int.reduceLE, Int.reduceAdd, Int.reduceSub, Int.reduceToNat, Nat.reduceShiftRight, Nat.reduceMod, List.reduceReplicate, f5, f6, f74, f75, f76, hil, hx]
          exact ih (i + 1) _ _ ⟨f5, f6, f74, f75, rfl, by omega⟩ (by omega)
      · simp -implicitDefEqProofs +contextual (maxSteps := 5000000) (disch := first | omega | (simp only [go_sem] <;> omega) | (show indepB _ _ = true; refine id ?_; kernel_rfl)) only [go_sem, ↓reduceIte, Nat.reduceEqDiff, Nat.reduceBEq, Nat.reduceAdd, Nat.reduceSub, Nat.reduceLeDiff, Nat.reduceLT, Nat.reduceMul, Int.reduceNeg, Int.reduceLT, Int.reduceLE, Int.reduceAdd, Int.reduceSub, Int.reduceToNat, Nat.reduceShiftRight, Nat.reduceMod, List.reduceReplicate, f5, f6, f74, f75, f76, hil]
  · simp -implicitDefEqProofs +contextual (maxSteps := 5000000) (disch := first | omega | (simp only [go_sem] <;> omega) | (show indepB _ _ = true; refine id ?_; kernel_rfl)) only [go_sem, ↓reduceIte, Nat.reduceEqDiff, Nat.reduceBEq, Nat.reduceAdd, Nat.reduceSub, Nat.reduceLeDiff, Nat.reduceLT, Nat.reduceMul, Int.reduceNeg, Int.reduceLT, Int.reduceLE, Int.reduceAdd, Int.reduceSub, Int.reduceToNat, Nat.reduceShiftRight, Nat.reduceMod, List.reduceReplicate, hg, hgm, hr]

end Go.Proofs.Ytpdaanlppimbcaa
