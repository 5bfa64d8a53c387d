import Derived.Test.YtpdaanlppimbcaaFacts
namespace Go.Proofs.Ytpdaanlppimbcaa
open Go.Am
set_option linter.unusedSimpArgs false
set_option linter.unusedVariables false
set_option maxRecDepth 100000
theorem own_29_0 : Am.Spec E 29 [.slice 4 []] (.slice 4 []) [] := by
  refine spec_empty (fun c => ?_) (fun a c => ?_)
  · refine fnE_sound (X := C0.X) (M := C0.M) mixed (fun f g ex ds q h => by cases h) (q := (.slice 4 [], [])) ?_
    show fn C0 29 [] _ = _
    rw [fn_text Try.func29 rfl rfl Try.results29 locM29 rfl rfl (by kernel_rfl)]
    simp -implicitDefEqProofs +contextual (maxSteps := 5000000) (disch := first | omega | (simp only [go_sem] <;> omega) | (show indepB _ _ = true; refine id ?_; kernel_rfl)) only [go_sem, ↓reduceIte, Nat.reduceEqDiff, Nat.reduceBEq, Nat.reduceAdd, Nat.reduceSub, Nat.reduceLeDiff, Nat.reduceLT, Nat.reduceMul, Int.reduceNeg, Int.reduceLT, Int.reduceLE, Int.reduceAdd, Int.reduceSub, Int.reduceToNat, Nat.reduceShiftRight, Nat.reduceMod, List.reduceReplicate]
  · refine fnE_sound (X := C0.X) (M := C0.M) mixed (fun f g ex ds q h => by cases h) (q := (.slice 4 [], [])) ?_
    show fn C0 29 [] _ = _
    rw [fn_text Try.func29 rfl rfl Try.results29 locM29 rfl rfl (by kernel_rfl)]
    simp -implicitDefEqProofs +contextual (maxSteps := 5000000) (disch := first | omega | (simp only [go_sem] <;> omega) | (show indepB _ _ = true; refine id ?_; kernel_rfl)) only [go_sem, ↓reduceIte, Nat.reduceEqDiff, Nat.reduceBEq, Nat.reduceAdd, Nat.reduceSub, Nat.reduceLeDiff, Nat.reduceLT, Nat.reduceMul, Int.reduceNeg, Int.reduceLT, Int.reduceLE, Int.reduceAdd, Int.reduceSub, Int.reduceToNat, Nat.reduceShiftRight, Nat.reduceMod, List.reduceReplicate]
theorem own_29 (r : List AVal) (rs : List (List AVal)) (h : okRows (r :: rs) = true) : Am.Spec E 29 [.slice 4 (r :: rs)] (.slice 4 (r :: rs)) [] := by
  simp only [okRows, Bool.and_eq_true, decide_eq_true_eq, List.all_cons, ones_cons, List.length_cons] at h
  obtain ⟨h1, ⟨h2, h3⟩, h4, h5⟩ := h
  refine fnE_sound (X := C0.X) (M := C0.M) mixed (fun f g ex ds q h => by cases h) (q := (.slice 4 (r :: rs), [])) ?_
  show fn C0 29 [] _ = _
  rw [fn_text Try.func29 rfl rfl Try.results29 locM29 rfl rfl (by kernel_rfl)]
  simp -implicitDefEqProofs +contextual (maxSteps := 5000000) (disch := first | omega | (simp only [go_sem] <;> omega) | (show indepB _ _ = true; refine id ?_; kernel_rfl)) only [go_sem, ↓reduceIte, Nat.reduceEqDiff, Nat.reduceBEq, Nat.reduceAdd, Nat.reduceSub, Nat.reduceLeDiff, Nat.reduceLT, Nat.reduceMul, Int.reduceNeg, Int.reduceLT, Int.reduceLE, Int.reduceAdd, Int.reduceSub, Int.reduceToNat, Nat.reduceShiftRight, Nat.reduceMod, List.reduceReplicate, h2, h3, h4, h5]

def own : Own := ownOf [(29, cloneO 4)]
noncomputable def C : Cf := ⟨E, M, own⟩
@[go_sem] theorem C_E : C.E = E := rfl
@[go_sem] theorem C_M : C.M = M := rfl
@[go_sem] theorem C_X : C.X = own := rfl
theorem own_ok : OwnOk C.E C.X := ownOf_ok fun p hp => by
  simp only [List.mem_cons, List.not_mem_nil, or_false] at hp
  rcases hp with rfl
  · exact cloneO_ok own_29_0 own_29
@[go_sem] theorem cl_29 (es : List (List AVal)) : fn C 29 [] [.slice 4 es] = gu (okRows es = true) (some (.slice 4 es, [])) := by
  rw [fn_own (g := cloneO 4) rfl]
  simp [cloneO, gu]


end Go.Proofs.Ytpdaanlppimbcaa
