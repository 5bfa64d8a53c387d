import Derived.Test.YtmfcabokoijcdaaFacts
import Derived.Lib.ItoaLen
namespace Go.Proofs.Ytmfcabokoijcdaa
open Go.Am
set_option linter.unusedSimpArgs false
set_option linter.unusedVariables false
set_option maxRecDepth 100000
/-! slices.Clone, handed over whole; rows of texts. -/
/-- slices.Clone, handed over whole. -/
def cloneUO (st : Nat) : List Nat → List AVal → Option Res := fun _ ds => match ds with
  | [.slice st' es] => gu (st' = st) (gu (okRows es = true) (some (.usl st es, [])))
  | _ => none

theorem cloneUO_ok {E : Env} {f : FuncId} {st : Nat} (h0 : Am.Spec E f [.slice st []] (.usl st []) []) (h : ∀ r rs, okRows (r :: rs) = true → Am.Spec E f [.slice st (r :: rs)] (.usl st (r :: rs)) []) :
    ∀ ex ds q, cloneUO st ex ds = some q → SpecX E ex f ds q.1 q.2 := by
  intro ex ds q hq
  unfold cloneUO at hq
  split at hq
  · rename_i st' es
    simp only [gu_some, Option.some.injEq] at hq
    obtain ⟨rfl, h1, rfl⟩ := hq
    refine specX_of_spec ?_
    cases es with
    | nil => exact h0
    | cons r rs => exact h r rs h1
  · cases hq
theorem cloneX_ok {E : Env} {f : FuncId} {st : Nat} (h0 : Am.Spec E f [.slice st []] (.usl st []) []) (h : ∀ r rs, okRows (r :: rs) = true → Am.Spec E f [.slice st (r :: rs)] (.usl st (r :: rs)) []) :
    ∀ ex ds q, cloneO st ex ds = some q → SpecX E ex f ds q.1 q.2 := by
  intro ex ds q hq
  unfold cloneO at hq
  split at hq
  · rename_i st' es
    simp only [gu_some, Option.some.injEq] at hq
    obtain ⟨rfl, h1, rfl⟩ := hq
    exact specX_close (cloneUO_ok h0 h ex [.slice st' es] (.usl st' es, []) (by simp [cloneUO, gu, h1]))
  · cases hq
def strRow (s : List UInt8) : List AVal := [.str s]
@[go_sem] theorem strRow_eq (s : List UInt8) : strRow s = [.str s] := rfl
attribute [go_sem] ite_self

end Go.Proofs.Ytmfcabokoijcdaa
namespace Go.Proofs.Ytmfcabokoijcdaa
open Go.Am
set_option linter.unusedSimpArgs false
set_option linter.unusedVariables false
set_option maxRecDepth 100000
/-! Copies of lists. -/
theorem own_39_0 : Am.Spec E 39 [.slice 4 []] (.slice 4 []) [] := by
  refine spec_empty (fun c => ?_) (fun a c => ?_)
  · refine fnE_sound (X := C0.X) (M := C0.M) mixed (fun f g ex ds q h => by cases h) (q := (.slice 4 [], [])) ?_
    show fn C0 39 [] _ = _
    rw [fn_text Try.func39 rfl rfl Try.results39 fq39.1 rfl rfl (by kernel_rfl)]
    simp -implicitDefEqProofs -dsimp +contextual (maxSteps := 9999999) (disch := first | omega | simp only [go_sem] <;> omega | refine ib ?_; kernel_rfl) only [go_sem, seval, ↓reduceIte]
  · refine fnE_sound (X := C0.X) (M := C0.M) mixed (fun f g ex ds q h => by cases h) (q := (.slice 4 [], [])) ?_
    show fn C0 39 [] _ = _
    rw [fn_text Try.func39 rfl rfl Try.results39 fq39.1 rfl rfl (by kernel_rfl)]
    simp -implicitDefEqProofs -dsimp +contextual (maxSteps := 9999999) (disch := first | omega | simp only [go_sem] <;> omega | refine ib ?_; kernel_rfl) only [go_sem, seval, ↓reduceIte]
theorem own_39 (r : List AVal) (rs : List (List AVal)) (h : okRows (r :: rs) = true) : Am.Spec E 39 [.slice 4 (r :: rs)] (.slice 4 (r :: rs)) [] := by
  simp only [okRows, Bool.and_eq_true, decide_eq_true_eq, List.all_cons, ones_cons, List.length_cons] at h
  obtain ⟨h1, ⟨h2, h3⟩, h4, h5⟩ := h
  refine fnE_sound (X := C0.X) (M := C0.M) mixed (fun f g ex ds q h => by cases h) (q := (.slice 4 (r :: rs), [])) ?_
  show fn C0 39 [] _ = _
  rw [fn_text Try.func39 rfl rfl Try.results39 fq39.1 rfl rfl (by kernel_rfl)]
  simp -implicitDefEqProofs -dsimp +contextual (maxSteps := 9999999) (disch := first | omega | simp only [go_sem] <;> omega | refine ib ?_; kernel_rfl) only [go_sem, seval, ↓reduceIte, h2, h3, h4, h5]

theorem own_35_0 : Am.Spec E 35 [.slice 8 []] (.slice 8 []) [] := by
  refine spec_empty (fun c => ?_) (fun a c => ?_)
  · refine fnE_sound (X := C0.X) (M := C0.M) mixed (fun f g ex ds q h => by cases h) (q := (.slice 8 [], [])) ?_
    show fn C0 35 [] _ = _
    rw [fn_text Try.func35 rfl rfl Try.results35 fq35.1 rfl rfl (by kernel_rfl)]
    simp -implicitDefEqProofs -dsimp +contextual (maxSteps := 9999999) (disch := first | omega | simp only [go_sem] <;> omega | refine ib ?_; kernel_rfl) only [go_sem, seval, ↓reduceIte]
  · refine fnE_sound (X := C0.X) (M := C0.M) mixed (fun f g ex ds q h => by cases h) (q := (.slice 8 [], [])) ?_
    show fn C0 35 [] _ = _
    rw [fn_text Try.func35 rfl rfl Try.results35 fq35.1 rfl rfl (by kernel_rfl)]
    simp -implicitDefEqProofs -dsimp +contextual (maxSteps := 9999999) (disch := first | omega | simp only [go_sem] <;> omega | refine ib ?_; kernel_rfl) only [go_sem, seval, ↓reduceIte]
theorem own_35 (r : List AVal) (rs : List (List AVal)) (h : okRows (r :: rs) = true) : Am.Spec E 35 [.slice 8 (r :: rs)] (.slice 8 (r :: rs)) [] := by
  simp only [okRows, Bool.and_eq_true, decide_eq_true_eq, List.all_cons, ones_cons, List.length_cons] at h
  obtain ⟨h1, ⟨h2, h3⟩, h4, h5⟩ := h
  refine fnE_sound (X := C0.X) (M := C0.M) mixed (fun f g ex ds q h => by cases h) (q := (.slice 8 (r :: rs), [])) ?_
  show fn C0 35 [] _ = _
  rw [fn_text Try.func35 rfl rfl Try.results35 fq35.1 rfl rfl (by kernel_rfl)]
  simp -implicitDefEqProofs -dsimp +contextual (maxSteps := 9999999) (disch := first | omega | simp only [go_sem] <;> omega | refine ib ?_; kernel_rfl) only [go_sem, seval, ↓reduceIte, h2, h3, h4, h5]

theorem own_36_0 : Am.Spec E 36 [.slice 9 []] (.slice 9 []) [] := by
  refine spec_empty (fun c => ?_) (fun a c => ?_)
  · refine fnE_sound (X := C0.X) (M := C0.M) mixed (fun f g ex ds q h => by cases h) (q := (.slice 9 [], [])) ?_
    show fn C0 36 [] _ = _
    rw [fn_text Try.func36 rfl rfl Try.results36 fq36.1 rfl rfl (by kernel_rfl)]
    simp -implicitDefEqProofs -dsimp +contextual (maxSteps := 9999999) (disch := first | omega | simp only [go_sem] <;> omega | refine ib ?_; kernel_rfl) only [go_sem, seval, ↓reduceIte]
  · refine fnE_sound (X := C0.X) (M := C0.M) mixed (fun f g ex ds q h => by cases h) (q := (.slice 9 [], [])) ?_
    show fn C0 36 [] _ = _
    rw [fn_text Try.func36 rfl rfl Try.results36 fq36.1 rfl rfl (by kernel_rfl)]
    simp -implicitDefEqProofs -dsimp +contextual (maxSteps := 9999999) (disch := first | omega | simp only [go_sem] <;> omega | refine ib ?_; kernel_rfl) only [go_sem, seval, ↓reduceIte]
theorem own_36 (r : List AVal) (rs : List (List AVal)) (h : okRows (r :: rs) = true) : Am.Spec E 36 [.slice 9 (r :: rs)] (.slice 9 (r :: rs)) [] := by
  simp only [okRows, Bool.and_eq_true, decide_eq_true_eq, List.all_cons, ones_cons, List.length_cons] at h
  obtain ⟨h1, ⟨h2, h3⟩, h4, h5⟩ := h
  refine fnE_sound (X := C0.X) (M := C0.M) mixed (fun f g ex ds q h => by cases h) (q := (.slice 9 (r :: rs), [])) ?_
  show fn C0 36 [] _ = _
  rw [fn_text Try.func36 rfl rfl Try.results36 fq36.1 rfl rfl (by kernel_rfl)]
  simp -implicitDefEqProofs -dsimp +contextual (maxSteps := 9999999) (disch := first | omega | simp only [go_sem] <;> omega | refine ib ?_; kernel_rfl) only [go_sem, seval, ↓reduceIte, h2, h3, h4, h5]

theorem own_92_0 : Am.Spec E 92 [.slice 6 []] (.slice 6 []) [] := by
  refine spec_empty (fun c => ?_) (fun a c => ?_)
  · refine fnE_sound (X := C0.X) (M := C0.M) mixed (fun f g ex ds q h => by cases h) (q := (.slice 6 [], [])) ?_
    show fn C0 92 [] _ = _
    rw [fn_text Try.func92 rfl rfl Try.results92 fq92.1 rfl rfl (by kernel_rfl)]
    simp -implicitDefEqProofs -dsimp +contextual (maxSteps := 9999999) (disch := first | omega | simp only [go_sem] <;> omega | refine ib ?_; kernel_rfl) only [go_sem, seval, ↓reduceIte]
  · refine fnE_sound (X := C0.X) (M := C0.M) mixed (fun f g ex ds q h => by cases h) (q := (.slice 6 [], [])) ?_
    show fn C0 92 [] _ = _
    rw [fn_text Try.func92 rfl rfl Try.results92 fq92.1 rfl rfl (by kernel_rfl)]
    simp -implicitDefEqProofs -dsimp +contextual (maxSteps := 9999999) (disch := first | omega | simp only [go_sem] <;> omega | refine ib ?_; kernel_rfl) only [go_sem, seval, ↓reduceIte]
theorem own_92 (r : List AVal) (rs : List (List AVal)) (h : okRows (r :: rs) = true) : Am.Spec E 92 [.slice 6 (r :: rs)] (.slice 6 (r :: rs)) [] := by
  simp only [okRows, Bool.and_eq_true, decide_eq_true_eq, List.all_cons, ones_cons, List.length_cons] at h
  obtain ⟨h1, ⟨h2, h3⟩, h4, h5⟩ := h
  refine fnE_sound (X := C0.X) (M := C0.M) mixed (fun f g ex ds q h => by cases h) (q := (.slice 6 (r :: rs), [])) ?_
  show fn C0 92 [] _ = _
  rw [fn_text Try.func92 rfl rfl Try.results92 fq92.1 rfl rfl (by kernel_rfl)]
  simp -implicitDefEqProofs -dsimp +contextual (maxSteps := 9999999) (disch := first | omega | simp only [go_sem] <;> omega | refine ib ?_; kernel_rfl) only [go_sem, seval, ↓reduceIte, h2, h3, h4, h5]

theorem own_41_0 : Am.Spec E 41 [.slice 1 []] (.slice 1 []) [] := by
  refine spec_empty (fun c => ?_) (fun a c => ?_)
  · refine fnE_sound (X := C0.X) (M := C0.M) mixed (fun f g ex ds q h => by cases h) (q := (.slice 1 [], [])) ?_
    show fn C0 41 [] _ = _
    rw [fn_text Try.func41 rfl rfl Try.results41 fq41.1 rfl rfl (by kernel_rfl)]
    simp -implicitDefEqProofs -dsimp +contextual (maxSteps := 9999999) (disch := first | omega | simp only [go_sem] <;> omega | refine ib ?_; kernel_rfl) only [go_sem, seval, ↓reduceIte]
  · refine fnE_sound (X := C0.X) (M := C0.M) mixed (fun f g ex ds q h => by cases h) (q := (.slice 1 [], [])) ?_
    show fn C0 41 [] _ = _
    rw [fn_text Try.func41 rfl rfl Try.results41 fq41.1 rfl rfl (by kernel_rfl)]
    simp -implicitDefEqProofs -dsimp +contextual (maxSteps := 9999999) (disch := first | omega | simp only [go_sem] <;> omega | refine ib ?_; kernel_rfl) only [go_sem, seval, ↓reduceIte]
theorem own_41 (r : List AVal) (rs : List (List AVal)) (h : okRows (r :: rs) = true) : Am.Spec E 41 [.slice 1 (r :: rs)] (.slice 1 (r :: rs)) [] := by
  simp only [okRows, Bool.and_eq_true, decide_eq_true_eq, List.all_cons, ones_cons, List.length_cons] at h
  obtain ⟨h1, ⟨h2, h3⟩, h4, h5⟩ := h
  refine fnE_sound (X := C0.X) (M := C0.M) mixed (fun f g ex ds q h => by cases h) (q := (.slice 1 (r :: rs), [])) ?_
  show fn C0 41 [] _ = _
  rw [fn_text Try.func41 rfl rfl Try.results41 fq41.1 rfl rfl (by kernel_rfl)]
  simp -implicitDefEqProofs -dsimp +contextual (maxSteps := 9999999) (disch := first | omega | simp only [go_sem] <;> omega | refine ib ?_; kernel_rfl) only [go_sem, seval, ↓reduceIte, h2, h3, h4, h5]

theorem own_37_0 : Am.Spec E 37 [.slice 20 []] (.usl 20 []) [] := by
  refine spec_empty (fun c => ?_) (fun a c => ?_)
  · refine fnE_sound (X := C0.X) (M := C0.M) mixed (fun f g ex ds q h => by cases h) (q := (.usl 20 [], [])) ?_
    show fn C0 37 [] _ = _
    rw [fn_text Try.func37 rfl rfl Try.results37 fq37.1 rfl rfl (by kernel_rfl)]
    simp -implicitDefEqProofs -dsimp +contextual (maxSteps := 9999999) (disch := first | omega | simp only [go_sem] <;> omega | refine ib ?_; kernel_rfl) only [go_sem, seval, ↓reduceIte]
  · refine fnE_sound (X := C0.X) (M := C0.M) mixed (fun f g ex ds q h => by cases h) (q := (.usl 20 [], [])) ?_
    show fn C0 37 [] _ = _
    rw [fn_text Try.func37 rfl rfl Try.results37 fq37.1 rfl rfl (by kernel_rfl)]
    simp -implicitDefEqProofs -dsimp +contextual (maxSteps := 9999999) (disch := first | omega | simp only [go_sem] <;> omega | refine ib ?_; kernel_rfl) only [go_sem, seval, ↓reduceIte]
theorem own_37 (r : List AVal) (rs : List (List AVal)) (h : okRows (r :: rs) = true) : Am.Spec E 37 [.slice 20 (r :: rs)] (.usl 20 (r :: rs)) [] := by
  simp only [okRows, Bool.and_eq_true, decide_eq_true_eq, List.all_cons, ones_cons, List.length_cons] at h
  obtain ⟨h1, ⟨h2, h3⟩, h4, h5⟩ := h
  refine fnE_sound (X := C0.X) (M := C0.M) mixed (fun f g ex ds q h => by cases h) (q := (.usl 20 (r :: rs), [])) ?_
  show fn C0 37 [] _ = _
  rw [fn_text Try.func37 rfl rfl Try.results37 fq37.1 rfl rfl (by kernel_rfl)]
  simp -implicitDefEqProofs -dsimp +contextual (maxSteps := 9999999) (disch := first | omega | simp only [go_sem] <;> omega | refine ib ?_; kernel_rfl) only [go_sem, seval, ↓reduceIte, h2, h3, h4, h5]

theorem own_78_0 : Am.Spec E 78 [.slice 23 []] (.usl 23 []) [] := by
  refine spec_empty (fun c => ?_) (fun a c => ?_)
  · refine fnE_sound (X := C0.X) (M := C0.M) mixed (fun f g ex ds q h => by cases h) (q := (.usl 23 [], [])) ?_
    show fn C0 78 [] _ = _
    rw [fn_text Try.func78 rfl rfl Try.results78 fq78.1 rfl rfl (by kernel_rfl)]
    simp -implicitDefEqProofs -dsimp +contextual (maxSteps := 9999999) (disch := first | omega | simp only [go_sem] <;> omega | refine ib ?_; kernel_rfl) only [go_sem, seval, ↓reduceIte]
  · refine fnE_sound (X := C0.X) (M := C0.M) mixed (fun f g ex ds q h => by cases h) (q := (.usl 23 [], [])) ?_
    show fn C0 78 [] _ = _
    rw [fn_text Try.func78 rfl rfl Try.results78 fq78.1 rfl rfl (by kernel_rfl)]
    simp -implicitDefEqProofs -dsimp +contextual (maxSteps := 9999999) (disch := first | omega | simp only [go_sem] <;> omega | refine ib ?_; kernel_rfl) only [go_sem, seval, ↓reduceIte]
theorem own_78 (r : List AVal) (rs : List (List AVal)) (h : okRows (r :: rs) = true) : Am.Spec E 78 [.slice 23 (r :: rs)] (.usl 23 (r :: rs)) [] := by
  simp only [okRows, Bool.and_eq_true, decide_eq_true_eq, List.all_cons, ones_cons, List.length_cons] at h
  obtain ⟨h1, ⟨h2, h3⟩, h4, h5⟩ := h
  refine fnE_sound (X := C0.X) (M := C0.M) mixed (fun f g ex ds q h => by cases h) (q := (.usl 23 (r :: rs), [])) ?_
  show fn C0 78 [] _ = _
  rw [fn_text Try.func78 rfl rfl Try.results78 fq78.1 rfl rfl (by kernel_rfl)]
  simp -implicitDefEqProofs -dsimp +contextual (maxSteps := 9999999) (disch := first | omega | simp only [go_sem] <;> omega | refine ib ?_; kernel_rfl) only [go_sem, seval, ↓reduceIte, h2, h3, h4, h5]

theorem own_40_0 : Am.Spec E 40 [.slice 29 []] (.usl 29 []) [] := by
  refine spec_empty (fun c => ?_) (fun a c => ?_)
  · refine fnE_sound (X := C0.X) (M := C0.M) mixed (fun f g ex ds q h => by cases h) (q := (.usl 29 [], [])) ?_
    show fn C0 40 [] _ = _
    rw [fn_text Try.func40 rfl rfl Try.results40 fq40.1 rfl rfl (by kernel_rfl)]
    simp -implicitDefEqProofs -dsimp +contextual (maxSteps := 9999999) (disch := first | omega | simp only [go_sem] <;> omega | refine ib ?_; kernel_rfl) only [go_sem, seval, ↓reduceIte]
  · refine fnE_sound (X := C0.X) (M := C0.M) mixed (fun f g ex ds q h => by cases h) (q := (.usl 29 [], [])) ?_
    show fn C0 40 [] _ = _
    rw [fn_text Try.func40 rfl rfl Try.results40 fq40.1 rfl rfl (by kernel_rfl)]
    simp -implicitDefEqProofs -dsimp +contextual (maxSteps := 9999999) (disch := first | omega | simp only [go_sem] <;> omega | refine ib ?_; kernel_rfl) only [go_sem, seval, ↓reduceIte]
theorem own_40 (r : List AVal) (rs : List (List AVal)) (h : okRows (r :: rs) = true) : Am.Spec E 40 [.slice 29 (r :: rs)] (.usl 29 (r :: rs)) [] := by
  simp only [okRows, Bool.and_eq_true, decide_eq_true_eq, List.all_cons, ones_cons, List.length_cons] at h
  obtain ⟨h1, ⟨h2, h3⟩, h4, h5⟩ := h
  refine fnE_sound (X := C0.X) (M := C0.M) mixed (fun f g ex ds q h => by cases h) (q := (.usl 29 (r :: rs), [])) ?_
  show fn C0 40 [] _ = _
  rw [fn_text Try.func40 rfl rfl Try.results40 fq40.1 rfl rfl (by kernel_rfl)]
  simp -implicitDefEqProofs -dsimp +contextual (maxSteps := 9999999) (disch := first | omega | simp only [go_sem] <;> omega | refine ib ?_; kernel_rfl) only [go_sem, seval, ↓reduceIte, h2, h3, h4, h5]

theorem own_42_0 : Am.Spec E 42 [.slice 8 []] (.usl 8 []) [] := by
  refine spec_empty (fun c => ?_) (fun a c => ?_)
  · refine fnE_sound (X := C0.X) (M := C0.M) mixed (fun f g ex ds q h => by cases h) (q := (.usl 8 [], [])) ?_
    show fn C0 42 [] _ = _
    rw [fn_text Try.func42 rfl rfl Try.results42 fq42.1 rfl rfl (by kernel_rfl)]
    simp -implicitDefEqProofs -dsimp +contextual (maxSteps := 9999999) (disch := first | omega | simp only [go_sem] <;> omega | refine ib ?_; kernel_rfl) only [go_sem, seval, ↓reduceIte]
  · refine fnE_sound (X := C0.X) (M := C0.M) mixed (fun f g ex ds q h => by cases h) (q := (.usl 8 [], [])) ?_
    show fn C0 42 [] _ = _
    rw [fn_text Try.func42 rfl rfl Try.results42 fq42.1 rfl rfl (by kernel_rfl)]
    simp -implicitDefEqProofs -dsimp +contextual (maxSteps := 9999999) (disch := first | omega | simp only [go_sem] <;> omega | refine ib ?_; kernel_rfl) only [go_sem, seval, ↓reduceIte]
theorem own_42 (r : List AVal) (rs : List (List AVal)) (h : okRows (r :: rs) = true) : Am.Spec E 42 [.slice 8 (r :: rs)] (.usl 8 (r :: rs)) [] := by
  simp only [okRows, Bool.and_eq_true, decide_eq_true_eq, List.all_cons, ones_cons, List.length_cons] at h
  obtain ⟨h1, ⟨h2, h3⟩, h4, h5⟩ := h
  refine fnE_sound (X := C0.X) (M := C0.M) mixed (fun f g ex ds q h => by cases h) (q := (.usl 8 (r :: rs), [])) ?_
  show fn C0 42 [] _ = _
  rw [fn_text Try.func42 rfl rfl Try.results42 fq42.1 rfl rfl (by kernel_rfl)]
  simp -implicitDefEqProofs -dsimp +contextual (maxSteps := 9999999) (disch := first | omega | simp only [go_sem] <;> omega | refine ib ?_; kernel_rfl) only [go_sem, seval, ↓reduceIte, h2, h3, h4, h5]

theorem own_43_0 : Am.Spec E 43 [.slice 1 []] (.usl 1 []) [] := by
  refine spec_empty (fun c => ?_) (fun a c => ?_)
  · refine fnE_sound (X := C0.X) (M := C0.M) mixed (fun f g ex ds q h => by cases h) (q := (.usl 1 [], [])) ?_
    show fn C0 43 [] _ = _
    rw [fn_text Try.func43 rfl rfl Try.results43 fq43.1 rfl rfl (by kernel_rfl)]
    simp -implicitDefEqProofs -dsimp +contextual (maxSteps := 9999999) (disch := first | omega | simp only [go_sem] <;> omega | refine ib ?_; kernel_rfl) only [go_sem, seval, ↓reduceIte]
  · refine fnE_sound (X := C0.X) (M := C0.M) mixed (fun f g ex ds q h => by cases h) (q := (.usl 1 [], [])) ?_
    show fn C0 43 [] _ = _
    rw [fn_text Try.func43 rfl rfl Try.results43 fq43.1 rfl rfl (by kernel_rfl)]
    simp -implicitDefEqProofs -dsimp +contextual (maxSteps := 9999999) (disch := first | omega | simp only [go_sem] <;> omega | refine ib ?_; kernel_rfl) only [go_sem, seval, ↓reduceIte]
theorem own_43 (r : List AVal) (rs : List (List AVal)) (h : okRows (r :: rs) = true) : Am.Spec E 43 [.slice 1 (r :: rs)] (.usl 1 (r :: rs)) [] := by
  simp only [okRows, Bool.and_eq_true, decide_eq_true_eq, List.all_cons, ones_cons, List.length_cons] at h
  obtain ⟨h1, ⟨h2, h3⟩, h4, h5⟩ := h
  refine fnE_sound (X := C0.X) (M := C0.M) mixed (fun f g ex ds q h => by cases h) (q := (.usl 1 (r :: rs), [])) ?_
  show fn C0 43 [] _ = _
  rw [fn_text Try.func43 rfl rfl Try.results43 fq43.1 rfl rfl (by kernel_rfl)]
  simp -implicitDefEqProofs -dsimp +contextual (maxSteps := 9999999) (disch := first | omega | simp only [go_sem] <;> omega | refine ib ?_; kernel_rfl) only [go_sem, seval, ↓reduceIte, h2, h3, h4, h5]

def own : Own := ownOf [(39, cloneO 4), (35, cloneO 8), (36, cloneO 9), (92, cloneO 6), (41, cloneO 1), (37, (cloneUO 20)), (78, (cloneUO 23)), (40, (cloneUO 29)), (42, (cloneUO 8)), (43, (cloneO 1))]
noncomputable def C : Cf := ⟨E, M, own⟩
@[go_sem] theorem C_E : C.E = E := rfl
@[go_sem] theorem C_M : C.M = M := rfl
@[go_sem] theorem C_X : C.X = own := rfl
theorem own_ok : OwnOk C.E C.X := ownOf_ok fun p hp => by
  simp only [List.mem_cons, List.not_mem_nil, or_false] at hp
  rcases hp with rfl | rfl | rfl | rfl | rfl | rfl | rfl | rfl | rfl | rfl
  · exact cloneO_ok own_39_0 own_39
  · exact cloneO_ok own_35_0 own_35
  · exact cloneO_ok own_36_0 own_36
  · exact cloneO_ok own_92_0 own_92
  · exact cloneO_ok own_41_0 own_41
  · exact cloneUO_ok own_37_0 own_37
  · exact cloneUO_ok own_78_0 own_78
  · exact cloneUO_ok own_40_0 own_40
  · exact cloneUO_ok own_42_0 own_42
  · exact cloneX_ok own_43_0 own_43
theorem ow_37 (ex ds) : fn C 37 ex ds = (cloneUO 20) ex ds := fn_own rfl ex ds
theorem ow_78 (ex ds) : fn C 78 ex ds = (cloneUO 23) ex ds := fn_own rfl ex ds
theorem ow_40 (ex ds) : fn C 40 ex ds = (cloneUO 29) ex ds := fn_own rfl ex ds
theorem ow_42 (ex ds) : fn C 42 ex ds = (cloneUO 8) ex ds := fn_own rfl ex ds
theorem ow_43 (ex ds) : fn C 43 ex ds = (cloneO 1) ex ds := fn_own rfl ex ds
@[go_sem] theorem cl_39 (es : List (List AVal)) : fn C 39 [] [.slice 4 es] = gu (okRows es = true) (some (.slice 4 es, [])) := by
  rw [fn_own (g := cloneO 4) rfl]
  simp [cloneO, gu]
@[go_sem] theorem cl_35 (es : List (List AVal)) : fn C 35 [] [.slice 8 es] = gu (okRows es = true) (some (.slice 8 es, [])) := by
  rw [fn_own (g := cloneO 8) rfl]
  simp [cloneO, gu]
@[go_sem] theorem cl_36 (es : List (List AVal)) : fn C 36 [] [.slice 9 es] = gu (okRows es = true) (some (.slice 9 es, [])) := by
  rw [fn_own (g := cloneO 9) rfl]
  simp [cloneO, gu]
@[go_sem] theorem cl_92 (es : List (List AVal)) : fn C 92 [] [.slice 6 es] = gu (okRows es = true) (some (.slice 6 es, [])) := by
  rw [fn_own (g := cloneO 6) rfl]
  simp [cloneO, gu]
@[go_sem] theorem cl_41 (es : List (List AVal)) : fn C 41 [] [.slice 1 es] = gu (okRows es = true) (some (.slice 1 es, [])) := by
  rw [fn_own (g := cloneO 1) rfl]
  simp [cloneO, gu]
@[go_sem] theorem cl_37 (es : List (List AVal)) : fn C 37 [] [.slice 20 es] = gu (okRows es = true) (some (.usl 20 es, [])) := by
  rw [ow_37]
  simp [cloneUO, gu]
@[go_sem] theorem cl_78 (es : List (List AVal)) : fn C 78 [] [.slice 23 es] = gu (okRows es = true) (some (.usl 23 es, [])) := by
  rw [ow_78]
  simp [cloneUO, gu]
@[go_sem] theorem cl_40 (es : List (List AVal)) : fn C 40 [] [.slice 29 es] = gu (okRows es = true) (some (.usl 29 es, [])) := by
  rw [ow_40]
  simp [cloneUO, gu]
@[go_sem] theorem cl_42 (es : List (List AVal)) : fn C 42 [] [.slice 8 es] = gu (okRows es = true) (some (.usl 8 es, [])) := by
  rw [ow_42]
  simp [cloneUO, gu]
@[go_sem] theorem cl_43 (es : List (List AVal)) : fn C 43 [] [.slice 1 es] = gu (okRows es = true) (some (.slice 1 es, [])) := by
  rw [ow_43]
  simp [cloneO, gu]


end Go.Proofs.Ytmfcabokoijcdaa
namespace Go.Proofs.Ytmfcabokoijcdaa
open Go.Am
set_option linter.unusedSimpArgs false
set_option linter.unusedVariables false
set_option maxRecDepth 100000
def okB (b : UInt8) : Bool := decide (32 < b.toNat) && decide (b.toNat < 127)
def keyR (l : List UInt8) : Bool := decide (1 ≤ l.length) && decide (l.length ≤ 24) && l.all okB

@[go_sem] theorem e63 (l : List UInt8) : fn C 63 [] [.str l] = some (.bool (decide (l.length ≤ 32)), []) := by
  rw [fn_text Try.func63 rfl rfl Try.results63 fq63.1 rfl rfl (by kernel_rfl)]
  simp -implicitDefEqProofs -dsimp +contextual (maxSteps := 9999999) (disch := first | omega | simp only [go_sem] <;> omega | refine ib ?_; kernel_rfl) only [go_sem, seval, ↓reduceIte] <;>
  exact Res_bool (by simp; omega)

@[go_sem] theorem e83 (l : List UInt8) : fn C 83 [] [.str l] = some (.bool (keyR l), []) := by
  rw [fn_text Try.func83 rfl rfl Try.results83 fq83.1 rfl rfl (by kernel_rfl)]
  simp -implicitDefEqProofs -dsimp +contextual (maxSteps := 9999999) (disch := first | omega | simp only [go_sem] <;> omega | refine ib ?_; kernel_rfl) only [go_sem, seval, ↓reduceIte]
  (repeat' (refine kD_intro (fun _ => ?_) (fun _ => ?_)))
  · exact Res_bool (by simp [keyR]; omega)
  · exact Res_bool (by simp [keyR]; omega)
  refine (kLoop_rec (fun i f H => f 0 = .str l ∧ f 3 = .int .i64 (i : Nat) ∧ H = Heap.nil ∧ i ≤ l.length) (fun i => l.length - i) (fun i => some (.bool ((l.drop i).all okB), [])) ?_ 0 _ _ ⟨rfl, rfl, rfl, by omega⟩).trans ?_
  · rintro i f _ ⟨h0, h3, rfl, hi⟩ ih
    by_cases hl : i < l.length
    · rw [List.drop_eq_getElem_cons hl]
      simp -implicitDefEqProofs -dsimp +contextual (maxSteps := 9999999) (disch := first | omega | simp only [go_sem] <;> omega | refine ib ?_; kernel_rfl) only [go_sem, seval, ↓reduceIte, h0, h3, hl]
      (repeat' (refine kD_intro (fun _ => ?_) (fun _ => ?_)))
      · exact Res_bool (by simp [okB] <;> omega)
      · exact Res_bool (by simp [okB] <;> omega)
      · have hb : okB l[i] = true := by simp [okB] <;> omega
        exact (ih (i + 1) _ _ (by exact ⟨h0, rfl, rfl, by omega⟩) (by omega)).trans (by simp [hb])
    · simp -implicitDefEqProofs -dsimp +contextual (maxSteps := 9999999) (disch := first | omega | simp only [go_sem] <;> omega | refine ib ?_; kernel_rfl) only [go_sem, seval, ↓reduceIte, h0, h3, hl] <;>
      exact Res_bool (by simp [show i = l.length by omega])
  · exact Res_bool (by simp [keyR]; omega)

@[go_sem] theorem e62 (l : List UInt8) (hl : l.length ≤ 9223372036854775807) : fn C 62 [] [.str l] = some (.bool (keyR l), []) := by
  rw [fn_text Try.func62 rfl rfl Try.results62 fq62.1 rfl rfl (by kernel_rfl)]
  simp -implicitDefEqProofs -dsimp +contextual (maxSteps := 9999999) (disch := first | omega | simp only [go_sem] <;> omega | refine ib ?_; kernel_rfl) only [go_sem, seval, ↓reduceIte]
  refine (kLoop_rec (fun i f H => f 0 = .str l ∧ f 5 = .int .i64 l.length ∧ f 6 = .int .i64 (i : Nat) ∧ H = Heap.nil ∧ i ≤ l.length) (fun i => l.length - i) (fun i => some (.bool (decide (1 ≤ l.length) && decide (l.length ≤ 24) && (l.drop i).all okB), [])) ?_ 0 _ _ ⟨rfl, rfl, rfl, rfl, by omega⟩).trans rfl
  rintro i f _ ⟨h0, h5, h6, rfl, hi⟩ ih
  by_cases hl : i < l.length
  · rw [List.drop_eq_getElem_cons hl]
    simp -implicitDefEqProofs -dsimp +contextual (maxSteps := 9999999) (disch := first | omega | simp only [go_sem] <;> omega | refine ib ?_; kernel_rfl) only [go_sem, seval, ↓reduceIte, h0, h5, h6, hl]
    (repeat' (refine kD_intro (fun _ => ?_) (fun _ => ?_)))
    · exact Res_bool (by simp [okB] <;> omega)
    · exact Res_bool (by simp [okB] <;> omega)
    · have hb : okB l[i] = true := by simp [okB] <;> omega
      exact (ih (i + 1) _ _ (by exact ⟨h0, h5, rfl, rfl, by omega⟩) (by omega)).trans (by simp [hb])
  · simp -implicitDefEqProofs -dsimp +contextual (maxSteps := 9999999) (disch := first | omega | simp only [go_sem] <;> omega | refine ib ?_; kernel_rfl) only [go_sem, seval, ↓reduceIte, h0, h5, h6, hl]
    obtain rfl : i = l.length := by omega
    cases l with
    | nil => simp -implicitDefEqProofs -dsimp +contextual (maxSteps := 9999999) (disch := first | omega | simp only [go_sem] <;> omega | refine ib ?_; kernel_rfl) only [go_sem, seval, ↓reduceIte]
    | cons b l => simp -implicitDefEqProofs -dsimp +contextual (maxSteps := 9999999) (disch := first | omega | simp only [go_sem] <;> omega | refine ib ?_; kernel_rfl) only [go_sem, seval, ↓reduceIte] <;> exact Res_bool (by simp <;> omega)

end Go.Proofs.Ytmfcabokoijcdaa
namespace Go.Proofs.Ytmfcabokoijcdaa
open Go.Am
set_option linter.unusedSimpArgs false
set_option linter.unusedVariables false
set_option maxRecDepth 100000
structure It where
  k : List UInt8
  v : List UInt8
  n : Int
  g : Bool
deriving DecidableEq
def It.cs (x : It) : List AVal := [.str x.k, .str x.v, .int .i64 x.n, .bool x.g]
def zeroIt : It := ⟨[], [], 0, false⟩
@[go_sem] theorem zeroIt_k : zeroIt.k = [] := rfl
@[go_sem] theorem zeroIt_v : zeroIt.v = [] := rfl
@[go_sem] theorem zeroIt_n : zeroIt.n = 0 := rfl
@[go_sem] theorem zeroIt_g : zeroIt.g = false := rfl
@[go_sem] theorem It.cs_eq (x : It) : x.cs = [.str x.k, .str x.v, .int .i64 x.n, .bool x.g] := rfl
@[go_sem] theorem It.ones_cs (l : List It) : ones (l.map It.cs) = true := ones_map _ _ fun x => rfl
@[go_sem] theorem It.clos_cs (l : List It) : (l.map It.cs).all clos = true := allclos_map _ (fun _ => rfl) l
@[go_sem] theorem It.flat_cs (l : List It) : flatss (l.map It.cs) = true := flatss_map _ (fun _ => rfl) l
@[go_sem] theorem It.ok_cs (l : List It) : okRows (l.map It.cs) = decide (l.length ≤ 1073741824) := okRows_map _ (fun _ => rfl) (fun _ => rfl) l
@[go_sem] theorem It.eta (x : It) : (⟨x.k, x.v, x.n, x.g⟩ : It) = x := rfl
@[go_sem] theorem It.set_cs (l : List It) (j : Nat) (k v : List UInt8) (n : Int) (g : Bool) : (l.map It.cs).set j [.str k, .str v, .int .i64 n, .bool g] = (l.set j ⟨k, v, n, g⟩).map It.cs := by rw [List.map_set]; rfl
@[go_sem] theorem It.app_cs (l : List It) (k v : List UInt8) (n : Int) (g : Bool) : l.map It.cs ++ [[.str k, .str v, .int .i64 n, .bool g]] = (l ++ [(⟨k, v, n, g⟩ : It)]).map It.cs := by rw [List.map_append]; rfl
theorem It.eq_iff (x y : It) : x = y ↔ x.k = y.k ∧ x.v = y.v ∧ x.n = y.n ∧ x.g = y.g := by cases x; cases y; simp

def itemR (x : It) : Bool := keyR x.k && decide (x.v.length ≤ 32) && decide (1 ≤ x.n) && decide (x.n ≤ 1073741824)

@[go_sem] theorem eqItem (a b a' b' : List UInt8) (c c' : Int) (d d' : Bool) : eqF E.P 8 56 (.agg [.str a, .str b, .int .i64 c, .bool d]) (.agg [.str a', .str b', .int .i64 c', .bool d']) = some (decide ((⟨a, b, c, d⟩ : It) = ⟨a', b', c', d'⟩)) := by
  have u26 : E.P.underlying 56 = _ := Try.underlying56
  have u9 : E.P.underlying 9 = _ := Try.underlying9
  have u3 : E.P.underlying 3 = _ := Try.underlying3
  have u4 : E.P.underlying 4 = _ := Try.underlying4
  have hs : E.P.stoodInHeld 56 = false := by kernel_rfl
  simp [eqF, eqGo, u26, u9, u3, u4, hs, tq9.1, tq9.2.1, tq3.1, tq3.2.1, tq4.1, tq4.2.1, mkV, beq_dec, Bool.and_assoc, ← Bool.decide_and]

@[go_sem] theorem e55 (a b : List It) (hl : a.length ≤ 9223372036854775807) : fn C 55 [] [.slice 4 (a.map It.cs), .slice 4 (b.map It.cs)] = some (.bool (decide (a = b)), []) := by
  rw [fn_text Try.func55 rfl rfl Try.results55 fq55.1 rfl rfl (by kernel_rfl)]
  simp -implicitDefEqProofs -dsimp +contextual (maxSteps := 9999999) (disch := first | omega | simp only [go_sem] <;> omega | refine ib ?_; kernel_rfl) only [go_sem, seval, ↓reduceIte]
  (repeat' (refine kD_intro (fun _ => ?_) (fun _ => ?_)))
  · rename_i h1
    refine (kLoop_rec (fun i f H => f 0 = .slice 4 (a.map It.cs) ∧ f 1 = .slice 4 (b.map It.cs) ∧ f 5 = .int .i64 (i : Nat) ∧ H = Heap.nil ∧ i ≤ a.length ∧ a.take i = b.take i) (fun i => a.length - i) (fun i => some (.bool (decide (a = b)), [])) ?_ 0 _ _ ⟨rfl, rfl, rfl, rfl, by omega, rfl⟩).trans rfl
    rintro i f _ ⟨h0, h2, h5, rfl, hi, ht⟩ ih
    by_cases hl : i < a.length
    · simp -implicitDefEqProofs -dsimp +contextual (maxSteps := 9999999) (disch := first | omega | simp only [go_sem] <;> omega | refine ib ?_; kernel_rfl) only [go_sem, seval, ↓reduceIte, h0, h2, h5, hl, h1]
      (repeat' (refine kD_intro (fun _ => ?_) (fun _ => ?_)))
      · rename_i he
        refine ih (i + 1) _ _ ⟨h0, h2, rfl, rfl, by omega, ?_⟩ (by omega)
        rw [List.take_succ_eq_append_getElem hl, List.take_succ_eq_append_getElem (by omega), ht, he]
      · rename_i he
        have : ¬ a = b := fun e => he (by subst e; rfl)
        exact Res_bool (by simp [this])
    · simp -implicitDefEqProofs -dsimp +contextual (maxSteps := 9999999) (disch := first | omega | simp only [go_sem] <;> omega | refine ib ?_; kernel_rfl) only [go_sem, seval, ↓reduceIte, h0, h2, h5, hl]
      obtain rfl : i = a.length := by omega
      have : a = b := by rw [List.take_length, h1, List.take_length] at ht; exact ht
      exact Res_bool (by simp [this])
  · rename_i h
    have : ¬ a = b := fun e => h (by rw [e])
    exact Res_bool (by simp [this])

end Go.Proofs.Ytmfcabokoijcdaa
namespace Go.Proofs.Ytmfcabokoijcdaa
open Go.Am
set_option linter.unusedSimpArgs false
set_option linter.unusedVariables false
set_option maxRecDepth 100000
/-! Certificates. -/
structure En where
  name : List UInt8
  id : Nat
  fr : Int
  un : Int
  ix : Int
  tag : List UInt8
deriving DecidableEq
def En.cs (e : En) : List AVal := [.str e.name, .int .u64 (e.id : Int), .int .i64 e.fr, .int .i64 e.un, .int .i64 e.ix, .str e.tag]
@[go_sem] theorem En.cs_eq (e : En) : e.cs = [.str e.name, .int .u64 (e.id : Int), .int .i64 e.fr, .int .i64 e.un, .int .i64 e.ix, .str e.tag] := rfl
def u64V (n : Int) : Nat := (n % 18446744073709551616).toNat
theorem wrap_u64V (n : Int) : IntKind.u64.wrap n = (u64V n : Int) := by rw [IntKind.wrap_u64, u64V]; omega
theorem u64V_le (n : Int) : u64V n ≤ 18446744073709551615 := by rw [u64V]; omega
structure En.ok (e : En) : Prop where
  id : e.id ≤ 18446744073709551615
  f1 : -9223372036854775808 ≤ e.fr
  f2 : e.fr ≤ 9223372036854775807
  u1 : -9223372036854775808 ≤ e.un
  u2 : e.un ≤ 9223372036854775807
  i1 : -9223372036854775808 ≤ e.ix
  i2 : e.ix ≤ 9223372036854775807
theorem En.eq_iff (x y : En) : x = y ↔ (x.name = y.name ∧ x.id = y.id ∧ x.fr = y.fr ∧ x.un = y.un ∧ x.ix = y.ix ∧ x.tag = y.tag) := by
  cases x; cases y; simp

end Go.Proofs.Ytmfcabokoijcdaa
namespace Go.Proofs.Ytmfcabokoijcdaa
open Go.Am
set_option linter.unusedSimpArgs false
set_option linter.unusedVariables false
set_option maxRecDepth 100000
/-! Nodes, and what is in them. -/
structure Pr where
  e : En
  since : Int
  under : Int
deriving DecidableEq
def Pr.cs (p : Pr) : List AVal := [.str p.e.name, .int .u64 (p.e.id : Int), .int .i64 p.e.fr, .int .i64 p.e.un, .int .i64 p.e.ix, .str p.e.tag, .int .i64 p.since, .int .i64 p.under]
@[go_sem] theorem Pr.cs_eq (p : Pr) : p.cs = [.str p.e.name, .int .u64 (p.e.id : Int), .int .i64 p.e.fr, .int .i64 p.e.un, .int .i64 p.e.ix, .str p.e.tag, .int .i64 p.since, .int .i64 p.under] := rfl
structure Fg where
  bit : Int
  p : Pr
deriving DecidableEq
def Fg.cs (x : Fg) : List AVal := [.int .i64 x.bit, .str x.p.e.name, .int .u64 (x.p.e.id : Int), .int .i64 x.p.e.fr, .int .i64 x.p.e.un, .int .i64 x.p.e.ix, .str x.p.e.tag, .int .i64 x.p.since, .int .i64 x.p.under]
@[go_sem] theorem Fg.cs_eq (x : Fg) : x.cs = [.int .i64 x.bit, .str x.p.e.name, .int .u64 (x.p.e.id : Int), .int .i64 x.p.e.fr, .int .i64 x.p.e.un, .int .i64 x.p.e.ix, .str x.p.e.tag, .int .i64 x.p.since, .int .i64 x.p.under] := rfl
structure Wn where
  top : Int
  low : Nat
  high : Nat
deriving DecidableEq
structure Se where
  id : Nat
  nonce : Nat
  peer : En
  role : Int
  state : Int
  send : List UInt8
  hear : List UInt8
  epoch : Int
  count : Int
  since : Int
  seq : Int
  seen : Wn
  used : Int
deriving DecidableEq
def Se.cs (s : Se) : List AVal := [.int .u64 (s.id : Int), .int .u64 (s.nonce : Int), .str s.peer.name, .int .u64 (s.peer.id : Int), .int .i64 s.peer.fr, .int .i64 s.peer.un, .int .i64 s.peer.ix, .str s.peer.tag, .int .i64 s.role, .int .i64 s.state, .str s.send, .str s.hear, .int .i64 s.epoch, .int .i64 s.count, .int .i64 s.since, .int .i64 s.seq, .int .i64 s.seen.top, .int .u64 (s.seen.low : Int), .int .u64 (s.seen.high : Int), .int .i64 s.used]
@[go_sem] theorem Se.cs_eq (s : Se) : s.cs = [.int .u64 (s.id : Int), .int .u64 (s.nonce : Int), .str s.peer.name, .int .u64 (s.peer.id : Int), .int .i64 s.peer.fr, .int .i64 s.peer.un, .int .i64 s.peer.ix, .str s.peer.tag, .int .i64 s.role, .int .i64 s.state, .str s.send, .str s.hear, .int .i64 s.epoch, .int .i64 s.count, .int .i64 s.since, .int .i64 s.seq, .int .i64 s.seen.top, .int .u64 (s.seen.low : Int), .int .u64 (s.seen.high : Int), .int .i64 s.used] := rfl
structure Ms where
  kind : Int
  rid : Int
  ver : Int
  err : Int
  id : Nat
  has : Bool
  gone : Bool
  key : List UInt8
  val : List UInt8
  ents : List En
  items : List It
deriving DecidableEq
def Ms.cs (m : Ms) : List AVal := [.int .i64 m.kind, .int .i64 m.rid, .int .i64 m.ver, .int .i64 m.err, .int .u64 (m.id : Int), .bool m.has, .bool m.gone, .str m.key, .str m.val, .slice 6 (m.ents.map En.cs), .slice 4 (m.items.map It.cs)]
@[go_sem] theorem Ms.cs_eq (m : Ms) : m.cs = [.int .i64 m.kind, .int .i64 m.rid, .int .i64 m.ver, .int .i64 m.err, .int .u64 (m.id : Int), .bool m.has, .bool m.gone, .str m.key, .str m.val, .slice 6 (m.ents.map En.cs), .slice 4 (m.items.map It.cs)] := rfl
structure Pd where
  rid : Int
  why : Int
  job : Int
  til : Int
  tries : Int
  session : Nat
  to : En
  m : Ms
deriving DecidableEq
def Pd.cs (p : Pd) : List AVal := [.int .i64 p.rid, .int .i64 p.why, .int .i64 p.job, .int .i64 p.til, .int .i64 p.tries, .int .u64 (p.session : Int), .str p.to.name, .int .u64 (p.to.id : Int), .int .i64 p.to.fr, .int .i64 p.to.un, .int .i64 p.to.ix, .str p.to.tag, .int .i64 p.m.kind, .int .i64 p.m.rid, .int .i64 p.m.ver, .int .i64 p.m.err, .int .u64 (p.m.id : Int), .bool p.m.has, .bool p.m.gone, .str p.m.key, .str p.m.val, .slice 6 (p.m.ents.map En.cs), .slice 4 (p.m.items.map It.cs)]
@[go_sem] theorem Pd.cs_eq (p : Pd) : p.cs = [.int .i64 p.rid, .int .i64 p.why, .int .i64 p.job, .int .i64 p.til, .int .i64 p.tries, .int .u64 (p.session : Int), .str p.to.name, .int .u64 (p.to.id : Int), .int .i64 p.to.fr, .int .i64 p.to.un, .int .i64 p.to.ix, .str p.to.tag, .int .i64 p.m.kind, .int .i64 p.m.rid, .int .i64 p.m.ver, .int .i64 p.m.err, .int .u64 (p.m.id : Int), .bool p.m.has, .bool p.m.gone, .str p.m.key, .str p.m.val, .slice 6 (p.m.ents.map En.cs), .slice 4 (p.m.items.map It.cs)] := rfl
structure Jb where
  id : Int
  kind : Int
  phase : Int
  hops : Int
  tries : Int
  til : Int
  key : List UInt8
  val : List UInt8
  owner : En
  item : It
  acks : Int
  waits : Int
  asked : List (List UInt8)
  back : En
  backRid : Int
  backJob : Int
deriving DecidableEq
def Jb.cs (j : Jb) : List AVal := [.int .i64 j.id, .int .i64 j.kind, .int .i64 j.phase, .int .i64 j.hops, .int .i64 j.tries, .int .i64 j.til, .str j.key, .str j.val, .str j.owner.name, .int .u64 (j.owner.id : Int), .int .i64 j.owner.fr, .int .i64 j.owner.un, .int .i64 j.owner.ix, .str j.owner.tag, .str j.item.k, .str j.item.v, .int .i64 j.item.n, .bool j.item.g, .int .i64 j.acks, .int .i64 j.waits, .slice 1 (j.asked.map strRow), .str j.back.name, .int .u64 (j.back.id : Int), .int .i64 j.back.fr, .int .i64 j.back.un, .int .i64 j.back.ix, .str j.back.tag, .int .i64 j.backRid, .int .i64 j.backJob]
@[go_sem] theorem Jb.cs_eq (j : Jb) : j.cs = [.int .i64 j.id, .int .i64 j.kind, .int .i64 j.phase, .int .i64 j.hops, .int .i64 j.tries, .int .i64 j.til, .str j.key, .str j.val, .str j.owner.name, .int .u64 (j.owner.id : Int), .int .i64 j.owner.fr, .int .i64 j.owner.un, .int .i64 j.owner.ix, .str j.owner.tag, .str j.item.k, .str j.item.v, .int .i64 j.item.n, .bool j.item.g, .int .i64 j.acks, .int .i64 j.waits, .slice 1 (j.asked.map strRow), .str j.back.name, .int .u64 (j.back.id : Int), .int .i64 j.back.fr, .int .i64 j.back.un, .int .i64 j.back.ix, .str j.back.tag, .int .i64 j.backRid, .int .i64 j.backJob] := rfl
structure Rs where
  job : Int
  kind : Int
  ver : Int
  key : List UInt8
  val : List UInt8
  has : Bool
  gone : Bool
  err : Int
deriving DecidableEq
def Rs.cs (r : Rs) : List AVal := [.int .i64 r.job, .int .i64 r.kind, .int .i64 r.ver, .str r.key, .str r.val, .bool r.has, .bool r.gone, .int .i64 r.err]
@[go_sem] theorem Rs.cs_eq (r : Rs) : r.cs = [.int .i64 r.job, .int .i64 r.kind, .int .i64 r.ver, .str r.key, .str r.val, .bool r.has, .bool r.gone, .int .i64 r.err] := rfl
def u64Row (n : Nat) : List AVal := [.int .u64 (n : Int)]
@[go_sem] theorem u64Row_eq (n : Nat) : u64Row n = [.int .u64 (n : Int)] := rfl
structure Nd where
  me : En
  clock : Int
  psk : List UInt8
  gateI : Int
  gateK : List UInt8
  ready : Bool
  pred : List Pr
  list : List Pr
  fingers : List Fg
  sessions : List Se
  pends : List Pd
  items : List It
  jobs : List Jb
  rid : Int
  jobId : Int
  draws : List Nat
  results : List Rs
deriving DecidableEq

@[go_sem] theorem En_ones (l : List (En)) : ones (l.map En.cs) = true := ones_map _ _ fun _ => rfl
@[go_sem] theorem En_clos (l : List (En)) : (l.map En.cs).all clos = true := allclos_map _ (fun _ => rfl) l
@[go_sem] theorem En_flat (l : List (En)) : flatss (l.map En.cs) = true := flatss_map _ (fun _ => rfl) l
@[go_sem] theorem En_ok (l : List (En)) : okRows (l.map En.cs) = decide (l.length ≤ 1073741824) := okRows_map _ (fun _ => rfl) (fun _ => rfl) l
@[go_sem] theorem Pr_ones (l : List (Pr)) : ones (l.map Pr.cs) = true := ones_map _ _ fun _ => rfl
@[go_sem] theorem Pr_clos (l : List (Pr)) : (l.map Pr.cs).all clos = true := allclos_map _ (fun _ => rfl) l
@[go_sem] theorem Pr_flat (l : List (Pr)) : flatss (l.map Pr.cs) = true := flatss_map _ (fun _ => rfl) l
@[go_sem] theorem Pr_ok (l : List (Pr)) : okRows (l.map Pr.cs) = decide (l.length ≤ 1073741824) := okRows_map _ (fun _ => rfl) (fun _ => rfl) l
@[go_sem] theorem Fg_ones (l : List (Fg)) : ones (l.map Fg.cs) = true := ones_map _ _ fun _ => rfl
@[go_sem] theorem Fg_clos (l : List (Fg)) : (l.map Fg.cs).all clos = true := allclos_map _ (fun _ => rfl) l
@[go_sem] theorem Fg_flat (l : List (Fg)) : flatss (l.map Fg.cs) = true := flatss_map _ (fun _ => rfl) l
@[go_sem] theorem Fg_ok (l : List (Fg)) : okRows (l.map Fg.cs) = decide (l.length ≤ 1073741824) := okRows_map _ (fun _ => rfl) (fun _ => rfl) l
@[go_sem] theorem Se_ones (l : List (Se)) : ones (l.map Se.cs) = true := ones_map _ _ fun _ => rfl
@[go_sem] theorem Se_clos (l : List (Se)) : (l.map Se.cs).all clos = true := allclos_map _ (fun _ => rfl) l
@[go_sem] theorem Se_flat (l : List (Se)) : flatss (l.map Se.cs) = true := flatss_map _ (fun _ => rfl) l
@[go_sem] theorem Se_ok (l : List (Se)) : okRows (l.map Se.cs) = decide (l.length ≤ 1073741824) := okRows_map _ (fun _ => rfl) (fun _ => rfl) l
@[go_sem] theorem Pd_ones (l : List (Pd)) : ones (l.map Pd.cs) = true := ones_map _ _ fun _ => rfl
@[go_sem] theorem Pd_clos (l : List (Pd)) : (l.map Pd.cs).all clos = true := allclos_map _ (fun _ => rfl) l
@[go_sem] theorem Pd_ok (l : List (Pd)) : okRows (l.map Pd.cs) = decide (l.length ≤ 1073741824) := okRows_map _ (fun _ => rfl) (fun _ => rfl) l
@[go_sem] theorem Jb_ones (l : List (Jb)) : ones (l.map Jb.cs) = true := ones_map _ _ fun _ => rfl
@[go_sem] theorem Jb_clos (l : List (Jb)) : (l.map Jb.cs).all clos = true := allclos_map _ (fun _ => rfl) l
@[go_sem] theorem Jb_ok (l : List (Jb)) : okRows (l.map Jb.cs) = decide (l.length ≤ 1073741824) := okRows_map _ (fun _ => rfl) (fun _ => rfl) l
@[go_sem] theorem Rs_ones (l : List (Rs)) : ones (l.map Rs.cs) = true := ones_map _ _ fun _ => rfl
@[go_sem] theorem Rs_clos (l : List (Rs)) : (l.map Rs.cs).all clos = true := allclos_map _ (fun _ => rfl) l
@[go_sem] theorem Rs_flat (l : List (Rs)) : flatss (l.map Rs.cs) = true := flatss_map _ (fun _ => rfl) l
@[go_sem] theorem Rs_ok (l : List (Rs)) : okRows (l.map Rs.cs) = decide (l.length ≤ 1073741824) := okRows_map _ (fun _ => rfl) (fun _ => rfl) l
@[go_sem] theorem strRow_ones (l : List (List UInt8)) : ones (l.map strRow) = true := ones_map _ _ fun _ => rfl
@[go_sem] theorem strRow_clos (l : List (List UInt8)) : (l.map strRow).all clos = true := allclos_map _ (fun _ => rfl) l
@[go_sem] theorem strRow_flat (l : List (List UInt8)) : flatss (l.map strRow) = true := flatss_map _ (fun _ => rfl) l
@[go_sem] theorem strRow_ok (l : List (List UInt8)) : okRows (l.map strRow) = decide (l.length ≤ 1073741824) := okRows_map _ (fun _ => rfl) (fun _ => rfl) l
@[go_sem] theorem u64Row_ones (l : List (Nat)) : ones (l.map u64Row) = true := ones_map _ _ fun _ => rfl
@[go_sem] theorem u64Row_clos (l : List (Nat)) : (l.map u64Row).all clos = true := allclos_map _ (fun _ => rfl) l
@[go_sem] theorem u64Row_flat (l : List (Nat)) : flatss (l.map u64Row) = true := flatss_map _ (fun _ => rfl) l
@[go_sem] theorem u64Row_ok (l : List (Nat)) : okRows (l.map u64Row) = decide (l.length ≤ 1073741824) := okRows_map _ (fun _ => rfl) (fun _ => rfl) l
@[go_sem] theorem Ms_ones (l : List (Ms)) : ones (l.map Ms.cs) = true := ones_map _ _ fun _ => rfl
@[go_sem] theorem Ms_clos (l : List (Ms)) : (l.map Ms.cs).all clos = true := allclos_map _ (fun _ => rfl) l
@[go_sem] theorem Ms_ok (l : List (Ms)) : okRows (l.map Ms.cs) = decide (l.length ≤ 1073741824) := okRows_map _ (fun _ => rfl) (fun _ => rfl) l

def greatE (e : En) : Bool := decide (1000 < e.name.length) || decide (1000 < e.tag.length)
structure En.small (e : En) : Prop where
  n : e.name.length ≤ 1000
  t : e.tag.length ≤ 1000
theorem greatE_no {e : En} (h : greatE e = false) : e.small := by
  simp only [greatE, Bool.or_eq_false_iff, decide_eq_false_iff_not, Nat.not_lt] at h
  exact ⟨h.1, h.2⟩
def greatPs (l : List Pr) : Bool := decide (40 < l.length) || l.any fun p => greatE p.e
def greatS (s : Se) : Bool := decide (300 < s.send.length) || decide (300 < s.hear.length) || greatE s.peer
def greatSs (l : List Se) : Bool := decide (60 < l.length) || l.any greatS
def greatI (x : It) : Bool := decide (300 < x.k.length) || decide (300 < x.v.length)
def greatM (m : Ms) : Bool := decide (300 < m.key.length) || decide (300 < m.val.length) || decide (30 < m.ents.length) || decide (30 < m.items.length) || m.ents.any greatE || m.items.any greatI
def greatPds (l : List Pd) : Bool := decide (50 < l.length) || l.any fun p => greatE p.to || greatM p.m
def greatJ (j : Jb) : Bool := decide (300 < j.key.length) || decide (300 < j.val.length) || decide (300 < j.item.k.length) || decide (300 < j.item.v.length) || greatE j.owner || greatE j.back || decide (30 < j.asked.length) || j.asked.any fun a => decide (1000 < a.length)
def greatIs (l : List It) : Bool := decide (60 < l.length) || l.any greatI
def greatN (n : Nd) : Bool := greatE n.me || decide (300 < n.psk.length) || decide (300 < n.gateK.length) || greatPs n.pred || greatPs n.list || decide (70 < n.fingers.length) || greatSs n.sessions || greatPds n.pends || greatIs n.items || decide (20 < n.jobs.length) || decide (60 < n.draws.length) || decide (40 < n.results.length) || (n.fingers.any fun x => greatE x.p.e) || n.jobs.any greatJ || n.results.any fun r => decide (300 < r.key.length) || decide (300 < r.val.length)

end Go.Proofs.Ytmfcabokoijcdaa
namespace Go.Proofs.Ytmfcabokoijcdaa
open Go.Am
set_option linter.unusedSimpArgs false
set_option linter.unusedVariables false
set_option maxRecDepth 100000
/-! Nodes: their cells; equal entries; great ones. -/
theorem any_at {α : Type} {p : α → Bool} {l : List α} {i : Nat} (hi : i < l.length) (h : p l[i] = true) : l.any p = true := List.any_eq_true.2 ⟨l[i], List.getElem_mem hi, h⟩
theorem any_take {α : Type} {p : α → Bool} {l : List α} {i : Nat} (hi : i < l.length) (ha : (l.take i).any p = false) (h : p l[i] = false) : (l.take (i + 1)).any p = false := by
  rw [List.take_succ_eq_append_getElem hi, List.any_append, ha]; simp [h]
theorem any_end {α : Type} {p : α → Bool} {l : List α} (ha : (l.take l.length).any p = false) : l.any p = false := by rwa [List.take_length] at ha
theorem any_mem {α : Type} {p : α → Bool} {l : List α} (ha : l.any p = false) : ∀ x ∈ l, p x = false := by
  intro x hx; rw [List.any_eq_false] at ha; simpa using ha x hx

def Nd.cs (n : Nd) : List AVal := [.str n.me.name, .int .u64 (n.me.id : Int), .int .i64 n.me.fr, .int .i64 n.me.un, .int .i64 n.me.ix, .str n.me.tag, .int .i64 n.clock, .str n.psk, .int .i64 n.gateI, .str n.gateK, .bool n.ready, .slice 8 (n.pred.map Pr.cs), .slice 8 (n.list.map Pr.cs), .slice 9 (n.fingers.map Fg.cs), .slice 20 (n.sessions.map Se.cs), .slice 23 (n.pends.map Pd.cs), .slice 4 (n.items.map It.cs), .slice 29 (n.jobs.map Jb.cs), .int .i64 n.rid, .int .i64 n.jobId, .slice 1 (n.draws.map u64Row), .slice 8 (n.results.map Rs.cs)]

@[go_sem] theorem eqEntry (n t n' t' : List UInt8) (a b c d a' b' c' d' : Int) : eqF E.P 8 24 (.agg [.str n, .int .u64 a, .int .i64 b, .int .i64 c, .int .i64 d, .str t]) (.agg [.str n', .int .u64 a', .int .i64 b', .int .i64 c', .int .i64 d', .str t']) = some (decide (n = n' ∧ a = a' ∧ b = b' ∧ c = c' ∧ d = d' ∧ t = t')) := by
  have u1 : E.P.underlying 24 = _ := Try.underlying24
  have u2 : E.P.underlying 9 = _ := Try.underlying9
  have u3 : E.P.underlying 3 = _ := Try.underlying3
  have u4 : E.P.underlying 22 = _ := Try.underlying22
  have hs : E.P.stoodInHeld 24 = false := by kernel_rfl
  simp [eqF, eqGo, u1, u2, u3, u4, hs, tq9.1, tq9.2.1, tq3.1, tq3.2.1, tq22.1, tq22.2.1, mkV, beq_dec, Bool.and_assoc, ← Bool.decide_and]

@[go_sem] theorem eqPeer (n t n' t' : List UInt8) (a b c d e f a' b' c' d' e' f' : Int) : eqF E.P 8 54 (.agg [.str n, .int .u64 a, .int .i64 b, .int .i64 c, .int .i64 d, .str t, .int .i64 e, .int .i64 f]) (.agg [.str n', .int .u64 a', .int .i64 b', .int .i64 c', .int .i64 d', .str t', .int .i64 e', .int .i64 f']) = some (decide ((n = n' ∧ a = a' ∧ b = b' ∧ c = c' ∧ d = d' ∧ t = t') ∧ e = e' ∧ f = f')) := by
  have u0 : E.P.underlying 54 = _ := Try.underlying54
  have u1 : E.P.underlying 24 = _ := Try.underlying24
  have u2 : E.P.underlying 9 = _ := Try.underlying9
  have u3 : E.P.underlying 3 = _ := Try.underlying3
  have u4 : E.P.underlying 22 = _ := Try.underlying22
  have hs : E.P.stoodInHeld 24 = false := by kernel_rfl
  have hp : E.P.stoodInHeld 54 = false := by kernel_rfl
  simp [eqF, eqGo, u0, u1, u2, u3, u4, hs, hp, tq9.1, tq9.2.1, tq3.1, tq3.2.1, tq22.1, tq22.2.1, tq24.1, tq24.2.1, mkV, beq_dec, Bool.and_assoc, ← Bool.decide_and]

@[go_sem] theorem e9 (e : En) (hn : e.name.length ≤ 9223372036854775807) (ht : e.tag.length ≤ 9223372036854775807) : fn C 9 [] [.agg [.str e.name, .int .u64 (e.id : Int), .int .i64 e.fr, .int .i64 e.un, .int .i64 e.ix, .str e.tag]] = some (.bool (greatE e), []) := by
  rw [fn_text Try.func9 rfl rfl Try.results9 fq9.1 rfl rfl (by kernel_rfl)]
  simp -implicitDefEqProofs -dsimp +contextual (maxSteps := 9999999) (disch := first | omega | simp only [go_sem] <;> omega | refine ib ?_; kernel_rfl) only [go_sem, seval, ↓reduceIte]
  (repeat' (refine kD_intro (fun _ => ?_) (fun _ => ?_))) <;> exact Res_bool (by simp [greatE, *])
/-- Lengths that a machine can hold. -/
structure En.fit (e : En) : Prop where
  n : e.name.length ≤ 9223372036854775807
  t : e.tag.length ≤ 9223372036854775807
structure Pr.fit (p : Pr) : Prop where
  l : p.e.fit
structure Se.fit (x : Se) : Prop where
  p : x.peer.fit
  s : x.send.length ≤ 9223372036854775807
  h : x.hear.length ≤ 9223372036854775807
structure It.fit (x : It) : Prop where
  k : x.k.length ≤ 9223372036854775807
  v : x.v.length ≤ 9223372036854775807
structure Ms.fit (m : Ms) : Prop where
  k : m.key.length ≤ 9223372036854775807
  v : m.val.length ≤ 9223372036854775807
  e : m.ents.length ≤ 9223372036854775807
  i : m.items.length ≤ 9223372036854775807
  es : ∀ e ∈ m.ents, e.fit
  is : ∀ x ∈ m.items, x.fit
structure Pd.fit (p : Pd) : Prop where
  t : p.to.fit
  m : p.m.fit
structure Jb.fit (j : Jb) : Prop where
  k : j.key.length ≤ 9223372036854775807
  v : j.val.length ≤ 9223372036854775807
  ik : j.item.fit
  o : j.owner.fit
  b : j.back.fit
  a : j.asked.length ≤ 9223372036854775807
  al : ∀ s ∈ j.asked, s.length ≤ 9223372036854775807
structure Rs.fit (r : Rs) : Prop where
  k : r.key.length ≤ 9223372036854775807
  v : r.val.length ≤ 9223372036854775807
structure Nd.fit (n : Nd) : Prop where
  me : n.me.fit
  psk : n.psk.length ≤ 9223372036854775807
  gk : n.gateK.length ≤ 9223372036854775807
  pl : n.pred.length ≤ 9223372036854775807
  p : ∀ p ∈ n.pred, p.fit
  ll : n.list.length ≤ 9223372036854775807
  l : ∀ p ∈ n.list, p.fit
  fl : n.fingers.length ≤ 9223372036854775807
  f : ∀ f ∈ n.fingers, f.p.fit
  sl : n.sessions.length ≤ 9223372036854775807
  s : ∀ s ∈ n.sessions, s.fit
  dl : n.pends.length ≤ 9223372036854775807
  d : ∀ p ∈ n.pends, p.fit
  il : n.items.length ≤ 9223372036854775807
  i : ∀ x ∈ n.items, x.fit
  jl : n.jobs.length ≤ 9223372036854775807
  j : ∀ j ∈ n.jobs, j.fit
  wl : n.draws.length ≤ 9223372036854775807
  rl : n.results.length ≤ 9223372036854775807
  r : ∀ r ∈ n.results, r.fit

@[reducible] def I64 (n : Int) : Prop := -9223372036854775808 ≤ n ∧ n ≤ 9223372036854775807
@[reducible] def U64 (n : Nat) : Prop := n ≤ 18446744073709551615
structure Pr.ok (p : Pr) : Prop where
  e : p.e.ok
  s1 : -9223372036854775808 ≤ p.since
  s2 : p.since ≤ 9223372036854775807
  u1 : -9223372036854775808 ≤ p.under
  u2 : p.under ≤ 9223372036854775807
structure Rs.ok (r : Rs) : Prop where
  j1 : -9223372036854775808 ≤ r.job
  j2 : r.job ≤ 9223372036854775807
  k1 : -9223372036854775808 ≤ r.kind
  k2 : r.kind ≤ 9223372036854775807
  v1 : -9223372036854775808 ≤ r.ver
  v2 : r.ver ≤ 9223372036854775807
  e1 : -9223372036854775808 ≤ r.err
  e2 : r.err ≤ 9223372036854775807
structure Fg.ok (x : Fg) : Prop where
  b : I64 x.bit
  p : x.p.ok
structure It.ok (x : It) : Prop where
  n : I64 x.n
structure Se.ok (x : Se) : Prop where
  id : U64 x.id
  nonce : U64 x.nonce
  peer : x.peer.ok
  role : I64 x.role
  state : I64 x.state
  epoch : I64 x.epoch
  count : I64 x.count
  since : I64 x.since
  seq : I64 x.seq
  top : I64 x.seen.top
  low : U64 x.seen.low
  high : U64 x.seen.high
  used : I64 x.used
structure Ms.ok (m : Ms) : Prop where
  kind : I64 m.kind
  rid : I64 m.rid
  ver : I64 m.ver
  err : I64 m.err
  id : U64 m.id
  ents : ∀ e ∈ m.ents, e.ok
  items : ∀ x ∈ m.items, x.ok
structure Pd.ok (p : Pd) : Prop where
  rid : I64 p.rid
  why : I64 p.why
  job : I64 p.job
  til : I64 p.til
  tries : I64 p.tries
  session : U64 p.session
  to : p.to.ok
  m : p.m.ok
structure Jb.ok (j : Jb) : Prop where
  id : I64 j.id
  kind : I64 j.kind
  phase : I64 j.phase
  hops : I64 j.hops
  tries : I64 j.tries
  til : I64 j.til
  owner : j.owner.ok
  item : j.item.ok
  acks : I64 j.acks
  waits : I64 j.waits
  back : j.back.ok
  backRid : I64 j.backRid
  backJob : I64 j.backJob
structure Nd.ok (n : Nd) : Prop where
  me : n.me.ok
  clock : I64 n.clock
  gate : I64 n.gateI
  pred : ∀ p ∈ n.pred, p.ok
  list : ∀ p ∈ n.list, p.ok
  fingers : ∀ p ∈ n.fingers, p.ok
  sessions : ∀ p ∈ n.sessions, p.ok
  pends : ∀ p ∈ n.pends, p.ok
  items : ∀ p ∈ n.items, p.ok
  jobs : ∀ p ∈ n.jobs, p.ok
  rid : I64 n.rid
  jobId : I64 n.jobId
  draws : ∀ d ∈ n.draws, U64 d
  results : ∀ p ∈ n.results, p.ok

@[go_sem] theorem e30 (l : List Pr) (hl : l.length ≤ 9223372036854775807) (hp : ∀ p ∈ l, p.fit) : fn C 30 [] [.slice 8 (l.map Pr.cs)] = some (.bool (greatPs l), []) := by
  rw [fn_text Try.func30 rfl rfl Try.results30 fq30.1 rfl rfl (by kernel_rfl)]
  unfold greatPs
  by_cases hb : 40 < l.length
  · simp -implicitDefEqProofs -dsimp +contextual (maxSteps := 9999999) (disch := first | omega | simp only [go_sem] <;> omega | refine ib ?_; kernel_rfl) only [go_sem, seval, ↓reduceIte, hb]
    try simp [hb]
  · simp -implicitDefEqProofs -dsimp +contextual (maxSteps := 9999999) (disch := first | omega | simp only [go_sem] <;> omega | refine ib ?_; kernel_rfl) only [go_sem, seval, ↓reduceIte, hb]
    refine kFor l.length (fun i f H => f 0 = .slice 8 (l.map Pr.cs) ∧ f 3 = .int .i64 (i : Nat) ∧ H = Heap.nil ∧ (l.take i).any (fun p => greatE p.e) = false) ?_ ?_ ⟨rfl, rfl, rfl, rfl⟩
    · rintro i f _ hi ⟨h0, h3, rfl, ha⟩ ih
      have := (hp _ (List.getElem_mem hi)).l.n
      have := (hp _ (List.getElem_mem hi)).l.t
      simp -implicitDefEqProofs -dsimp +contextual (maxSteps := 9999999) (disch := first | omega | simp only [go_sem] <;> omega | refine ib ?_; kernel_rfl) only [go_sem, seval, ↓reduceIte, h0, h3, hi]
      (repeat' (refine kD_intro (fun _ => ?_) (fun _ => ?_)))
      · rename_i h; rw [any_at (p := fun p => greatE p.e) hi h] <;> simp
      · rename_i h; exact ih _ _ ⟨h0, rfl, rfl, any_take hi ha (by simpa using h)⟩
    · rintro f _ ⟨h0, h3, rfl, ha⟩
      simp -implicitDefEqProofs -dsimp +contextual (maxSteps := 9999999) (disch := first | omega | simp only [go_sem] <;> omega | refine ib ?_; kernel_rfl) only [go_sem, seval, ↓reduceIte, h0, h3]
      rw [any_end ha] <;> simp [hb]

@[go_sem] theorem e77 (s : Se) (h : s.fit) : fn C 77 [] [.agg [.int .u64 (s.id : Int), .int .u64 (s.nonce : Int), .str s.peer.name, .int .u64 (s.peer.id : Int), .int .i64 s.peer.fr, .int .i64 s.peer.un, .int .i64 s.peer.ix, .str s.peer.tag, .int .i64 s.role, .int .i64 s.state, .str s.send, .str s.hear, .int .i64 s.epoch, .int .i64 s.count, .int .i64 s.since, .int .i64 s.seq, .int .i64 s.seen.top, .int .u64 (s.seen.low : Int), .int .u64 (s.seen.high : Int), .int .i64 s.used]] = some (.bool (greatS s), []) := by
  rw [fn_text Try.func77 rfl rfl Try.results77 fq77.1 rfl rfl (by kernel_rfl)]
  have := h.p.n
  have := h.p.t
  have := h.s
  have := h.h
  simp -implicitDefEqProofs -dsimp +contextual (maxSteps := 9999999) (disch := first | omega | simp only [go_sem] <;> omega | refine ib ?_; kernel_rfl) only [go_sem, seval, ↓reduceIte]
  (repeat' (refine kD_intro (fun _ => ?_) (fun _ => ?_))) <;> exact Res_bool (by simp [greatS, *])

@[go_sem] theorem e31 (l : List Se) (hl : l.length ≤ 9223372036854775807) (hp : ∀ p ∈ l, p.fit) : fn C 31 [] [.slice 20 (l.map Se.cs)] = some (.bool (greatSs l), []) := by
  rw [fn_text Try.func31 rfl rfl Try.results31 fq31.1 rfl rfl (by kernel_rfl)]
  unfold greatSs
  by_cases hb : 60 < l.length
  · simp -implicitDefEqProofs -dsimp +contextual (maxSteps := 9999999) (disch := first | omega | simp only [go_sem] <;> omega | refine ib ?_; kernel_rfl) only [go_sem, seval, ↓reduceIte, hb]
    try simp [hb]
  · simp -implicitDefEqProofs -dsimp +contextual (maxSteps := 9999999) (disch := first | omega | simp only [go_sem] <;> omega | refine ib ?_; kernel_rfl) only [go_sem, seval, ↓reduceIte, hb]
    refine kFor l.length (fun i f H => f 0 = .slice 20 (l.map Se.cs) ∧ f 3 = .int .i64 (i : Nat) ∧ H = Heap.nil ∧ (l.take i).any greatS = false) ?_ ?_ ⟨rfl, rfl, rfl, rfl⟩
    · rintro i f _ hi ⟨h0, h3, rfl, ha⟩ ih
      have := hp _ (List.getElem_mem hi)
      simp -implicitDefEqProofs -dsimp +contextual (maxSteps := 9999999) (disch := first | omega | simp only [go_sem] <;> omega | refine ib ?_; kernel_rfl) only [go_sem, seval, ↓reduceIte, h0, h3, hi, this]
      (repeat' (refine kD_intro (fun _ => ?_) (fun _ => ?_)))
      · rename_i h; rw [any_at hi h] <;> simp
      · rename_i h; exact ih _ _ ⟨h0, rfl, rfl, any_take hi ha (by simpa using h)⟩
    · rintro f _ ⟨h0, h3, rfl, ha⟩
      simp -implicitDefEqProofs -dsimp +contextual (maxSteps := 9999999) (disch := first | omega | simp only [go_sem] <;> omega | refine ib ?_; kernel_rfl) only [go_sem, seval, ↓reduceIte, h0, h3]
      rw [any_end ha] <;> simp [hb]

@[go_sem] theorem e33 (l : List It) (hl : l.length ≤ 9223372036854775807) (hp : ∀ x ∈ l, x.fit) : fn C 33 [] [.slice 4 (l.map It.cs)] = some (.bool (greatIs l), []) := by
  rw [fn_text Try.func33 rfl rfl Try.results33 fq33.1 rfl rfl (by kernel_rfl)]
  unfold greatIs
  by_cases hb : 60 < l.length
  · simp -implicitDefEqProofs -dsimp +contextual (maxSteps := 9999999) (disch := first | omega | simp only [go_sem] <;> omega | refine ib ?_; kernel_rfl) only [go_sem, seval, ↓reduceIte, hb]
    try simp [hb]
  · simp -implicitDefEqProofs -dsimp +contextual (maxSteps := 9999999) (disch := first | omega | simp only [go_sem] <;> omega | refine ib ?_; kernel_rfl) only [go_sem, seval, ↓reduceIte, hb]
    refine kFor l.length (fun i f H => f 0 = .slice 4 (l.map It.cs) ∧ f 3 = .int .i64 (i : Nat) ∧ H = Heap.nil ∧ (l.take i).any greatI = false) ?_ ?_ ⟨rfl, rfl, rfl, rfl⟩
    · rintro i f _ hi ⟨h0, h3, rfl, ha⟩ ih
      have := (hp _ (List.getElem_mem hi)).k
      have := (hp _ (List.getElem_mem hi)).v
      simp -implicitDefEqProofs -dsimp +contextual (maxSteps := 9999999) (disch := first | omega | simp only [go_sem] <;> omega | refine ib ?_; kernel_rfl) only [go_sem, seval, ↓reduceIte, h0, h3, hi]
      (repeat' (refine kD_intro (fun _ => ?_) (fun _ => ?_)))
      · rename_i h; rw [any_at (p := greatI) hi (by simp [greatI, h])] <;> simp
      · rename_i h h'; rw [any_at (p := greatI) hi (by simp [greatI, h'])] <;> simp
      · rename_i h h'; exact ih _ _ ⟨h0, rfl, rfl, any_take hi ha (by simp [greatI]; omega)⟩
    · rintro f _ ⟨h0, h3, rfl, ha⟩
      simp -implicitDefEqProofs -dsimp +contextual (maxSteps := 9999999) (disch := first | omega | simp only [go_sem] <;> omega | refine ib ?_; kernel_rfl) only [go_sem, seval, ↓reduceIte, h0, h3]
      rw [any_end ha] <;> simp [hb]

set_option maxHeartbeats 1000000 in
@[go_sem] theorem e34 (m : Ms) (h : m.fit) : fn C 34 [] [.agg [.int .i64 m.kind, .int .i64 m.rid, .int .i64 m.ver, .int .i64 m.err, .int .u64 (m.id : Int), .bool m.has, .bool m.gone, .str m.key, .str m.val, .slice 6 (m.ents.map En.cs), .slice 4 (m.items.map It.cs)]] = some (.bool (greatM m), []) := by
  rw [fn_text Try.func34 rfl rfl Try.results34 fq34.1 rfl rfl (by kernel_rfl)]
  have := h.k
  have := h.v
  have := h.e
  have := h.i
  unfold greatM
  by_cases b1 : 300 < m.key.length
  · simp -implicitDefEqProofs -dsimp +contextual (maxSteps := 9999999) (disch := first | omega | simp only [go_sem] <;> omega | refine ib ?_; kernel_rfl) only [go_sem, seval, ↓reduceIte, b1]
    try simp [b1]
  by_cases b2 : 300 < m.val.length
  · simp -implicitDefEqProofs -dsimp +contextual (maxSteps := 9999999) (disch := first | omega | simp only [go_sem] <;> omega | refine ib ?_; kernel_rfl) only [go_sem, seval, ↓reduceIte, b1, b2]
    try simp [b2]
  by_cases b3 : 30 < m.ents.length
  · simp -implicitDefEqProofs -dsimp +contextual (maxSteps := 9999999) (disch := first | omega | simp only [go_sem] <;> omega | refine ib ?_; kernel_rfl) only [go_sem, seval, ↓reduceIte, b1, b2, b3]
    try simp [b3]
  by_cases b4 : 30 < m.items.length
  · simp -implicitDefEqProofs -dsimp +contextual (maxSteps := 9999999) (disch := first | omega | simp only [go_sem] <;> omega | refine ib ?_; kernel_rfl) only [go_sem, seval, ↓reduceIte, b1, b2, b3, b4]
    try simp [b4]
  simp -implicitDefEqProofs -dsimp +contextual (maxSteps := 9999999) (disch := first | omega | simp only [go_sem] <;> omega | refine ib ?_; kernel_rfl) only [go_sem, seval, ↓reduceIte, b1, b2, b3, b4]
  refine kFor m.ents.length (fun i f H => f 1 = .ptr 101 1 0 0 ∧ f 3 = .int .i64 (i : Nat) ∧ H 101 = ⟨1, .live, 11, [m.cs], false⟩ ∧ (m.ents.take i).any greatE = false) ?_ ?_ ⟨rfl, rfl, rfl, rfl⟩
  · rintro i f H hi ⟨h1, h3, hH, ha⟩ ih
    have := (h.es _ (List.getElem_mem hi)).n
    have := (h.es _ (List.getElem_mem hi)).t
    simp -implicitDefEqProofs -dsimp +contextual (maxSteps := 9999999) (disch := first | omega | simp only [go_sem] <;> omega | refine ib ?_; kernel_rfl) only [go_sem, seval, ↓reduceIte, h1, h3, hH, hi]
    (repeat' (refine kD_intro (fun _ => ?_) (fun _ => ?_)))
    · rename_i h; rw [any_at hi h] <;> simp
    · rename_i h; exact ih _ _ ⟨h1, rfl, hH, any_take hi ha (by simpa using h)⟩
  · rintro f H ⟨h1, h3, hH, ha⟩
    simp -implicitDefEqProofs -dsimp +contextual (maxSteps := 9999999) (disch := first | omega | simp only [go_sem] <;> omega | refine ib ?_; kernel_rfl) only [go_sem, seval, ↓reduceIte, h1, h3, hH]
    refine kFor m.items.length (fun i f H => f 1 = .ptr 101 1 0 0 ∧ f 4 = .int .i64 (i : Nat) ∧ H 101 = ⟨1, .live, 11, [m.cs], false⟩ ∧ (m.items.take i).any greatI = false) ?_ ?_ ⟨h1, rfl, hH, rfl⟩
    · rintro i f H hi ⟨h1, h3, hH, ha2⟩ ih
      have := (h.is _ (List.getElem_mem hi)).k
      have := (h.is _ (List.getElem_mem hi)).v
      simp -implicitDefEqProofs -dsimp +contextual (maxSteps := 9999999) (disch := first | omega | simp only [go_sem] <;> omega | refine ib ?_; kernel_rfl) only [go_sem, seval, ↓reduceIte, h1, h3, hH, hi]
      (repeat' (refine kD_intro (fun _ => ?_) (fun _ => ?_)))
      · rename_i h; rw [any_at (p := greatI) hi (by simp [greatI, h])] <;> simp
      · rename_i h h'; rw [any_at (p := greatI) hi (by simp [greatI, h'])] <;> simp
      · rename_i h h'; exact ih _ _ ⟨h1, rfl, hH, any_take hi ha2 (by simp [greatI]; omega)⟩
    · rintro f H ⟨h1, h3, hH, ha2⟩
      simp -implicitDefEqProofs -dsimp +contextual (maxSteps := 9999999) (disch := first | omega | simp only [go_sem] <;> omega | refine ib ?_; kernel_rfl) only [go_sem, seval, ↓reduceIte, h1, h3, hH]
      rw [any_end ha, any_end ha2] <;> simp [b1, b2, b3, b4]

@[go_sem] theorem e32 (l : List Pd) (hl : l.length ≤ 9223372036854775807) (hp : ∀ x ∈ l, x.fit) : fn C 32 [] [.slice 23 (l.map Pd.cs)] = some (.bool (greatPds l), []) := by
  rw [fn_text Try.func32 rfl rfl Try.results32 fq32.1 rfl rfl (by kernel_rfl)]
  unfold greatPds
  by_cases hb : 50 < l.length
  · simp -implicitDefEqProofs -dsimp +contextual (maxSteps := 9999999) (disch := first | omega | simp only [go_sem] <;> omega | refine ib ?_; kernel_rfl) only [go_sem, seval, ↓reduceIte, hb]
    try simp [hb]
  · simp -implicitDefEqProofs -dsimp +contextual (maxSteps := 9999999) (disch := first | omega | simp only [go_sem] <;> omega | refine ib ?_; kernel_rfl) only [go_sem, seval, ↓reduceIte, hb]
    refine kFor l.length (fun i f H => f 0 = .slice 23 (l.map Pd.cs) ∧ f 3 = .int .i64 (i : Nat) ∧ H = Heap.nil ∧ (l.take i).any (fun p => greatE p.to || greatM p.m) = false) ?_ ?_ ⟨rfl, rfl, rfl, rfl⟩
    · rintro i f _ hi ⟨h0, h3, rfl, ha⟩ ih
      have := (hp _ (List.getElem_mem hi)).t.n
      have := (hp _ (List.getElem_mem hi)).t.t
      have := (hp _ (List.getElem_mem hi)).m
      simp -implicitDefEqProofs -dsimp +contextual (maxSteps := 9999999) (disch := first | omega | simp only [go_sem] <;> omega | refine ib ?_; kernel_rfl) only [go_sem, seval, ↓reduceIte, h0, h3, hi]
      (repeat' (refine kD_intro (fun _ => ?_) (fun _ => ?_)))
      · rename_i h; rw [any_at (p := fun p : Pd => greatE p.to || greatM p.m) hi (by simp [h])] <;> simp
      · rename_i h h'; rw [any_at (p := fun p : Pd => greatE p.to || greatM p.m) hi (by simp [h'])] <;> simp
      · rename_i h h'; exact ih _ _ ⟨h0, rfl, rfl, any_take hi ha (by simp [h, h'])⟩
    · rintro f _ ⟨h0, h3, rfl, ha⟩
      simp -implicitDefEqProofs -dsimp +contextual (maxSteps := 9999999) (disch := first | omega | simp only [go_sem] <;> omega | refine ib ?_; kernel_rfl) only [go_sem, seval, ↓reduceIte, h0, h3]
      rw [any_end ha] <;> simp [hb]

end Go.Proofs.Ytmfcabokoijcdaa
namespace Go.Proofs.Ytmfcabokoijcdaa
open Go.Am
set_option linter.unusedSimpArgs false
set_option linter.unusedVariables false
set_option maxRecDepth 100000
/-! Nodes that are not great. -/
structure Se.small (x : Se) : Prop where
  p : x.peer.small
  s : x.send.length ≤ 300
  h : x.hear.length ≤ 300
structure It.small (x : It) : Prop where
  k : x.k.length ≤ 300
  v : x.v.length ≤ 300
structure Ms.small (m : Ms) : Prop where
  k : m.key.length ≤ 300
  v : m.val.length ≤ 300
  e : m.ents.length ≤ 30
  i : m.items.length ≤ 30
  es : ∀ e ∈ m.ents, e.small
  is : ∀ x ∈ m.items, x.small
structure Pd.small (p : Pd) : Prop where
  t : p.to.small
  m : p.m.small
structure Jb.small (j : Jb) : Prop where
  k : j.key.length ≤ 300
  v : j.val.length ≤ 300
  i : j.item.small
  o : j.owner.small
  b : j.back.small
  a : j.asked.length ≤ 30
  al : ∀ s ∈ j.asked, s.length ≤ 1000
structure Rs.small (r : Rs) : Prop where
  k : r.key.length ≤ 300
  v : r.val.length ≤ 300
structure Nd.small (n : Nd) : Prop where
  me : n.me.small
  psk : n.psk.length ≤ 300
  gk : n.gateK.length ≤ 300
  pl : n.pred.length ≤ 40
  p : ∀ p ∈ n.pred, p.e.small
  ll : n.list.length ≤ 40
  l : ∀ p ∈ n.list, p.e.small
  fl : n.fingers.length ≤ 70
  f : ∀ f ∈ n.fingers, f.p.e.small
  sl : n.sessions.length ≤ 60
  s : ∀ s ∈ n.sessions, s.small
  dl : n.pends.length ≤ 50
  d : ∀ p ∈ n.pends, p.small
  il : n.items.length ≤ 60
  i : ∀ x ∈ n.items, x.small
  jl : n.jobs.length ≤ 20
  j : ∀ j ∈ n.jobs, j.small
  wl : n.draws.length ≤ 60
  rl : n.results.length ≤ 40
  r : ∀ r ∈ n.results, r.small
theorem greatS_no {s : Se} (h : greatS s = false) : s.small := by
  simp only [greatS, Bool.or_eq_false_iff, decide_eq_false_iff_not, Nat.not_lt] at h
  exact ⟨greatE_no h.2, h.1.1, h.1.2⟩
theorem greatI_no {x : It} (h : greatI x = false) : x.small := by
  simp only [greatI, Bool.or_eq_false_iff, decide_eq_false_iff_not, Nat.not_lt] at h
  exact ⟨h.1, h.2⟩
theorem greatM_no {m : Ms} (h : greatM m = false) : m.small := by
  simp only [greatM, Bool.or_eq_false_iff, decide_eq_false_iff_not, Nat.not_lt] at h
  obtain ⟨⟨⟨⟨⟨h1, h2⟩, h3⟩, h4⟩, h5⟩, h6⟩ := h
  exact ⟨h1, h2, h3, h4, fun e he => greatE_no (any_mem h5 e he), fun x hx => greatI_no (any_mem h6 x hx)⟩
theorem greatJ_no {j : Jb} (h : greatJ j = false) : j.small := by
  simp only [greatJ, Bool.or_eq_false_iff, decide_eq_false_iff_not, Nat.not_lt] at h
  obtain ⟨⟨⟨⟨⟨⟨⟨h1, h2⟩, h3⟩, h4⟩, h5⟩, h6⟩, h7⟩, h8⟩ := h
  exact ⟨h1, h2, ⟨h3, h4⟩, greatE_no h5, greatE_no h6, h7, fun s hs => by have := any_mem h8 s hs; simpa using this⟩
theorem greatPs_no {l : List Pr} (h : greatPs l = false) : l.length ≤ 40 ∧ ∀ p ∈ l, p.e.small := by
  simp only [greatPs, Bool.or_eq_false_iff, decide_eq_false_iff_not, Nat.not_lt] at h
  exact ⟨h.1, fun p hp => greatE_no (any_mem h.2 p hp)⟩
theorem greatSs_no {l : List Se} (h : greatSs l = false) : l.length ≤ 60 ∧ ∀ p ∈ l, p.small := by
  simp only [greatSs, Bool.or_eq_false_iff, decide_eq_false_iff_not, Nat.not_lt] at h
  exact ⟨h.1, fun p hp => greatS_no (any_mem h.2 p hp)⟩
theorem greatIs_no {l : List It} (h : greatIs l = false) : l.length ≤ 60 ∧ ∀ p ∈ l, p.small := by
  simp only [greatIs, Bool.or_eq_false_iff, decide_eq_false_iff_not, Nat.not_lt] at h
  exact ⟨h.1, fun p hp => greatI_no (any_mem h.2 p hp)⟩
theorem greatPds_no {l : List Pd} (h : greatPds l = false) : l.length ≤ 50 ∧ ∀ p ∈ l, p.small := by
  simp only [greatPds, Bool.or_eq_false_iff, decide_eq_false_iff_not, Nat.not_lt] at h
  refine ⟨h.1, fun p hp => ?_⟩
  have := any_mem h.2 p hp
  simp only [Bool.or_eq_false_iff] at this
  exact ⟨greatE_no this.1, greatM_no this.2⟩
theorem greatN_no {n : Nd} (h : greatN n = false) : n.small := by
  simp only [greatN, Bool.or_eq_false_iff, decide_eq_false_iff_not, Nat.not_lt] at h
  obtain ⟨⟨⟨⟨⟨⟨⟨⟨⟨⟨⟨⟨⟨⟨h1, h2⟩, h3⟩, h4⟩, h5⟩, h6⟩, h7⟩, h8⟩, h9⟩, h10⟩, h11⟩, h12⟩, h13⟩, h14⟩, h15⟩ := h
  have q4 := greatPs_no h4; have q5 := greatPs_no h5; have q7 := greatSs_no h7; have q8 := greatPds_no h8; have q9 := greatIs_no h9
  exact ⟨greatE_no h1, h2, h3, q4.1, q4.2, q5.1, q5.2, h6, fun x hx => greatE_no (any_mem h13 x hx), q7.1, q7.2, q8.1, q8.2, q9.1, q9.2, h10, fun x hx => greatJ_no (any_mem h14 x hx), h11, h12, fun r hr => by
    have := any_mem h15 r hr
    simp only [Bool.or_eq_false_iff, decide_eq_false_iff_not, Nat.not_lt] at this
    exact ⟨this.1, this.2⟩⟩

end Go.Proofs.Ytmfcabokoijcdaa
namespace Go.Proofs.Ytmfcabokoijcdaa
open Go.Am
set_option linter.unusedSimpArgs false
set_option linter.unusedVariables false
set_option maxRecDepth 100000
def placeR (l : List It) (key : List UInt8) : Int := if l.findIdx (fun x => decide (x.k = key)) < l.length then (l.findIdx (fun x => decide (x.k = key)) : Nat) else -1
theorem all_take {α : Type} {p : α → Bool} {l : List α} {i : Nat} (h : i < l.length) (h1 : (l.take i).all p = true) (h2 : p l[i] = true) : (l.take (i + 1)).all p = true := by
  rw [List.take_succ_eq_append_getElem h, List.all_append, h1]; simp [h2]
theorem place_at {l : List It} {key : List UInt8} {i : Nat} (h : i < l.length) (hn : (l.take i).all (fun x => !decide (x.k = key)) = true) (he : l[i].k = key) : placeR l key = i := by
  have : l.findIdx (fun x => decide (x.k = key)) = i := by
    rw [List.findIdx_eq h]
    refine ⟨by simpa using he, fun j hj => ?_⟩
    have := List.all_eq_true.1 hn l[j] (by
      rw [List.mem_take_iff_getElem]; exact ⟨j, by omega, rfl⟩)
    simpa using this
  unfold placeR
  rw [this, if_pos h]
theorem place_none {l : List It} {key : List UInt8} (hn : l.all (fun x => !decide (x.k = key)) = true) : placeR l key = -1 := by
  unfold placeR
  rw [if_neg]
  intro hlt
  have := List.findIdx_getElem (w := hlt)
  have h2 := List.all_eq_true.1 hn _ (List.getElem_mem hlt)
  simp only [Bool.not_eq_true', decide_eq_false_iff_not] at h2
  exact h2 (by simpa using this)
def getR (l : List It) (key : List UInt8) : It × Bool := match l.find? (fun x => decide (x.k = key)) with | some x => (x, true) | none => (zeroIt, false)
theorem get_at {l : List It} {key : List UInt8} {i : Nat} (h : i < l.length) (hn : (l.take i).all (fun x => !decide (x.k = key)) = true) (he : l[i].k = key) : getR l key = (l[i], true) := by
  have : l.find? (fun x => decide (x.k = key)) = some l[i] := by
    rw [List.find?_eq_some_iff_getElem]
    refine ⟨by simpa using he, i, h, rfl, fun j hj => ?_⟩
    have := List.all_eq_true.1 hn l[j] (by
      rw [List.mem_take_iff_getElem]; exact ⟨j, by omega, rfl⟩)
    simpa using this
  simp [getR, this]
theorem get_none {l : List It} {key : List UInt8} (hn : l.all (fun x => !decide (x.k = key)) = true) : getR l key = (zeroIt, false) := by
  have : l.find? (fun x => decide (x.k = key)) = none := by
    rw [List.find?_eq_none]
    intro x hx
    have := List.all_eq_true.1 hn x hx
    simpa using this
  simp [getR, this]
/-- Where a key is. -/
theorem place_cases (l : List It) (key : List UInt8) : (∃ (j : Nat) (h : j < l.length), l[j].k = key ∧ (l.take j).all (fun x => !decide (x.k = key)) = true ∧ placeR l key = j ∧ getR l key = (l[j], true)) ∨ (l.all (fun x => !decide (x.k = key)) = true ∧ placeR l key = -1 ∧ getR l key = (zeroIt, false)) := by
  by_cases h : l.all (fun x => !decide (x.k = key)) = true
  · exact .inr ⟨h, place_none h, get_none h⟩
  · left
    have hlt : l.findIdx (fun x => decide (x.k = key)) < l.length := by
      rw [List.findIdx_lt_length]
      simp only [List.all_eq_true, Bool.not_eq_true', decide_eq_false_iff_not, Classical.not_forall, Classical.not_not] at h
      obtain ⟨x, hx, he⟩ := h
      exact ⟨x, hx, by simpa using he⟩
    have he : l[l.findIdx (fun x => decide (x.k = key))].k = key := by
      have := List.findIdx_getElem (w := hlt); simpa using this
    have hn : (l.take (l.findIdx (fun x => decide (x.k = key)))).all (fun x => !decide (x.k = key)) = true := by
      rw [List.all_eq_true]
      intro x hx
      rw [List.mem_take_iff_getElem] at hx
      obtain ⟨j, hj, rfl⟩ := hx
      have := List.not_of_lt_findIdx (p := fun x : It => decide (x.k = key)) (xs := l) (i := j) (by omega)
      simpa using this
    exact ⟨_, hlt, he, hn, place_at hlt hn he, get_at hlt hn he⟩

@[go_sem] theorem e94 (l : List It) (key : List UInt8) (hl : l.length ≤ 9223372036854775807) : fn C 94 [] [.slice 4 (l.map It.cs), .str key] = some (.int .i64 (placeR l key), []) := by
  rw [fn_text Try.func94 rfl rfl Try.results94 fq94.1 rfl rfl (by kernel_rfl)]
  simp -implicitDefEqProofs -dsimp +contextual (maxSteps := 9999999) (disch := first | omega | simp only [go_sem] <;> omega | refine ib ?_; kernel_rfl) only [go_sem, seval, ↓reduceIte]
  refine (kLoop_rec (fun i f H => f 0 = .slice 4 (l.map It.cs) ∧ f 1 = .str key ∧ f 5 = .int .i64 (i : Nat) ∧ H = Heap.nil ∧ i ≤ l.length ∧ (l.take i).all (fun x => !decide (x.k = key)) = true) (fun i => l.length - i) (fun i => some (.int .i64 (placeR l key), [])) ?_ 0 _ _ ⟨rfl, rfl, rfl, rfl, by omega, rfl⟩).trans rfl
  rintro i f _ ⟨h0, h1, h5, rfl, hi, hall⟩ ih
  by_cases hl : i < l.length
  · simp -implicitDefEqProofs -dsimp +contextual (maxSteps := 9999999) (disch := first | omega | simp only [go_sem] <;> omega | refine ib ?_; kernel_rfl) only [go_sem, seval, ↓reduceIte, h0, h1, h5, hl]
    (repeat' (refine kD_intro (fun _ => ?_) (fun _ => ?_)))
    · rename_i h; rw [place_at hl hall h]
    · rename_i h; exact ih (i + 1) _ _ ⟨h0, h1, rfl, rfl, by omega, all_take hl hall (by simpa using h)⟩ (by omega)
  · simp -implicitDefEqProofs -dsimp +contextual (maxSteps := 9999999) (disch := first | omega | simp only [go_sem] <;> omega | refine ib ?_; kernel_rfl) only [go_sem, seval, ↓reduceIte, h0, h1, h5, hl]
    obtain rfl : i = l.length := by omega
    rw [place_none (by simpa using hall)]

@[go_sem] theorem e90 (k v : List UInt8) (n : Int) (g : Bool) (key : List UInt8) : fn C 90 [] [.agg [.str k, .str v, .int .i64 n, .bool g], .iptr [.str key]] = some (.bool (decide (k = key)), []) := by
  rw [fn_text Try.func90 rfl rfl Try.results90 fq90.1 rfl rfl (by kernel_rfl)]
  simp -implicitDefEqProofs -dsimp +contextual (maxSteps := 9999999) (disch := first | omega | simp only [go_sem] <;> omega | refine ib ?_; kernel_rfl) only [go_sem, seval, ↓reduceIte]

@[go_sem] theorem e89 (l : List It) (key : List UInt8) (hl : l.length ≤ 9223372036854775807) : fn C 89 [] [.slice 4 (l.map It.cs), .fn (.func 90) [] [.iptr [.str key]]] = some (.int .i64 (placeR l key), []) := by
  rw [fn_text Try.func89 rfl rfl Try.results89 fq89.1 rfl rfl (by kernel_rfl)]
  simp -implicitDefEqProofs -dsimp +contextual (maxSteps := 9999999) (disch := first | omega | simp only [go_sem] <;> omega | refine ib ?_; kernel_rfl) only [go_sem, seval, ↓reduceIte]
  refine (kLoop_rec (fun i f H => f 0 = .slice 4 (l.map It.cs) ∧ f 1 = .fn (.func 90) [] [.iptr [.str key]] ∧ f 7 = .int .i64 l.length ∧ f 8 = .int .i64 (i : Nat) ∧ H = Heap.nil ∧ i ≤ l.length ∧ (l.take i).all (fun x => !decide (x.k = key)) = true) (fun i => l.length - i) (fun i => some (.int .i64 (placeR l key), [])) ?_ 0 _ _ ⟨rfl, rfl, rfl, rfl, rfl, by omega, rfl⟩).trans rfl
  rintro i f _ ⟨h0, h1, h7, h8, rfl, hi, hall⟩ ih
  by_cases hl : i < l.length
  · simp -implicitDefEqProofs -dsimp +contextual (maxSteps := 9999999) (disch := first | omega | simp only [go_sem] <;> omega | refine ib ?_; kernel_rfl) only [go_sem, seval, ↓reduceIte, h0, h1, h7, h8, hl]
    (repeat' (refine kD_intro (fun _ => ?_) (fun _ => ?_)))
    · rename_i h; rw [place_at hl hall h]
    · rename_i h; exact ih (i + 1) _ _ ⟨h0, h1, h7, rfl, rfl, by omega, all_take hl hall (by simpa using h)⟩ (by omega)
  · simp -implicitDefEqProofs -dsimp +contextual (maxSteps := 9999999) (disch := first | omega | simp only [go_sem] <;> omega | refine ib ?_; kernel_rfl) only [go_sem, seval, ↓reduceIte, h0, h1, h7, h8, hl]
    obtain rfl : i = l.length := by omega
    rw [place_none (by simpa using hall)]

@[go_sem] theorem e66 (l : List It) (key : List UInt8) (hl : l.length ≤ 9223372036854775807) : fn C 66 [] [.slice 4 (l.map It.cs), .str key] = some (.int .i64 (placeR l key), []) := by
  rw [fn_text Try.func66 rfl rfl Try.results66 fq66.1 rfl rfl (by kernel_rfl)]
  simp -implicitDefEqProofs -dsimp +contextual (maxSteps := 9999999) (disch := first | omega | simp only [go_sem] <;> omega | refine ib ?_; kernel_rfl) only [go_sem, seval, ↓reduceIte]

@[go_sem] theorem e84 (l : List It) (key : List UInt8) (hl : l.length ≤ 9223372036854775807) : fn C 84 [] [.slice 4 (l.map It.cs), .str key] = some (.tup [.agg (getR l key).1.cs, .bool (getR l key).2], []) := by
  rw [fn_text Try.func84 rfl rfl Try.results84 fq84.1 rfl rfl (by kernel_rfl)]
  simp -implicitDefEqProofs -dsimp +contextual (maxSteps := 9999999) (disch := first | omega | simp only [go_sem] <;> omega | refine ib ?_; kernel_rfl) only [go_sem, seval, ↓reduceIte]
  refine (kLoop_rec (fun i f H => f 0 = .slice 4 (l.map It.cs) ∧ f 1 = .str key ∧ f 4 = .ptr 104 1 0 0 ∧ f 6 = .int .i64 (i : Nat) ∧ H 104 = ⟨1, .live, 4, [zeroIt.cs], false⟩ ∧ i ≤ l.length ∧ (l.take i).all (fun x => !decide (x.k = key)) = true) (fun i => l.length - i) (fun i => some (.tup [.agg (getR l key).1.cs, .bool (getR l key).2], [])) ?_ 0 _ _ ⟨rfl, rfl, rfl, rfl, rfl, by omega, rfl⟩).trans rfl
  rintro i f H ⟨h0, h1, h4, h6, hH, hi, hall⟩ ih
  by_cases hl : i < l.length
  · simp -implicitDefEqProofs -dsimp +contextual (maxSteps := 9999999) (disch := first | omega | simp only [go_sem] <;> omega | refine ib ?_; kernel_rfl) only [go_sem, seval, ↓reduceIte, h0, h1, h4, h6, hl, hH]
    (repeat' (refine kD_intro (fun _ => ?_) (fun _ => ?_)))
    · rename_i h; rw [get_at hl hall h]; simp [h]
    · rename_i h; exact ih (i + 1) _ _ ⟨h0, h1, h4, rfl, by simp -implicitDefEqProofs -dsimp +contextual (maxSteps := 9999999) (disch := first | omega | simp only [go_sem] <;> omega | refine ib ?_; kernel_rfl) only [go_sem, seval, ↓reduceIte, hH], by omega, all_take hl hall (by simpa using h)⟩ (by omega)
  · simp -implicitDefEqProofs -dsimp +contextual (maxSteps := 9999999) (disch := first | omega | simp only [go_sem] <;> omega | refine ib ?_; kernel_rfl) only [go_sem, seval, ↓reduceIte, h0, h1, h4, h6, hl, hH]
    obtain rfl : i = l.length := by omega
    rw [get_none (by simpa using hall)] <;> rfl

@[go_sem] theorem e19 (l : List It) (key : List UInt8) (hl : l.length ≤ 9223372036854775807) : fn C 19 [] [.slice 4 (l.map It.cs), .str key] = some (.tup [.agg (getR l key).1.cs, .bool (getR l key).2], []) := by
  rw [fn_text Try.func19 rfl rfl Try.results19 fq19.1 rfl rfl (by kernel_rfl)]
  rcases place_cases l key with ⟨j, hj, he, hn, hp, hg⟩ | ⟨hn, hp, hg⟩
  · simp -implicitDefEqProofs -dsimp +contextual (maxSteps := 9999999) (disch := first | omega | simp only [go_sem] <;> omega | refine ib ?_; kernel_rfl) only [go_sem, seval, ↓reduceIte, hp, hg]
  · simp -implicitDefEqProofs -dsimp +contextual (maxSteps := 9999999) (disch := first | omega | simp only [go_sem] <;> omega | refine ib ?_; kernel_rfl) only [go_sem, seval, ↓reduceIte, hp, hg]

theorem less_at (a b : List UInt8) (i : Nat) (h : a.take i = b.take i) (ha : i < a.length) (hb : i < b.length) (hne : a[i] ≠ b[i]) : Op.bytesLess a b = decide (a[i].toNat < b[i].toNat) := by
  induction i generalizing a b with
  | zero =>
    cases a with
    | nil => simp at ha
    | cons x a =>
      cases b with
      | nil => simp at hb
      | cons y b =>
        simp only [List.getElem_cons_zero] at hne ⊢
        simp [Op.bytesLess, hne, UInt8.lt_iff_toNat_lt]
  | succ i ih =>
    cases a with
    | nil => simp at ha
    | cons x a =>
      cases b with
      | nil => simp at hb
      | cons y b =>
        simp only [List.take_succ_cons, List.cons.injEq] at h
        obtain ⟨rfl, h⟩ := h
        simp only [List.getElem_cons_succ] at hne ⊢
        rw [← ih a b h (by simpa using ha) (by simpa using hb) hne]
        simp [Op.bytesLess]
theorem less_len (a b : List UInt8) (i : Nat) (hi : i ≤ a.length) (hi' : i ≤ b.length) (h : a.take i = b.take i) (he : i = a.length ∨ i = b.length) : Op.bytesLess a b = decide (a.length < b.length) := by
  induction i generalizing a b with
  | zero =>
    cases a with
    | nil => cases b <;> simp [Op.bytesLess]
    | cons x a =>
      cases b with
      | nil => simp [Op.bytesLess]
      | cons y b => simp at he
  | succ i ih =>
    cases a with
    | nil => simp at hi
    | cons x a =>
      cases b with
      | nil => simp at hi'
      | cons y b =>
        simp only [List.take_succ_cons, List.cons.injEq] at h
        obtain ⟨rfl, h⟩ := h
        have := ih a b (by simpa using hi) (by simpa using hi') h (by simpa using he)
        simp [Op.bytesLess, this]

@[go_sem] theorem e95 (a b : List UInt8) (hl : a.length ≤ 9223372036854775807) (hm : b.length ≤ 9223372036854775807) : fn C 95 [] [.str a, .str b] = some (.bool (Op.bytesLess a b), []) := by
  rw [fn_text Try.func95 rfl rfl Try.results95 fq95.1 rfl rfl (by kernel_rfl)]
  simp -implicitDefEqProofs -dsimp +contextual (maxSteps := 9999999) (disch := first | omega | simp only [go_sem] <;> omega | refine ib ?_; kernel_rfl) only [go_sem, seval, ↓reduceIte]
  refine (kLoop_rec (fun i f H => f 0 = .str a ∧ f 1 = .str b ∧ f 5 = .int .i64 (i : Nat) ∧ H = Heap.nil ∧ i ≤ a.length ∧ i ≤ b.length ∧ a.take i = b.take i) (fun i => a.length - i) (fun i => some (.bool (Op.bytesLess a b), [])) ?_ 0 _ _ ⟨rfl, rfl, rfl, rfl, by omega, by omega, rfl⟩).trans rfl
  rintro i f _ ⟨h0, h1, h5, rfl, hi, hj, ht⟩ ih
  by_cases h4 : i < a.length
  · by_cases h6 : i < b.length
    · simp -implicitDefEqProofs -dsimp +contextual (maxSteps := 9999999) (disch := first | omega | simp only [go_sem] <;> omega | refine ib ?_; kernel_rfl) only [go_sem, seval, ↓reduceIte, h0, h1, h5, h4, h6]
      (repeat' (refine kD_intro (fun _ => ?_) (fun _ => ?_)))
      · rename_i he
        refine ih (i + 1) _ _ ⟨h0, h1, rfl, rfl, by omega, by omega, ?_⟩ (by omega)
        rw [List.take_succ_eq_append_getElem h4, List.take_succ_eq_append_getElem h6, ht, UInt8.toNat_inj.1 he]
      · rename_i he
        rw [less_at a b i ht h4 h6 (fun e => he (by rw [e]))]
    · simp -implicitDefEqProofs -dsimp +contextual (maxSteps := 9999999) (disch := first | omega | simp only [go_sem] <;> omega | refine ib ?_; kernel_rfl) only [go_sem, seval, ↓reduceIte, h0, h1, h5, h4, h6]
      rw [less_len a b i hi hj ht (.inr (by omega))]
  · simp -implicitDefEqProofs -dsimp +contextual (maxSteps := 9999999) (disch := first | omega | simp only [go_sem] <;> omega | refine ib ?_; kernel_rfl) only [go_sem, seval, ↓reduceIte, h0, h1, h5, h4]
    (repeat' (refine kD_intro (fun _ => ?_) (fun _ => ?_))) <;> rw [less_len a b i hi hj ht (.inl (by omega))]

def chainR : Option It → List It → Bool
  | _, [] => true
  | p, x :: r => itemR x && (match p with | none => true | some y => Op.bytesLess y.k x.k) && chainR (some x) r
def rightR (l : List It) : Bool := chainR none l && decide (l.length ≤ 16)
def prevR (l : List It) (i : Nat) : Option It := if i = 0 then none else l[i - 1]?

@[go_sem] theorem e64 (l : List It) (hl : l.length ≤ 1073741824) : fn C 64 [] [.slice 4 (l.map It.cs)] = some (.slice 4 (l.map It.cs), []) := by
  rw [fn_text Try.func64 rfl rfl Try.results64 fq64.1 rfl rfl (by kernel_rfl)]
  simp -implicitDefEqProofs -dsimp +contextual (maxSteps := 9999999) (disch := first | omega | simp only [go_sem] <;> omega | refine ib ?_; kernel_rfl) only [go_sem, seval, ↓reduceIte]

/-- Where a key belongs. -/
def insAt : List It → List UInt8 → Nat
  | [], _ => 0
  | x :: r, k => if Op.bytesLess x.k k = true then insAt r k + 1 else 0
def setR (l : List It) (x : It) : List It := if 0 ≤ placeR l x.k then l.set (placeR l x.k).toNat x else l.take (insAt l x.k) ++ x :: l.drop (insAt l x.k)
theorem insAt_le (l : List It) (k) : insAt l k ≤ l.length := by
  induction l with
  | nil => simp [insAt]
  | cons x r ih => simp only [insAt]; split <;> simp <;> omega
theorem insAt_eq (l : List It) (k : List UInt8) (i : Nat) (hi : i ≤ l.length) (h : ∀ j (hj : j < l.length), j < i → Op.bytesLess l[j].k k = true) (hn : ∀ (hj : i < l.length), Op.bytesLess l[i].k k = false) : insAt l k = i := by
  induction l generalizing i with
  | nil => simp at hi; simp [insAt, hi]
  | cons x r ih =>
    cases i with
    | zero => have := hn (by simp); simp at this; simp [insAt, this]
    | succ i =>
      have h0 := h 0 (by simp) (by omega)
      simp at h0
      simp only [insAt, h0, if_true]
      rw [ih i (by simpa using hi) (fun j hj hji => h (j + 1) (by simpa using hj) (by omega)) (fun hj => hn (by simpa using hj))]
theorem set_map {α β : Type} (f : α → β) (l : List α) (i : Nat) (a : α) : (l.map f).set i (f a) = (l.set i a).map f := by rw [List.map_set]

@[go_sem] theorem e85 (l : List It) (k v : List UInt8) (n : Int) (g : Bool) (hl : l.length ≤ 1073741824) (hk : ∀ x ∈ l, x.k.length ≤ 9223372036854775807) (hk2 : k.length ≤ 9223372036854775807) : fn C 85 [] [.slice 4 (l.map It.cs), .agg [.str k, .str v, .int .i64 n, .bool g]] = some (.slice 4 ((setR l ⟨k, v, n, g⟩).map It.cs), []) := by
  rw [fn_text Try.func85 rfl rfl Try.results85 fq85.1 rfl rfl (by kernel_rfl)]
  rcases place_cases l k with ⟨j, hj, he, hn, hp, hg⟩ | ⟨hn, hp, hg⟩
  · simp -implicitDefEqProofs -dsimp +contextual (maxSteps := 9999999) (disch := first | omega | simp only [go_sem] <;> omega | refine ib ?_; kernel_rfl) only [go_sem, seval, ↓reduceIte, hp, hj]
    rw [setR, hp, if_pos (by omega)]; rfl
  · simp -implicitDefEqProofs -dsimp +contextual (maxSteps := 9999999) (disch := first | omega | simp only [go_sem] <;> omega | refine ib ?_; kernel_rfl) only [go_sem, seval, ↓reduceIte, hp]
    refine (kLoop_rec (fun i f H => f 0 = .slice 4 (l.map It.cs) ∧ f 3 = .ptr 103 1 0 0 ∧ f 5 = .int .i64 (i : Nat) ∧ H 103 = ⟨1, .live, 4, [[.str k, .str v, .int .i64 n, .bool g]], false⟩ ∧ i ≤ l.length ∧ ∀ j (hj : j < l.length), j < i → Op.bytesLess l[j].k k = true) (fun i => l.length - i) (fun i => some (.slice 4 ((setR l ⟨k, v, n, g⟩).map It.cs), [])) ?_ 0 _ _ ⟨rfl, rfl, rfl, rfl, by omega, fun j _ h => by omega⟩).trans rfl
    rintro i f H ⟨h0, h3, h5, hH, hi, hb⟩ ih
    have fin : ∀ (hn : ∀ (hj : i < l.length), Op.bytesLess l[i].k k = false), setR l ⟨k, v, n, g⟩ = l.take i ++ ⟨k, v, n, g⟩ :: l.drop i := fun hn => by
      rw [setR, hp, if_neg (by omega), insAt_eq l k i hi hb hn]
    by_cases hl : i < l.length
    · have k1 := hk l[i] (List.getElem_mem _)
      simp -implicitDefEqProofs -dsimp +contextual (maxSteps := 9999999) (disch := first | omega | simp only [go_sem] <;> omega | refine ib ?_; kernel_rfl) only [go_sem, seval, ↓reduceIte, h0, h3, h5, hH, hl, hi]
      (repeat' (refine kD_intro (fun _ => ?_) (fun _ => ?_)))
      · rename_i hb'
        refine ih (i + 1) _ _ ⟨h0, h3, rfl, hH, by omega, fun j hj hji => ?_⟩ (by omega)
        by_cases e : j = i
        · subst e; exact hb'
        · exact hb j hj (by omega)
      · rename_i hb'
        rw [fin (fun _ => by simpa using hb')]
        simp [List.take_of_length_le]
    · obtain rfl : i = l.length := by omega
      simp -implicitDefEqProofs -dsimp +contextual (maxSteps := 9999999) (disch := first | omega | simp only [go_sem] <;> omega | refine ib ?_; kernel_rfl) only [go_sem, seval, ↓reduceIte, h0, h3, h5, hH, hl]
      rw [fin (fun h => absurd h hl)]
      simp

theorem ins_len (l : List It) (x : It) (i : Nat) (hi : i ≤ l.length) : (l.take i ++ x :: l.drop i).length = l.length + 1 := by simp; omega

set_option maxHeartbeats 2000000 in
@[go_sem] theorem e88 (l : List It) (i : Nat) (k v : List UInt8) (n : Int) (g : Bool) (hi : i ≤ l.length) (hl : l.length ≤ 1073741824) : fn C 88 [0] [.usl 4 (l.map It.cs), .int .i64 i, .slice 4 [[.str k, .str v, .int .i64 n, .bool g]]] = some (.slice 4 ((l.take i ++ ⟨k, v, n, g⟩ :: l.drop i).map It.cs), []) := by
  rw [fn_text Try.func88 rfl rfl Try.results88 fq88.1 rfl rfl (by kernel_rfl)]
  by_cases h : i = l.length
  · subst h
    simp -implicitDefEqProofs -dsimp +contextual (maxSteps := 9999999) (disch := first | omega | simp only [go_sem] <;> omega | refine ib ?_; kernel_rfl) only [go_sem, seval, ↓reduceIte]
  · simp -implicitDefEqProofs -dsimp +contextual (maxSteps := 9999999) (disch := first | omega | simp only [go_sem] <;> omega | refine ib ?_; kernel_rfl) only [go_sem, seval, ↓reduceIte, h, hi]
    simp <;> omega

@[go_sem] theorem e65 (l : List It) (k v : List UInt8) (n : Int) (g : Bool) (hl : l.length ≤ 1073741824) : fn C 65 [] [.slice 4 (l.map It.cs), .agg [.str k, .str v, .int .i64 n, .bool g]] = some (.slice 4 ((setR l ⟨k, v, n, g⟩).map It.cs), []) := by
  rw [fn_text Try.func65 rfl rfl Try.results65 fq65.1 rfl rfl (by kernel_rfl)]
  rcases place_cases l k with ⟨j, hj, he, hn, hp, hg⟩ | ⟨hn, hp, hg⟩
  · simp -implicitDefEqProofs -dsimp +contextual (maxSteps := 9999999) (disch := first | omega | simp only [go_sem] <;> omega | refine ib ?_; kernel_rfl) only [go_sem, seval, ↓reduceIte, hp, hj]
    rw [setR, hp, if_pos (by omega)]; rfl
  · simp -implicitDefEqProofs -dsimp +contextual (maxSteps := 9999999) (disch := first | omega | simp only [go_sem] <;> omega | refine ib ?_; kernel_rfl) only [go_sem, seval, ↓reduceIte, hp]
    refine (kLoop_rec (fun i f H => f 3 = .ptr 103 1 0 0 ∧ f 5 = .osl 110 1 0 l.length ∧ f 7 = .int .i64 (i : Nat) ∧ H 103 = ⟨1, .live, 4, [[.str k, .str v, .int .i64 n, .bool g]], false⟩ ∧ H 110 = ⟨1, .live, 4, l.map It.cs, true⟩ ∧ i ≤ l.length ∧ ∀ j (hj : j < l.length), j < i → Op.bytesLess l[j].k k = true) (fun i => l.length - i) (fun i => some (.slice 4 ((setR l ⟨k, v, n, g⟩).map It.cs), [])) ?_ 0 _ _ ⟨rfl, rfl, rfl, rfl, rfl, by omega, fun j _ h => by omega⟩).trans rfl
    rintro i f H ⟨h3, h5, h7, hH, hG, hi, hb⟩ ih
    have fin : ∀ (hn : ∀ (hj : i < l.length), Op.bytesLess l[i].k k = false), setR l ⟨k, v, n, g⟩ = l.take i ++ ⟨k, v, n, g⟩ :: l.drop i := fun hn => by
      rw [setR, hp, if_neg (by omega), insAt_eq l k i hi hb hn]
    by_cases hl : i < l.length
    · simp -implicitDefEqProofs -dsimp +contextual (maxSteps := 9999999) (disch := first | omega | simp only [go_sem] <;> omega | refine ib ?_; kernel_rfl) only [go_sem, seval, ↓reduceIte, h3, h5, h7, hH, hG, hl, hi]
      (repeat' (refine kD_intro (fun _ => ?_) (fun _ => ?_)))
      · rename_i hb'
        refine ih (i + 1) _ _ ⟨h3, h5, rfl, hH, hG, by omega, fun j hj hji => ?_⟩ (by omega)
        by_cases e : j = i
        · subst e; exact hb'
        · exact hb j hj (by omega)
      · rename_i hb'
        rw [fin (fun _ => by simpa using hb')]
    · obtain rfl : i = l.length := by omega
      simp -implicitDefEqProofs -dsimp +contextual (maxSteps := 9999999) (disch := first | omega | simp only [go_sem] <;> omega | refine ib ?_; kernel_rfl) only [go_sem, seval, ↓reduceIte, h3, h5, h7, hH, hG, hl, hi]
      rw [fin (fun h => absurd h hl)]
      simp

def putV (n : Int) : Int := (if 0 > n then 0 else n) + 1
def putR (l : List It) (k v : List UInt8) (g : Bool) : List It × It × Int :=
  if keyR k = true ∧ v.length ≤ 32 then
    if (getR l k).2 = false ∧ 16 ≤ l.length then (l, zeroIt, 27)
    else if 1073741824 ≤ (getR l k).1.n then (l, zeroIt, 3)
    else (setR l ⟨k, if g = true then [] else v, putV (getR l k).1.n, g⟩, ⟨k, if g = true then [] else v, putV (getR l k).1.n, g⟩, 0)
  else (l, zeroIt, 2)
theorem getR_false (l : List It) (k : List UInt8) (h : (getR l k).2 = false) : (getR l k).1 = zeroIt := by
  unfold getR at h ⊢
  split at h
  · cases h
  · rfl

set_option maxHeartbeats 4000000 in
@[go_sem] theorem e18 (l : List It) (k v : List UInt8) (g : Bool) (hl : l.length ≤ 1073741824) (hk : k.length ≤ 9223372036854775807) : fn C 18 [] [.slice 4 (l.map It.cs), .str k, .str v, .bool g] = some (.tup [.slice 4 ((putR l k v g).1.map It.cs), .agg (putR l k v g).2.1.cs, .int .i64 (putR l k v g).2.2], []) := by
  rw [fn_text Try.func18 rfl rfl Try.results18 fq18.1 rfl rfl (by kernel_rfl)]
  rcases Bool.eq_false_or_eq_true (getR l k).2 with h2 | h2
  · simp -implicitDefEqProofs -dsimp +contextual (maxSteps := 9999999) (disch := first | omega | simp only [go_sem] <;> omega | refine ib ?_; kernel_rfl) only [go_sem, seval, ↓reduceIte, h2]
    (repeat' (refine kD_intro (fun _ => ?_) (fun _ => ?_))) <;> simp (disch := first | assumption | omega) [putR, if_pos, if_neg, *, putV, zeroIt, It.cs]
  · simp -implicitDefEqProofs -dsimp +contextual (maxSteps := 9999999) (disch := first | omega | simp only [go_sem] <;> omega | refine ib ?_; kernel_rfl) only [go_sem, seval, ↓reduceIte, h2, getR_false l k h2]
    (repeat' (refine kD_intro (fun _ => ?_) (fun _ => ?_))) <;> simp (disch := first | assumption | omega) [putR, if_pos, if_neg, *, getR_false l k h2, putV, zeroIt, It.cs]

set_option maxHeartbeats 4000000 in
@[go_sem] theorem e50 (l : List It) (k v : List UInt8) (g : Bool) (hl : l.length ≤ 1073741824) (hk : ∀ x ∈ l, x.k.length ≤ 9223372036854775807) (hk : k.length ≤ 9223372036854775807) : fn C 50 [] [.slice 4 (l.map It.cs), .str k, .str v, .bool g] = some (.tup [.slice 4 ((putR l k v g).1.map It.cs), .agg (putR l k v g).2.1.cs, .int .i64 (putR l k v g).2.2], []) := by
  rw [fn_text Try.func50 rfl rfl Try.results50 fq50.1 rfl rfl (by kernel_rfl)]
  rcases Bool.eq_false_or_eq_true (getR l k).2 with h2 | h2
  · simp -implicitDefEqProofs -dsimp +contextual (maxSteps := 9999999) (disch := first | omega | simp only [go_sem] <;> omega | refine ib ?_; kernel_rfl) only [go_sem, seval, ↓reduceIte, h2]
    (repeat' (refine kD_intro (fun _ => ?_) (fun _ => ?_))) <;> simp (disch := first | assumption | omega) [putR, if_pos, if_neg, *, putV, zeroIt, It.cs]
  · simp -implicitDefEqProofs -dsimp +contextual (maxSteps := 9999999) (disch := first | omega | simp only [go_sem] <;> omega | refine ib ?_; kernel_rfl) only [go_sem, seval, ↓reduceIte, h2, getR_false l k h2]
    (repeat' (refine kD_intro (fun _ => ?_) (fun _ => ?_))) <;> simp (disch := first | assumption | omega) [putR, if_pos, if_neg, *, getR_false l k h2, putV, zeroIt, It.cs]

end Go.Proofs.Ytmfcabokoijcdaa
namespace Go.Proofs.Ytmfcabokoijcdaa
open Go.Am
set_option linter.unusedSimpArgs false
set_option linter.unusedVariables false
set_option maxRecDepth 100000
/-! The place of a thing in a list. -/
def placeG {α : Type} (q : α → Bool) (l : List α) : Int := if l.findIdx q < l.length then (l.findIdx q : Nat) else -1
theorem placeG_at {α : Type} {q : α → Bool} {l : List α} {i : Nat} (h : i < l.length) (hn : (l.take i).any q = false) (he : q l[i] = true) : placeG q l = i := by
  have : l.findIdx q = i := by
    rw [List.findIdx_eq h]
    refine ⟨he, fun j hj => ?_⟩
    exact any_mem hn l[j] (by rw [List.mem_take_iff_getElem]; exact ⟨j, by omega, rfl⟩)
  unfold placeG
  rw [this, if_pos h]
theorem placeG_none {α : Type} {q : α → Bool} {l : List α} (hn : l.any q = false) : placeG q l = -1 := by
  unfold placeG
  rw [if_neg]
  intro hlt
  have := List.findIdx_getElem (w := hlt)
  rw [any_mem hn _ (List.getElem_mem hlt)] at this
  cases this
theorem placeG_cases {α : Type} (q : α → Bool) (l : List α) : (∃ (j : Nat) (h : j < l.length), q l[j] = true ∧ (l.take j).any q = false ∧ placeG q l = j) ∨ (l.any q = false ∧ placeG q l = -1) := by
  rcases Bool.eq_false_or_eq_true (l.any q) with h | h
  · left
    have hlt : l.findIdx q < l.length := by
      rw [List.findIdx_lt_length]; rw [List.any_eq_true] at h; exact h
    have hn : (l.take (l.findIdx q)).any q = false := by
      rw [List.any_eq_false]
      intro x hx
      rw [List.mem_take_iff_getElem] at hx
      obtain ⟨j, hj, rfl⟩ := hx
      have := List.not_of_lt_findIdx (p := q) (xs := l) (i := j) (by omega)
      simpa using this
    exact ⟨_, hlt, List.findIdx_getElem (w := hlt), hn, placeG_at hlt hn (List.findIdx_getElem (w := hlt))⟩
  · exact .inr ⟨h, placeG_none h⟩

end Go.Proofs.Ytmfcabokoijcdaa
namespace Go.Proofs.Ytmfcabokoijcdaa
open Go.Am
set_option linter.unusedSimpArgs false
set_option linter.unusedVariables false
set_option maxRecDepth 100000
/-! Small laws. -/
theorem itoa_le (n : Int) (h1 : -9223372036854775808 ≤ n) (h2 : n ≤ 9223372036854775807) : (Lib.itoa n).length ≤ 21 := Lib.itoa_length_le n h1 h2
theorem take_eq_step {α : Type} {a b : List α} {i : Nat} (ha : i < a.length) (hb : i < b.length) (ht : a.take i = b.take i) (he : a[i] = b[i]) : a.take (i + 1) = b.take (i + 1) := by
  rw [List.take_succ_eq_append_getElem ha, List.take_succ_eq_append_getElem hb, ht, he]
theorem take_eq_end {α : Type} {a b : List α} (hl : a.length = b.length) (ht : a.take a.length = b.take a.length) : a = b := by
  rwa [List.take_length, hl, List.take_length] at ht
theorem take_ne {α : Type} {a b : List α} {i : Nat} (ha : i < a.length) (hb : i < b.length) (he : ¬ a[i] = b[i]) : ¬ a = b := fun e => he (by subst e; rfl)
theorem itoa0 : Lib.itoa 0 = [48] := by rw [Lib.itoa, if_neg (by decide), show (0 : Int).toNat = 0 from rfl, Lib.decDigits_one (by decide)]; rfl
theorem itoa37 : Lib.itoa 37 = [51, 55] := by rw [Lib.itoa, if_neg (by decide), show (37 : Int).toNat = 37 from rfl, Lib.decDigits_two (by decide) (by decide)]; rfl

end Go.Proofs.Ytmfcabokoijcdaa
namespace Go.Proofs.Ytmfcabokoijcdaa
open Go.Am
set_option linter.unusedSimpArgs false
set_option linter.unusedVariables false
set_option maxRecDepth 100000
/-! Acts. -/
structure Ac where
  ans : Bool
  to : En
  m : Ms
  why : Int
  job : Int
deriving DecidableEq
theorem Ac.eq_iff (x y : Ac) : x = y ↔ x.ans = y.ans ∧ x.to = y.to ∧ x.why = y.why ∧ x.job = y.job ∧ x.m = y.m :=
  ⟨fun h => by subst h; simp, fun h => by cases x; cases y; simp_all⟩
def Ac.cs (a : Ac) : List AVal := [.bool a.ans, .str a.to.name, .int .u64 (a.to.id : Int), .int .i64 a.to.fr, .int .i64 a.to.un, .int .i64 a.to.ix, .str a.to.tag, .int .i64 a.m.kind, .int .i64 a.m.rid, .int .i64 a.m.ver, .int .i64 a.m.err, .int .u64 (a.m.id : Int), .bool a.m.has, .bool a.m.gone, .str a.m.key, .str a.m.val, .slice 6 (a.m.ents.map En.cs), .slice 4 (a.m.items.map It.cs), .int .i64 a.why, .int .i64 a.job]
@[go_sem] theorem Ac.cs_eq (a : Ac) : a.cs = [.bool a.ans, .str a.to.name, .int .u64 (a.to.id : Int), .int .i64 a.to.fr, .int .i64 a.to.un, .int .i64 a.to.ix, .str a.to.tag, .int .i64 a.m.kind, .int .i64 a.m.rid, .int .i64 a.m.ver, .int .i64 a.m.err, .int .u64 (a.m.id : Int), .bool a.m.has, .bool a.m.gone, .str a.m.key, .str a.m.val, .slice 6 (a.m.ents.map En.cs), .slice 4 (a.m.items.map It.cs), .int .i64 a.why, .int .i64 a.job] := rfl
@[go_sem] theorem Ac_ones (l : List Ac) : ones (l.map Ac.cs) = true := ones_map _ _ fun _ => rfl
@[go_sem] theorem Ac_clos (l : List Ac) : (l.map Ac.cs).all clos = true := allclos_map _ (fun _ => rfl) l
theorem ac_row (l : List Ac) (i : Nat) (h : i < l.length) : (l.map Ac.cs)[i]? = some [.bool l[i].ans, .str l[i].to.name, .int .u64 (l[i].to.id : Int), .int .i64 l[i].to.fr, .int .i64 l[i].to.un, .int .i64 l[i].to.ix, .str l[i].to.tag, .int .i64 l[i].m.kind, .int .i64 l[i].m.rid, .int .i64 l[i].m.ver, .int .i64 l[i].m.err, .int .u64 (l[i].m.id : Int), .bool l[i].m.has, .bool l[i].m.gone, .str l[i].m.key, .str l[i].m.val, .slice 6 (l[i].m.ents.map En.cs), .slice 4 (l[i].m.items.map It.cs), .int .i64 l[i].why, .int .i64 l[i].job] := by
  rw [List.getElem?_map, List.getElem?_eq_getElem h]; rfl


end Go.Proofs.Ytmfcabokoijcdaa
namespace Go.Proofs.Ytmfcabokoijcdaa
open Go.Am
set_option linter.unusedSimpArgs false
set_option linter.unusedVariables false
set_option maxRecDepth 100000
/-! Layer 29: what an owner does. (Plain.) -/
structure Nd.mid (n : Nd) (k : Nat) : Prop where
  pl : n.pred.length ≤ k
  ll : n.list.length ≤ k
  fl : n.fingers.length ≤ k
  sl : n.sessions.length ≤ k
  dl : n.pends.length ≤ k
  il : n.items.length ≤ k
  jl : n.jobs.length ≤ k
  wl : n.draws.length ≤ k
  rl : n.results.length ≤ k
  pe : ∀ p ∈ n.pends, p.m.ents.length ≤ k
  pi : ∀ p ∈ n.pends, p.m.items.length ≤ k
  ja : ∀ j ∈ n.jobs, j.asked.length ≤ k
  ik : ∀ x ∈ n.items, x.k.length ≤ 9223372036854775807
theorem Nd.mid.le {n : Nd} {k m : Nat} (h : n.mid k) (hk : k ≤ m) : n.mid m :=
  ⟨Nat.le_trans h.pl hk, Nat.le_trans h.ll hk, Nat.le_trans h.fl hk, Nat.le_trans h.sl hk, Nat.le_trans h.dl hk, Nat.le_trans h.il hk, Nat.le_trans h.jl hk, Nat.le_trans h.wl hk, Nat.le_trans h.rl hk,
    fun p hp => Nat.le_trans (h.pe p hp) hk, fun p hp => Nat.le_trans (h.pi p hp) hk, fun j hj => Nat.le_trans (h.ja j hj) hk, h.ik⟩
theorem Nd.small.mid {n : Nd} (h : n.small) : n.mid 70 :=
  ⟨by have := h.pl; omega, by have := h.ll; omega, h.fl, by have := h.sl; omega, by have := h.dl; omega, by have := h.il; omega, by have := h.jl; omega, by have := h.wl; omega, by have := h.rl; omega,
    fun p hp => by have := (h.d p hp).m.e; omega, fun p hp => by have := (h.d p hp).m.i; omega, fun j hj => by have := (h.j j hj).a; omega, fun x hx => by have := (h.i x hx).k; omega⟩
def enZ : En := ⟨[], 0, 0, 0, 0, []⟩
def jbZ : Jb := ⟨0, 0, 0, 0, 0, 0, [], [], enZ, zeroIt, 0, 0, [], enZ, 0, 0⟩
def msZ : Ms := ⟨0, 0, 0, 0, 0, false, false, [], [], [], []⟩
def jobAt (id : Int) (j : Jb) : Bool := decide (j.id = id)
def findR (l : List Jb) (id : Int) : Int := placeG (jobAt id) l
def jobG (l : List Jb) (i : Nat) : Jb := l.getD i jbZ
theorem jobG_at {l : List Jb} {i : Nat} (h : i < l.length) : jobG l i = l[i] := by simp [jobG, h]
def lastR (l : List Rs) : List Rs := l.drop (l.length - 16)
def resR (id : Int) (j : Jb) (x : It) (has : Bool) (e : Int) : Rs := ⟨id, j.kind, x.n, j.key, x.v, has, x.g, e⟩
def settleR (n : Nd) (id : Int) (x : It) (has : Bool) (e : Int) : Nd :=
  if 0 ≤ findR n.jobs id then { n with jobs := n.jobs.eraseIdx (findR n.jobs id).toNat, results := lastR (n.results ++ [resR id (jobG n.jobs (findR n.jobs id).toNat) x has e]) } else n
def doneA (back : En) (rid : Int) (x : It) (e : Int) : Ac := ⟨true, back, { msZ with kind := 9, rid := rid, ver := x.n, err := e }, 0, 0⟩
def tellR (n : Nd) (back : En) (rid job : Int) (x : It) (has : Bool) (e : Int) : Nd × List Ac :=
  if job = 0 then (n, [doneA back rid x e]) else (settleR n job x has e, [])
def fewR (n : Int) : Int := if n < 0 then 0 else if 2 < n then 2 else n
def copyA (e : En) (x : It) (id : Int) : Ac := ⟨false, e, { msZ with kind := 12, items := [x] }, 7, id⟩
def askR (id : Int) : List Pr → Jb → Jb × List Ac
  | [], j => (j, [])
  | p :: l, j => if 2 ≤ fewR j.acks + fewR j.waits then (j, []) else if p.e.name ∈ j.asked then askR id l j
      else ((askR id l { j with waits := fewR j.waits + 1, asked := j.asked ++ [p.e.name] }).1, copyA p.e j.item id :: (askR id l { j with waits := fewR j.waits + 1, asked := j.asked ++ [p.e.name] }).2)
def copR (l : List Jb) (id : Int) : Int := if 0 ≤ findR l id ∧ (jobG l (findR l id).toNat).kind = 4 then findR l id else -1
def moreFin (n : Nd) (i : Nat) (q : Jb × List Ac) : Nd × List Ac :=
  if 0 < q.1.waits then ({ n with jobs := n.jobs.set i q.1 }, q.2)
  else ((tellR { n with jobs := n.jobs.eraseIdx i } q.1.back q.1.backRid q.1.backJob q.1.item (!q.1.item.g) 0).1, q.2 ++ (tellR { n with jobs := n.jobs.eraseIdx i } q.1.back q.1.backRid q.1.backJob q.1.item (!q.1.item.g) 0).2)
def moreAt (n : Nd) (id : Int) (i : Nat) : Nd × List Ac := moreFin n i (askR id n.list (jobG n.jobs i))
def moreR (n : Nd) (id : Int) : Nd × List Ac := if 0 ≤ copR n.jobs id then moreAt n id (copR n.jobs id).toNat else (n, [])
def nextI (id : Int) : Int := if id < 0 ∨ 1073741824 ≤ id then 1 else id + 1
def copyJ (n : Nd) (x : It) (back : En) (rid job : Int) : Jb := { jbZ with id := nextI n.jobId, kind := 4, til := n.clock + 192, item := x, back := back, backRid := rid, backJob := job }
def beginE (n : Nd) (key val : List UInt8) (gone : Bool) : Int := if 8 ≤ n.jobs.length then 41 else (putR n.items key val gone).2.2
def begunR (n : Nd) (key val : List UInt8) (gone : Bool) (back : En) (rid job : Int) : Nd :=
  { n with items := (putR n.items key val gone).1, jobId := nextI n.jobId, jobs := n.jobs ++ [copyJ n (putR n.items key val gone).2.1 back rid job] }
def beginR (n : Nd) (key val : List UInt8) (gone : Bool) (back : En) (rid job : Int) : Nd × List Ac :=
  if beginE n key val gone = 0 then moreR (begunR n key val gone back rid job) (nextI n.jobId) else tellR n back rid job zeroIt false (beginE n key val gone)
def cameJ (taken : Bool) (j : Jb) : Jb := { j with waits := if fewR j.waits - 1 < 0 then 0 else fewR j.waits - 1, acks := if taken = true then fewR j.acks + 1 else j.acks }
def cameR (n : Nd) (id : Int) (taken : Bool) : Nd × List Ac :=
  if 0 ≤ copR n.jobs id then moreR { n with jobs := n.jobs.set (copR n.jobs id).toNat (cameJ taken (jobG n.jobs (copR n.jobs id).toNat)) } id else (n, [])
def lateJ (clock : Int) (j : Jb) : Bool := decide (j.kind = 4) && decide (j.til < clock)
def lateF : Nat → Nd → Nd × List Ac
  | 0, n => (n, [])
  | k + 1, n => if 0 ≤ placeG (lateJ n.clock) n.jobs then
      ((lateF k (tellR { n with jobs := n.jobs.eraseIdx (placeG (lateJ n.clock) n.jobs).toNat } (jobG n.jobs (placeG (lateJ n.clock) n.jobs).toNat).back (jobG n.jobs (placeG (lateJ n.clock) n.jobs).toNat).backRid (jobG n.jobs (placeG (lateJ n.clock) n.jobs).toNat).backJob (jobG n.jobs (placeG (lateJ n.clock) n.jobs).toNat).item (!(jobG n.jobs (placeG (lateJ n.clock) n.jobs).toNat).item.g) 0).1).1,
       (tellR { n with jobs := n.jobs.eraseIdx (placeG (lateJ n.clock) n.jobs).toNat } (jobG n.jobs (placeG (lateJ n.clock) n.jobs).toNat).back (jobG n.jobs (placeG (lateJ n.clock) n.jobs).toNat).backRid (jobG n.jobs (placeG (lateJ n.clock) n.jobs).toNat).backJob (jobG n.jobs (placeG (lateJ n.clock) n.jobs).toNat).item (!(jobG n.jobs (placeG (lateJ n.clock) n.jobs).toNat).item.g) 0).2 ++
       (lateF k (tellR { n with jobs := n.jobs.eraseIdx (placeG (lateJ n.clock) n.jobs).toNat } (jobG n.jobs (placeG (lateJ n.clock) n.jobs).toNat).back (jobG n.jobs (placeG (lateJ n.clock) n.jobs).toNat).backRid (jobG n.jobs (placeG (lateJ n.clock) n.jobs).toNat).backJob (jobG n.jobs (placeG (lateJ n.clock) n.jobs).toNat).item (!(jobG n.jobs (placeG (lateJ n.clock) n.jobs).toNat).item.g) 0).1).2)
    else (n, [])
def lateR (n : Nd) : Nd × List Ac := lateF n.jobs.length n
theorem set_row {α : Type} (f : α → List AVal) (l : List α) (i : Nat) (h : i < l.length) : (l.map f).set i (f l[i]) = l.map f := by
  rw [← List.map_set, List.set_getElem_self]
theorem erase_take {α : Type} (l : List α) (i : Nat) : l.take i ++ l.drop (i + 1) = l.eraseIdx i := List.eraseIdx_eq_take_drop_succ .. |>.symm
theorem findR_cases (l : List Jb) (id : Int) : (∃ (j : Nat) (h : j < l.length), l[j].id = id ∧ (l.take j).any (jobAt id) = false ∧ findR l id = (j : Int)) ∨ (l.any (jobAt id) = false ∧ findR l id = -1) := by
  rcases placeG_cases (jobAt id) l with ⟨j, hj, h1, h2, h3⟩ | h
  · exact .inl ⟨j, hj, by simpa [jobAt] using h1, h2, h3⟩
  · exact .inr h
theorem jb_row (l : List Jb) (i : Nat) (h : i < l.length) : (l.map Jb.cs)[i]? = some [.int .i64 l[i].id, .int .i64 l[i].kind, .int .i64 l[i].phase, .int .i64 l[i].hops, .int .i64 l[i].tries, .int .i64 l[i].til, .str l[i].key, .str l[i].val, .str l[i].owner.name, .int .u64 (l[i].owner.id : Int), .int .i64 l[i].owner.fr, .int .i64 l[i].owner.un, .int .i64 l[i].owner.ix, .str l[i].owner.tag, .str l[i].item.k, .str l[i].item.v, .int .i64 l[i].item.n, .bool l[i].item.g, .int .i64 l[i].acks, .int .i64 l[i].waits, .slice 1 (l[i].asked.map strRow), .str l[i].back.name, .int .u64 (l[i].back.id : Int), .int .i64 l[i].back.fr, .int .i64 l[i].back.un, .int .i64 l[i].back.ix, .str l[i].back.tag, .int .i64 l[i].backRid, .int .i64 l[i].backJob] := by
  rw [List.getElem?_map, List.getElem?_eq_getElem h]; rfl
def Nd.ocs (n : Nd) : List AVal := [.str n.me.name, .int .u64 (n.me.id : Int), .int .i64 n.me.fr, .int .i64 n.me.un, .int .i64 n.me.ix, .str n.me.tag, .int .i64 n.clock, .str n.psk, .int .i64 n.gateI, .str n.gateK, .bool n.ready, .slice 8 (n.pred.map Pr.cs), .slice 8 (n.list.map Pr.cs), .slice 9 (n.fingers.map Fg.cs), .usl 20 (n.sessions.map Se.cs), .usl 23 (n.pends.map Pd.cs), .slice 4 (n.items.map It.cs), .usl 29 (n.jobs.map Jb.cs), .int .i64 n.rid, .int .i64 n.jobId, .slice 1 (n.draws.map u64Row), .usl 8 (n.results.map Rs.cs)]
@[go_sem] theorem Nd.ocs_eq (n : Nd) : n.ocs = [.str n.me.name, .int .u64 (n.me.id : Int), .int .i64 n.me.fr, .int .i64 n.me.un, .int .i64 n.me.ix, .str n.me.tag, .int .i64 n.clock, .str n.psk, .int .i64 n.gateI, .str n.gateK, .bool n.ready, .slice 8 (n.pred.map Pr.cs), .slice 8 (n.list.map Pr.cs), .slice 9 (n.fingers.map Fg.cs), .usl 20 (n.sessions.map Se.cs), .usl 23 (n.pends.map Pd.cs), .slice 4 (n.items.map It.cs), .usl 29 (n.jobs.map Jb.cs), .int .i64 n.rid, .int .i64 n.jobId, .slice 1 (n.draws.map u64Row), .usl 8 (n.results.map Rs.cs)] := rfl
theorem settle_ocs (n : Nd) (id : Int) (x : It) (has : Bool) (e : Int) : (settleR n id x has e).ocs = [.str n.me.name, .int .u64 (n.me.id : Int), .int .i64 n.me.fr, .int .i64 n.me.un, .int .i64 n.me.ix, .str n.me.tag, .int .i64 n.clock, .str n.psk, .int .i64 n.gateI, .str n.gateK, .bool n.ready, .slice 8 (n.pred.map Pr.cs), .slice 8 (n.list.map Pr.cs), .slice 9 (n.fingers.map Fg.cs), .usl 20 (n.sessions.map Se.cs), .usl 23 (n.pends.map Pd.cs), .slice 4 (n.items.map It.cs), .usl 29 ((settleR n id x has e).jobs.map Jb.cs), .int .i64 n.rid, .int .i64 n.jobId, .slice 1 (n.draws.map u64Row), .usl 8 ((settleR n id x has e).results.map Rs.cs)] := by
  unfold settleR; split <;> rfl
theorem settle_eta (n : Nd) (id : Int) (x : It) (has : Bool) (e : Int) : ∃ js rs, settleR n id x has e = { n with jobs := js, results := rs } := by
  unfold settleR; split
  · exact ⟨_, _, rfl⟩
  · exact ⟨n.jobs, n.results, rfl⟩

end Go.Proofs.Ytmfcabokoijcdaa
namespace Go.Proofs.Ytmfcabokoijcdaa
open Go.Am
set_option linter.unusedSimpArgs false
set_option linter.unusedVariables false
set_option maxRecDepth 100000
/-! Layer 29: copies of nodes. -/
theorem pd_row (l : List Pd) (i : Nat) (h : i < l.length) : (l.map Pd.cs)[i]? = some [.int .i64 l[i].rid, .int .i64 l[i].why, .int .i64 l[i].job, .int .i64 l[i].til, .int .i64 l[i].tries, .int .u64 (l[i].session : Int), .str l[i].to.name, .int .u64 (l[i].to.id : Int), .int .i64 l[i].to.fr, .int .i64 l[i].to.un, .int .i64 l[i].to.ix, .str l[i].to.tag, .int .i64 l[i].m.kind, .int .i64 l[i].m.rid, .int .i64 l[i].m.ver, .int .i64 l[i].m.err, .int .u64 (l[i].m.id : Int), .bool l[i].m.has, .bool l[i].m.gone, .str l[i].m.key, .str l[i].m.val, .slice 6 (l[i].m.ents.map En.cs), .slice 4 (l[i].m.items.map It.cs)] := by
  rw [List.getElem?_map, List.getElem?_eq_getElem h]; rfl
@[go_sem] theorem e79 (m : Ms) (h1 : m.ents.length ≤ 1000000) (h2 : m.items.length ≤ 1000000) : fn C 79 [] [.agg [.int .i64 m.kind, .int .i64 m.rid, .int .i64 m.ver, .int .i64 m.err, .int .u64 (m.id : Int), .bool m.has, .bool m.gone, .str m.key, .str m.val, .slice 6 (m.ents.map En.cs), .slice 4 (m.items.map It.cs)]] = some (.agg [.int .i64 m.kind, .int .i64 m.rid, .int .i64 m.ver, .int .i64 m.err, .int .u64 (m.id : Int), .bool m.has, .bool m.gone, .str m.key, .str m.val, .slice 6 (m.ents.map En.cs), .slice 4 (m.items.map It.cs)], []) := by
  rw [fn_text Try.func79 rfl rfl Try.results79 fq79.1 rfl rfl (by kernel_rfl)]
  simp -implicitDefEqProofs -dsimp +contextual (maxSteps := 9999999) (disch := first | omega | simp only [go_sem] <;> omega | refine ib ?_; kernel_rfl) only [go_sem, seval, ↓reduceIte]

set_option maxHeartbeats 4000000 in
@[go_sem] theorem e38 (l : List Pd) (hl : l.length ≤ 1000000) (h1 : ∀ p ∈ l, p.m.ents.length ≤ 1000000) (h2 : ∀ p ∈ l, p.m.items.length ≤ 1000000) : fn C 38 [] [.slice 23 (l.map Pd.cs)] = some (.usl 23 (l.map Pd.cs), []) := by
  rw [fn_text Try.func38 rfl rfl Try.results38 fq38.1 rfl rfl (by kernel_rfl)]
  simp -implicitDefEqProofs -dsimp +contextual (maxSteps := 9999999) (disch := first | omega | simp only [go_sem] <;> omega | refine ib ?_; kernel_rfl) only [go_sem, seval, ↓reduceIte]
  refine kFor l.length (fun i f H => f 3 = .osl 106 1 0 l.length ∧ f 8 = .int .i64 (l.length : Nat) ∧ f 9 = .int .i64 (i : Nat) ∧ H 106 = ⟨1, .live, 23, l.map Pd.cs, false⟩) ?_ ?_ (by exact ⟨rfl, rfl, rfl, by simp [Heap.set, Heap.nil]⟩)
  · rintro i f H hi ⟨f3, f8, f9, H1⟩ ih
    have row := pd_row l i hi
    have st : (l.map Pd.cs).set i [.int .i64 l[i].rid, .int .i64 l[i].why, .int .i64 l[i].job, .int .i64 l[i].til, .int .i64 l[i].tries, .int .u64 (l[i].session : Int), .str l[i].to.name, .int .u64 (l[i].to.id : Int), .int .i64 l[i].to.fr, .int .i64 l[i].to.un, .int .i64 l[i].to.ix, .str l[i].to.tag, .int .i64 l[i].m.kind, .int .i64 l[i].m.rid, .int .i64 l[i].m.ver, .int .i64 l[i].m.err, .int .u64 (l[i].m.id : Int), .bool l[i].m.has, .bool l[i].m.gone, .str l[i].m.key, .str l[i].m.val, .slice 6 (l[i].m.ents.map En.cs), .slice 4 (l[i].m.items.map It.cs)] = l.map Pd.cs := set_row Pd.cs l i hi
    have c := e79 l[i].m (h1 _ (List.getElem_mem hi)) (h2 _ (List.getElem_mem hi))
    simp -implicitDefEqProofs -dsimp +contextual (maxSteps := 9999999) (disch := first | omega | simp only [go_sem] <;> omega | refine ib ?_; kernel_rfl) only [go_sem, seval, ↓reduceIte, f3, f8, f9, H1, hi, row, c, st]
    exact ih _ _ (by exact ⟨f3, f8, rfl, rfl⟩)
  · rintro f H ⟨f3, f8, f9, H1⟩
    simp -implicitDefEqProofs -dsimp +contextual (maxSteps := 9999999) (disch := first | omega | simp only [go_sem] <;> omega | refine ib ?_; kernel_rfl) only [go_sem, seval, ↓reduceIte, f3, f8, f9, H1]

set_option maxHeartbeats 8000000 in
@[go_sem] theorem e11 (n : Nd) (h : n.mid 1000000) : fn C 11 [] [.agg [.str n.me.name, .int .u64 (n.me.id : Int), .int .i64 n.me.fr, .int .i64 n.me.un, .int .i64 n.me.ix, .str n.me.tag, .int .i64 n.clock, .str n.psk, .int .i64 n.gateI, .str n.gateK, .bool n.ready, .slice 8 (n.pred.map Pr.cs), .slice 8 (n.list.map Pr.cs), .slice 9 (n.fingers.map Fg.cs), .slice 20 (n.sessions.map Se.cs), .slice 23 (n.pends.map Pd.cs), .slice 4 (n.items.map It.cs), .slice 29 (n.jobs.map Jb.cs), .int .i64 n.rid, .int .i64 n.jobId, .slice 1 (n.draws.map u64Row), .slice 8 (n.results.map Rs.cs)]] = some (.agg [.str n.me.name, .int .u64 (n.me.id : Int), .int .i64 n.me.fr, .int .i64 n.me.un, .int .i64 n.me.ix, .str n.me.tag, .int .i64 n.clock, .str n.psk, .int .i64 n.gateI, .str n.gateK, .bool n.ready, .slice 8 (n.pred.map Pr.cs), .slice 8 (n.list.map Pr.cs), .slice 9 (n.fingers.map Fg.cs), .usl 20 (n.sessions.map Se.cs), .usl 23 (n.pends.map Pd.cs), .slice 4 (n.items.map It.cs), .usl 29 (n.jobs.map Jb.cs), .int .i64 n.rid, .int .i64 n.jobId, .slice 1 (n.draws.map u64Row), .usl 8 (n.results.map Rs.cs)], []) := by
  have := h.pl; have := h.ll; have := h.fl; have := h.sl; have := h.dl; have := h.il; have := h.jl; have := h.wl; have := h.rl
  have pc := e38 n.pends h.dl h.pe h.pi
  rw [fn_text Try.func11 rfl rfl Try.results11 fq11.1 rfl rfl (by kernel_rfl)]
  simp -implicitDefEqProofs -dsimp +contextual (maxSteps := 9999999) (disch := first | omega | simp only [go_sem] <;> omega | refine ib ?_; kernel_rfl) only [go_sem, seval, ↓reduceIte, pc]
  refine kFor n.jobs.length (fun i f H => f 1 = .ptr 101 1 0 0 ∧ f 2 = .ptr 102 1 0 0 ∧ f 42 = .int .i64 (n.jobs.length : Nat) ∧ f 43 = .int .i64 (i : Nat) ∧
    H 101 = ⟨1, .live, 22, [[.str n.me.name, .int .u64 (n.me.id : Int), .int .i64 n.me.fr, .int .i64 n.me.un, .int .i64 n.me.ix, .str n.me.tag, .int .i64 n.clock, .str n.psk, .int .i64 n.gateI, .str n.gateK, .bool n.ready, .slice 8 (n.pred.map Pr.cs), .slice 8 (n.list.map Pr.cs), .slice 9 (n.fingers.map Fg.cs), .osl 118 1 0 n.sessions.length, .osl 121 1 0 n.pends.length, .slice 4 (n.items.map It.cs), .osl 130 1 0 n.jobs.length, .int .i64 n.rid, .int .i64 n.jobId, .slice 1 (n.draws.map u64Row), .osl 136 1 0 n.results.length]], false⟩ ∧ (H 102).gen = 1 ∧ (H 102).mode = .live ∧ (∃ r : List AVal, r.length = 22 ∧ (H 102).rows = [r]) ∧
    H 118 = ⟨1, .live, 20, n.sessions.map Se.cs, false⟩ ∧ H 121 = ⟨1, .live, 23, n.pends.map Pd.cs, false⟩ ∧ H 130 = ⟨1, .live, 29, n.jobs.map Jb.cs, false⟩ ∧ H 136 = ⟨1, .live, 8, n.results.map Rs.cs, false⟩) ?_ ?_ (by exact ⟨rfl, rfl, rfl, rfl, rfl, rfl, rfl, ⟨_, rfl, rfl⟩, rfl, rfl, rfl, rfl⟩)
  · rintro i f H hi ⟨f1, f2, f42, f43, H1, H2, H2m, ⟨r, hr, H2r⟩, H3, H4, H5, H6⟩ ih
    have row := jb_row n.jobs i hi
    have st : (n.jobs.map Jb.cs).set i [.int .i64 n.jobs[i].id, .int .i64 n.jobs[i].kind, .int .i64 n.jobs[i].phase, .int .i64 n.jobs[i].hops, .int .i64 n.jobs[i].tries, .int .i64 n.jobs[i].til, .str n.jobs[i].key, .str n.jobs[i].val, .str n.jobs[i].owner.name, .int .u64 (n.jobs[i].owner.id : Int), .int .i64 n.jobs[i].owner.fr, .int .i64 n.jobs[i].owner.un, .int .i64 n.jobs[i].owner.ix, .str n.jobs[i].owner.tag, .str n.jobs[i].item.k, .str n.jobs[i].item.v, .int .i64 n.jobs[i].item.n, .bool n.jobs[i].item.g, .int .i64 n.jobs[i].acks, .int .i64 n.jobs[i].waits, .slice 1 (n.jobs[i].asked.map strRow), .str n.jobs[i].back.name, .int .u64 (n.jobs[i].back.id : Int), .int .i64 n.jobs[i].back.fr, .int .i64 n.jobs[i].back.un, .int .i64 n.jobs[i].back.ix, .str n.jobs[i].back.tag, .int .i64 n.jobs[i].backRid, .int .i64 n.jobs[i].backJob] = n.jobs.map Jb.cs := set_row Jb.cs n.jobs i hi
    have al := h.ja _ (List.getElem_mem hi)
    simp -implicitDefEqProofs -dsimp +contextual (maxSteps := 9999999) (disch := first | omega | simp only [go_sem] <;> omega | refine ib ?_; kernel_rfl) only [go_sem, seval, ↓reduceIte, f1, f2, f42, f43, H1, H5, hi, row, st, al]
    exact ih _ _ (by exact ⟨f1, f2, f42, rfl, H1, H2, H2m, ⟨r, hr, H2r⟩, H3, H4, rfl, H6⟩)
  · rintro f H ⟨f1, f2, f42, f43, H1, H2, H2m, ⟨r, hr, H2r⟩, H3, H4, H5, H6⟩
    simp -implicitDefEqProofs -dsimp +contextual (maxSteps := 9999999) (disch := first | omega | simp only [go_sem] <;> omega | refine ib ?_; kernel_rfl) only [go_sem, seval, ↓reduceIte, f1, f2, f42, f43, H1, H2, H2m, H2r, hr, H3, H4, H5, H6]
    trace_state


end Go.Proofs.Ytmfcabokoijcdaa
namespace Go.Proofs.Ytmfcabokoijcdaa
open Go.Am
set_option linter.unusedSimpArgs false
set_option linter.unusedVariables false
set_option maxRecDepth 100000
/-! Layer 29: the work, and what is done with it. -/
inductive AcC : AVal → List Ac → Prop
  | nil : AcC (.sc (.slice none 0 0)) []
  | us (l : List Ac) : AcC (.usl 20 (l.map Ac.cs)) l
@[go_sem] theorem e61 (j : Jb) (id : Int) : fn C 61 [] [.agg [.int .i64 j.id, .int .i64 j.kind, .int .i64 j.phase, .int .i64 j.hops, .int .i64 j.tries, .int .i64 j.til, .str j.key, .str j.val, .str j.owner.name, .int .u64 (j.owner.id : Int), .int .i64 j.owner.fr, .int .i64 j.owner.un, .int .i64 j.owner.ix, .str j.owner.tag, .str j.item.k, .str j.item.v, .int .i64 j.item.n, .bool j.item.g, .int .i64 j.acks, .int .i64 j.waits, .slice 1 (j.asked.map strRow), .str j.back.name, .int .u64 (j.back.id : Int), .int .i64 j.back.fr, .int .i64 j.back.un, .int .i64 j.back.ix, .str j.back.tag, .int .i64 j.backRid, .int .i64 j.backJob], .iptr [.int .i64 id]] = some (.bool (decide (j.id = id)), []) := by
  rw [fn_text Try.func61 rfl rfl Try.results61 fq61.1 rfl rfl (by kernel_rfl)]
  simp -implicitDefEqProofs -dsimp +contextual (maxSteps := 9999999) (disch := first | omega | simp only [go_sem] <;> omega | refine ib ?_; kernel_rfl) only [go_sem, seval, ↓reduceIte]

@[go_sem] theorem eIdxFind (l : List Jb) (id : Int) (hl : l.length ≤ 9223372036854775807) : fn C 60 [] [.slice 29 (l.map Jb.cs), .fn (.func 61) [] [.iptr [.int .i64 id]]] = some (.int .i64 (findR l id), []) := by
  rw [fn_text Try.func60 rfl rfl Try.results60 fq60.1 rfl rfl (by kernel_rfl)]
  simp -implicitDefEqProofs -dsimp +contextual (maxSteps := 9999999) (disch := first | omega | simp only [go_sem] <;> omega | refine ib ?_; kernel_rfl) only [go_sem, seval, ↓reduceIte]
  refine kFor l.length (fun i f H => f 0 = .slice 29 (l.map Jb.cs) ∧ f 1 = .fn (.func 61) [] [.iptr [.int .i64 id]] ∧ f 7 = .int .i64 l.length ∧ f 8 = .int .i64 (i : Nat) ∧ H = Heap.nil ∧ (l.take i).any (jobAt id) = false) ?_ ?_ (by exact ⟨rfl, rfl, rfl, rfl, rfl, rfl⟩)
  · rintro i f _ hi ⟨f0, f1, f7, f8, rfl, ha⟩ ih
    simp -implicitDefEqProofs -dsimp +contextual (maxSteps := 9999999) (disch := first | omega | simp only [go_sem] <;> omega | refine ib ?_; kernel_rfl) only [go_sem, seval, ↓reduceIte, f0, f1, f7, f8, hi]
    (repeat' (refine kD_intro (fun _ => ?_) (fun _ => ?_)))
    · rename_i h; rw [findR, placeG_at hi ha (by simp [jobAt, h])]
    · rename_i h; exact ih _ _ ⟨f0, f1, f7, rfl, rfl, any_take hi ha (by simp [jobAt, h])⟩
  · rintro f _ ⟨f0, f1, f7, f8, rfl, ha⟩
    simp -implicitDefEqProofs -dsimp +contextual (maxSteps := 9999999) (disch := first | omega | simp only [go_sem] <;> omega | refine ib ?_; kernel_rfl) only [go_sem, seval, ↓reduceIte, f0, f1, f7, f8]
    rw [findR, placeG_none (any_end ha)]

@[go_sem] theorem e16 (l : List Jb) (id : Int) (hl : l.length ≤ 9223372036854775807) : fn C 16 [] [.slice 29 (l.map Jb.cs), .int .i64 id] = some (.int .i64 (findR l id), []) := by
  rw [fn_text Try.func16 rfl rfl Try.results16 fq16.1 rfl rfl (by kernel_rfl)]
  simp -implicitDefEqProofs -dsimp +contextual (maxSteps := 9999999) (disch := first | omega | simp only [go_sem] <;> omega | refine ib ?_; kernel_rfl) only [go_sem, seval, ↓reduceIte]

@[go_sem] theorem e81 (n : Int) : fn C 81 [] [.int .i64 n] = some (.int .i64 (fewR n), []) := by
  rw [fn_text Try.func81 rfl rfl Try.results81 fq81.1 rfl rfl (by kernel_rfl)]
  simp -implicitDefEqProofs -dsimp +contextual (maxSteps := 9999999) (disch := first | omega | simp only [go_sem] <;> omega | refine ib ?_; kernel_rfl) only [go_sem, seval, ↓reduceIte]
  refine congrArg (fun z => some (AVal.int .i64 z, [])) ?_
  unfold fewR
  repeat' split
  all_goals omega

@[go_sem] theorem e47 (n : Int) : fn C 47 [] [.int .i64 n] = some (.int .i64 (nextI n), []) := by
  rw [fn_text Try.func47 rfl rfl Try.results47 fq47.1 rfl rfl (by kernel_rfl)]
  simp -implicitDefEqProofs -dsimp +contextual (maxSteps := 9999999) (disch := first | omega | simp only [go_sem] <;> omega | refine ib ?_; kernel_rfl) only [go_sem, seval, ↓reduceIte]
  (repeat' (refine kD_intro (fun _ => ?_) (fun _ => ?_)))
  all_goals (unfold nextI; simp [*])

theorem eDelJob (es : List (List AVal)) (i : Nat) (hi : i < es.length) (hl : es.length ≤ 1000001) (h1 : es.all clos = true) (h2 : ones es = true) : fn C 91 [] [.usl 29 es, .int .i64 (i : Nat), .int .i64 ((i + 1 : Nat) : Int)] = some (.usl 29 (es.eraseIdx i), []) := by
  rw [fn_textN Try.func91 rfl rfl Try.results91 fq91.1 rfl rfl (by kernel_rfl)]
  have h3 : ones (es.drop (i + 1)) = true := List.all_eq_true.2 fun r hr => List.all_eq_true.1 h2 r (List.mem_of_mem_drop hr)
  simp -implicitDefEqProofs -dsimp +contextual (maxSteps := 9999999) (disch := first | omega | simp only [go_sem] <;> omega | refine ib ?_; kernel_rfl) only [go_sem, seval, ↓reduceIte, hi, h1, h2, h3]
  rw [if_pos (by omega), if_pos ⟨List.all_eq_true.2 fun r hr => List.all_eq_true.1 h1 r (List.mem_of_mem_take hr), List.all_eq_true.2 fun r hr => List.all_eq_true.1 h1 r (List.mem_of_mem_drop hr)⟩, erase_take]

/-- One job goes. -/
theorem erase_map {α : Type} (f : α → List AVal) (l : List α) (i : Nat) : (l.map f).eraseIdx i = (l.eraseIdx i).map f := by
  rw [← erase_take, ← erase_take, List.map_append, List.map_take, List.map_drop]
theorem eDelJobs (l : List Jb) (i : Nat) (hi : i < l.length) (hl : l.length ≤ 1000001) : fn C 91 [] [.usl 29 (l.map Jb.cs), .int .i64 (i : Nat), .int .i64 ((i + 1 : Nat) : Int)] = some (.usl 29 ((l.eraseIdx i).map Jb.cs), []) := by
  rw [eDelJob _ i (by simpa using hi) (by simpa using hl) (Jb_clos l) (Jb_ones l), erase_map]

set_option maxHeartbeats 4000000 in
theorem dropW (n : Nd) (A : AVal) (acts : List Ac) (hA : AcC A acts) (i : Nat) (hi : i < n.jobs.length) (h : n.mid 1000001) : fn C 76 [] [.uptr [.str n.me.name, .int .u64 (n.me.id : Int), .int .i64 n.me.fr, .int .i64 n.me.un, .int .i64 n.me.ix, .str n.me.tag, .int .i64 n.clock, .str n.psk, .int .i64 n.gateI, .str n.gateK, .bool n.ready, .slice 8 (n.pred.map Pr.cs), .slice 8 (n.list.map Pr.cs), .slice 9 (n.fingers.map Fg.cs), .usl 20 (n.sessions.map Se.cs), .usl 23 (n.pends.map Pd.cs), .slice 4 (n.items.map It.cs), .usl 29 (n.jobs.map Jb.cs), .int .i64 n.rid, .int .i64 n.jobId, .slice 1 (n.draws.map u64Row), .usl 8 (n.results.map Rs.cs), A], .int .i64 (i : Nat)] = some (.agg [.int .i64 n.jobs[i].id, .int .i64 n.jobs[i].kind, .int .i64 n.jobs[i].phase, .int .i64 n.jobs[i].hops, .int .i64 n.jobs[i].tries, .int .i64 n.jobs[i].til, .str n.jobs[i].key, .str n.jobs[i].val, .str n.jobs[i].owner.name, .int .u64 (n.jobs[i].owner.id : Int), .int .i64 n.jobs[i].owner.fr, .int .i64 n.jobs[i].owner.un, .int .i64 n.jobs[i].owner.ix, .str n.jobs[i].owner.tag, .str n.jobs[i].item.k, .str n.jobs[i].item.v, .int .i64 n.jobs[i].item.n, .bool n.jobs[i].item.g, .int .i64 n.jobs[i].acks, .int .i64 n.jobs[i].waits, .slice 1 (n.jobs[i].asked.map strRow), .str n.jobs[i].back.name, .int .u64 (n.jobs[i].back.id : Int), .int .i64 n.jobs[i].back.fr, .int .i64 n.jobs[i].back.un, .int .i64 n.jobs[i].back.ix, .str n.jobs[i].back.tag, .int .i64 n.jobs[i].backRid, .int .i64 n.jobs[i].backJob], [.uptr [.str n.me.name, .int .u64 (n.me.id : Int), .int .i64 n.me.fr, .int .i64 n.me.un, .int .i64 n.me.ix, .str n.me.tag, .int .i64 n.clock, .str n.psk, .int .i64 n.gateI, .str n.gateK, .bool n.ready, .slice 8 (n.pred.map Pr.cs), .slice 8 (n.list.map Pr.cs), .slice 9 (n.fingers.map Fg.cs), .usl 20 (n.sessions.map Se.cs), .usl 23 (n.pends.map Pd.cs), .slice 4 (n.items.map It.cs), .usl 29 ((n.jobs.eraseIdx i).map Jb.cs), .int .i64 n.rid, .int .i64 n.jobId, .slice 1 (n.draws.map u64Row), .usl 8 (n.results.map Rs.cs), A]]) := by
  have row := jb_row n.jobs i hi
  have jl := h.jl
  have del := eDelJobs n.jobs i hi h.jl
  rcases hA with _ | l
  · rw [fn_text Try.func76 rfl rfl Try.results76 fq76.1 rfl rfl (by kernel_rfl)]
    simp -implicitDefEqProofs -dsimp +contextual (maxSteps := 9999999) (disch := first | omega | simp only [go_sem] <;> omega | refine ib ?_; kernel_rfl) only [go_sem, seval, ↓reduceIte, row, del, hi]
  · rw [fn_text Try.func76 rfl rfl Try.results76 fq76.1 rfl rfl (by kernel_rfl)]
    simp -implicitDefEqProofs -dsimp +contextual (maxSteps := 9999999) (disch := first | omega | simp only [go_sem] <;> omega | refine ib ?_; kernel_rfl) only [go_sem, seval, ↓reduceIte, row, del, hi]


end Go.Proofs.Ytmfcabokoijcdaa
namespace Go.Proofs.Ytmfcabokoijcdaa
open Go.Am
set_option linter.unusedSimpArgs false
set_option linter.unusedVariables false
set_option maxRecDepth 100000
/-! Layer 29: a job is settled; who asked is told. -/
theorem Rs_app (l : List Rs) (a b c e : Int) (k v : List UInt8) (x g : Bool) : l.map Rs.cs ++ [[.int .i64 a, .int .i64 b, .int .i64 c, .str k, .str v, .bool x, .bool g, .int .i64 e]] = (l ++ [(⟨a, b, c, k, v, x, g, e⟩ : Rs)]).map Rs.cs := by rw [List.map_append]; rfl
set_option maxHeartbeats 8000000 in
theorem settleW (n : Nd) (A : AVal) (acts : List Ac) (hA : AcC A acts) (id : Int) (x : It) (has : Bool) (e : Int) (h : n.mid 1000000) : fn C 68 [] [.uptr [.str n.me.name, .int .u64 (n.me.id : Int), .int .i64 n.me.fr, .int .i64 n.me.un, .int .i64 n.me.ix, .str n.me.tag, .int .i64 n.clock, .str n.psk, .int .i64 n.gateI, .str n.gateK, .bool n.ready, .slice 8 (n.pred.map Pr.cs), .slice 8 (n.list.map Pr.cs), .slice 9 (n.fingers.map Fg.cs), .usl 20 (n.sessions.map Se.cs), .usl 23 (n.pends.map Pd.cs), .slice 4 (n.items.map It.cs), .usl 29 (n.jobs.map Jb.cs), .int .i64 n.rid, .int .i64 n.jobId, .slice 1 (n.draws.map u64Row), .usl 8 (n.results.map Rs.cs), A], .int .i64 id, .agg [.str x.k, .str x.v, .int .i64 x.n, .bool x.g], .bool has, .int .i64 e] =
    some (.tup [], [.uptr [.str n.me.name, .int .u64 (n.me.id : Int), .int .i64 n.me.fr, .int .i64 n.me.un, .int .i64 n.me.ix, .str n.me.tag, .int .i64 n.clock, .str n.psk, .int .i64 n.gateI, .str n.gateK, .bool n.ready, .slice 8 (n.pred.map Pr.cs), .slice 8 (n.list.map Pr.cs), .slice 9 (n.fingers.map Fg.cs), .usl 20 (n.sessions.map Se.cs), .usl 23 (n.pends.map Pd.cs), .slice 4 (n.items.map It.cs), .usl 29 ((settleR n id x has e).jobs.map Jb.cs), .int .i64 n.rid, .int .i64 n.jobId, .slice 1 (n.draws.map u64Row), .usl 8 ((settleR n id x has e).results.map Rs.cs), A]]) := by
  have jl := h.jl; have rl := h.rl
  rcases findR_cases n.jobs id with ⟨i, hi, hid, _, hf⟩ | ⟨_, hf⟩
  · have drp := dropW n A acts hA i hi (h.le (by omega))
    have hs : settleR n id x has e = { n with jobs := n.jobs.eraseIdx i, results := lastR (n.results ++ [resR id n.jobs[i] x has e]) } := by
      unfold settleR; rw [hf, if_pos (by omega), Int.toNat_natCast, jobG_at hi]
    rw [hs]
    simp only [lastR, List.length_append, List.length_singleton, resR]
    by_cases hc : 16 ≤ n.results.length
    · have dd : (if 0 < n.results.length - 15 then ((n.results.length - 15 : Nat) : Int) else 0).toNat = n.results.length - 15 := by split <;> omega
      rcases hA with _ | l
      · rw [fn_text Try.func68 rfl rfl Try.results68 fq68.1 rfl rfl (by kernel_rfl)]
        simp -implicitDefEqProofs -dsimp +contextual (maxSteps := 9999999) (disch := first | omega | simp only [go_sem] <;> omega | refine ib ?_; kernel_rfl) only [go_sem, seval, ↓reduceIte, drp, hf, hi, hid, hc, Rs_app]
        rw [dd]
      · rw [fn_text Try.func68 rfl rfl Try.results68 fq68.1 rfl rfl (by kernel_rfl)]
        simp -implicitDefEqProofs -dsimp +contextual (maxSteps := 9999999) (disch := first | omega | simp only [go_sem] <;> omega | refine ib ?_; kernel_rfl) only [go_sem, seval, ↓reduceIte, drp, hf, hi, hid, hc, Rs_app]
        rw [dd]
    · rw [show n.results.length + 1 - 16 = 0 from by omega, List.drop_zero]
      rcases hA with _ | l
      · rw [fn_text Try.func68 rfl rfl Try.results68 fq68.1 rfl rfl (by kernel_rfl)]
        simp -implicitDefEqProofs -dsimp +contextual (maxSteps := 9999999) (disch := first | omega | simp only [go_sem] <;> omega | refine ib ?_; kernel_rfl) only [go_sem, seval, ↓reduceIte, drp, hf, hi, hid, hc, Rs_app]
        rw [if_neg (by omega)]
        rfl
      · rw [fn_text Try.func68 rfl rfl Try.results68 fq68.1 rfl rfl (by kernel_rfl)]
        simp -implicitDefEqProofs -dsimp +contextual (maxSteps := 9999999) (disch := first | omega | simp only [go_sem] <;> omega | refine ib ?_; kernel_rfl) only [go_sem, seval, ↓reduceIte, drp, hf, hi, hid, hc, Rs_app]
        rw [if_neg (by omega)]
        rfl
  · have hs : settleR n id x has e = n := by unfold settleR; rw [hf, if_neg (by omega)]
    rw [hs]
    rcases hA with _ | l
    · rw [fn_text Try.func68 rfl rfl Try.results68 fq68.1 rfl rfl (by kernel_rfl)]
      simp -implicitDefEqProofs -dsimp +contextual (maxSteps := 9999999) (disch := first | omega | simp only [go_sem] <;> omega | refine ib ?_; kernel_rfl) only [go_sem, seval, ↓reduceIte, hf]
    · rw [fn_text Try.func68 rfl rfl Try.results68 fq68.1 rfl rfl (by kernel_rfl)]
      simp -implicitDefEqProofs -dsimp +contextual (maxSteps := 9999999) (disch := first | omega | simp only [go_sem] <;> omega | refine ib ?_; kernel_rfl) only [go_sem, seval, ↓reduceIte, hf]

theorem Ac_app (l : List Ac) (a : Ac) : l.map Ac.cs ++ [[.bool a.ans, .str a.to.name, .int .u64 (a.to.id : Int), .int .i64 a.to.fr, .int .i64 a.to.un, .int .i64 a.to.ix, .str a.to.tag, .int .i64 a.m.kind, .int .i64 a.m.rid, .int .i64 a.m.ver, .int .i64 a.m.err, .int .u64 (a.m.id : Int), .bool a.m.has, .bool a.m.gone, .str a.m.key, .str a.m.val, .slice 6 (a.m.ents.map En.cs), .slice 4 (a.m.items.map It.cs), .int .i64 a.why, .int .i64 a.job]] = (l ++ [a]).map Ac.cs := by rw [List.map_append]; rfl
set_option maxHeartbeats 8000000 in
theorem tellW0 (n : Nd) (A : AVal) (acts : List Ac) (hA : AcC A acts) (back : En) (rid : Int) (x : It) (has : Bool) (e : Int) (h : n.mid 1000000) (ha : acts.length ≤ 1000000) : fn C 45 [] [.uptr [.str n.me.name, .int .u64 (n.me.id : Int), .int .i64 n.me.fr, .int .i64 n.me.un, .int .i64 n.me.ix, .str n.me.tag, .int .i64 n.clock, .str n.psk, .int .i64 n.gateI, .str n.gateK, .bool n.ready, .slice 8 (n.pred.map Pr.cs), .slice 8 (n.list.map Pr.cs), .slice 9 (n.fingers.map Fg.cs), .usl 20 (n.sessions.map Se.cs), .usl 23 (n.pends.map Pd.cs), .slice 4 (n.items.map It.cs), .usl 29 (n.jobs.map Jb.cs), .int .i64 n.rid, .int .i64 n.jobId, .slice 1 (n.draws.map u64Row), .usl 8 (n.results.map Rs.cs), A], .agg [.str back.name, .int .u64 (back.id : Int), .int .i64 back.fr, .int .i64 back.un, .int .i64 back.ix, .str back.tag], .int .i64 rid, .int .i64 0, .agg [.str x.k, .str x.v, .int .i64 x.n, .bool x.g], .bool has, .int .i64 e] =
    some (.tup [], [.uptr [.str n.me.name, .int .u64 (n.me.id : Int), .int .i64 n.me.fr, .int .i64 n.me.un, .int .i64 n.me.ix, .str n.me.tag, .int .i64 n.clock, .str n.psk, .int .i64 n.gateI, .str n.gateK, .bool n.ready, .slice 8 (n.pred.map Pr.cs), .slice 8 (n.list.map Pr.cs), .slice 9 (n.fingers.map Fg.cs), .usl 20 (n.sessions.map Se.cs), .usl 23 (n.pends.map Pd.cs), .slice 4 (n.items.map It.cs), .usl 29 (n.jobs.map Jb.cs), .int .i64 n.rid, .int .i64 n.jobId, .slice 1 (n.draws.map u64Row), .usl 8 (n.results.map Rs.cs), .usl 20 ((acts ++ [doneA back rid x e]).map Ac.cs)]]) := by
  have ap := fun l : List Ac => (Ac_app l (doneA back rid x e)).symm
  rw [List.map_append]
  rcases hA with _ | l
  · rw [fn_textN Try.func45 rfl rfl Try.results45 fq45.1 rfl rfl (by kernel_rfl)]
    simp -implicitDefEqProofs -dsimp +contextual (maxSteps := 9999999) (disch := first | omega | simp only [go_sem] <;> omega | refine ib ?_; kernel_rfl) only [go_sem, seval, ↓reduceIte]
    rfl
  · rw [fn_textN Try.func45 rfl rfl Try.results45 fq45.1 rfl rfl (by kernel_rfl)]
    simp -implicitDefEqProofs -dsimp +contextual (maxSteps := 9999999) (disch := first | omega | simp only [go_sem] <;> omega | refine ib ?_; kernel_rfl) only [go_sem, seval, ↓reduceIte]
    rfl
set_option maxHeartbeats 8000000 in
theorem tellW1 (n : Nd) (A : AVal) (acts : List Ac) (hA : AcC A acts) (back : En) (rid job : Int) (x : It) (has : Bool) (e : Int) (hj : ¬ job = 0) (h : n.mid 1000000) : fn C 45 [] [.uptr [.str n.me.name, .int .u64 (n.me.id : Int), .int .i64 n.me.fr, .int .i64 n.me.un, .int .i64 n.me.ix, .str n.me.tag, .int .i64 n.clock, .str n.psk, .int .i64 n.gateI, .str n.gateK, .bool n.ready, .slice 8 (n.pred.map Pr.cs), .slice 8 (n.list.map Pr.cs), .slice 9 (n.fingers.map Fg.cs), .usl 20 (n.sessions.map Se.cs), .usl 23 (n.pends.map Pd.cs), .slice 4 (n.items.map It.cs), .usl 29 (n.jobs.map Jb.cs), .int .i64 n.rid, .int .i64 n.jobId, .slice 1 (n.draws.map u64Row), .usl 8 (n.results.map Rs.cs), A], .agg [.str back.name, .int .u64 (back.id : Int), .int .i64 back.fr, .int .i64 back.un, .int .i64 back.ix, .str back.tag], .int .i64 rid, .int .i64 job, .agg [.str x.k, .str x.v, .int .i64 x.n, .bool x.g], .bool has, .int .i64 e] =
    some (.tup [], [.uptr [.str n.me.name, .int .u64 (n.me.id : Int), .int .i64 n.me.fr, .int .i64 n.me.un, .int .i64 n.me.ix, .str n.me.tag, .int .i64 n.clock, .str n.psk, .int .i64 n.gateI, .str n.gateK, .bool n.ready, .slice 8 (n.pred.map Pr.cs), .slice 8 (n.list.map Pr.cs), .slice 9 (n.fingers.map Fg.cs), .usl 20 (n.sessions.map Se.cs), .usl 23 (n.pends.map Pd.cs), .slice 4 (n.items.map It.cs), .usl 29 ((settleR n job x has e).jobs.map Jb.cs), .int .i64 n.rid, .int .i64 n.jobId, .slice 1 (n.draws.map u64Row), .usl 8 ((settleR n job x has e).results.map Rs.cs), A]]) := by
  have st := settleW n A acts hA job x has e h
  rcases hA with _ | l
  · rw [fn_textN Try.func45 rfl rfl Try.results45 fq45.1 rfl rfl (by kernel_rfl)]
    simp -implicitDefEqProofs -dsimp +contextual (maxSteps := 9999999) (disch := first | omega | simp only [go_sem] <;> omega | refine ib ?_; kernel_rfl) only [go_sem, seval, ↓reduceIte, hj, st]
  · rw [fn_textN Try.func45 rfl rfl Try.results45 fq45.1 rfl rfl (by kernel_rfl)]
    simp -implicitDefEqProofs -dsimp +contextual (maxSteps := 9999999) (disch := first | omega | simp only [go_sem] <;> omega | refine ib ?_; kernel_rfl) only [go_sem, seval, ↓reduceIte, hj, st]

end Go.Proofs.Ytmfcabokoijcdaa
