import Derived.Test.YtccfjidpdlfenaaDoorTOwn_concat
import Derived.Test.YtccfjidpdlfenaaDoorTOwn_concat
import Derived.Test.YtccfjidpdlfenaaDoorShelf
import Derived.Lib.AppendIntMem
namespace Go.Proofs.YtccfjidpdlfenaaDoor
open Go.Am
set_option linter.unusedSimpArgs false
set_option linter.unusedVariables false
set_option maxRecDepth 100000

/-! Functions of the library, by their contracts. -/
theorem own_85_0 : Am.Spec E 85 [.slice 4 []] (.slice 4 []) [] := by
  refine spec_empty (fun c => ?_) (fun a c => ?_)
  · refine fnE_sound (X := C0.X) (M := C0.M) mixed (fun f g ex ds q h => by cases h) (q := (.slice 4 [], [])) ?_
    show fn C0 85 [] _ = _
    rw [fn_text Tryd.func85 rfl rfl Tryd.results85 locM85 rfl rfl (by kernel_rfl)]
    simp -implicitDefEqProofs -dsimp +contextual (maxSteps := 5000000) (disch := first | omega | (simp only [go_sem] <;> omega) | (show indepB _ _ = true; refine id ?_; kernel_rfl)) only [go_sem, ↓reduceIte, Nat.reduceEqDiff, Nat.reduceBEq, Nat.reduceAdd, Nat.reduceSub, Nat.reduceLeDiff, Nat.reduceLT, Nat.reduceMul, Int.reduceNeg, Int.reduceLT, Int.reduceLE, Int.reduceAdd, Int.reduceSub, Int.reduceToNat, Int.reduceMul, Int.reduceMod, Int.reduceTMod, Int.reduceTDiv, Int.reduceEq, Nat.reducePow, Nat.reduceDiv, Nat.reduceShiftRight, Nat.reduceMod, List.reduceReplicate]
  · refine fnE_sound (X := C0.X) (M := C0.M) mixed (fun f g ex ds q h => by cases h) (q := (.slice 4 [], [])) ?_
    show fn C0 85 [] _ = _
    rw [fn_text Tryd.func85 rfl rfl Tryd.results85 locM85 rfl rfl (by kernel_rfl)]
    simp -implicitDefEqProofs -dsimp +contextual (maxSteps := 5000000) (disch := first | omega | (simp only [go_sem] <;> omega) | (show indepB _ _ = true; refine id ?_; kernel_rfl)) only [go_sem, ↓reduceIte, Nat.reduceEqDiff, Nat.reduceBEq, Nat.reduceAdd, Nat.reduceSub, Nat.reduceLeDiff, Nat.reduceLT, Nat.reduceMul, Int.reduceNeg, Int.reduceLT, Int.reduceLE, Int.reduceAdd, Int.reduceSub, Int.reduceToNat, Int.reduceMul, Int.reduceMod, Int.reduceTMod, Int.reduceTDiv, Int.reduceEq, Nat.reducePow, Nat.reduceDiv, Nat.reduceShiftRight, Nat.reduceMod, List.reduceReplicate]
theorem own_85 (r : List AVal) (rs : List (List AVal)) (h : okRows (r :: rs) = true) : Am.Spec E 85 [.slice 4 (r :: rs)] (.slice 4 (r :: rs)) [] := by
  simp only [okRows, Bool.and_eq_true, decide_eq_true_eq, List.all_cons, ones_cons, List.length_cons] at h
  obtain ⟨h1, ⟨h2, h3⟩, h4, h5⟩ := h
  refine fnE_sound (X := C0.X) (M := C0.M) mixed (fun f g ex ds q h => by cases h) (q := (.slice 4 (r :: rs), [])) ?_
  show fn C0 85 [] _ = _
  rw [fn_text Tryd.func85 rfl rfl Tryd.results85 locM85 rfl rfl (by kernel_rfl)]
  simp -implicitDefEqProofs -dsimp +contextual (maxSteps := 5000000) (disch := first | omega | (simp only [go_sem] <;> omega) | (show indepB _ _ = true; refine id ?_; kernel_rfl)) only [go_sem, ↓reduceIte, Nat.reduceEqDiff, Nat.reduceBEq, Nat.reduceAdd, Nat.reduceSub, Nat.reduceLeDiff, Nat.reduceLT, Nat.reduceMul, Int.reduceNeg, Int.reduceLT, Int.reduceLE, Int.reduceAdd, Int.reduceSub, Int.reduceToNat, Int.reduceMul, Int.reduceMod, Int.reduceTMod, Int.reduceTDiv, Int.reduceEq, Nat.reducePow, Nat.reduceDiv, Nat.reduceShiftRight, Nat.reduceMod, List.reduceReplicate, h2, h3, h4, h5]

/-- slices.Clone, handed over whole. -/
def cloneUO (st : Nat) : List Nat → List AVal → Option Res := fun _ ds => match ds with
  | [.slice st' es] => gu (st' = st) (gu (okRows es = true) (some (.usl st es, [])))
  | _ => none

theorem cloneUO_ok {E : Env} {f : FuncId} {st : Nat} (h0 : Am.Spec E f [.slice st []] (.usl st []) []) (h : ∀ r rs, okRows (r :: rs) = true → Am.Spec E f [.slice st (r :: rs)] (.usl st (r :: rs)) []) :
    ∀ ex ds q, cloneUO st ex ds = some q → SpecX E ex f ds q.1 q.2 := by
  intro ex ds q hq
  unfold cloneUO at hq
  split at hq
  · rename_i st' es
    simp only [gu_some, Option.some.injEq] at hq
    obtain ⟨rfl, h1, rfl⟩ := hq
    refine specX_of_spec ?_
    cases es with
    | nil => exact h0
    | cons r rs => exact h r rs h1
  · cases hq

theorem cloneB_0 : Am.Spec E 168 [.slice 1 []] (.usl 1 []) [] := by
  refine spec_empty (fun c => ?_) (fun a c => ?_)
  · refine fnE_sound (X := C0.X) (M := C0.M) mixed (fun f g ex ds q h => by cases h) (q := (.usl 1 [], [])) ?_
    show fn C0 168 [] _ = _
    rw [fn_text Tryd.func168 rfl rfl Tryd.results168 locM168 rfl rfl (by kernel_rfl)]
    simp -implicitDefEqProofs -dsimp +contextual (maxSteps := 5000000) (disch := first | omega | (simp only [go_sem] <;> omega) | (show indepB _ _ = true; refine id ?_; kernel_rfl)) only [go_sem, ↓reduceIte, Nat.reduceEqDiff, Nat.reduceBEq, Nat.reduceAdd, Nat.reduceSub, Nat.reduceLeDiff, Nat.reduceLT, Nat.reduceMul, Int.reduceNeg, Int.reduceLT, Int.reduceLE, Int.reduceAdd, Int.reduceSub, Int.reduceToNat, Int.reduceMul, Int.reduceMod, Int.reduceTMod, Int.reduceTDiv, Int.reduceEq, Nat.reducePow, Nat.reduceDiv, Nat.reduceShiftRight, Nat.reduceMod, List.reduceReplicate]
  · refine fnE_sound (X := C0.X) (M := C0.M) mixed (fun f g ex ds q h => by cases h) (q := (.usl 1 [], [])) ?_
    show fn C0 168 [] _ = _
    rw [fn_text Tryd.func168 rfl rfl Tryd.results168 locM168 rfl rfl (by kernel_rfl)]
    simp -implicitDefEqProofs -dsimp +contextual (maxSteps := 5000000) (disch := first | omega | (simp only [go_sem] <;> omega) | (show indepB _ _ = true; refine id ?_; kernel_rfl)) only [go_sem, ↓reduceIte, Nat.reduceEqDiff, Nat.reduceBEq, Nat.reduceAdd, Nat.reduceSub, Nat.reduceLeDiff, Nat.reduceLT, Nat.reduceMul, Int.reduceNeg, Int.reduceLT, Int.reduceLE, Int.reduceAdd, Int.reduceSub, Int.reduceToNat, Int.reduceMul, Int.reduceMod, Int.reduceTMod, Int.reduceTDiv, Int.reduceEq, Nat.reducePow, Nat.reduceDiv, Nat.reduceShiftRight, Nat.reduceMod, List.reduceReplicate]
theorem cloneB_1 (r : List AVal) (rs : List (List AVal)) (h : okRows (r :: rs) = true) : Am.Spec E 168 [.slice 1 (r :: rs)] (.usl 1 (r :: rs)) [] := by
  simp only [okRows, Bool.and_eq_true, decide_eq_true_eq, List.all_cons, ones_cons, List.length_cons] at h
  obtain ⟨h1, ⟨h2, h3⟩, h4, h5⟩ := h
  refine fnE_sound (X := C0.X) (M := C0.M) mixed (fun f g ex ds q h => by cases h) (q := (.usl 1 (r :: rs), [])) ?_
  show fn C0 168 [] _ = _
  rw [fn_text Tryd.func168 rfl rfl Tryd.results168 locM168 rfl rfl (by kernel_rfl)]
  simp -implicitDefEqProofs -dsimp +contextual (maxSteps := 5000000) (disch := first | omega | (simp only [go_sem] <;> omega) | (show indepB _ _ = true; refine id ?_; kernel_rfl)) only [go_sem, ↓reduceIte, Nat.reduceEqDiff, Nat.reduceBEq, Nat.reduceAdd, Nat.reduceSub, Nat.reduceLeDiff, Nat.reduceLT, Nat.reduceMul, Int.reduceNeg, Int.reduceLT, Int.reduceLE, Int.reduceAdd, Int.reduceSub, Int.reduceToNat, Int.reduceMul, Int.reduceMod, Int.reduceTMod, Int.reduceTDiv, Int.reduceEq, Nat.reducePow, Nat.reduceDiv, Nat.reduceShiftRight, Nat.reduceMod, List.reduceReplicate, h2, h3, h4, h5]
def cloneB : List Nat → List AVal → Option Res := cloneUO 1
theorem cloneB_ok : ∀ ex ds q, cloneB ex ds = some q → SpecX E ex 168 ds q.1 q.2 := cloneUO_ok cloneB_0 cloneB_1

def itoaO : List Nat → List AVal → Option Res := fun _ ds => match ds with
  | [.int .i64 n] => gu (-9223372036854775808 ≤ n ∧ n ≤ 9223372036854775807) (some (.str (Lib.itoa n), []))
  | _ => none
theorem itoaO_ok : ∀ ex ds q, itoaO ex ds = some q → SpecX E ex 99 ds q.1 q.2 := by
  intro ex ds q hq
  unfold itoaO at hq
  split at hq
  · simp only [gu_some, Option.some.injEq] at hq
    obtain ⟨⟨h1, h2⟩, rfl⟩ := hq
    refine specX_of_spec (spec_below rfl (const_str _) fun S w xs U hG hst hor hnd hb => ?_)
    obtain ⟨y, ys, U1, U2, rfl, rfl, ⟨h3, rfl⟩, ⟨rfl, rfl⟩⟩ := hor
    simp only [CRel] at h3
    subst h3
    refine (Tryd.strconv_Itoa _ h1 h2 w (tabIs_of_glob (g := 1) (by kernel_rfl) (by kernel_rfl) hG)).mono ?_
    rintro e w' ⟨rfl, k, os, rfl⟩
    exact ⟨rfl, Lib.below_grow _ _ (Nat.le_refl _) _ _⟩
  · cases hq

def own : Own := ownOf [(85, cloneO 4), (99, itoaO), (130, concatO), (168, cloneB)]
noncomputable def C : Cf := ⟨E, M, own⟩
@[go_sem] theorem C_E : C.E = E := rfl
@[go_sem] theorem C_M : C.M = M := rfl
@[go_sem] theorem C_X : C.X = own := rfl
theorem own_ok : OwnOk C.E C.X := ownOf_ok fun p hp => by
  simp only [List.mem_cons, List.not_mem_nil, or_false] at hp
  rcases hp with rfl | rfl | rfl | rfl
  · exact cloneO_ok own_85_0 own_85
  · exact itoaO_ok
  · exact concatO_ok
  · exact cloneB_ok
theorem ow_99 (ex ds) : fn C 99 ex ds = itoaO ex ds := fn_own rfl ex ds
theorem ow_130 (ex ds) : fn C 130 ex ds = concatO ex ds := fn_own rfl ex ds
theorem ow_168 (ex ds) : fn C 168 ex ds = cloneB ex ds := fn_own rfl ex ds
@[go_sem] theorem cl_85 (es : List (List AVal)) : fn C 85 [] [.slice 4 es] = gu (okRows es = true) (some (.slice 4 es, [])) := by
  rw [fn_own (g := cloneO 4) rfl]
  simp [cloneO, gu]

@[go_sem] theorem e99 (n : Int) (h : -9223372036854775808 ≤ n ∧ n ≤ 9223372036854775807) : fn C 99 [] [.int .i64 n] = some (.str (Lib.itoa n), []) := by
  rw [ow_99]; simp only [itoaO, gu, h, if_true, and_self]

theorem unparts_two (a b : List UInt8) : unparts (List.map normRow [[.slice 1 (a.map byteRow)], [.slice 1 (b.map byteRow)]]) = some [a, b] := by
  simp [normRow, unparts, unbyte_map]
@[go_sem] theorem e130 (a b : List UInt8) (h : a.length + b.length ≤ 1000000000000) : fn C 130 [] [.slice 1 [[.slice 1 (a.map byteRow)], [.slice 1 (b.map byteRow)]]] = some (.slice 1 ((a ++ b).map byteRow), []) := by
  rw [ow_130]; simp only [concatO]; rw [unparts_two]; simp [gu, h]
theorem unparts_map (ps : List (List UInt8)) : unparts (ps.map partRow) = some ps := by
  induction ps with
  | nil => rfl
  | cons p ps ih => simp [unparts, partRow, unbyte_map] at ih ⊢; rw [ih]; rfl
theorem concat_all (p : List UInt8) (rs : List (List AVal)) (ps : List (List UInt8)) (hn : rs.map normRow = ps.map partRow) (h1 : ps.length ≤ 1000) (h : (p ++ ps.flatten).length ≤ 1000000000000) : fn C 130 [] [.slice 1 ([.slice 1 (p.map byteRow)] :: rs)] = some (.slice 1 ((p ++ ps.flatten).map byteRow), []) := by
  have e : ([.slice 1 (p.map byteRow)] :: rs).map normRow = (p :: ps).map partRow := by rw [List.map_cons, hn]; rfl
  rw [ow_130]
  simp only [concatO]
  rw [e]
  simp only [unparts_map, Option.bind_some, gu, List.flatten_cons]
  rw [if_pos ⟨by simp, by simp; omega, h⟩]
@[go_sem] theorem e168 (l : List UInt8) (h : l.length ≤ 1073741824) : fn C 168 [] [.slice 1 (l.map byteRow)] = some (.usl 1 (l.map byteRow), []) := by
  rw [ow_168]; simp [cloneB, cloneUO, gu, okRows_byte, h]

end Go.Proofs.YtccfjidpdlfenaaDoor
