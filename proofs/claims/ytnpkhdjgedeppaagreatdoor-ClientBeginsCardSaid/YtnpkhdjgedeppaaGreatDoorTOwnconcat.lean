import Derived.Test.YtnpkhdjgedeppaaGreatDoorFacts
import Derived.Test.YtnpkhdjgedeppaaGreatDoorTConcat
namespace Go.Proofs.YtnpkhdjgedeppaaGreatDoor
set_option maxHeartbeats 64000000
open Go.Am
set_option linter.unusedSimpArgs false
set_option linter.unusedVariables false
set_option maxRecDepth 100000
theorem slice_of_own {S : Nat → Prop} {U : List Nat} {w w' : World} {v : Value} {e : TypeId} {l : List UInt8} (h : w'.ownsRow w.heap.size e 1 v l.length (Lib.byteCells l)) : ORel (After S U w [] w') w' (.slice 1 (l.map byteRow)) v [] := by
  refine ⟨?_, rfl⟩
  rcases h.2 with ⟨rfl, h0⟩ | ⟨g, cap, cur, rfl, hbg, hg, hnc, hcm, hcs, htake⟩
  · obtain rfl : l = [] := List.length_eq_zero_iff.1 h0
    exact ⟨none, 0, rfl, Nat.le_refl _, fun h => absurd rfl h⟩
  · have hlt : g < w'.heap.size := by
      rcases Nat.lt_or_ge g w'.heap.size with h' | h'
      · exact h'
      · simp [Array.getElem?_eq_none h'] at hg
    refine ⟨_, cap, by rw [List.length_map], by rw [List.length_map]; exact hnc, fun _ => ⟨g, 0, rfl, ⟨hlt, by simp, .inr (.inl hbg)⟩, ?_⟩⟩
    rw [CRows_iff]
    intro i r hr
    simp only [List.getElem?_map, Option.map_eq_some_iff] at hr
    obtain ⟨c, hi, rfl⟩ := hr
    obtain ⟨hil, rfl⟩ := List.getElem?_eq_some_iff.1 hi
    refine ⟨rfl, ⟨_, ?_, rfl⟩, trivial⟩
    simp only [World.cell?, hg, Option.isSome_none, Bool.false_eq_true, if_false]
    have := congrArg (·[i]?) htake
    simp only [Nat.mul_one, Lib.byteCells, List.getElem?_map, hi, Option.map_some] at this
    rw [List.getElem?_take, if_pos hil] at this
    rw [Nat.zero_add, Nat.mul_one, ← Array.getElem?_toList]
    exact this
def partRow (l : List UInt8) : List AVal := [.slice 1 (l.map byteRow)]
def unparts : List (List AVal) → Option (List (List UInt8))
  | [] => some []
  | [.slice 1 es] :: rs => (unbyte es).bind fun l => (unparts rs).bind fun ls => some (l :: ls)
  | _ => none
theorem unparts_spec : ∀ (rs : List (List AVal)) (ps : List (List UInt8)), unparts rs = some ps → rs = ps.map partRow
  | [], ps, h => by simp only [unparts, Option.some.injEq] at h; subst h; rfl
  | r :: rs, ps, h => by
    unfold unparts at h
    split at h
    · rename_i e; cases e
    · rename_i es rs' e
      simp only [List.cons.injEq] at e
      obtain ⟨rfl, rfl⟩ := e
      simp only [Option.bind_eq_some_iff, Option.some.injEq] at h
      obtain ⟨l, h1, ls, h2, rfl⟩ := h
      have := unbyte_spec _ _ h1
      subst this
      have := unparts_spec _ _ h2
      subst this
      rfl
    · cases h
def normRow : List AVal → List AVal
  | [.sc (.slice none 0 0)] => [.slice 1 []]
  | r => r
theorem normRow_cells {S : Nat → Prop} {w : World} {b off : Nat} {r : List AVal} (h : r.length = 1 ∧ CCells S w b off r) : (normRow r).length = 1 ∧ CCells S w b off (normRow r) := by
  unfold normRow
  split
  · obtain ⟨_, ⟨⟨x, h1, h2⟩, _⟩⟩ := h
    refine ⟨rfl, ⟨x, h1, ?_⟩, trivial⟩
    simp only [CRel] at h2
    subst h2
    exact ⟨none, 0, rfl, Nat.le_refl _, fun h => absurd rfl h⟩
  · exact h
theorem normRow_rows {S : Nat → Prop} {w : World} {b : Nat} : ∀ {rs : List (List AVal)} {off : Nat}, CRows S w b off 1 rs → CRows S w b off 1 (rs.map normRow)
  | [], _, _ => trivial
  | r :: rs, off, ⟨h1, h2, h3⟩ => ⟨(normRow_cells ⟨h1, h2⟩).1, (normRow_cells ⟨h1, h2⟩).2, normRow_rows h3⟩
theorem concat_spec (rs : List (List AVal)) (ps : List (List UInt8)) (hn : rs.map normRow = ps.map partRow) (h0 : ps ≠ []) (h1 : ps.length ≤ 1000000) (h2 : ps.flatten.length ≤ 1000000000000) : Am.Spec E 262 [.slice 1 rs] (.slice 1 (ps.flatten.map byteRow)) [] := by
  intro S w xs U _ hG hst hor hnd hb
  obtain ⟨y, ys, U1, U2, rfl, rfl, ⟨⟨a, cap, rfl, _, hc⟩, rfl⟩, ⟨rfl, rfl⟩⟩ := hor
  have hlen : rs.length = ps.length := by have := congrArg List.length hn; simpa using this
  obtain ⟨b, off, rfl, hS, hr⟩ := hc (fun e => h0 (List.length_eq_zero_iff.1 (by rw [← hlen, e]; rfl)))
  have hr := normRow_rows hr
  rw [hn] at hr
  rw [hlen]
  refine (concat_walk ps b off cap w (hst b hS) h1 h2 fun i hi => ?_).mono ?_
  · rw [CRows_iff] at hr
    obtain ⟨_, h2⟩ := hr i (partRow ps[i]) (by simp [hi])
    obtain ⟨⟨x, h3, h4⟩, _⟩ := h2
    obtain ⟨a', cap', rfl, _, hc'⟩ := h4
    refine ⟨a', cap', by rw [List.length_map] at h3; simpa using h3, fun hne => ?_⟩
    obtain ⟨b', off', rfl, hS', hr'⟩ := hc' (by simpa using hne)
    refine ⟨b', off', rfl, hst b' hS', fun j hj => ?_⟩
    rw [CRows_iff] at hr'
    obtain ⟨_, g2⟩ := hr' j (byteRow ps[i][j]) (by simp [hj])
    obtain ⟨⟨x, g3, g4⟩, _⟩ := g2
    simp only [CRel] at g4
    subst g4
    simpa using g3
  · rintro e w' ⟨v, rfl, hown, hbl⟩
    exact ⟨v, [], rfl, Keep.same hbl.os hbl.tape hbl.output hbl.size (fun k hk => hbl.block k hk), ⟨v, [], [], [], rfl, rfl, slice_of_own hown, rfl, rfl⟩, List.nodup_nil, fun b hb => by cases hb⟩
def concatO : List Nat → List AVal → Option Res := fun _ ds => match ds with
  | [.slice 1 es] => (unparts (es.map normRow)).bind fun ps => gu (ps ≠ [] ∧ ps.length ≤ 1000000 ∧ ps.flatten.length ≤ 1000000000000) (some (.slice 1 (ps.flatten.map byteRow), []))
  | _ => none
theorem concatO_ok : ∀ ex ds q, concatO ex ds = some q → SpecX E ex 262 ds q.1 q.2 := by
  intro ex ds q hq
  unfold concatO at hq
  split at hq
  · rename_i es
    rw [Option.bind_eq_some_iff] at hq
    obtain ⟨ps, h1, h2⟩ := hq
    simp only [gu_some, Option.some.injEq] at h2
    obtain ⟨⟨g1, g2, g3⟩, rfl⟩ := h2
    exact specX_of_spec (concat_spec es ps (unparts_spec _ _ h1) g1 g2 g3)
  · cases hq
def cloneUO (st : Nat) : List Nat → List AVal → Option Res := fun _ ds => match ds with
  | [.slice st' es] => gu (st' = st) (gu (okRows es = true) (some (.usl st es, [])))
  | _ => none
theorem cloneUO_ok {E : Env} {f : FuncId} {st : Nat} (h0 : Am.Spec E f [.slice st []] (.usl st []) []) (h : ∀ r rs, okRows (r :: rs) = true → Am.Spec E f [.slice st (r :: rs)] (.usl st (r :: rs)) []) :
    ∀ ex ds q, cloneUO st ex ds = some q → SpecX E ex f ds q.1 q.2 := by
  intro ex ds q hq
  unfold cloneUO at hq
  split at hq
  · rename_i st' es
    simp only [gu_some, Option.some.injEq] at hq
    obtain ⟨rfl, h1, rfl⟩ := hq
    refine specX_of_spec ?_
    cases es with
    | nil => exact h0
    | cons r rs => exact h r rs h1
  · cases hq
theorem cloneX_ok {E : Env} {f : FuncId} {st : Nat} (h0 : Am.Spec E f [.slice st []] (.usl st []) []) (h : ∀ r rs, okRows (r :: rs) = true → Am.Spec E f [.slice st (r :: rs)] (.usl st (r :: rs)) []) :
    ∀ ex ds q, cloneO st ex ds = some q → SpecX E ex f ds q.1 q.2 := by
  intro ex ds q hq
  unfold cloneO at hq
  split at hq
  · rename_i st' es
    simp only [gu_some, Option.some.injEq] at hq
    obtain ⟨rfl, h1, rfl⟩ := hq
    exact specX_close (cloneUO_ok h0 h ex [.slice st' es] (.usl st' es, []) (by simp [cloneUO, gu, h1]))
  · cases hq
def strRow (s : List UInt8) : List AVal := [.str s]
@[go_sem] theorem strRow_eq (s : List UInt8) : strRow s = [.str s] := rfl
attribute [go_sem] ite_self
theorem own_58_0 : Am.Spec E 58 [.slice 4 []] (.slice 4 []) [] := by
  refine spec_empty (fun c => ?_) (fun a c => ?_)
  · refine fnE_sound (X := C0.X) (M := C0.M) mixed (fun f g ex ds q h => by cases h) (q := (.slice 4 [], [])) ?_
    show fn C0 58 [] _ = _
    rw [fn_text Tryz.func58 rfl rfl Tryz.results58 fq58.1 rfl rfl (by kernel_rfl)]
    simp -implicitDefEqProofs -dsimp +contextual (maxSteps := 9999999) (disch := first | omega | simp only [go_sem] <;> omega | refine ib ?_; kernel_rfl) only [go_sem, seval, ↓reduceIte]
  · refine fnE_sound (X := C0.X) (M := C0.M) mixed (fun f g ex ds q h => by cases h) (q := (.slice 4 [], [])) ?_
    show fn C0 58 [] _ = _
    rw [fn_text Tryz.func58 rfl rfl Tryz.results58 fq58.1 rfl rfl (by kernel_rfl)]
    simp -implicitDefEqProofs -dsimp +contextual (maxSteps := 9999999) (disch := first | omega | simp only [go_sem] <;> omega | refine ib ?_; kernel_rfl) only [go_sem, seval, ↓reduceIte]
theorem own_58 (r : List AVal) (rs : List (List AVal)) (h : okRows (r :: rs) = true) : Am.Spec E 58 [.slice 4 (r :: rs)] (.slice 4 (r :: rs)) [] := by
  simp only [okRows, Bool.and_eq_true, decide_eq_true_eq, List.all_cons, ones_cons, List.length_cons] at h
  obtain ⟨h1, ⟨h2, h3⟩, h4, h5⟩ := h
  refine fnE_sound (X := C0.X) (M := C0.M) mixed (fun f g ex ds q h => by cases h) (q := (.slice 4 (r :: rs), [])) ?_
  show fn C0 58 [] _ = _
  rw [fn_text Tryz.func58 rfl rfl Tryz.results58 fq58.1 rfl rfl (by kernel_rfl)]
  simp -implicitDefEqProofs -dsimp +contextual (maxSteps := 9999999) (disch := first | omega | simp only [go_sem] <;> omega | refine ib ?_; kernel_rfl) only [go_sem, seval, ↓reduceIte, h2, h3, h4, h5]
theorem own_54_0 : Am.Spec E 54 [.slice 8 []] (.usl 8 []) [] := by
  refine spec_empty (fun c => ?_) (fun a c => ?_)
  · refine fnE_sound (X := C0.X) (M := C0.M) mixed (fun f g ex ds q h => by cases h) (q := (.usl 8 [], [])) ?_
    show fn C0 54 [] _ = _
    rw [fn_text Tryz.func54 rfl rfl Tryz.results54 fq54.1 rfl rfl (by kernel_rfl)]
    simp -implicitDefEqProofs -dsimp +contextual (maxSteps := 9999999) (disch := first | omega | simp only [go_sem] <;> omega | refine ib ?_; kernel_rfl) only [go_sem, seval, ↓reduceIte]
  · refine fnE_sound (X := C0.X) (M := C0.M) mixed (fun f g ex ds q h => by cases h) (q := (.usl 8 [], [])) ?_
    show fn C0 54 [] _ = _
    rw [fn_text Tryz.func54 rfl rfl Tryz.results54 fq54.1 rfl rfl (by kernel_rfl)]
    simp -implicitDefEqProofs -dsimp +contextual (maxSteps := 9999999) (disch := first | omega | simp only [go_sem] <;> omega | refine ib ?_; kernel_rfl) only [go_sem, seval, ↓reduceIte]
theorem own_54 (r : List AVal) (rs : List (List AVal)) (h : okRows (r :: rs) = true) : Am.Spec E 54 [.slice 8 (r :: rs)] (.usl 8 (r :: rs)) [] := by
  simp only [okRows, Bool.and_eq_true, decide_eq_true_eq, List.all_cons, ones_cons, List.length_cons] at h
  obtain ⟨h1, ⟨h2, h3⟩, h4, h5⟩ := h
  refine fnE_sound (X := C0.X) (M := C0.M) mixed (fun f g ex ds q h => by cases h) (q := (.usl 8 (r :: rs), [])) ?_
  show fn C0 54 [] _ = _
  rw [fn_text Tryz.func54 rfl rfl Tryz.results54 fq54.1 rfl rfl (by kernel_rfl)]
  simp -implicitDefEqProofs -dsimp +contextual (maxSteps := 9999999) (disch := first | omega | simp only [go_sem] <;> omega | refine ib ?_; kernel_rfl) only [go_sem, seval, ↓reduceIte, h2, h3, h4, h5]
theorem own_55_0 : Am.Spec E 55 [.slice 9 []] (.usl 9 []) [] := by
  refine spec_empty (fun c => ?_) (fun a c => ?_)
  · refine fnE_sound (X := C0.X) (M := C0.M) mixed (fun f g ex ds q h => by cases h) (q := (.usl 9 [], [])) ?_
    show fn C0 55 [] _ = _
    rw [fn_text Tryz.func55 rfl rfl Tryz.results55 fq55.1 rfl rfl (by kernel_rfl)]
    simp -implicitDefEqProofs -dsimp +contextual (maxSteps := 9999999) (disch := first | omega | simp only [go_sem] <;> omega | refine ib ?_; kernel_rfl) only [go_sem, seval, ↓reduceIte]
  · refine fnE_sound (X := C0.X) (M := C0.M) mixed (fun f g ex ds q h => by cases h) (q := (.usl 9 [], [])) ?_
    show fn C0 55 [] _ = _
    rw [fn_text Tryz.func55 rfl rfl Tryz.results55 fq55.1 rfl rfl (by kernel_rfl)]
    simp -implicitDefEqProofs -dsimp +contextual (maxSteps := 9999999) (disch := first | omega | simp only [go_sem] <;> omega | refine ib ?_; kernel_rfl) only [go_sem, seval, ↓reduceIte]
theorem own_55 (r : List AVal) (rs : List (List AVal)) (h : okRows (r :: rs) = true) : Am.Spec E 55 [.slice 9 (r :: rs)] (.usl 9 (r :: rs)) [] := by
  simp only [okRows, Bool.and_eq_true, decide_eq_true_eq, List.all_cons, ones_cons, List.length_cons] at h
  obtain ⟨h1, ⟨h2, h3⟩, h4, h5⟩ := h
  refine fnE_sound (X := C0.X) (M := C0.M) mixed (fun f g ex ds q h => by cases h) (q := (.usl 9 (r :: rs), [])) ?_
  show fn C0 55 [] _ = _
  rw [fn_text Tryz.func55 rfl rfl Tryz.results55 fq55.1 rfl rfl (by kernel_rfl)]
  simp -implicitDefEqProofs -dsimp +contextual (maxSteps := 9999999) (disch := first | omega | simp only [go_sem] <;> omega | refine ib ?_; kernel_rfl) only [go_sem, seval, ↓reduceIte, h2, h3, h4, h5]
theorem own_210_0 : Am.Spec E 210 [.slice 6 []] (.slice 6 []) [] := by
  refine spec_empty (fun c => ?_) (fun a c => ?_)
  · refine fnE_sound (X := C0.X) (M := C0.M) mixed (fun f g ex ds q h => by cases h) (q := (.slice 6 [], [])) ?_
    show fn C0 210 [] _ = _
    rw [fn_text Tryz.func210 rfl rfl Tryz.results210 fq210.1 rfl rfl (by kernel_rfl)]
    simp -implicitDefEqProofs -dsimp +contextual (maxSteps := 9999999) (disch := first | omega | simp only [go_sem] <;> omega | refine ib ?_; kernel_rfl) only [go_sem, seval, ↓reduceIte]
  · refine fnE_sound (X := C0.X) (M := C0.M) mixed (fun f g ex ds q h => by cases h) (q := (.slice 6 [], [])) ?_
    show fn C0 210 [] _ = _
    rw [fn_text Tryz.func210 rfl rfl Tryz.results210 fq210.1 rfl rfl (by kernel_rfl)]
    simp -implicitDefEqProofs -dsimp +contextual (maxSteps := 9999999) (disch := first | omega | simp only [go_sem] <;> omega | refine ib ?_; kernel_rfl) only [go_sem, seval, ↓reduceIte]
theorem own_210 (r : List AVal) (rs : List (List AVal)) (h : okRows (r :: rs) = true) : Am.Spec E 210 [.slice 6 (r :: rs)] (.slice 6 (r :: rs)) [] := by
  simp only [okRows, Bool.and_eq_true, decide_eq_true_eq, List.all_cons, ones_cons, List.length_cons] at h
  obtain ⟨h1, ⟨h2, h3⟩, h4, h5⟩ := h
  refine fnE_sound (X := C0.X) (M := C0.M) mixed (fun f g ex ds q h => by cases h) (q := (.slice 6 (r :: rs), [])) ?_
  show fn C0 210 [] _ = _
  rw [fn_text Tryz.func210 rfl rfl Tryz.results210 fq210.1 rfl rfl (by kernel_rfl)]
  simp -implicitDefEqProofs -dsimp +contextual (maxSteps := 9999999) (disch := first | omega | simp only [go_sem] <;> omega | refine ib ?_; kernel_rfl) only [go_sem, seval, ↓reduceIte, h2, h3, h4, h5]
theorem own_60_0 : Am.Spec E 60 [.slice 1 []] (.slice 1 []) [] := by
  refine spec_empty (fun c => ?_) (fun a c => ?_)
  · refine fnE_sound (X := C0.X) (M := C0.M) mixed (fun f g ex ds q h => by cases h) (q := (.slice 1 [], [])) ?_
    show fn C0 60 [] _ = _
    rw [fn_text Tryz.func60 rfl rfl Tryz.results60 fq60.1 rfl rfl (by kernel_rfl)]
    simp -implicitDefEqProofs -dsimp +contextual (maxSteps := 9999999) (disch := first | omega | simp only [go_sem] <;> omega | refine ib ?_; kernel_rfl) only [go_sem, seval, ↓reduceIte]
  · refine fnE_sound (X := C0.X) (M := C0.M) mixed (fun f g ex ds q h => by cases h) (q := (.slice 1 [], [])) ?_
    show fn C0 60 [] _ = _
    rw [fn_text Tryz.func60 rfl rfl Tryz.results60 fq60.1 rfl rfl (by kernel_rfl)]
    simp -implicitDefEqProofs -dsimp +contextual (maxSteps := 9999999) (disch := first | omega | simp only [go_sem] <;> omega | refine ib ?_; kernel_rfl) only [go_sem, seval, ↓reduceIte]
theorem own_60 (r : List AVal) (rs : List (List AVal)) (h : okRows (r :: rs) = true) : Am.Spec E 60 [.slice 1 (r :: rs)] (.slice 1 (r :: rs)) [] := by
  simp only [okRows, Bool.and_eq_true, decide_eq_true_eq, List.all_cons, ones_cons, List.length_cons] at h
  obtain ⟨h1, ⟨h2, h3⟩, h4, h5⟩ := h
  refine fnE_sound (X := C0.X) (M := C0.M) mixed (fun f g ex ds q h => by cases h) (q := (.slice 1 (r :: rs), [])) ?_
  show fn C0 60 [] _ = _
  rw [fn_text Tryz.func60 rfl rfl Tryz.results60 fq60.1 rfl rfl (by kernel_rfl)]
  simp -implicitDefEqProofs -dsimp +contextual (maxSteps := 9999999) (disch := first | omega | simp only [go_sem] <;> omega | refine ib ?_; kernel_rfl) only [go_sem, seval, ↓reduceIte, h2, h3, h4, h5]
theorem own_56_0 : Am.Spec E 56 [.slice 20 []] (.usl 20 []) [] := by
  refine spec_empty (fun c => ?_) (fun a c => ?_)
  · refine fnE_sound (X := C0.X) (M := C0.M) mixed (fun f g ex ds q h => by cases h) (q := (.usl 20 [], [])) ?_
    show fn C0 56 [] _ = _
    rw [fn_text Tryz.func56 rfl rfl Tryz.results56 fq56.1 rfl rfl (by kernel_rfl)]
    simp -implicitDefEqProofs -dsimp +contextual (maxSteps := 9999999) (disch := first | omega | simp only [go_sem] <;> omega | refine ib ?_; kernel_rfl) only [go_sem, seval, ↓reduceIte]
  · refine fnE_sound (X := C0.X) (M := C0.M) mixed (fun f g ex ds q h => by cases h) (q := (.usl 20 [], [])) ?_
    show fn C0 56 [] _ = _
    rw [fn_text Tryz.func56 rfl rfl Tryz.results56 fq56.1 rfl rfl (by kernel_rfl)]
    simp -implicitDefEqProofs -dsimp +contextual (maxSteps := 9999999) (disch := first | omega | simp only [go_sem] <;> omega | refine ib ?_; kernel_rfl) only [go_sem, seval, ↓reduceIte]
theorem own_56 (r : List AVal) (rs : List (List AVal)) (h : okRows (r :: rs) = true) : Am.Spec E 56 [.slice 20 (r :: rs)] (.usl 20 (r :: rs)) [] := by
  simp only [okRows, Bool.and_eq_true, decide_eq_true_eq, List.all_cons, ones_cons, List.length_cons] at h
  obtain ⟨h1, ⟨h2, h3⟩, h4, h5⟩ := h
  refine fnE_sound (X := C0.X) (M := C0.M) mixed (fun f g ex ds q h => by cases h) (q := (.usl 20 (r :: rs), [])) ?_
  show fn C0 56 [] _ = _
  rw [fn_text Tryz.func56 rfl rfl Tryz.results56 fq56.1 rfl rfl (by kernel_rfl)]
  simp -implicitDefEqProofs -dsimp +contextual (maxSteps := 9999999) (disch := first | omega | simp only [go_sem] <;> omega | refine ib ?_; kernel_rfl) only [go_sem, seval, ↓reduceIte, h2, h3, h4, h5]
theorem own_147_0 : Am.Spec E 147 [.slice 23 []] (.usl 23 []) [] := by
  refine spec_empty (fun c => ?_) (fun a c => ?_)
  · refine fnE_sound (X := C0.X) (M := C0.M) mixed (fun f g ex ds q h => by cases h) (q := (.usl 23 [], [])) ?_
    show fn C0 147 [] _ = _
    rw [fn_text Tryz.func147 rfl rfl Tryz.results147 fq147.1 rfl rfl (by kernel_rfl)]
    simp -implicitDefEqProofs -dsimp +contextual (maxSteps := 9999999) (disch := first | omega | simp only [go_sem] <;> omega | refine ib ?_; kernel_rfl) only [go_sem, seval, ↓reduceIte]
  · refine fnE_sound (X := C0.X) (M := C0.M) mixed (fun f g ex ds q h => by cases h) (q := (.usl 23 [], [])) ?_
    show fn C0 147 [] _ = _
    rw [fn_text Tryz.func147 rfl rfl Tryz.results147 fq147.1 rfl rfl (by kernel_rfl)]
    simp -implicitDefEqProofs -dsimp +contextual (maxSteps := 9999999) (disch := first | omega | simp only [go_sem] <;> omega | refine ib ?_; kernel_rfl) only [go_sem, seval, ↓reduceIte]
theorem own_147 (r : List AVal) (rs : List (List AVal)) (h : okRows (r :: rs) = true) : Am.Spec E 147 [.slice 23 (r :: rs)] (.usl 23 (r :: rs)) [] := by
  simp only [okRows, Bool.and_eq_true, decide_eq_true_eq, List.all_cons, ones_cons, List.length_cons] at h
  obtain ⟨h1, ⟨h2, h3⟩, h4, h5⟩ := h
  refine fnE_sound (X := C0.X) (M := C0.M) mixed (fun f g ex ds q h => by cases h) (q := (.usl 23 (r :: rs), [])) ?_
  show fn C0 147 [] _ = _
  rw [fn_text Tryz.func147 rfl rfl Tryz.results147 fq147.1 rfl rfl (by kernel_rfl)]
  simp -implicitDefEqProofs -dsimp +contextual (maxSteps := 9999999) (disch := first | omega | simp only [go_sem] <;> omega | refine ib ?_; kernel_rfl) only [go_sem, seval, ↓reduceIte, h2, h3, h4, h5]
theorem own_59_0 : Am.Spec E 59 [.slice 29 []] (.usl 29 []) [] := by
  refine spec_empty (fun c => ?_) (fun a c => ?_)
  · refine fnE_sound (X := C0.X) (M := C0.M) mixed (fun f g ex ds q h => by cases h) (q := (.usl 29 [], [])) ?_
    show fn C0 59 [] _ = _
    rw [fn_text Tryz.func59 rfl rfl Tryz.results59 fq59.1 rfl rfl (by kernel_rfl)]
    simp -implicitDefEqProofs -dsimp +contextual (maxSteps := 9999999) (disch := first | omega | simp only [go_sem] <;> omega | refine ib ?_; kernel_rfl) only [go_sem, seval, ↓reduceIte]
  · refine fnE_sound (X := C0.X) (M := C0.M) mixed (fun f g ex ds q h => by cases h) (q := (.usl 29 [], [])) ?_
    show fn C0 59 [] _ = _
    rw [fn_text Tryz.func59 rfl rfl Tryz.results59 fq59.1 rfl rfl (by kernel_rfl)]
    simp -implicitDefEqProofs -dsimp +contextual (maxSteps := 9999999) (disch := first | omega | simp only [go_sem] <;> omega | refine ib ?_; kernel_rfl) only [go_sem, seval, ↓reduceIte]
theorem own_59 (r : List AVal) (rs : List (List AVal)) (h : okRows (r :: rs) = true) : Am.Spec E 59 [.slice 29 (r :: rs)] (.usl 29 (r :: rs)) [] := by
  simp only [okRows, Bool.and_eq_true, decide_eq_true_eq, List.all_cons, ones_cons, List.length_cons] at h
  obtain ⟨h1, ⟨h2, h3⟩, h4, h5⟩ := h
  refine fnE_sound (X := C0.X) (M := C0.M) mixed (fun f g ex ds q h => by cases h) (q := (.usl 29 (r :: rs), [])) ?_
  show fn C0 59 [] _ = _
  rw [fn_text Tryz.func59 rfl rfl Tryz.results59 fq59.1 rfl rfl (by kernel_rfl)]
  simp -implicitDefEqProofs -dsimp +contextual (maxSteps := 9999999) (disch := first | omega | simp only [go_sem] <;> omega | refine ib ?_; kernel_rfl) only [go_sem, seval, ↓reduceIte, h2, h3, h4, h5]
theorem own_61_0 : Am.Spec E 61 [.slice 8 []] (.usl 8 []) [] := by
  refine spec_empty (fun c => ?_) (fun a c => ?_)
  · refine fnE_sound (X := C0.X) (M := C0.M) mixed (fun f g ex ds q h => by cases h) (q := (.usl 8 [], [])) ?_
    show fn C0 61 [] _ = _
    rw [fn_text Tryz.func61 rfl rfl Tryz.results61 fq61.1 rfl rfl (by kernel_rfl)]
    simp -implicitDefEqProofs -dsimp +contextual (maxSteps := 9999999) (disch := first | omega | simp only [go_sem] <;> omega | refine ib ?_; kernel_rfl) only [go_sem, seval, ↓reduceIte]
  · refine fnE_sound (X := C0.X) (M := C0.M) mixed (fun f g ex ds q h => by cases h) (q := (.usl 8 [], [])) ?_
    show fn C0 61 [] _ = _
    rw [fn_text Tryz.func61 rfl rfl Tryz.results61 fq61.1 rfl rfl (by kernel_rfl)]
    simp -implicitDefEqProofs -dsimp +contextual (maxSteps := 9999999) (disch := first | omega | simp only [go_sem] <;> omega | refine ib ?_; kernel_rfl) only [go_sem, seval, ↓reduceIte]
theorem own_61 (r : List AVal) (rs : List (List AVal)) (h : okRows (r :: rs) = true) : Am.Spec E 61 [.slice 8 (r :: rs)] (.usl 8 (r :: rs)) [] := by
  simp only [okRows, Bool.and_eq_true, decide_eq_true_eq, List.all_cons, ones_cons, List.length_cons] at h
  obtain ⟨h1, ⟨h2, h3⟩, h4, h5⟩ := h
  refine fnE_sound (X := C0.X) (M := C0.M) mixed (fun f g ex ds q h => by cases h) (q := (.usl 8 (r :: rs), [])) ?_
  show fn C0 61 [] _ = _
  rw [fn_text Tryz.func61 rfl rfl Tryz.results61 fq61.1 rfl rfl (by kernel_rfl)]
  simp -implicitDefEqProofs -dsimp +contextual (maxSteps := 9999999) (disch := first | omega | simp only [go_sem] <;> omega | refine ib ?_; kernel_rfl) only [go_sem, seval, ↓reduceIte, h2, h3, h4, h5]
theorem own_62_0 : Am.Spec E 62 [.slice 1 []] (.usl 1 []) [] := by
  refine spec_empty (fun c => ?_) (fun a c => ?_)
  · refine fnE_sound (X := C0.X) (M := C0.M) mixed (fun f g ex ds q h => by cases h) (q := (.usl 1 [], [])) ?_
    show fn C0 62 [] _ = _
    rw [fn_text Tryz.func62 rfl rfl Tryz.results62 fq62.1 rfl rfl (by kernel_rfl)]
    simp -implicitDefEqProofs -dsimp +contextual (maxSteps := 9999999) (disch := first | omega | simp only [go_sem] <;> omega | refine ib ?_; kernel_rfl) only [go_sem, seval, ↓reduceIte]
  · refine fnE_sound (X := C0.X) (M := C0.M) mixed (fun f g ex ds q h => by cases h) (q := (.usl 1 [], [])) ?_
    show fn C0 62 [] _ = _
    rw [fn_text Tryz.func62 rfl rfl Tryz.results62 fq62.1 rfl rfl (by kernel_rfl)]
    simp -implicitDefEqProofs -dsimp +contextual (maxSteps := 9999999) (disch := first | omega | simp only [go_sem] <;> omega | refine ib ?_; kernel_rfl) only [go_sem, seval, ↓reduceIte]
theorem own_62 (r : List AVal) (rs : List (List AVal)) (h : okRows (r :: rs) = true) : Am.Spec E 62 [.slice 1 (r :: rs)] (.usl 1 (r :: rs)) [] := by
  simp only [okRows, Bool.and_eq_true, decide_eq_true_eq, List.all_cons, ones_cons, List.length_cons] at h
  obtain ⟨h1, ⟨h2, h3⟩, h4, h5⟩ := h
  refine fnE_sound (X := C0.X) (M := C0.M) mixed (fun f g ex ds q h => by cases h) (q := (.usl 1 (r :: rs), [])) ?_
  show fn C0 62 [] _ = _
  rw [fn_text Tryz.func62 rfl rfl Tryz.results62 fq62.1 rfl rfl (by kernel_rfl)]
  simp -implicitDefEqProofs -dsimp +contextual (maxSteps := 9999999) (disch := first | omega | simp only [go_sem] <;> omega | refine ib ?_; kernel_rfl) only [go_sem, seval, ↓reduceIte, h2, h3, h4, h5]
theorem cloneB_0 : Am.Spec E 289 [.slice 1 []] (.usl 1 []) [] := by
  refine spec_empty (fun c => ?_) (fun a c => ?_)
  · refine fnE_sound (X := C0.X) (M := C0.M) mixed (fun f g ex ds q h => by cases h) (q := (.usl 1 [], [])) ?_
    show fn C0 289 [] _ = _
    rw [fn_text Tryz.func289 rfl rfl Tryz.results289 fq289.1 rfl rfl (by kernel_rfl)]
    simp -implicitDefEqProofs -dsimp +contextual (maxSteps := 9999999) (disch := first | omega | simp only [go_sem] <;> omega | refine ib ?_; kernel_rfl) only [go_sem, seval, ↓reduceIte]
  · refine fnE_sound (X := C0.X) (M := C0.M) mixed (fun f g ex ds q h => by cases h) (q := (.usl 1 [], [])) ?_
    show fn C0 289 [] _ = _
    rw [fn_text Tryz.func289 rfl rfl Tryz.results289 fq289.1 rfl rfl (by kernel_rfl)]
    simp -implicitDefEqProofs -dsimp +contextual (maxSteps := 9999999) (disch := first | omega | simp only [go_sem] <;> omega | refine ib ?_; kernel_rfl) only [go_sem, seval, ↓reduceIte]
theorem cloneB_1 (r : List AVal) (rs : List (List AVal)) (h : okRows (r :: rs) = true) : Am.Spec E 289 [.slice 1 (r :: rs)] (.usl 1 (r :: rs)) [] := by
  simp only [okRows, Bool.and_eq_true, decide_eq_true_eq, List.all_cons, ones_cons, List.length_cons] at h
  obtain ⟨h1, ⟨h2, h3⟩, h4, h5⟩ := h
  refine fnE_sound (X := C0.X) (M := C0.M) mixed (fun f g ex ds q h => by cases h) (q := (.usl 1 (r :: rs), [])) ?_
  show fn C0 289 [] _ = _
  rw [fn_text Tryz.func289 rfl rfl Tryz.results289 fq289.1 rfl rfl (by kernel_rfl)]
  simp -implicitDefEqProofs -dsimp +contextual (maxSteps := 9999999) (disch := first | omega | simp only [go_sem] <;> omega | refine ib ?_; kernel_rfl) only [go_sem, seval, ↓reduceIte, h2, h3, h4, h5]
def cloneB : List Nat → List AVal → Option Res := cloneUO 1
theorem cloneB_ok : ∀ ex ds q, cloneB ex ds = some q → SpecX E ex 289 ds q.1 q.2 := cloneUO_ok cloneB_0 cloneB_1
def own : Own := ownOf [(58, cloneO 4), (210, cloneO 6), (60, cloneO 1), (262, concatO), (289, cloneB), (56, (cloneUO 20)), (147, (cloneUO 23)), (59, (cloneUO 29)), (61, (cloneUO 8)), (54, (cloneO 8)), (55, (cloneO 9)), (62, (cloneO 1))]
noncomputable def C : Cf := ⟨E, M, own⟩
@[go_sem] theorem C_E : C.E = E := rfl
@[go_sem] theorem C_M : C.M = M := rfl
@[go_sem] theorem C_X : C.X = own := rfl
theorem own_ok : OwnOk C.E C.X := ownOf_ok fun p hp => by
  simp only [List.mem_cons, List.not_mem_nil, or_false] at hp
  rcases hp with rfl | rfl | rfl | rfl | rfl | rfl | rfl | rfl | rfl | rfl | rfl | rfl
  · exact cloneO_ok own_58_0 own_58
  · exact cloneO_ok own_210_0 own_210
  · exact cloneO_ok own_60_0 own_60
  · exact concatO_ok
  · exact cloneB_ok
  · exact cloneUO_ok own_56_0 own_56
  · exact cloneUO_ok own_147_0 own_147
  · exact cloneUO_ok own_59_0 own_59
  · exact cloneUO_ok own_61_0 own_61
  · exact cloneX_ok own_54_0 own_54
  · exact cloneX_ok own_55_0 own_55
  · exact cloneX_ok own_62_0 own_62
theorem ow_262 (ex ds) : fn C 262 ex ds = concatO ex ds := fn_own rfl ex ds
theorem ow_56 (ex ds) : fn C 56 ex ds = (cloneUO 20) ex ds := fn_own rfl ex ds
theorem ow_147 (ex ds) : fn C 147 ex ds = (cloneUO 23) ex ds := fn_own rfl ex ds
theorem ow_59 (ex ds) : fn C 59 ex ds = (cloneUO 29) ex ds := fn_own rfl ex ds
theorem ow_61 (ex ds) : fn C 61 ex ds = (cloneUO 8) ex ds := fn_own rfl ex ds
theorem ow_54 (ex ds) : fn C 54 ex ds = (cloneO 8) ex ds := fn_own rfl ex ds
theorem ow_55 (ex ds) : fn C 55 ex ds = (cloneO 9) ex ds := fn_own rfl ex ds
theorem ow_62 (ex ds) : fn C 62 ex ds = (cloneO 1) ex ds := fn_own rfl ex ds
@[go_sem] theorem cl_58 (es : List (List AVal)) : fn C 58 [] [.slice 4 es] = gu (okRows es = true) (some (.slice 4 es, [])) := by
  rw [fn_own (g := cloneO 4) rfl]
  simp [cloneO, gu]
@[go_sem] theorem cl_210 (es : List (List AVal)) : fn C 210 [] [.slice 6 es] = gu (okRows es = true) (some (.slice 6 es, [])) := by
  rw [fn_own (g := cloneO 6) rfl]
  simp [cloneO, gu]
@[go_sem] theorem cl_60 (es : List (List AVal)) : fn C 60 [] [.slice 1 es] = gu (okRows es = true) (some (.slice 1 es, [])) := by
  rw [fn_own (g := cloneO 1) rfl]
  simp [cloneO, gu]
@[go_sem] theorem cl_56 (es : List (List AVal)) : fn C 56 [] [.slice 20 es] = gu (okRows es = true) (some (.usl 20 es, [])) := by
  rw [ow_56]
  simp [cloneUO, gu]
@[go_sem] theorem cl_147 (es : List (List AVal)) : fn C 147 [] [.slice 23 es] = gu (okRows es = true) (some (.usl 23 es, [])) := by
  rw [ow_147]
  simp [cloneUO, gu]
@[go_sem] theorem cl_59 (es : List (List AVal)) : fn C 59 [] [.slice 29 es] = gu (okRows es = true) (some (.usl 29 es, [])) := by
  rw [ow_59]
  simp [cloneUO, gu]
@[go_sem] theorem cl_61 (es : List (List AVal)) : fn C 61 [] [.slice 8 es] = gu (okRows es = true) (some (.usl 8 es, [])) := by
  rw [ow_61]
  simp [cloneUO, gu]
@[go_sem] theorem cl_54 (es : List (List AVal)) : fn C 54 [] [.slice 8 es] = gu (okRows es = true) (some (.slice 8 es, [])) := by
  rw [ow_54]
  simp [cloneO, gu]
@[go_sem] theorem cl_55 (es : List (List AVal)) : fn C 55 [] [.slice 9 es] = gu (okRows es = true) (some (.slice 9 es, [])) := by
  rw [ow_55]
  simp [cloneO, gu]
@[go_sem] theorem cl_62 (es : List (List AVal)) : fn C 62 [] [.slice 1 es] = gu (okRows es = true) (some (.slice 1 es, [])) := by
  rw [ow_62]
  simp [cloneO, gu]
theorem unparts_two (a b : List UInt8) : unparts (List.map normRow [[.slice 1 (a.map byteRow)], [.slice 1 (b.map byteRow)]]) = some [a, b] := by
  simp [normRow, unparts, unbyte_map]
@[go_sem] theorem e262 (a b : List UInt8) (h : a.length + b.length ≤ 1000000000000) : fn C 262 [] [.slice 1 [[.slice 1 (a.map byteRow)], [.slice 1 (b.map byteRow)]]] = some (.slice 1 ((a ++ b).map byteRow), []) := by
  rw [ow_262]; simp only [concatO]; rw [unparts_two]; simp [gu, h]
def okB (b : UInt8) : Bool := decide (32 < b.toNat) && decide (b.toNat < 127)
def keyR (l : List UInt8) : Bool := decide (1 ≤ l.length) && decide (l.length ≤ 24) && l.all okB
@[go_sem] theorem e65 (l : List UInt8) : fn C 65 [] [.str l] = some (.bool (decide (l.length ≤ 32)), []) := by
  rw [fn_text Tryz.func65 rfl rfl Tryz.results65 fq65.1 rfl rfl (by kernel_rfl)]
  simp -implicitDefEqProofs -dsimp +contextual (maxSteps := 9999999) (disch := first | omega | simp only [go_sem] <;> omega | refine ib ?_; kernel_rfl) only [go_sem, seval, ↓reduceIte] <;>
  exact Res_bool (by simp; omega)
@[go_sem] theorem e67 (l : List UInt8) : fn C 67 [] [.str l] = some (.bool (keyR l), []) := by
  rw [fn_text Tryz.func67 rfl rfl Tryz.results67 fq67.1 rfl rfl (by kernel_rfl)]
  simp -implicitDefEqProofs -dsimp +contextual (maxSteps := 9999999) (disch := first | omega | simp only [go_sem] <;> omega | refine ib ?_; kernel_rfl) only [go_sem, seval, ↓reduceIte]
  (repeat' (refine kD_intro (fun _ => ?_) (fun _ => ?_)))
  · exact Res_bool (by simp [keyR]; omega)
  · exact Res_bool (by simp [keyR]; omega)
  refine (kLoop_rec (fun i f H => f 0 = .str l ∧ f 3 = .int .i64 (i : Nat) ∧ H = Heap.nil ∧ i ≤ l.length) (fun i => l.length - i) (fun i => some (.bool ((l.drop i).all okB), [])) ?_ 0 _ _ ⟨rfl, rfl, rfl, by omega⟩).trans ?_
  · rintro i f _ ⟨h0, h3, rfl, hi⟩ ih
    by_cases hl : i < l.length
    · rw [List.drop_eq_getElem_cons hl]
      simp -implicitDefEqProofs -dsimp +contextual (maxSteps := 9999999) (disch := first | omega | simp only [go_sem] <;> omega | refine ib ?_; kernel_rfl) only [go_sem, seval, ↓reduceIte, h0, h3, hl]
      (repeat' (refine kD_intro (fun _ => ?_) (fun _ => ?_)))
      · exact Res_bool (by simp [okB] <;> omega)
      · exact Res_bool (by simp [okB] <;> omega)
      · have hb : okB l[i] = true := by simp [okB] <;> omega
        exact (ih (i + 1) _ _ (by exact ⟨h0, rfl, rfl, by omega⟩) (by omega)).trans (by simp [hb])
    · simp -implicitDefEqProofs -dsimp +contextual (maxSteps := 9999999) (disch := first | omega | simp only [go_sem] <;> omega | refine ib ?_; kernel_rfl) only [go_sem, seval, ↓reduceIte, h0, h3, hl] <;>
      exact Res_bool (by simp [show i = l.length by omega])
  · exact Res_bool (by simp [keyR]; omega)
@[go_sem] theorem e64 (l : List UInt8) (hl : l.length ≤ 9223372036854775807) : fn C 64 [] [.str l] = some (.bool (keyR l), []) := by
  rw [fn_text Tryz.func64 rfl rfl Tryz.results64 fq64.1 rfl rfl (by kernel_rfl)]
  simp -implicitDefEqProofs -dsimp +contextual (maxSteps := 9999999) (disch := first | omega | simp only [go_sem] <;> omega | refine ib ?_; kernel_rfl) only [go_sem, seval, ↓reduceIte]
  refine (kLoop_rec (fun i f H => f 0 = .str l ∧ f 5 = .int .i64 l.length ∧ f 6 = .int .i64 (i : Nat) ∧ H = Heap.nil ∧ i ≤ l.length) (fun i => l.length - i) (fun i => some (.bool (decide (1 ≤ l.length) && decide (l.length ≤ 24) && (l.drop i).all okB), [])) ?_ 0 _ _ ⟨rfl, rfl, rfl, rfl, by omega⟩).trans rfl
  rintro i f _ ⟨h0, h5, h6, rfl, hi⟩ ih
  by_cases hl : i < l.length
  · rw [List.drop_eq_getElem_cons hl]
    simp -implicitDefEqProofs -dsimp +contextual (maxSteps := 9999999) (disch := first | omega | simp only [go_sem] <;> omega | refine ib ?_; kernel_rfl) only [go_sem, seval, ↓reduceIte, h0, h5, h6, hl]
    (repeat' (refine kD_intro (fun _ => ?_) (fun _ => ?_)))
    · exact Res_bool (by simp [okB] <;> omega)
    · exact Res_bool (by simp [okB] <;> omega)
    · have hb : okB l[i] = true := by simp [okB] <;> omega
      exact (ih (i + 1) _ _ (by exact ⟨h0, h5, rfl, rfl, by omega⟩) (by omega)).trans (by simp [hb])
  · simp -implicitDefEqProofs -dsimp +contextual (maxSteps := 9999999) (disch := first | omega | simp only [go_sem] <;> omega | refine ib ?_; kernel_rfl) only [go_sem, seval, ↓reduceIte, h0, h5, h6, hl]
    obtain rfl : i = l.length := by omega
    cases l with
    | nil => simp -implicitDefEqProofs -dsimp +contextual (maxSteps := 9999999) (disch := first | omega | simp only [go_sem] <;> omega | refine ib ?_; kernel_rfl) only [go_sem, seval, ↓reduceIte]
    | cons b l => simp -implicitDefEqProofs -dsimp +contextual (maxSteps := 9999999) (disch := first | omega | simp only [go_sem] <;> omega | refine ib ?_; kernel_rfl) only [go_sem, seval, ↓reduceIte] <;> exact Res_bool (by simp <;> omega)
def azS : List UInt8 := [97, 98, 99, 100, 101, 102, 103, 104, 105, 106, 107, 108, 109, 110, 111, 112, 113, 114, 115, 116, 117, 118, 119, 120, 121, 122]
def anS : List UInt8 := [97, 98, 99, 100, 101, 102, 103, 104, 105, 106, 107, 108, 109, 110, 111, 112, 113, 114, 115, 116, 117, 118, 119, 120, 121, 122, 48, 49, 50, 51, 52, 53, 54, 55, 56, 57, 45]
@[go_sem] theorem azS_fold : ([97, 98, 99, 100, 101, 102, 103, 104, 105, 106, 107, 108, 109, 110, 111, 112, 113, 114, 115, 116, 117, 118, 119, 120, 121, 122] : List UInt8) = azS := rfl
@[go_sem] theorem anS_fold : ([97, 98, 99, 100, 101, 102, 103, 104, 105, 106, 107, 108, 109, 110, 111, 112, 113, 114, 115, 116, 117, 118, 119, 120, 121, 122, 48, 49, 50, 51, 52, 53, 54, 55, 56, 57, 45] : List UInt8) = anS := rfl
@[go_sem] theorem azS_len : azS.length = 26 := rfl
@[go_sem] theorem anS_len : anS.length = 37 := rfl
structure It where
  k : List UInt8
  v : List UInt8
  n : Int
  g : Bool
deriving DecidableEq
def It.cs (x : It) : List AVal := [.str x.k, .str x.v, .int .i64 x.n, .bool x.g]
def zeroIt : It := ⟨[], [], 0, false⟩
@[go_sem] theorem zeroIt_k : zeroIt.k = [] := rfl
@[go_sem] theorem zeroIt_v : zeroIt.v = [] := rfl
@[go_sem] theorem zeroIt_n : zeroIt.n = 0 := rfl
@[go_sem] theorem zeroIt_g : zeroIt.g = false := rfl
@[go_sem] theorem It.cs_eq (x : It) : x.cs = [.str x.k, .str x.v, .int .i64 x.n, .bool x.g] := rfl
@[go_sem] theorem It.ones_cs (l : List It) : ones (l.map It.cs) = true := ones_map _ _ fun x => rfl
@[go_sem] theorem It.clos_cs (l : List It) : (l.map It.cs).all clos = true := allclos_map _ (fun _ => rfl) l
@[go_sem] theorem It.ok_cs (l : List It) : okRows (l.map It.cs) = decide (l.length ≤ 1073741824) := okRows_map _ (fun _ => rfl) (fun _ => rfl) l
@[go_sem] theorem It.eta (x : It) : (⟨x.k, x.v, x.n, x.g⟩ : It) = x := rfl
@[go_sem] theorem It.set_cs (l : List It) (j : Nat) (k v : List UInt8) (n : Int) (g : Bool) : (l.map It.cs).set j [.str k, .str v, .int .i64 n, .bool g] = (l.set j ⟨k, v, n, g⟩).map It.cs := by rw [List.map_set]; rfl
@[go_sem] theorem It.app_cs (l : List It) (k v : List UInt8) (n : Int) (g : Bool) : l.map It.cs ++ [[.str k, .str v, .int .i64 n, .bool g]] = (l ++ [(⟨k, v, n, g⟩ : It)]).map It.cs := by rw [List.map_append]; rfl
theorem It.eq_iff (x y : It) : x = y ↔ x.k = y.k ∧ x.v = y.v ∧ x.n = y.n ∧ x.g = y.g := by cases x; cases y; simp
@[go_sem] theorem eqItem (a b a' b' : List UInt8) (c c' : Int) (d d' : Bool) : eqF E.P 8 88 (.agg [.str a, .str b, .int .i64 c, .bool d]) (.agg [.str a', .str b', .int .i64 c', .bool d']) = some (decide ((⟨a, b, c, d⟩ : It) = ⟨a', b', c', d'⟩)) := by
  have u26 : E.P.underlying 88 = _ := Tryz.underlying88
  have u9 : E.P.underlying 9 = _ := Tryz.underlying9
  have u3 : E.P.underlying 3 = _ := Tryz.underlying3
  have u4 : E.P.underlying 4 = _ := Tryz.underlying4
  have hs : E.P.stoodInHeld 88 = false := by kernel_rfl
  simp [eqF, eqGo, u26, u9, u3, u4, hs, tq9.1, tq9.2.1, tq3.1, tq3.2.1, tq4.1, tq4.2.1, mkV, beq_dec, Bool.and_assoc, ← Bool.decide_and]
@[go_sem] theorem e78 (a b : List It) (hl : a.length ≤ 9223372036854775807) : fn C 78 [] [.slice 4 (a.map It.cs), .slice 4 (b.map It.cs)] = some (.bool (decide (a = b)), []) := by
  rw [fn_text Tryz.func78 rfl rfl Tryz.results78 fq78.1 rfl rfl (by kernel_rfl)]
  simp -implicitDefEqProofs -dsimp +contextual (maxSteps := 9999999) (disch := first | omega | simp only [go_sem] <;> omega | refine ib ?_; kernel_rfl) only [go_sem, seval, ↓reduceIte]
  (repeat' (refine kD_intro (fun _ => ?_) (fun _ => ?_)))
  · rename_i h1
    refine (kLoop_rec (fun i f H => f 0 = .slice 4 (a.map It.cs) ∧ f 1 = .slice 4 (b.map It.cs) ∧ f 5 = .int .i64 (i : Nat) ∧ H = Heap.nil ∧ i ≤ a.length ∧ a.take i = b.take i) (fun i => a.length - i) (fun i => some (.bool (decide (a = b)), [])) ?_ 0 _ _ ⟨rfl, rfl, rfl, rfl, by omega, rfl⟩).trans rfl
    rintro i f _ ⟨h0, h2, h5, rfl, hi, ht⟩ ih
    by_cases hl : i < a.length
    · simp -implicitDefEqProofs -dsimp +contextual (maxSteps := 9999999) (disch := first | omega | simp only [go_sem] <;> omega | refine ib ?_; kernel_rfl) only [go_sem, seval, ↓reduceIte, h0, h2, h5, hl, h1]
      (repeat' (refine kD_intro (fun _ => ?_) (fun _ => ?_)))
      · rename_i he
        refine ih (i + 1) _ _ ⟨h0, h2, rfl, rfl, by omega, ?_⟩ (by omega)
        rw [List.take_succ_eq_append_getElem hl, List.take_succ_eq_append_getElem (by omega), ht, he]
      · rename_i he
        have : ¬ a = b := fun e => he (by subst e; rfl)
        exact Res_bool (by simp [this])
    · simp -implicitDefEqProofs -dsimp +contextual (maxSteps := 9999999) (disch := first | omega | simp only [go_sem] <;> omega | refine ib ?_; kernel_rfl) only [go_sem, seval, ↓reduceIte, h0, h2, h5, hl]
      obtain rfl : i = a.length := by omega
      have : a = b := by rw [List.take_length, h1, List.take_length] at ht; exact ht
      exact Res_bool (by simp [this])
  · rename_i h
    have : ¬ a = b := fun e => h (by rw [e])
    exact Res_bool (by simp [this])
structure En where
  name : List UInt8
  id : Nat
  fr : Int
  un : Int
  ix : Int
  tag : List UInt8
deriving DecidableEq
def En.cs (e : En) : List AVal := [.str e.name, .int .u64 (e.id : Int), .int .i64 e.fr, .int .i64 e.un, .int .i64 e.ix, .str e.tag]
@[go_sem] theorem En.cs_eq (e : En) : e.cs = [.str e.name, .int .u64 (e.id : Int), .int .i64 e.fr, .int .i64 e.un, .int .i64 e.ix, .str e.tag] := rfl
structure En.ok (e : En) : Prop where
  id : e.id ≤ 18446744073709551615
  f1 : -9223372036854775808 ≤ e.fr
  f2 : e.fr ≤ 9223372036854775807
  u1 : -9223372036854775808 ≤ e.un
  u2 : e.un ≤ 9223372036854775807
  i1 : -9223372036854775808 ≤ e.ix
  i2 : e.ix ≤ 9223372036854775807
theorem En.eq_iff (x y : En) : x = y ↔ (x.name = y.name ∧ x.id = y.id ∧ x.fr = y.fr ∧ x.un = y.un ∧ x.ix = y.ix ∧ x.tag = y.tag) := by
  cases x; cases y; simp
structure Pr where
  e : En
  since : Int
  under : Int
deriving DecidableEq
def Pr.cs (p : Pr) : List AVal := [.str p.e.name, .int .u64 (p.e.id : Int), .int .i64 p.e.fr, .int .i64 p.e.un, .int .i64 p.e.ix, .str p.e.tag, .int .i64 p.since, .int .i64 p.under]
@[go_sem] theorem Pr.cs_eq (p : Pr) : p.cs = [.str p.e.name, .int .u64 (p.e.id : Int), .int .i64 p.e.fr, .int .i64 p.e.un, .int .i64 p.e.ix, .str p.e.tag, .int .i64 p.since, .int .i64 p.under] := rfl
structure Fg where
  bit : Int
  p : Pr
deriving DecidableEq
def Fg.cs (x : Fg) : List AVal := [.int .i64 x.bit, .str x.p.e.name, .int .u64 (x.p.e.id : Int), .int .i64 x.p.e.fr, .int .i64 x.p.e.un, .int .i64 x.p.e.ix, .str x.p.e.tag, .int .i64 x.p.since, .int .i64 x.p.under]
@[go_sem] theorem Fg.cs_eq (x : Fg) : x.cs = [.int .i64 x.bit, .str x.p.e.name, .int .u64 (x.p.e.id : Int), .int .i64 x.p.e.fr, .int .i64 x.p.e.un, .int .i64 x.p.e.ix, .str x.p.e.tag, .int .i64 x.p.since, .int .i64 x.p.under] := rfl
structure Wn where
  top : Int
  low : Nat
  high : Nat
deriving DecidableEq
structure Se where
  id : Nat
  nonce : Nat
  peer : En
  role : Int
  state : Int
  send : List UInt8
  hear : List UInt8
  epoch : Int
  count : Int
  since : Int
  seq : Int
  seen : Wn
  used : Int
deriving DecidableEq
def Se.cs (s : Se) : List AVal := [.int .u64 (s.id : Int), .int .u64 (s.nonce : Int), .str s.peer.name, .int .u64 (s.peer.id : Int), .int .i64 s.peer.fr, .int .i64 s.peer.un, .int .i64 s.peer.ix, .str s.peer.tag, .int .i64 s.role, .int .i64 s.state, .str s.send, .str s.hear, .int .i64 s.epoch, .int .i64 s.count, .int .i64 s.since, .int .i64 s.seq, .int .i64 s.seen.top, .int .u64 (s.seen.low : Int), .int .u64 (s.seen.high : Int), .int .i64 s.used]
@[go_sem] theorem Se.cs_eq (s : Se) : s.cs = [.int .u64 (s.id : Int), .int .u64 (s.nonce : Int), .str s.peer.name, .int .u64 (s.peer.id : Int), .int .i64 s.peer.fr, .int .i64 s.peer.un, .int .i64 s.peer.ix, .str s.peer.tag, .int .i64 s.role, .int .i64 s.state, .str s.send, .str s.hear, .int .i64 s.epoch, .int .i64 s.count, .int .i64 s.since, .int .i64 s.seq, .int .i64 s.seen.top, .int .u64 (s.seen.low : Int), .int .u64 (s.seen.high : Int), .int .i64 s.used] := rfl
structure Ms where
  kind : Int
  rid : Int
  ver : Int
  err : Int
  id : Nat
  has : Bool
  gone : Bool
  key : List UInt8
  val : List UInt8
  ents : List En
  items : List It
deriving DecidableEq
def Ms.cs (m : Ms) : List AVal := [.int .i64 m.kind, .int .i64 m.rid, .int .i64 m.ver, .int .i64 m.err, .int .u64 (m.id : Int), .bool m.has, .bool m.gone, .str m.key, .str m.val, .slice 6 (m.ents.map En.cs), .slice 4 (m.items.map It.cs)]
@[go_sem] theorem Ms.cs_eq (m : Ms) : m.cs = [.int .i64 m.kind, .int .i64 m.rid, .int .i64 m.ver, .int .i64 m.err, .int .u64 (m.id : Int), .bool m.has, .bool m.gone, .str m.key, .str m.val, .slice 6 (m.ents.map En.cs), .slice 4 (m.items.map It.cs)] := rfl
structure Pd where
  rid : Int
  why : Int
  job : Int
  til : Int
  tries : Int
  session : Nat
  to : En
  m : Ms
deriving DecidableEq
def Pd.cs (p : Pd) : List AVal := [.int .i64 p.rid, .int .i64 p.why, .int .i64 p.job, .int .i64 p.til, .int .i64 p.tries, .int .u64 (p.session : Int), .str p.to.name, .int .u64 (p.to.id : Int), .int .i64 p.to.fr, .int .i64 p.to.un, .int .i64 p.to.ix, .str p.to.tag, .int .i64 p.m.kind, .int .i64 p.m.rid, .int .i64 p.m.ver, .int .i64 p.m.err, .int .u64 (p.m.id : Int), .bool p.m.has, .bool p.m.gone, .str p.m.key, .str p.m.val, .slice 6 (p.m.ents.map En.cs), .slice 4 (p.m.items.map It.cs)]
@[go_sem] theorem Pd.cs_eq (p : Pd) : p.cs = [.int .i64 p.rid, .int .i64 p.why, .int .i64 p.job, .int .i64 p.til, .int .i64 p.tries, .int .u64 (p.session : Int), .str p.to.name, .int .u64 (p.to.id : Int), .int .i64 p.to.fr, .int .i64 p.to.un, .int .i64 p.to.ix, .str p.to.tag, .int .i64 p.m.kind, .int .i64 p.m.rid, .int .i64 p.m.ver, .int .i64 p.m.err, .int .u64 (p.m.id : Int), .bool p.m.has, .bool p.m.gone, .str p.m.key, .str p.m.val, .slice 6 (p.m.ents.map En.cs), .slice 4 (p.m.items.map It.cs)] := rfl
structure Jb where
  id : Int
  kind : Int
  phase : Int
  hops : Int
  tries : Int
  til : Int
  key : List UInt8
  val : List UInt8
  owner : En
  item : It
  acks : Int
  waits : Int
  asked : List (List UInt8)
  back : En
  backRid : Int
  backJob : Int
deriving DecidableEq
def Jb.cs (j : Jb) : List AVal := [.int .i64 j.id, .int .i64 j.kind, .int .i64 j.phase, .int .i64 j.hops, .int .i64 j.tries, .int .i64 j.til, .str j.key, .str j.val, .str j.owner.name, .int .u64 (j.owner.id : Int), .int .i64 j.owner.fr, .int .i64 j.owner.un, .int .i64 j.owner.ix, .str j.owner.tag, .str j.item.k, .str j.item.v, .int .i64 j.item.n, .bool j.item.g, .int .i64 j.acks, .int .i64 j.waits, .slice 1 (j.asked.map strRow), .str j.back.name, .int .u64 (j.back.id : Int), .int .i64 j.back.fr, .int .i64 j.back.un, .int .i64 j.back.ix, .str j.back.tag, .int .i64 j.backRid, .int .i64 j.backJob]
@[go_sem] theorem Jb.cs_eq (j : Jb) : j.cs = [.int .i64 j.id, .int .i64 j.kind, .int .i64 j.phase, .int .i64 j.hops, .int .i64 j.tries, .int .i64 j.til, .str j.key, .str j.val, .str j.owner.name, .int .u64 (j.owner.id : Int), .int .i64 j.owner.fr, .int .i64 j.owner.un, .int .i64 j.owner.ix, .str j.owner.tag, .str j.item.k, .str j.item.v, .int .i64 j.item.n, .bool j.item.g, .int .i64 j.acks, .int .i64 j.waits, .slice 1 (j.asked.map strRow), .str j.back.name, .int .u64 (j.back.id : Int), .int .i64 j.back.fr, .int .i64 j.back.un, .int .i64 j.back.ix, .str j.back.tag, .int .i64 j.backRid, .int .i64 j.backJob] := rfl
structure Rs where
  job : Int
  kind : Int
  ver : Int
  key : List UInt8
  val : List UInt8
  has : Bool
  gone : Bool
  err : Int
deriving DecidableEq
def Rs.cs (r : Rs) : List AVal := [.int .i64 r.job, .int .i64 r.kind, .int .i64 r.ver, .str r.key, .str r.val, .bool r.has, .bool r.gone, .int .i64 r.err]
@[go_sem] theorem Rs.cs_eq (r : Rs) : r.cs = [.int .i64 r.job, .int .i64 r.kind, .int .i64 r.ver, .str r.key, .str r.val, .bool r.has, .bool r.gone, .int .i64 r.err] := rfl
def u64Row (n : Nat) : List AVal := [.int .u64 (n : Int)]
@[go_sem] theorem u64Row_eq (n : Nat) : u64Row n = [.int .u64 (n : Int)] := rfl
structure Nd where
  me : En
  clock : Int
  psk : List UInt8
  gateI : Int
  gateK : List UInt8
  ready : Bool
  pred : List Pr
  list : List Pr
  fingers : List Fg
  sessions : List Se
  pends : List Pd
  items : List It
  jobs : List Jb
  rid : Int
  jobId : Int
  draws : List Nat
  results : List Rs
deriving DecidableEq
@[go_sem] theorem En_ones (l : List (En)) : ones (l.map En.cs) = true := ones_map _ _ fun _ => rfl
@[go_sem] theorem En_clos (l : List (En)) : (l.map En.cs).all clos = true := allclos_map _ (fun _ => rfl) l
@[go_sem] theorem En_ok (l : List (En)) : okRows (l.map En.cs) = decide (l.length ≤ 1073741824) := okRows_map _ (fun _ => rfl) (fun _ => rfl) l
@[go_sem] theorem Pr_ok (l : List (Pr)) : okRows (l.map Pr.cs) = decide (l.length ≤ 1073741824) := okRows_map _ (fun _ => rfl) (fun _ => rfl) l
@[go_sem] theorem Fg_ok (l : List (Fg)) : okRows (l.map Fg.cs) = decide (l.length ≤ 1073741824) := okRows_map _ (fun _ => rfl) (fun _ => rfl) l
@[go_sem] theorem Se_clos (l : List (Se)) : (l.map Se.cs).all clos = true := allclos_map _ (fun _ => rfl) l
@[go_sem] theorem Se_flat (l : List (Se)) : flatss (l.map Se.cs) = true := flatss_map _ (fun _ => rfl) l
@[go_sem] theorem Se_ok (l : List (Se)) : okRows (l.map Se.cs) = decide (l.length ≤ 1073741824) := okRows_map _ (fun _ => rfl) (fun _ => rfl) l
@[go_sem] theorem Pd_clos (l : List (Pd)) : (l.map Pd.cs).all clos = true := allclos_map _ (fun _ => rfl) l
@[go_sem] theorem Pd_ok (l : List (Pd)) : okRows (l.map Pd.cs) = decide (l.length ≤ 1073741824) := okRows_map _ (fun _ => rfl) (fun _ => rfl) l
@[go_sem] theorem Jb_ones (l : List (Jb)) : ones (l.map Jb.cs) = true := ones_map _ _ fun _ => rfl
@[go_sem] theorem Jb_clos (l : List (Jb)) : (l.map Jb.cs).all clos = true := allclos_map _ (fun _ => rfl) l
@[go_sem] theorem Jb_ok (l : List (Jb)) : okRows (l.map Jb.cs) = decide (l.length ≤ 1073741824) := okRows_map _ (fun _ => rfl) (fun _ => rfl) l
@[go_sem] theorem Rs_ones (l : List (Rs)) : ones (l.map Rs.cs) = true := ones_map _ _ fun _ => rfl
@[go_sem] theorem Rs_clos (l : List (Rs)) : (l.map Rs.cs).all clos = true := allclos_map _ (fun _ => rfl) l
@[go_sem] theorem Rs_flat (l : List (Rs)) : flatss (l.map Rs.cs) = true := flatss_map _ (fun _ => rfl) l
@[go_sem] theorem Rs_ok (l : List (Rs)) : okRows (l.map Rs.cs) = decide (l.length ≤ 1073741824) := okRows_map _ (fun _ => rfl) (fun _ => rfl) l
@[go_sem] theorem strRow_ones (l : List (List UInt8)) : ones (l.map strRow) = true := ones_map _ _ fun _ => rfl
@[go_sem] theorem strRow_clos (l : List (List UInt8)) : (l.map strRow).all clos = true := allclos_map _ (fun _ => rfl) l
@[go_sem] theorem strRow_flat (l : List (List UInt8)) : flatss (l.map strRow) = true := flatss_map _ (fun _ => rfl) l
@[go_sem] theorem strRow_ok (l : List (List UInt8)) : okRows (l.map strRow) = decide (l.length ≤ 1073741824) := okRows_map _ (fun _ => rfl) (fun _ => rfl) l
@[go_sem] theorem u64Row_ok (l : List (Nat)) : okRows (l.map u64Row) = decide (l.length ≤ 1073741824) := okRows_map _ (fun _ => rfl) (fun _ => rfl) l
def greatE (e : En) : Bool := decide (1000 < e.name.length) || decide (1000 < e.tag.length)
structure En.small (e : En) : Prop where
  n : e.name.length ≤ 1000
  t : e.tag.length ≤ 1000
theorem greatE_no {e : En} (h : greatE e = false) : e.small := by
  simp only [greatE, Bool.or_eq_false_iff, decide_eq_false_iff_not, Nat.not_lt] at h
  exact ⟨h.1, h.2⟩
def greatPs (l : List Pr) : Bool := decide (40 < l.length) || l.any fun p => greatE p.e
def greatS (s : Se) : Bool := decide (300 < s.send.length) || decide (300 < s.hear.length) || greatE s.peer
def greatSs (l : List Se) : Bool := decide (60 < l.length) || l.any greatS
def greatI (x : It) : Bool := decide (300 < x.k.length) || decide (300 < x.v.length)
def greatM (m : Ms) : Bool := decide (300 < m.key.length) || decide (300 < m.val.length) || decide (30 < m.ents.length) || decide (30 < m.items.length) || m.ents.any greatE || m.items.any greatI
def greatPds (l : List Pd) : Bool := decide (50 < l.length) || l.any fun p => greatE p.to || greatM p.m
def greatJ (j : Jb) : Bool := decide (300 < j.key.length) || decide (300 < j.val.length) || decide (300 < j.item.k.length) || decide (300 < j.item.v.length) || greatE j.owner || greatE j.back || decide (30 < j.asked.length) || j.asked.any fun a => decide (1000 < a.length)
def greatIs (l : List It) : Bool := decide (60 < l.length) || l.any greatI
def greatN (n : Nd) : Bool := greatE n.me || decide (300 < n.psk.length) || decide (300 < n.gateK.length) || greatPs n.pred || greatPs n.list || decide (70 < n.fingers.length) || greatSs n.sessions || greatPds n.pends || greatIs n.items || decide (20 < n.jobs.length) || decide (60 < n.draws.length) || decide (40 < n.results.length) || (n.fingers.any fun x => greatE x.p.e) || n.jobs.any greatJ || n.results.any fun r => decide (300 < r.key.length) || decide (300 < r.val.length)
theorem any_at {α : Type} {p : α → Bool} {l : List α} {i : Nat} (hi : i < l.length) (h : p l[i] = true) : l.any p = true := List.any_eq_true.2 ⟨l[i], List.getElem_mem hi, h⟩
theorem any_take {α : Type} {p : α → Bool} {l : List α} {i : Nat} (hi : i < l.length) (ha : (l.take i).any p = false) (h : p l[i] = false) : (l.take (i + 1)).any p = false := by
  rw [List.take_succ_eq_append_getElem hi, List.any_append, ha]; simp [h]
theorem any_end {α : Type} {p : α → Bool} {l : List α} (ha : (l.take l.length).any p = false) : l.any p = false := by rwa [List.take_length] at ha
theorem any_mem {α : Type} {p : α → Bool} {l : List α} (ha : l.any p = false) : ∀ x ∈ l, p x = false := by
  intro x hx; rw [List.any_eq_false] at ha; simpa using ha x hx
def Nd.cs (n : Nd) : List AVal := [.str n.me.name, .int .u64 (n.me.id : Int), .int .i64 n.me.fr, .int .i64 n.me.un, .int .i64 n.me.ix, .str n.me.tag, .int .i64 n.clock, .str n.psk, .int .i64 n.gateI, .str n.gateK, .bool n.ready, .slice 8 (n.pred.map Pr.cs), .slice 8 (n.list.map Pr.cs), .slice 9 (n.fingers.map Fg.cs), .slice 20 (n.sessions.map Se.cs), .slice 23 (n.pends.map Pd.cs), .slice 4 (n.items.map It.cs), .slice 29 (n.jobs.map Jb.cs), .int .i64 n.rid, .int .i64 n.jobId, .slice 1 (n.draws.map u64Row), .slice 8 (n.results.map Rs.cs)]
@[reducible] def aNd (n : Nd) : AVal := .agg [.str n.me.name, .int .u64 (n.me.id : Int), .int .i64 n.me.fr, .int .i64 n.me.un, .int .i64 n.me.ix, .str n.me.tag, .int .i64 n.clock, .str n.psk, .int .i64 n.gateI, .str n.gateK, .bool n.ready, .slice 8 (n.pred.map Pr.cs), .slice 8 (n.list.map Pr.cs), .slice 9 (n.fingers.map Fg.cs), .slice 20 (n.sessions.map Se.cs), .slice 23 (n.pends.map Pd.cs), .slice 4 (n.items.map It.cs), .slice 29 (n.jobs.map Jb.cs), .int .i64 n.rid, .int .i64 n.jobId, .slice 1 (n.draws.map u64Row), .slice 8 (n.results.map Rs.cs)]
@[go_sem] theorem aNd_eq (n : Nd) : aNd n = .agg [.str n.me.name, .int .u64 (n.me.id : Int), .int .i64 n.me.fr, .int .i64 n.me.un, .int .i64 n.me.ix, .str n.me.tag, .int .i64 n.clock, .str n.psk, .int .i64 n.gateI, .str n.gateK, .bool n.ready, .slice 8 (n.pred.map Pr.cs), .slice 8 (n.list.map Pr.cs), .slice 9 (n.fingers.map Fg.cs), .slice 20 (n.sessions.map Se.cs), .slice 23 (n.pends.map Pd.cs), .slice 4 (n.items.map It.cs), .slice 29 (n.jobs.map Jb.cs), .int .i64 n.rid, .int .i64 n.jobId, .slice 1 (n.draws.map u64Row), .slice 8 (n.results.map Rs.cs)] := rfl
@[go_sem] theorem eqEntry (n t n' t' : List UInt8) (a b c d a' b' c' d' : Int) : eqF E.P 8 24 (.agg [.str n, .int .u64 a, .int .i64 b, .int .i64 c, .int .i64 d, .str t]) (.agg [.str n', .int .u64 a', .int .i64 b', .int .i64 c', .int .i64 d', .str t']) = some (decide (n = n' ∧ a = a' ∧ b = b' ∧ c = c' ∧ d = d' ∧ t = t')) := by
  have u1 : E.P.underlying 24 = _ := Tryz.underlying24
  have u2 : E.P.underlying 9 = _ := Tryz.underlying9
  have u3 : E.P.underlying 3 = _ := Tryz.underlying3
  have u4 : E.P.underlying 22 = _ := Tryz.underlying22
  have hs : E.P.stoodInHeld 24 = false := by kernel_rfl
  simp [eqF, eqGo, u1, u2, u3, u4, hs, tq9.1, tq9.2.1, tq3.1, tq3.2.1, tq22.1, tq22.2.1, mkV, beq_dec, Bool.and_assoc, ← Bool.decide_and]
@[go_sem] theorem eqPeer (n t n' t' : List UInt8) (a b c d e f a' b' c' d' e' f' : Int) : eqF E.P 8 74 (.agg [.str n, .int .u64 a, .int .i64 b, .int .i64 c, .int .i64 d, .str t, .int .i64 e, .int .i64 f]) (.agg [.str n', .int .u64 a', .int .i64 b', .int .i64 c', .int .i64 d', .str t', .int .i64 e', .int .i64 f']) = some (decide ((n = n' ∧ a = a' ∧ b = b' ∧ c = c' ∧ d = d' ∧ t = t') ∧ e = e' ∧ f = f')) := by
  have u0 : E.P.underlying 74 = _ := Tryz.underlying74
  have u1 : E.P.underlying 24 = _ := Tryz.underlying24
  have u2 : E.P.underlying 9 = _ := Tryz.underlying9
  have u3 : E.P.underlying 3 = _ := Tryz.underlying3
  have u4 : E.P.underlying 22 = _ := Tryz.underlying22
  have hs : E.P.stoodInHeld 24 = false := by kernel_rfl
  have hp : E.P.stoodInHeld 74 = false := by kernel_rfl
  simp [eqF, eqGo, u0, u1, u2, u3, u4, hs, hp, tq9.1, tq9.2.1, tq3.1, tq3.2.1, tq22.1, tq22.2.1, tq24.1, tq24.2.1, mkV, beq_dec, Bool.and_assoc, ← Bool.decide_and]
@[go_sem] theorem e22 (e : En) (hn : e.name.length ≤ 9223372036854775807) (ht : e.tag.length ≤ 9223372036854775807) : fn C 22 [] [.agg [.str e.name, .int .u64 (e.id : Int), .int .i64 e.fr, .int .i64 e.un, .int .i64 e.ix, .str e.tag]] = some (.bool (greatE e), []) := by
  rw [fn_text Tryz.func22 rfl rfl Tryz.results22 fq22.1 rfl rfl (by kernel_rfl)]
  simp -implicitDefEqProofs -dsimp +contextual (maxSteps := 9999999) (disch := first | omega | simp only [go_sem] <;> omega | refine ib ?_; kernel_rfl) only [go_sem, seval, ↓reduceIte]
  (repeat' (refine kD_intro (fun _ => ?_) (fun _ => ?_))) <;> exact Res_bool (by simp [greatE, *])
structure En.fit (e : En) : Prop where
  n : e.name.length ≤ 9223372036854775807
  t : e.tag.length ≤ 9223372036854775807
structure Pr.fit (p : Pr) : Prop where
  l : p.e.fit
structure Se.fit (x : Se) : Prop where
  p : x.peer.fit
  s : x.send.length ≤ 9223372036854775807
  h : x.hear.length ≤ 9223372036854775807
structure It.fit (x : It) : Prop where
  k : x.k.length ≤ 9223372036854775807
  v : x.v.length ≤ 9223372036854775807
structure Ms.fit (m : Ms) : Prop where
  k : m.key.length ≤ 9223372036854775807
  v : m.val.length ≤ 9223372036854775807
  e : m.ents.length ≤ 9223372036854775807
  i : m.items.length ≤ 9223372036854775807
  es : ∀ e ∈ m.ents, e.fit
  is : ∀ x ∈ m.items, x.fit
structure Pd.fit (p : Pd) : Prop where
  t : p.to.fit
  m : p.m.fit
structure Jb.fit (j : Jb) : Prop where
  k : j.key.length ≤ 9223372036854775807
  v : j.val.length ≤ 9223372036854775807
  ik : j.item.fit
  o : j.owner.fit
  b : j.back.fit
  a : j.asked.length ≤ 9223372036854775807
  al : ∀ s ∈ j.asked, s.length ≤ 9223372036854775807
structure Rs.fit (r : Rs) : Prop where
  k : r.key.length ≤ 9223372036854775807
  v : r.val.length ≤ 9223372036854775807
structure Nd.fit (n : Nd) : Prop where
  me : n.me.fit
  psk : n.psk.length ≤ 9223372036854775807
  gk : n.gateK.length ≤ 9223372036854775807
  pl : n.pred.length ≤ 9223372036854775807
  p : ∀ p ∈ n.pred, p.fit
  ll : n.list.length ≤ 9223372036854775807
  l : ∀ p ∈ n.list, p.fit
  fl : n.fingers.length ≤ 9223372036854775807
  f : ∀ f ∈ n.fingers, f.p.fit
  sl : n.sessions.length ≤ 9223372036854775807
  s : ∀ s ∈ n.sessions, s.fit
  dl : n.pends.length ≤ 9223372036854775807
  d : ∀ p ∈ n.pends, p.fit
  il : n.items.length ≤ 9223372036854775807
  i : ∀ x ∈ n.items, x.fit
  jl : n.jobs.length ≤ 9223372036854775807
  j : ∀ j ∈ n.jobs, j.fit
  wl : n.draws.length ≤ 9223372036854775807
  rl : n.results.length ≤ 9223372036854775807
  r : ∀ r ∈ n.results, r.fit
@[reducible] def I64 (n : Int) : Prop := -9223372036854775808 ≤ n ∧ n ≤ 9223372036854775807
@[reducible] def U64 (n : Nat) : Prop := n ≤ 18446744073709551615
structure Pr.ok (p : Pr) : Prop where
  e : p.e.ok
  s1 : -9223372036854775808 ≤ p.since
  s2 : p.since ≤ 9223372036854775807
  u1 : -9223372036854775808 ≤ p.under
  u2 : p.under ≤ 9223372036854775807
structure Rs.ok (r : Rs) : Prop where
  j1 : -9223372036854775808 ≤ r.job
  j2 : r.job ≤ 9223372036854775807
  k1 : -9223372036854775808 ≤ r.kind
  k2 : r.kind ≤ 9223372036854775807
  v1 : -9223372036854775808 ≤ r.ver
  v2 : r.ver ≤ 9223372036854775807
  e1 : -9223372036854775808 ≤ r.err
  e2 : r.err ≤ 9223372036854775807
structure Fg.ok (x : Fg) : Prop where
  b : I64 x.bit
  p : x.p.ok
structure It.ok (x : It) : Prop where
  n : I64 x.n
structure Se.ok (x : Se) : Prop where
  id : U64 x.id
  nonce : U64 x.nonce
  peer : x.peer.ok
  role : I64 x.role
  state : I64 x.state
  epoch : I64 x.epoch
  count : I64 x.count
  since : I64 x.since
  seq : I64 x.seq
  top : I64 x.seen.top
  low : U64 x.seen.low
  high : U64 x.seen.high
  used : I64 x.used
structure Ms.ok (m : Ms) : Prop where
  kind : I64 m.kind
  rid : I64 m.rid
  ver : I64 m.ver
  err : I64 m.err
  id : U64 m.id
  ents : ∀ e ∈ m.ents, e.ok
  items : ∀ x ∈ m.items, x.ok
structure Pd.ok (p : Pd) : Prop where
  rid : I64 p.rid
  why : I64 p.why
  job : I64 p.job
  til : I64 p.til
  tries : I64 p.tries
  session : U64 p.session
  to : p.to.ok
  m : p.m.ok
structure Jb.ok (j : Jb) : Prop where
  id : I64 j.id
  kind : I64 j.kind
  phase : I64 j.phase
  hops : I64 j.hops
  tries : I64 j.tries
  til : I64 j.til
  owner : j.owner.ok
  item : j.item.ok
  acks : I64 j.acks
  waits : I64 j.waits
  back : j.back.ok
  backRid : I64 j.backRid
  backJob : I64 j.backJob
structure Nd.ok (n : Nd) : Prop where
  me : n.me.ok
  clock : I64 n.clock
  gate : I64 n.gateI
  pred : ∀ p ∈ n.pred, p.ok
  list : ∀ p ∈ n.list, p.ok
  fingers : ∀ p ∈ n.fingers, p.ok
  sessions : ∀ p ∈ n.sessions, p.ok
  pends : ∀ p ∈ n.pends, p.ok
  items : ∀ p ∈ n.items, p.ok
  jobs : ∀ p ∈ n.jobs, p.ok
  rid : I64 n.rid
  jobId : I64 n.jobId
  draws : ∀ d ∈ n.draws, U64 d
  results : ∀ p ∈ n.results, p.ok
@[go_sem] theorem e50 (l : List Pr) (hl : l.length ≤ 9223372036854775807) (hp : ∀ p ∈ l, p.fit) : fn C 50 [] [.slice 8 (l.map Pr.cs)] = some (.bool (greatPs l), []) := by
  rw [fn_text Tryz.func50 rfl rfl Tryz.results50 fq50.1 rfl rfl (by kernel_rfl)]
  unfold greatPs
  by_cases hb : 40 < l.length
  · simp -implicitDefEqProofs -dsimp +contextual (maxSteps := 9999999) (disch := first | omega | simp only [go_sem] <;> omega | refine ib ?_; kernel_rfl) only [go_sem, seval, ↓reduceIte, hb]
    try simp [hb]
  · simp -implicitDefEqProofs -dsimp +contextual (maxSteps := 9999999) (disch := first | omega | simp only [go_sem] <;> omega | refine ib ?_; kernel_rfl) only [go_sem, seval, ↓reduceIte, hb]
    refine kFor l.length (fun i f H => f 0 = .slice 8 (l.map Pr.cs) ∧ f 3 = .int .i64 (i : Nat) ∧ H = Heap.nil ∧ (l.take i).any (fun p => greatE p.e) = false) ?_ ?_ ⟨rfl, rfl, rfl, rfl⟩
    · rintro i f _ hi ⟨h0, h3, rfl, ha⟩ ih
      have := (hp _ (List.getElem_mem hi)).l.n
      have := (hp _ (List.getElem_mem hi)).l.t
      simp -implicitDefEqProofs -dsimp +contextual (maxSteps := 9999999) (disch := first | omega | simp only [go_sem] <;> omega | refine ib ?_; kernel_rfl) only [go_sem, seval, ↓reduceIte, h0, h3, hi]
      (repeat' (refine kD_intro (fun _ => ?_) (fun _ => ?_)))
      · rename_i h; rw [any_at (p := fun p => greatE p.e) hi h] <;> simp
      · rename_i h; exact ih _ _ ⟨h0, rfl, rfl, any_take hi ha (by simpa using h)⟩
    · rintro f _ ⟨h0, h3, rfl, ha⟩
      simp -implicitDefEqProofs -dsimp +contextual (maxSteps := 9999999) (disch := first | omega | simp only [go_sem] <;> omega | refine ib ?_; kernel_rfl) only [go_sem, seval, ↓reduceIte, h0, h3]
      rw [any_end ha] <;> simp [hb]
@[go_sem] theorem e146 (s : Se) (h : s.fit) : fn C 146 [] [.agg [.int .u64 (s.id : Int), .int .u64 (s.nonce : Int), .str s.peer.name, .int .u64 (s.peer.id : Int), .int .i64 s.peer.fr, .int .i64 s.peer.un, .int .i64 s.peer.ix, .str s.peer.tag, .int .i64 s.role, .int .i64 s.state, .str s.send, .str s.hear, .int .i64 s.epoch, .int .i64 s.count, .int .i64 s.since, .int .i64 s.seq, .int .i64 s.seen.top, .int .u64 (s.seen.low : Int), .int .u64 (s.seen.high : Int), .int .i64 s.used]] = some (.bool (greatS s), []) := by
  rw [fn_text Tryz.func146 rfl rfl Tryz.results146 fq146.1 rfl rfl (by kernel_rfl)]
  have := h.p.n
  have := h.p.t
  have := h.s
  have := h.h
  simp -implicitDefEqProofs -dsimp +contextual (maxSteps := 9999999) (disch := first | omega | simp only [go_sem] <;> omega | refine ib ?_; kernel_rfl) only [go_sem, seval, ↓reduceIte]
  (repeat' (refine kD_intro (fun _ => ?_) (fun _ => ?_))) <;> exact Res_bool (by simp [greatS, *])
@[go_sem] theorem e51 (l : List Se) (hl : l.length ≤ 9223372036854775807) (hp : ∀ p ∈ l, p.fit) : fn C 51 [] [.slice 20 (l.map Se.cs)] = some (.bool (greatSs l), []) := by
  rw [fn_text Tryz.func51 rfl rfl Tryz.results51 fq51.1 rfl rfl (by kernel_rfl)]
  unfold greatSs
  by_cases hb : 60 < l.length
  · simp -implicitDefEqProofs -dsimp +contextual (maxSteps := 9999999) (disch := first | omega | simp only [go_sem] <;> omega | refine ib ?_; kernel_rfl) only [go_sem, seval, ↓reduceIte, hb]
    try simp [hb]
  · simp -implicitDefEqProofs -dsimp +contextual (maxSteps := 9999999) (disch := first | omega | simp only [go_sem] <;> omega | refine ib ?_; kernel_rfl) only [go_sem, seval, ↓reduceIte, hb]
    refine kFor l.length (fun i f H => f 0 = .slice 20 (l.map Se.cs) ∧ f 3 = .int .i64 (i : Nat) ∧ H = Heap.nil ∧ (l.take i).any greatS = false) ?_ ?_ ⟨rfl, rfl, rfl, rfl⟩
    · rintro i f _ hi ⟨h0, h3, rfl, ha⟩ ih
      have := hp _ (List.getElem_mem hi)
      simp -implicitDefEqProofs -dsimp +contextual (maxSteps := 9999999) (disch := first | omega | simp only [go_sem] <;> omega | refine ib ?_; kernel_rfl) only [go_sem, seval, ↓reduceIte, h0, h3, hi, this]
      (repeat' (refine kD_intro (fun _ => ?_) (fun _ => ?_)))
      · rename_i h; rw [any_at hi h] <;> simp
      · rename_i h; exact ih _ _ ⟨h0, rfl, rfl, any_take hi ha (by simpa using h)⟩
    · rintro f _ ⟨h0, h3, rfl, ha⟩
      simp -implicitDefEqProofs -dsimp +contextual (maxSteps := 9999999) (disch := first | omega | simp only [go_sem] <;> omega | refine ib ?_; kernel_rfl) only [go_sem, seval, ↓reduceIte, h0, h3]
      rw [any_end ha] <;> simp [hb]
@[go_sem] theorem e52 (l : List It) (hl : l.length ≤ 9223372036854775807) (hp : ∀ x ∈ l, x.fit) : fn C 52 [] [.slice 4 (l.map It.cs)] = some (.bool (greatIs l), []) := by
  rw [fn_text Tryz.func52 rfl rfl Tryz.results52 fq52.1 rfl rfl (by kernel_rfl)]
  unfold greatIs
  by_cases hb : 60 < l.length
  · simp -implicitDefEqProofs -dsimp +contextual (maxSteps := 9999999) (disch := first | omega | simp only [go_sem] <;> omega | refine ib ?_; kernel_rfl) only [go_sem, seval, ↓reduceIte, hb]
    try simp [hb]
  · simp -implicitDefEqProofs -dsimp +contextual (maxSteps := 9999999) (disch := first | omega | simp only [go_sem] <;> omega | refine ib ?_; kernel_rfl) only [go_sem, seval, ↓reduceIte, hb]
    refine kFor l.length (fun i f H => f 0 = .slice 4 (l.map It.cs) ∧ f 3 = .int .i64 (i : Nat) ∧ H = Heap.nil ∧ (l.take i).any greatI = false) ?_ ?_ ⟨rfl, rfl, rfl, rfl⟩
    · rintro i f _ hi ⟨h0, h3, rfl, ha⟩ ih
      have := (hp _ (List.getElem_mem hi)).k
      have := (hp _ (List.getElem_mem hi)).v
      simp -implicitDefEqProofs -dsimp +contextual (maxSteps := 9999999) (disch := first | omega | simp only [go_sem] <;> omega | refine ib ?_; kernel_rfl) only [go_sem, seval, ↓reduceIte, h0, h3, hi]
      (repeat' (refine kD_intro (fun _ => ?_) (fun _ => ?_)))
      · rename_i h; rw [any_at (p := greatI) hi (by simp [greatI, h])] <;> simp
      · rename_i h h'; rw [any_at (p := greatI) hi (by simp [greatI, h'])] <;> simp
      · rename_i h h'; exact ih _ _ ⟨h0, rfl, rfl, any_take hi ha (by simp [greatI]; omega)⟩
    · rintro f _ ⟨h0, h3, rfl, ha⟩
      simp -implicitDefEqProofs -dsimp +contextual (maxSteps := 9999999) (disch := first | omega | simp only [go_sem] <;> omega | refine ib ?_; kernel_rfl) only [go_sem, seval, ↓reduceIte, h0, h3]
      rw [any_end ha] <;> simp [hb]
@[go_sem] theorem e53 (m : Ms) (h : m.fit) : fn C 53 [] [.agg [.int .i64 m.kind, .int .i64 m.rid, .int .i64 m.ver, .int .i64 m.err, .int .u64 (m.id : Int), .bool m.has, .bool m.gone, .str m.key, .str m.val, .slice 6 (m.ents.map En.cs), .slice 4 (m.items.map It.cs)]] = some (.bool (greatM m), []) := by
  rw [fn_text Tryz.func53 rfl rfl Tryz.results53 fq53.1 rfl rfl (by kernel_rfl)]
  have := h.k
  have := h.v
  have := h.e
  have := h.i
  unfold greatM
  by_cases b1 : 300 < m.key.length
  · simp -implicitDefEqProofs -dsimp +contextual (maxSteps := 9999999) (disch := first | omega | simp only [go_sem] <;> omega | refine ib ?_; kernel_rfl) only [go_sem, seval, ↓reduceIte, b1]
    try simp [b1]
  by_cases b2 : 300 < m.val.length
  · simp -implicitDefEqProofs -dsimp +contextual (maxSteps := 9999999) (disch := first | omega | simp only [go_sem] <;> omega | refine ib ?_; kernel_rfl) only [go_sem, seval, ↓reduceIte, b1, b2]
    try simp [b2]
  by_cases b3 : 30 < m.ents.length
  · simp -implicitDefEqProofs -dsimp +contextual (maxSteps := 9999999) (disch := first | omega | simp only [go_sem] <;> omega | refine ib ?_; kernel_rfl) only [go_sem, seval, ↓reduceIte, b1, b2, b3]
    try simp [b3]
  by_cases b4 : 30 < m.items.length
  · simp -implicitDefEqProofs -dsimp +contextual (maxSteps := 9999999) (disch := first | omega | simp only [go_sem] <;> omega | refine ib ?_; kernel_rfl) only [go_sem, seval, ↓reduceIte, b1, b2, b3, b4]
    try simp [b4]
  simp -implicitDefEqProofs -dsimp +contextual (maxSteps := 9999999) (disch := first | omega | simp only [go_sem] <;> omega | refine ib ?_; kernel_rfl) only [go_sem, seval, ↓reduceIte, b1, b2, b3, b4]
  refine kFor m.ents.length (fun i f H => f 1 = .ptr 101 1 0 0 ∧ f 3 = .int .i64 (i : Nat) ∧ H 101 = ⟨1, .live, 11, [m.cs], false⟩ ∧ (m.ents.take i).any greatE = false) ?_ ?_ ⟨rfl, rfl, rfl, rfl⟩
  · rintro i f H hi ⟨h1, h3, hH, ha⟩ ih
    have := (h.es _ (List.getElem_mem hi)).n
    have := (h.es _ (List.getElem_mem hi)).t
    simp -implicitDefEqProofs -dsimp +contextual (maxSteps := 9999999) (disch := first | omega | simp only [go_sem] <;> omega | refine ib ?_; kernel_rfl) only [go_sem, seval, ↓reduceIte, h1, h3, hH, hi]
    (repeat' (refine kD_intro (fun _ => ?_) (fun _ => ?_)))
    · rename_i h; rw [any_at hi h] <;> simp
    · rename_i h; exact ih _ _ ⟨h1, rfl, hH, any_take hi ha (by simpa using h)⟩
  · rintro f H ⟨h1, h3, hH, ha⟩
    simp -implicitDefEqProofs -dsimp +contextual (maxSteps := 9999999) (disch := first | omega | simp only [go_sem] <;> omega | refine ib ?_; kernel_rfl) only [go_sem, seval, ↓reduceIte, h1, h3, hH]
    refine kFor m.items.length (fun i f H => f 1 = .ptr 101 1 0 0 ∧ f 4 = .int .i64 (i : Nat) ∧ H 101 = ⟨1, .live, 11, [m.cs], false⟩ ∧ (m.items.take i).any greatI = false) ?_ ?_ ⟨h1, rfl, hH, rfl⟩
    · rintro i f H hi ⟨h1, h3, hH, ha2⟩ ih
      have := (h.is _ (List.getElem_mem hi)).k
      have := (h.is _ (List.getElem_mem hi)).v
      simp -implicitDefEqProofs -dsimp +contextual (maxSteps := 9999999) (disch := first | omega | simp only [go_sem] <;> omega | refine ib ?_; kernel_rfl) only [go_sem, seval, ↓reduceIte, h1, h3, hH, hi]
      (repeat' (refine kD_intro (fun _ => ?_) (fun _ => ?_)))
      · rename_i h; rw [any_at (p := greatI) hi (by simp [greatI, h])] <;> simp
      · rename_i h h'; rw [any_at (p := greatI) hi (by simp [greatI, h'])] <;> simp
      · rename_i h h'; exact ih _ _ ⟨h1, rfl, hH, any_take hi ha2 (by simp [greatI]; omega)⟩
    · rintro f H ⟨h1, h3, hH, ha2⟩
      simp -implicitDefEqProofs -dsimp +contextual (maxSteps := 9999999) (disch := first | omega | simp only [go_sem] <;> omega | refine ib ?_; kernel_rfl) only [go_sem, seval, ↓reduceIte, h1, h3, hH]
      rw [any_end ha, any_end ha2] <;> simp [b1, b2, b3, b4]
@[go_sem] theorem e41 (l : List Pd) (hl : l.length ≤ 9223372036854775807) (hp : ∀ x ∈ l, x.fit) : fn C 41 [] [.slice 23 (l.map Pd.cs)] = some (.bool (greatPds l), []) := by
  rw [fn_text Tryz.func41 rfl rfl Tryz.results41 fq41.1 rfl rfl (by kernel_rfl)]
  unfold greatPds
  by_cases hb : 50 < l.length
  · simp -implicitDefEqProofs -dsimp +contextual (maxSteps := 9999999) (disch := first | omega | simp only [go_sem] <;> omega | refine ib ?_; kernel_rfl) only [go_sem, seval, ↓reduceIte, hb]
    try simp [hb]
  · simp -implicitDefEqProofs -dsimp +contextual (maxSteps := 9999999) (disch := first | omega | simp only [go_sem] <;> omega | refine ib ?_; kernel_rfl) only [go_sem, seval, ↓reduceIte, hb]
    refine kFor l.length (fun i f H => f 0 = .slice 23 (l.map Pd.cs) ∧ f 3 = .int .i64 (i : Nat) ∧ H = Heap.nil ∧ (l.take i).any (fun p => greatE p.to || greatM p.m) = false) ?_ ?_ ⟨rfl, rfl, rfl, rfl⟩
    · rintro i f _ hi ⟨h0, h3, rfl, ha⟩ ih
      have := (hp _ (List.getElem_mem hi)).t.n
      have := (hp _ (List.getElem_mem hi)).t.t
      have := (hp _ (List.getElem_mem hi)).m
      simp -implicitDefEqProofs -dsimp +contextual (maxSteps := 9999999) (disch := first | omega | simp only [go_sem] <;> omega | refine ib ?_; kernel_rfl) only [go_sem, seval, ↓reduceIte, h0, h3, hi]
      (repeat' (refine kD_intro (fun _ => ?_) (fun _ => ?_)))
      · rename_i h; rw [any_at (p := fun p : Pd => greatE p.to || greatM p.m) hi (by simp [h])] <;> simp
      · rename_i h h'; rw [any_at (p := fun p : Pd => greatE p.to || greatM p.m) hi (by simp [h'])] <;> simp
      · rename_i h h'; exact ih _ _ ⟨h0, rfl, rfl, any_take hi ha (by simp [h, h'])⟩
    · rintro f _ ⟨h0, h3, rfl, ha⟩
      simp -implicitDefEqProofs -dsimp +contextual (maxSteps := 9999999) (disch := first | omega | simp only [go_sem] <;> omega | refine ib ?_; kernel_rfl) only [go_sem, seval, ↓reduceIte, h0, h3]
      rw [any_end ha] <;> simp [hb]
structure Se.small (x : Se) : Prop where
  p : x.peer.small
  s : x.send.length ≤ 300
  h : x.hear.length ≤ 300
structure It.small (x : It) : Prop where
  k : x.k.length ≤ 300
  v : x.v.length ≤ 300
structure Ms.small (m : Ms) : Prop where
  k : m.key.length ≤ 300
  v : m.val.length ≤ 300
  e : m.ents.length ≤ 30
  i : m.items.length ≤ 30
  es : ∀ e ∈ m.ents, e.small
  is : ∀ x ∈ m.items, x.small
structure Pd.small (p : Pd) : Prop where
  t : p.to.small
  m : p.m.small
structure Jb.small (j : Jb) : Prop where
  k : j.key.length ≤ 300
  v : j.val.length ≤ 300
  i : j.item.small
  o : j.owner.small
  b : j.back.small
  a : j.asked.length ≤ 30
  al : ∀ s ∈ j.asked, s.length ≤ 1000
structure Rs.small (r : Rs) : Prop where
  k : r.key.length ≤ 300
  v : r.val.length ≤ 300
structure Nd.small (n : Nd) : Prop where
  me : n.me.small
  psk : n.psk.length ≤ 300
  gk : n.gateK.length ≤ 300
  pl : n.pred.length ≤ 40
  p : ∀ p ∈ n.pred, p.e.small
  ll : n.list.length ≤ 40
  l : ∀ p ∈ n.list, p.e.small
  fl : n.fingers.length ≤ 70
  f : ∀ f ∈ n.fingers, f.p.e.small
  sl : n.sessions.length ≤ 60
  s : ∀ s ∈ n.sessions, s.small
  dl : n.pends.length ≤ 50
  d : ∀ p ∈ n.pends, p.small
  il : n.items.length ≤ 60
  i : ∀ x ∈ n.items, x.small
  jl : n.jobs.length ≤ 20
  j : ∀ j ∈ n.jobs, j.small
  wl : n.draws.length ≤ 60
  rl : n.results.length ≤ 40
  r : ∀ r ∈ n.results, r.small
theorem greatS_no {s : Se} (h : greatS s = false) : s.small := by
  simp only [greatS, Bool.or_eq_false_iff, decide_eq_false_iff_not, Nat.not_lt] at h
  exact ⟨greatE_no h.2, h.1.1, h.1.2⟩
theorem greatI_no {x : It} (h : greatI x = false) : x.small := by
  simp only [greatI, Bool.or_eq_false_iff, decide_eq_false_iff_not, Nat.not_lt] at h
  exact ⟨h.1, h.2⟩
theorem greatM_no {m : Ms} (h : greatM m = false) : m.small := by
  simp only [greatM, Bool.or_eq_false_iff, decide_eq_false_iff_not, Nat.not_lt] at h
  obtain ⟨⟨⟨⟨⟨h1, h2⟩, h3⟩, h4⟩, h5⟩, h6⟩ := h
  exact ⟨h1, h2, h3, h4, fun e he => greatE_no (any_mem h5 e he), fun x hx => greatI_no (any_mem h6 x hx)⟩
theorem greatJ_no {j : Jb} (h : greatJ j = false) : j.small := by
  simp only [greatJ, Bool.or_eq_false_iff, decide_eq_false_iff_not, Nat.not_lt] at h
  obtain ⟨⟨⟨⟨⟨⟨⟨h1, h2⟩, h3⟩, h4⟩, h5⟩, h6⟩, h7⟩, h8⟩ := h
  exact ⟨h1, h2, ⟨h3, h4⟩, greatE_no h5, greatE_no h6, h7, fun s hs => by have := any_mem h8 s hs; simpa using this⟩
theorem greatPs_no {l : List Pr} (h : greatPs l = false) : l.length ≤ 40 ∧ ∀ p ∈ l, p.e.small := by
  simp only [greatPs, Bool.or_eq_false_iff, decide_eq_false_iff_not, Nat.not_lt] at h
  exact ⟨h.1, fun p hp => greatE_no (any_mem h.2 p hp)⟩
theorem greatSs_no {l : List Se} (h : greatSs l = false) : l.length ≤ 60 ∧ ∀ p ∈ l, p.small := by
  simp only [greatSs, Bool.or_eq_false_iff, decide_eq_false_iff_not, Nat.not_lt] at h
  exact ⟨h.1, fun p hp => greatS_no (any_mem h.2 p hp)⟩
theorem greatIs_no {l : List It} (h : greatIs l = false) : l.length ≤ 60 ∧ ∀ p ∈ l, p.small := by
  simp only [greatIs, Bool.or_eq_false_iff, decide_eq_false_iff_not, Nat.not_lt] at h
  exact ⟨h.1, fun p hp => greatI_no (any_mem h.2 p hp)⟩
theorem greatPds_no {l : List Pd} (h : greatPds l = false) : l.length ≤ 50 ∧ ∀ p ∈ l, p.small := by
  simp only [greatPds, Bool.or_eq_false_iff, decide_eq_false_iff_not, Nat.not_lt] at h
  refine ⟨h.1, fun p hp => ?_⟩
  have := any_mem h.2 p hp
  simp only [Bool.or_eq_false_iff] at this
  exact ⟨greatE_no this.1, greatM_no this.2⟩
theorem greatN_no {n : Nd} (h : greatN n = false) : n.small := by
  simp only [greatN, Bool.or_eq_false_iff, decide_eq_false_iff_not, Nat.not_lt] at h
  obtain ⟨⟨⟨⟨⟨⟨⟨⟨⟨⟨⟨⟨⟨⟨h1, h2⟩, h3⟩, h4⟩, h5⟩, h6⟩, h7⟩, h8⟩, h9⟩, h10⟩, h11⟩, h12⟩, h13⟩, h14⟩, h15⟩ := h
  have q4 := greatPs_no h4; have q5 := greatPs_no h5; have q7 := greatSs_no h7; have q8 := greatPds_no h8; have q9 := greatIs_no h9
  exact ⟨greatE_no h1, h2, h3, q4.1, q4.2, q5.1, q5.2, h6, fun x hx => greatE_no (any_mem h13 x hx), q7.1, q7.2, q8.1, q8.2, q9.1, q9.2, h10, fun x hx => greatJ_no (any_mem h14 x hx), h11, h12, fun r hr => by
    have := any_mem h15 r hr
    simp only [Bool.or_eq_false_iff, decide_eq_false_iff_not, Nat.not_lt] at this
    exact ⟨this.1, this.2⟩⟩
def placeR (l : List It) (key : List UInt8) : Int := if l.findIdx (fun x => decide (x.k = key)) < l.length then (l.findIdx (fun x => decide (x.k = key)) : Nat) else -1
theorem all_take {α : Type} {p : α → Bool} {l : List α} {i : Nat} (h : i < l.length) (h1 : (l.take i).all p = true) (h2 : p l[i] = true) : (l.take (i + 1)).all p = true := by
  rw [List.take_succ_eq_append_getElem h, List.all_append, h1]; simp [h2]
theorem place_at {l : List It} {key : List UInt8} {i : Nat} (h : i < l.length) (hn : (l.take i).all (fun x => !decide (x.k = key)) = true) (he : l[i].k = key) : placeR l key = i := by
  have : l.findIdx (fun x => decide (x.k = key)) = i := by
    rw [List.findIdx_eq h]
    refine ⟨by simpa using he, fun j hj => ?_⟩
    have := List.all_eq_true.1 hn l[j] (by
      rw [List.mem_take_iff_getElem]; exact ⟨j, by omega, rfl⟩)
    simpa using this
  unfold placeR
  rw [this, if_pos h]
theorem place_none {l : List It} {key : List UInt8} (hn : l.all (fun x => !decide (x.k = key)) = true) : placeR l key = -1 := by
  unfold placeR
  rw [if_neg]
  intro hlt
  have := List.findIdx_getElem (w := hlt)
  have h2 := List.all_eq_true.1 hn _ (List.getElem_mem hlt)
  simp only [Bool.not_eq_true', decide_eq_false_iff_not] at h2
  exact h2 (by simpa using this)
def getR (l : List It) (key : List UInt8) : It × Bool := match l.find? (fun x => decide (x.k = key)) with | some x => (x, true) | none => (zeroIt, false)
theorem get_at {l : List It} {key : List UInt8} {i : Nat} (h : i < l.length) (hn : (l.take i).all (fun x => !decide (x.k = key)) = true) (he : l[i].k = key) : getR l key = (l[i], true) := by
  have : l.find? (fun x => decide (x.k = key)) = some l[i] := by
    rw [List.find?_eq_some_iff_getElem]
    refine ⟨by simpa using he, i, h, rfl, fun j hj => ?_⟩
    have := List.all_eq_true.1 hn l[j] (by
      rw [List.mem_take_iff_getElem]; exact ⟨j, by omega, rfl⟩)
    simpa using this
  simp [getR, this]
theorem get_none {l : List It} {key : List UInt8} (hn : l.all (fun x => !decide (x.k = key)) = true) : getR l key = (zeroIt, false) := by
  have : l.find? (fun x => decide (x.k = key)) = none := by
    rw [List.find?_eq_none]
    intro x hx
    have := List.all_eq_true.1 hn x hx
    simpa using this
  simp [getR, this]
theorem place_cases (l : List It) (key : List UInt8) : (∃ (j : Nat) (h : j < l.length), l[j].k = key ∧ (l.take j).all (fun x => !decide (x.k = key)) = true ∧ placeR l key = j ∧ getR l key = (l[j], true)) ∨ (l.all (fun x => !decide (x.k = key)) = true ∧ placeR l key = -1 ∧ getR l key = (zeroIt, false)) := by
  by_cases h : l.all (fun x => !decide (x.k = key)) = true
  · exact .inr ⟨h, place_none h, get_none h⟩
  · left
    have hlt : l.findIdx (fun x => decide (x.k = key)) < l.length := by
      rw [List.findIdx_lt_length]
      simp only [List.all_eq_true, Bool.not_eq_true', decide_eq_false_iff_not, Classical.not_forall, Classical.not_not] at h
      obtain ⟨x, hx, he⟩ := h
      exact ⟨x, hx, by simpa using he⟩
    have he : l[l.findIdx (fun x => decide (x.k = key))].k = key := by
      have := List.findIdx_getElem (w := hlt); simpa using this
    have hn : (l.take (l.findIdx (fun x => decide (x.k = key)))).all (fun x => !decide (x.k = key)) = true := by
      rw [List.all_eq_true]
      intro x hx
      rw [List.mem_take_iff_getElem] at hx
      obtain ⟨j, hj, rfl⟩ := hx
      have := List.not_of_lt_findIdx (p := fun x : It => decide (x.k = key)) (xs := l) (i := j) (by omega)
      simpa using this
    exact ⟨_, hlt, he, hn, place_at hlt hn he, get_at hlt hn he⟩
@[go_sem] theorem e234 (l : List It) (key : List UInt8) (hl : l.length ≤ 9223372036854775807) : fn C 234 [] [.slice 4 (l.map It.cs), .str key] = some (.int .i64 (placeR l key), []) := by
  rw [fn_text Tryz.func234 rfl rfl Tryz.results234 fq234.1 rfl rfl (by kernel_rfl)]
  simp -implicitDefEqProofs -dsimp +contextual (maxSteps := 9999999) (disch := first | omega | simp only [go_sem] <;> omega | refine ib ?_; kernel_rfl) only [go_sem, seval, ↓reduceIte]
  refine (kLoop_rec (fun i f H => f 0 = .slice 4 (l.map It.cs) ∧ f 1 = .str key ∧ f 5 = .int .i64 (i : Nat) ∧ H = Heap.nil ∧ i ≤ l.length ∧ (l.take i).all (fun x => !decide (x.k = key)) = true) (fun i => l.length - i) (fun i => some (.int .i64 (placeR l key), [])) ?_ 0 _ _ ⟨rfl, rfl, rfl, rfl, by omega, rfl⟩).trans rfl
  rintro i f _ ⟨h0, h1, h5, rfl, hi, hall⟩ ih
  by_cases hl : i < l.length
  · simp -implicitDefEqProofs -dsimp +contextual (maxSteps := 9999999) (disch := first | omega | simp only [go_sem] <;> omega | refine ib ?_; kernel_rfl) only [go_sem, seval, ↓reduceIte, h0, h1, h5, hl]
    (repeat' (refine kD_intro (fun _ => ?_) (fun _ => ?_)))
    · rename_i h; rw [place_at hl hall h]
    · rename_i h; exact ih (i + 1) _ _ ⟨h0, h1, rfl, rfl, by omega, all_take hl hall (by simpa using h)⟩ (by omega)
  · simp -implicitDefEqProofs -dsimp +contextual (maxSteps := 9999999) (disch := first | omega | simp only [go_sem] <;> omega | refine ib ?_; kernel_rfl) only [go_sem, seval, ↓reduceIte, h0, h1, h5, hl]
    obtain rfl : i = l.length := by omega
    rw [place_none (by simpa using hall)]
@[go_sem] theorem e249 (k v : List UInt8) (n : Int) (g : Bool) (key : List UInt8) : fn C 249 [] [.agg [.str k, .str v, .int .i64 n, .bool g], .iptr [.str key]] = some (.bool (decide (k = key)), []) := by
  rw [fn_text Tryz.func249 rfl rfl Tryz.results249 fq249.1 rfl rfl (by kernel_rfl)]
  simp -implicitDefEqProofs -dsimp +contextual (maxSteps := 9999999) (disch := first | omega | simp only [go_sem] <;> omega | refine ib ?_; kernel_rfl) only [go_sem, seval, ↓reduceIte]
@[go_sem] theorem e248 (l : List It) (key : List UInt8) (hl : l.length ≤ 9223372036854775807) : fn C 248 [] [.slice 4 (l.map It.cs), .fn (.func 249) [] [.iptr [.str key]]] = some (.int .i64 (placeR l key), []) := by
  rw [fn_text Tryz.func248 rfl rfl Tryz.results248 fq248.1 rfl rfl (by kernel_rfl)]
  simp -implicitDefEqProofs -dsimp +contextual (maxSteps := 9999999) (disch := first | omega | simp only [go_sem] <;> omega | refine ib ?_; kernel_rfl) only [go_sem, seval, ↓reduceIte]
  refine (kLoop_rec (fun i f H => f 0 = .slice 4 (l.map It.cs) ∧ f 1 = .fn (.func 249) [] [.iptr [.str key]] ∧ f 7 = .int .i64 l.length ∧ f 8 = .int .i64 (i : Nat) ∧ H = Heap.nil ∧ i ≤ l.length ∧ (l.take i).all (fun x => !decide (x.k = key)) = true) (fun i => l.length - i) (fun i => some (.int .i64 (placeR l key), [])) ?_ 0 _ _ ⟨rfl, rfl, rfl, rfl, rfl, by omega, rfl⟩).trans rfl
  rintro i f _ ⟨h0, h1, h7, h8, rfl, hi, hall⟩ ih
  by_cases hl : i < l.length
  · simp -implicitDefEqProofs -dsimp +contextual (maxSteps := 9999999) (disch := first | omega | simp only [go_sem] <;> omega | refine ib ?_; kernel_rfl) only [go_sem, seval, ↓reduceIte, h0, h1, h7, h8, hl]
    (repeat' (refine kD_intro (fun _ => ?_) (fun _ => ?_)))
    · rename_i h; rw [place_at hl hall h]
    · rename_i h; exact ih (i + 1) _ _ ⟨h0, h1, h7, rfl, rfl, by omega, all_take hl hall (by simpa using h)⟩ (by omega)
  · simp -implicitDefEqProofs -dsimp +contextual (maxSteps := 9999999) (disch := first | omega | simp only [go_sem] <;> omega | refine ib ?_; kernel_rfl) only [go_sem, seval, ↓reduceIte, h0, h1, h7, h8, hl]
    obtain rfl : i = l.length := by omega
    rw [place_none (by simpa using hall)]
@[go_sem] theorem e212 (l : List It) (key : List UInt8) (hl : l.length ≤ 9223372036854775807) : fn C 212 [] [.slice 4 (l.map It.cs), .str key] = some (.int .i64 (placeR l key), []) := by
  rw [fn_text Tryz.func212 rfl rfl Tryz.results212 fq212.1 rfl rfl (by kernel_rfl)]
  simp -implicitDefEqProofs -dsimp +contextual (maxSteps := 9999999) (disch := first | omega | simp only [go_sem] <;> omega | refine ib ?_; kernel_rfl) only [go_sem, seval, ↓reduceIte]
@[go_sem] theorem e116 (l : List It) (key : List UInt8) (hl : l.length ≤ 9223372036854775807) : fn C 116 [] [.slice 4 (l.map It.cs), .str key] = some (.tup [.agg (getR l key).1.cs, .bool (getR l key).2], []) := by
  rw [fn_text Tryz.func116 rfl rfl Tryz.results116 fq116.1 rfl rfl (by kernel_rfl)]
  simp -implicitDefEqProofs -dsimp +contextual (maxSteps := 9999999) (disch := first | omega | simp only [go_sem] <;> omega | refine ib ?_; kernel_rfl) only [go_sem, seval, ↓reduceIte]
  refine (kLoop_rec (fun i f H => f 0 = .slice 4 (l.map It.cs) ∧ f 1 = .str key ∧ f 4 = .ptr 104 1 0 0 ∧ f 6 = .int .i64 (i : Nat) ∧ H 104 = ⟨1, .live, 4, [zeroIt.cs], false⟩ ∧ i ≤ l.length ∧ (l.take i).all (fun x => !decide (x.k = key)) = true) (fun i => l.length - i) (fun i => some (.tup [.agg (getR l key).1.cs, .bool (getR l key).2], [])) ?_ 0 _ _ ⟨rfl, rfl, rfl, rfl, rfl, by omega, rfl⟩).trans rfl
  rintro i f H ⟨h0, h1, h4, h6, hH, hi, hall⟩ ih
  by_cases hl : i < l.length
  · simp -implicitDefEqProofs -dsimp +contextual (maxSteps := 9999999) (disch := first | omega | simp only [go_sem] <;> omega | refine ib ?_; kernel_rfl) only [go_sem, seval, ↓reduceIte, h0, h1, h4, h6, hl, hH]
    (repeat' (refine kD_intro (fun _ => ?_) (fun _ => ?_)))
    · rename_i h; rw [get_at hl hall h]; simp [h]
    · rename_i h; exact ih (i + 1) _ _ ⟨h0, h1, h4, rfl, by simp -implicitDefEqProofs -dsimp +contextual (maxSteps := 9999999) (disch := first | omega | simp only [go_sem] <;> omega | refine ib ?_; kernel_rfl) only [go_sem, seval, ↓reduceIte, hH], by omega, all_take hl hall (by simpa using h)⟩ (by omega)
  · simp -implicitDefEqProofs -dsimp +contextual (maxSteps := 9999999) (disch := first | omega | simp only [go_sem] <;> omega | refine ib ?_; kernel_rfl) only [go_sem, seval, ↓reduceIte, h0, h1, h4, h6, hl, hH]
    obtain rfl : i = l.length := by omega
    rw [get_none (by simpa using hall)] <;> rfl
@[go_sem] theorem e151 (l : List It) (key : List UInt8) (hl : l.length ≤ 9223372036854775807) : fn C 151 [] [.slice 4 (l.map It.cs), .str key] = some (.tup [.agg (getR l key).1.cs, .bool (getR l key).2], []) := by
  rw [fn_text Tryz.func151 rfl rfl Tryz.results151 fq151.1 rfl rfl (by kernel_rfl)]
  rcases place_cases l key with ⟨j, hj, he, hn, hp, hg⟩ | ⟨hn, hp, hg⟩
  · simp -implicitDefEqProofs -dsimp +contextual (maxSteps := 9999999) (disch := first | omega | simp only [go_sem] <;> omega | refine ib ?_; kernel_rfl) only [go_sem, seval, ↓reduceIte, hp, hg]
  · simp -implicitDefEqProofs -dsimp +contextual (maxSteps := 9999999) (disch := first | omega | simp only [go_sem] <;> omega | refine ib ?_; kernel_rfl) only [go_sem, seval, ↓reduceIte, hp, hg]
theorem less_at (a b : List UInt8) (i : Nat) (h : a.take i = b.take i) (ha : i < a.length) (hb : i < b.length) (hne : a[i] ≠ b[i]) : Op.bytesLess a b = decide (a[i].toNat < b[i].toNat) := by
  induction i generalizing a b with
  | zero =>
    cases a with
    | nil => simp at ha
    | cons x a =>
      cases b with
      | nil => simp at hb
      | cons y b =>
        simp only [List.getElem_cons_zero] at hne ⊢
        simp [Op.bytesLess, hne, UInt8.lt_iff_toNat_lt]
  | succ i ih =>
    cases a with
    | nil => simp at ha
    | cons x a =>
      cases b with
      | nil => simp at hb
      | cons y b =>
        simp only [List.take_succ_cons, List.cons.injEq] at h
        obtain ⟨rfl, h⟩ := h
        simp only [List.getElem_cons_succ] at hne ⊢
        rw [← ih a b h (by simpa using ha) (by simpa using hb) hne]
        simp [Op.bytesLess]
theorem less_len (a b : List UInt8) (i : Nat) (hi : i ≤ a.length) (hi' : i ≤ b.length) (h : a.take i = b.take i) (he : i = a.length ∨ i = b.length) : Op.bytesLess a b = decide (a.length < b.length) := by
  induction i generalizing a b with
  | zero =>
    cases a with
    | nil => cases b <;> simp [Op.bytesLess]
    | cons x a =>
      cases b with
      | nil => simp [Op.bytesLess]
      | cons y b => simp at he
  | succ i ih =>
    cases a with
    | nil => simp at hi
    | cons x a =>
      cases b with
      | nil => simp at hi'
      | cons y b =>
        simp only [List.take_succ_cons, List.cons.injEq] at h
        obtain ⟨rfl, h⟩ := h
        have := ih a b (by simpa using hi) (by simpa using hi') h (by simpa using he)
        simp [Op.bytesLess, this]
@[go_sem] theorem e235 (a b : List UInt8) (hl : a.length ≤ 9223372036854775807) (hm : b.length ≤ 9223372036854775807) : fn C 235 [] [.str a, .str b] = some (.bool (Op.bytesLess a b), []) := by
  rw [fn_text Tryz.func235 rfl rfl Tryz.results235 fq235.1 rfl rfl (by kernel_rfl)]
  simp -implicitDefEqProofs -dsimp +contextual (maxSteps := 9999999) (disch := first | omega | simp only [go_sem] <;> omega | refine ib ?_; kernel_rfl) only [go_sem, seval, ↓reduceIte]
  refine (kLoop_rec (fun i f H => f 0 = .str a ∧ f 1 = .str b ∧ f 5 = .int .i64 (i : Nat) ∧ H = Heap.nil ∧ i ≤ a.length ∧ i ≤ b.length ∧ a.take i = b.take i) (fun i => a.length - i) (fun i => some (.bool (Op.bytesLess a b), [])) ?_ 0 _ _ ⟨rfl, rfl, rfl, rfl, by omega, by omega, rfl⟩).trans rfl
  rintro i f _ ⟨h0, h1, h5, rfl, hi, hj, ht⟩ ih
  by_cases h4 : i < a.length
  · by_cases h6 : i < b.length
    · simp -implicitDefEqProofs -dsimp +contextual (maxSteps := 9999999) (disch := first | omega | simp only [go_sem] <;> omega | refine ib ?_; kernel_rfl) only [go_sem, seval, ↓reduceIte, h0, h1, h5, h4, h6]
      (repeat' (refine kD_intro (fun _ => ?_) (fun _ => ?_)))
      · rename_i he
        refine ih (i + 1) _ _ ⟨h0, h1, rfl, rfl, by omega, by omega, ?_⟩ (by omega)
        rw [List.take_succ_eq_append_getElem h4, List.take_succ_eq_append_getElem h6, ht, UInt8.toNat_inj.1 he]
      · rename_i he
        rw [less_at a b i ht h4 h6 (fun e => he (by rw [e]))]
    · simp -implicitDefEqProofs -dsimp +contextual (maxSteps := 9999999) (disch := first | omega | simp only [go_sem] <;> omega | refine ib ?_; kernel_rfl) only [go_sem, seval, ↓reduceIte, h0, h1, h5, h4, h6]
      rw [less_len a b i hi hj ht (.inr (by omega))]
  · simp -implicitDefEqProofs -dsimp +contextual (maxSteps := 9999999) (disch := first | omega | simp only [go_sem] <;> omega | refine ib ?_; kernel_rfl) only [go_sem, seval, ↓reduceIte, h0, h1, h5, h4]
    (repeat' (refine kD_intro (fun _ => ?_) (fun _ => ?_))) <;> rw [less_len a b i hi hj ht (.inl (by omega))]
@[go_sem] theorem e222 (l : List It) (hl : l.length ≤ 1073741824) : fn C 222 [] [.slice 4 (l.map It.cs)] = some (.slice 4 (l.map It.cs), []) := by
  rw [fn_text Tryz.func222 rfl rfl Tryz.results222 fq222.1 rfl rfl (by kernel_rfl)]
  simp -implicitDefEqProofs -dsimp +contextual (maxSteps := 9999999) (disch := first | omega | simp only [go_sem] <;> omega | refine ib ?_; kernel_rfl) only [go_sem, seval, ↓reduceIte]
def insAt : List It → List UInt8 → Nat
  | [], _ => 0
  | x :: r, k => if Op.bytesLess x.k k = true then insAt r k + 1 else 0
def setR (l : List It) (x : It) : List It := if 0 ≤ placeR l x.k then l.set (placeR l x.k).toNat x else l.take (insAt l x.k) ++ x :: l.drop (insAt l x.k)
theorem insAt_eq (l : List It) (k : List UInt8) (i : Nat) (hi : i ≤ l.length) (h : ∀ j (hj : j < l.length), j < i → Op.bytesLess l[j].k k = true) (hn : ∀ (hj : i < l.length), Op.bytesLess l[i].k k = false) : insAt l k = i := by
  induction l generalizing i with
  | nil => simp at hi; simp [insAt, hi]
  | cons x r ih =>
    cases i with
    | zero => have := hn (by simp); simp at this; simp [insAt, this]
    | succ i =>
      have h0 := h 0 (by simp) (by omega)
      simp at h0
      simp only [insAt, h0, if_true]
      rw [ih i (by simpa using hi) (fun j hj hji => h (j + 1) (by simpa using hj) (by omega)) (fun hj => hn (by simpa using hj))]
@[go_sem] theorem e182 (l : List It) (k v : List UInt8) (n : Int) (g : Bool) (hl : l.length ≤ 1073741824) (hk : ∀ x ∈ l, x.k.length ≤ 9223372036854775807) (hk2 : k.length ≤ 9223372036854775807) : fn C 182 [] [.slice 4 (l.map It.cs), .agg [.str k, .str v, .int .i64 n, .bool g]] = some (.slice 4 ((setR l ⟨k, v, n, g⟩).map It.cs), []) := by
  rw [fn_text Tryz.func182 rfl rfl Tryz.results182 fq182.1 rfl rfl (by kernel_rfl)]
  rcases place_cases l k with ⟨j, hj, he, hn, hp, hg⟩ | ⟨hn, hp, hg⟩
  · simp -implicitDefEqProofs -dsimp +contextual (maxSteps := 9999999) (disch := first | omega | simp only [go_sem] <;> omega | refine ib ?_; kernel_rfl) only [go_sem, seval, ↓reduceIte, hp, hj]
    rw [setR, hp, if_pos (by omega)]; rfl
  · simp -implicitDefEqProofs -dsimp +contextual (maxSteps := 9999999) (disch := first | omega | simp only [go_sem] <;> omega | refine ib ?_; kernel_rfl) only [go_sem, seval, ↓reduceIte, hp]
    refine (kLoop_rec (fun i f H => f 0 = .slice 4 (l.map It.cs) ∧ f 3 = .ptr 103 1 0 0 ∧ f 5 = .int .i64 (i : Nat) ∧ H 103 = ⟨1, .live, 4, [[.str k, .str v, .int .i64 n, .bool g]], false⟩ ∧ i ≤ l.length ∧ ∀ j (hj : j < l.length), j < i → Op.bytesLess l[j].k k = true) (fun i => l.length - i) (fun i => some (.slice 4 ((setR l ⟨k, v, n, g⟩).map It.cs), [])) ?_ 0 _ _ ⟨rfl, rfl, rfl, rfl, by omega, fun j _ h => by omega⟩).trans rfl
    rintro i f H ⟨h0, h3, h5, hH, hi, hb⟩ ih
    have fin : ∀ (hn : ∀ (hj : i < l.length), Op.bytesLess l[i].k k = false), setR l ⟨k, v, n, g⟩ = l.take i ++ ⟨k, v, n, g⟩ :: l.drop i := fun hn => by
      rw [setR, hp, if_neg (by omega), insAt_eq l k i hi hb hn]
    by_cases hl : i < l.length
    · have k1 := hk l[i] (List.getElem_mem _)
      simp -implicitDefEqProofs -dsimp +contextual (maxSteps := 9999999) (disch := first | omega | simp only [go_sem] <;> omega | refine ib ?_; kernel_rfl) only [go_sem, seval, ↓reduceIte, h0, h3, h5, hH, hl, hi]
      (repeat' (refine kD_intro (fun _ => ?_) (fun _ => ?_)))
      · rename_i hb'
        refine ih (i + 1) _ _ ⟨h0, h3, rfl, hH, by omega, fun j hj hji => ?_⟩ (by omega)
        by_cases e : j = i
        · subst e; exact hb'
        · exact hb j hj (by omega)
      · rename_i hb'
        rw [fin (fun _ => by simpa using hb')]
        simp [List.take_of_length_le]
    · obtain rfl : i = l.length := by omega
      simp -implicitDefEqProofs -dsimp +contextual (maxSteps := 9999999) (disch := first | omega | simp only [go_sem] <;> omega | refine ib ?_; kernel_rfl) only [go_sem, seval, ↓reduceIte, h0, h3, h5, hH, hl]
      rw [fin (fun h => absurd h hl)]
      simp
@[go_sem] theorem e257 (l : List It) (i : Nat) (k v : List UInt8) (n : Int) (g : Bool) (hi : i ≤ l.length) (hl : l.length ≤ 1073741824) : fn C 257 [0] [.usl 4 (l.map It.cs), .int .i64 i, .slice 4 [[.str k, .str v, .int .i64 n, .bool g]]] = some (.slice 4 ((l.take i ++ ⟨k, v, n, g⟩ :: l.drop i).map It.cs), []) := by
  rw [fn_text Tryz.func257 rfl rfl Tryz.results257 fq257.1 rfl rfl (by kernel_rfl)]
  by_cases h : i = l.length
  · subst h
    simp -implicitDefEqProofs -dsimp +contextual (maxSteps := 9999999) (disch := first | omega | simp only [go_sem] <;> omega | refine ib ?_; kernel_rfl) only [go_sem, seval, ↓reduceIte]
  · simp -implicitDefEqProofs -dsimp +contextual (maxSteps := 9999999) (disch := first | omega | simp only [go_sem] <;> omega | refine ib ?_; kernel_rfl) only [go_sem, seval, ↓reduceIte, h, hi]
    simp <;> omega
@[go_sem] theorem e223 (l : List It) (k v : List UInt8) (n : Int) (g : Bool) (hl : l.length ≤ 1073741824) : fn C 223 [] [.slice 4 (l.map It.cs), .agg [.str k, .str v, .int .i64 n, .bool g]] = some (.slice 4 ((setR l ⟨k, v, n, g⟩).map It.cs), []) := by
  rw [fn_text Tryz.func223 rfl rfl Tryz.results223 fq223.1 rfl rfl (by kernel_rfl)]
  rcases place_cases l k with ⟨j, hj, he, hn, hp, hg⟩ | ⟨hn, hp, hg⟩
  · simp -implicitDefEqProofs -dsimp +contextual (maxSteps := 9999999) (disch := first | omega | simp only [go_sem] <;> omega | refine ib ?_; kernel_rfl) only [go_sem, seval, ↓reduceIte, hp, hj]
    rw [setR, hp, if_pos (by omega)]; rfl
  · simp -implicitDefEqProofs -dsimp +contextual (maxSteps := 9999999) (disch := first | omega | simp only [go_sem] <;> omega | refine ib ?_; kernel_rfl) only [go_sem, seval, ↓reduceIte, hp]
    refine (kLoop_rec (fun i f H => f 3 = .ptr 103 1 0 0 ∧ f 5 = .osl 110 1 0 l.length ∧ f 7 = .int .i64 (i : Nat) ∧ H 103 = ⟨1, .live, 4, [[.str k, .str v, .int .i64 n, .bool g]], false⟩ ∧ H 110 = ⟨1, .live, 4, l.map It.cs, true⟩ ∧ i ≤ l.length ∧ ∀ j (hj : j < l.length), j < i → Op.bytesLess l[j].k k = true) (fun i => l.length - i) (fun i => some (.slice 4 ((setR l ⟨k, v, n, g⟩).map It.cs), [])) ?_ 0 _ _ ⟨rfl, rfl, rfl, rfl, rfl, by omega, fun j _ h => by omega⟩).trans rfl
    rintro i f H ⟨h3, h5, h7, hH, hG, hi, hb⟩ ih
    have fin : ∀ (hn : ∀ (hj : i < l.length), Op.bytesLess l[i].k k = false), setR l ⟨k, v, n, g⟩ = l.take i ++ ⟨k, v, n, g⟩ :: l.drop i := fun hn => by
      rw [setR, hp, if_neg (by omega), insAt_eq l k i hi hb hn]
    by_cases hl : i < l.length
    · simp -implicitDefEqProofs -dsimp +contextual (maxSteps := 9999999) (disch := first | omega | simp only [go_sem] <;> omega | refine ib ?_; kernel_rfl) only [go_sem, seval, ↓reduceIte, h3, h5, h7, hH, hG, hl, hi]
      (repeat' (refine kD_intro (fun _ => ?_) (fun _ => ?_)))
      · rename_i hb'
        refine ih (i + 1) _ _ ⟨h3, h5, rfl, hH, hG, by omega, fun j hj hji => ?_⟩ (by omega)
        by_cases e : j = i
        · subst e; exact hb'
        · exact hb j hj (by omega)
      · rename_i hb'
        rw [fin (fun _ => by simpa using hb')]
    · obtain rfl : i = l.length := by omega
      simp -implicitDefEqProofs -dsimp +contextual (maxSteps := 9999999) (disch := first | omega | simp only [go_sem] <;> omega | refine ib ?_; kernel_rfl) only [go_sem, seval, ↓reduceIte, h3, h5, h7, hH, hG, hl, hi]
      rw [fin (fun h => absurd h hl)]
      simp
def putV (n : Int) : Int := (if 0 > n then 0 else n) + 1
def putR (l : List It) (k v : List UInt8) (g : Bool) : List It × It × Int :=
  if keyR k = true ∧ v.length ≤ 32 then
    if (getR l k).2 = false ∧ 16 ≤ l.length then (l, zeroIt, 27)
    else if 1073741824 ≤ (getR l k).1.n then (l, zeroIt, 3)
    else (setR l ⟨k, if g = true then [] else v, putV (getR l k).1.n, g⟩, ⟨k, if g = true then [] else v, putV (getR l k).1.n, g⟩, 0)
  else (l, zeroIt, 2)
theorem getR_false (l : List It) (k : List UInt8) (h : (getR l k).2 = false) : (getR l k).1 = zeroIt := by
  unfold getR at h ⊢
  split at h
  · cases h
  · rfl
@[go_sem] theorem e164 (l : List It) (k v : List UInt8) (g : Bool) (hl : l.length ≤ 1073741824) (hk : k.length ≤ 9223372036854775807) : fn C 164 [] [.slice 4 (l.map It.cs), .str k, .str v, .bool g] = some (.tup [.slice 4 ((putR l k v g).1.map It.cs), .agg (putR l k v g).2.1.cs, .int .i64 (putR l k v g).2.2], []) := by
  rw [fn_text Tryz.func164 rfl rfl Tryz.results164 fq164.1 rfl rfl (by kernel_rfl)]
  rcases Bool.eq_false_or_eq_true (getR l k).2 with h2 | h2
  · simp -implicitDefEqProofs -dsimp +contextual (maxSteps := 9999999) (disch := first | omega | simp only [go_sem] <;> omega | refine ib ?_; kernel_rfl) only [go_sem, seval, ↓reduceIte, h2]
    (repeat' (refine kD_intro (fun _ => ?_) (fun _ => ?_))) <;> simp (disch := first | assumption | omega) [putR, if_pos, if_neg, *, putV, zeroIt, It.cs]
  · simp -implicitDefEqProofs -dsimp +contextual (maxSteps := 9999999) (disch := first | omega | simp only [go_sem] <;> omega | refine ib ?_; kernel_rfl) only [go_sem, seval, ↓reduceIte, h2, getR_false l k h2]
    (repeat' (refine kD_intro (fun _ => ?_) (fun _ => ?_))) <;> simp (disch := first | assumption | omega) [putR, if_pos, if_neg, *, getR_false l k h2, putV, zeroIt, It.cs]
@[go_sem] theorem e179 (l : List It) (k v : List UInt8) (g : Bool) (hl : l.length ≤ 1073741824) (hk : ∀ x ∈ l, x.k.length ≤ 9223372036854775807) (hk : k.length ≤ 9223372036854775807) : fn C 179 [] [.slice 4 (l.map It.cs), .str k, .str v, .bool g] = some (.tup [.slice 4 ((putR l k v g).1.map It.cs), .agg (putR l k v g).2.1.cs, .int .i64 (putR l k v g).2.2], []) := by
  rw [fn_text Tryz.func179 rfl rfl Tryz.results179 fq179.1 rfl rfl (by kernel_rfl)]
  rcases Bool.eq_false_or_eq_true (getR l k).2 with h2 | h2
  · simp -implicitDefEqProofs -dsimp +contextual (maxSteps := 9999999) (disch := first | omega | simp only [go_sem] <;> omega | refine ib ?_; kernel_rfl) only [go_sem, seval, ↓reduceIte, h2]
    (repeat' (refine kD_intro (fun _ => ?_) (fun _ => ?_))) <;> simp (disch := first | assumption | omega) [putR, if_pos, if_neg, *, putV, zeroIt, It.cs]
  · simp -implicitDefEqProofs -dsimp +contextual (maxSteps := 9999999) (disch := first | omega | simp only [go_sem] <;> omega | refine ib ?_; kernel_rfl) only [go_sem, seval, ↓reduceIte, h2, getR_false l k h2]
    (repeat' (refine kD_intro (fun _ => ?_) (fun _ => ?_))) <;> simp (disch := first | assumption | omega) [putR, if_pos, if_neg, *, getR_false l k h2, putV, zeroIt, It.cs]
def beN (s n : Nat) : List UInt8 := (List.range s).map fun i => UInt8.ofNat (n / 2 ^ (8 * (s - 1 - i)))
@[go_sem] theorem beN_len (s n : Nat) : (beN s n).length = s := by simp [beN]
theorem u64_shl8 (P : Program) (t : TypeId) (k : IntKind) (a : Nat) (ha : a < 72057594037927936) : binV P .shl t (.int .u64 (a : Int)) (.int k 8) = some (.int .u64 ((a * 256 : Nat) : Int)) := by
  have e : binV P .shl t (.int .u64 (a : Int)) (.int k 8) = some (.int .u64 (IntKind.u64.wrap ((a : Int) * 2 ^ 8))) := rfl
  rw [e]
  exact congrArg (fun x => some (AVal.int .u64 x)) (by rw [IntKind.wrap_u64]; omega)
theorem or_low8 (a b : Nat) (hb : b < 256) : a * 256 ||| b = a * 256 + b := by
  have := Nat.two_pow_add_eq_or_of_lt (i := 8) (b := b) (by simpa using hb) a
  rw [show 2 ^ 8 * a = a * 256 by omega] at this
  exact this.symm
theorem u64_or8 (P : Program) (t : TypeId) (a b : Nat) (ha : a * 256 < 18446744073709551616) (hb : b < 256) : binV P .or t (.int .u64 ((a * 256 : Nat) : Int)) (.int .u64 (b : Int)) = some (.int .u64 ((a * 256 + b : Nat) : Int)) := by
  have e : binV P .or t (.int .u64 ((a * 256 : Nat) : Int)) (.int .u64 (b : Int)) = some (.int .u64 (IntKind.u64.wrap ((BitVec.ofInt 64 ((a * 256 : Nat) : Int) ||| BitVec.ofInt 64 (b : Int)).toNat : Int))) := rfl
  rw [e, BitVec.ofInt_natCast, BitVec.ofInt_natCast, BitVec.toNat_or, BitVec.toNat_ofNat, BitVec.toNat_ofNat, Nat.mod_eq_of_lt (show a * 256 < 2 ^ 64 by omega), Nat.mod_eq_of_lt (show b < 2 ^ 64 by omega), or_low8 a b hb]
  exact congrArg (fun x => some (AVal.int .u64 x)) (by rw [IntKind.wrap_u64]; omega)
def beV (l : List UInt8) : Nat := l.foldl (fun n c => n * 256 + c.toNat) 0
theorem beV_take (l : List UInt8) (i : Nat) (h : i < l.length) : beV (l.take (i + 1)) = beV (l.take i) * 256 + l[i].toNat := by
  rw [List.take_succ_eq_append_getElem h, beV, List.foldl_append]; rfl
theorem beV_lt (l : List UInt8) : beV l < 256 ^ l.length := by
  have : ∀ (l : List UInt8) (a : Nat), l.foldl (fun n c => n * 256 + c.toNat) a < (a + 1) * 256 ^ l.length := by
    intro l
    induction l with
    | nil => intro a; simp
    | cons x l ih =>
      intro a
      have h := u8_lt x
      refine Nat.lt_of_lt_of_le (ih _) ?_
      rw [List.length_cons, Nat.pow_succ, Nat.mul_comm (256 ^ l.length), ← Nat.mul_assoc]
      exact Nat.mul_le_mul_right _ (by simp only; omega)
  simpa [beV] using this l 0
@[go_sem] theorem rep_byte (n : Nat) : List.replicate n [AVal.int .u8 0] = (List.replicate n (0 : UInt8)).map byteRow := by rw [List.map_replicate]; rfl
def rotl (x : UInt32) (m : Nat) : UInt32 := W32.shl x m ||| W32.shr x (32 - m)
theorem and31 (n : Int) (h : 0 ≤ n) (h2 : n ≤ 18446744073709551615) (P : Program) (t : TypeId) : binV P .and t (.int .u64 n) (.int .u64 31) = some (.int .u64 (n % 32)) := by
  obtain ⟨m, rfl⟩ := Int.eq_ofNat_of_zero_le h
  have e : binV P .and t (.int .u64 (m : Int)) (.int .u64 31) = some (.int .u64 (IntKind.u64.wrap (((BitVec.ofInt 64 (m : Int)) &&& (BitVec.ofInt 64 ((31 : Nat) : Int))).toNat : Int))) := rfl
  rw [e, BitVec.ofInt_natCast, BitVec.ofInt_natCast, BitVec.toNat_and, BitVec.toNat_ofNat, BitVec.toNat_ofNat, Nat.mod_eq_of_lt (show m < 2 ^ 64 by omega), show (31 : Nat) % 2 ^ 64 = 2 ^ 5 - 1 by decide, Nat.and_two_pow_sub_one_eq_mod, IntKind.wrap_u64]
  congr 2; omega
@[go_sem] theorem e288 (x : UInt32) (n : Int) (h1 : -1000 ≤ n) (h2 : n ≤ 1000) : fn C 288 [] [.int .u32 (x.toNat : Int), .int .i64 n] = some (.int .u32 ((rotl x (n % 32).toNat).toNat : Int), []) := by
  have hw : IntKind.u64.wrap n % 32 = n % 32 := by rw [IntKind.wrap_u64]; omega
  have hw1 : 0 ≤ IntKind.u64.wrap n := by rw [IntKind.wrap_u64]; omega
  have hw2 : IntKind.u64.wrap n ≤ 18446744073709551615 := by rw [IntKind.wrap_u64]; omega
  obtain ⟨m, hm⟩ := Int.eq_ofNat_of_zero_le (show 0 ≤ n % 32 by omega)
  have a31 := fun P t => and31 (IntKind.u64.wrap n) hw1 hw2 P t
  rw [hw, hm] at a31
  have hm32 : m < 32 := by omega
  have e32 : (32 : Int) - (m : Int) = ((32 - m : Nat) : Int) := by omega
  rw [fn_text Tryz.func288 rfl rfl Tryz.results288 fq288.1 rfl rfl (by kernel_rfl)]
  simp -implicitDefEqProofs -dsimp +contextual (maxSteps := 5000000) (disch := first | omega | simp only [go_sem] <;> omega | refine ib ?_; kernel_rfl) only [go_sem, Nat.reduceBEq, Int.reduceNeg, Int.reduceLT, Int.reduceLE, Int.reduceAdd, Int.reduceSub, Int.reduceToNat, Int.reduceMul, Int.reduceMod, Int.reduceTMod, Int.reduceTDiv, Int.reduceEq, Nat.reducePow, Nat.reduceDiv, Nat.reduceShiftRight, Nat.reduceMod, List.reduceReplicate, ↓reduceIte, Nat.reduceEqDiff, Nat.reduceAdd, Nat.reduceSub, Nat.reduceLeDiff, Nat.reduceLT, Nat.reduceMul, a31, hm, e32]
  rfl
def rr (x : UInt32) (k : Nat) : UInt32 := rotl x (32 - k)
def sg0 (x : UInt32) : UInt32 := rr x 7 ^^^ rr x 18 ^^^ W32.shr x 3
def sg1 (x : UInt32) : UInt32 := rr x 17 ^^^ rr x 19 ^^^ W32.shr x 10
def wRow (x : UInt32) : List AVal := [.int .u32 (x.toNat : Int)]
@[go_sem] theorem e280 (x : UInt32) (k : Nat) (h1 : 1 ≤ k) (h2 : k ≤ 31) : fn C 280 [] [.int .u32 (x.toNat : Int), .int .i64 (k : Int)] = some (.int .u32 ((rr x k).toNat : Int), []) := by
  have e := e288 x (-(k : Int)) (by omega) (by omega)
  rw [show ((-(k : Int)) % 32).toNat = 32 - k by omega] at e
  rw [fn_text Tryz.func280 rfl rfl Tryz.results280 fq280.1 rfl rfl (by kernel_rfl)]
  simp -implicitDefEqProofs -dsimp +contextual (maxSteps := 5000000) (disch := first | omega | simp only [go_sem] <;> omega | refine ib ?_; kernel_rfl) only [go_sem, Nat.reduceBEq, Int.reduceNeg, Int.reduceLT, Int.reduceLE, Int.reduceAdd, Int.reduceSub, Int.reduceToNat, Int.reduceMul, Int.reduceMod, Int.reduceTMod, Int.reduceTDiv, Int.reduceEq, Nat.reducePow, Nat.reduceDiv, Nat.reduceShiftRight, Nat.reduceMod, List.reduceReplicate, ↓reduceIte, Nat.reduceEqDiff, Nat.reduceAdd, Nat.reduceSub, Nat.reduceLeDiff, Nat.reduceLT, Nat.reduceMul, e, Int.zero_sub]
  rfl
@[go_sem] theorem e_dright_lit (x : UInt32) (k : Nat) (h1 : 1 ≤ OfNat.ofNat k) (h2 : OfNat.ofNat k ≤ 31) : fn C 280 [] [.int .u32 (x.toNat : Int), .int .i64 (no_index (OfNat.ofNat k : Int))] = some (.int .u32 ((rr x (OfNat.ofNat k)).toNat : Int), []) := e280 x (OfNat.ofNat k) h1 h2
@[go_sem] theorem e270 (x : UInt32) (k : Nat) (h1 : 1 ≤ k) (h2 : k ≤ 31) : fn C 270 [] [.int .u32 (x.toNat : Int), .int .u64 (k : Int)] = some (.int .u32 ((rr x k).toNat : Int), []) := by
  have e32 : (32 : Int) - (k : Int) = ((32 - k : Nat) : Int) := by omega
  rw [fn_text Tryz.func270 rfl rfl Tryz.results270 fq270.1 rfl rfl (by kernel_rfl)]
  simp -implicitDefEqProofs -dsimp +contextual (maxSteps := 5000000) (disch := first | omega | simp only [go_sem] <;> omega | refine ib ?_; kernel_rfl) only [go_sem, Nat.reduceBEq, Int.reduceNeg, Int.reduceLT, Int.reduceLE, Int.reduceAdd, Int.reduceSub, Int.reduceToNat, Int.reduceMul, Int.reduceMod, Int.reduceTMod, Int.reduceTDiv, Int.reduceEq, Nat.reducePow, Nat.reduceDiv, Nat.reduceShiftRight, Nat.reduceMod, List.reduceReplicate, ↓reduceIte, Nat.reduceEqDiff, Nat.reduceAdd, Nat.reduceSub, Nat.reduceLeDiff, Nat.reduceLT, Nat.reduceMul, e32]
  rw [show W32.shr x k ||| W32.shl x (32 - k) = rr x k by rw [rr, rotl, UInt32.or_comm, show 32 - (32 - k) = k by omega]]
@[go_sem] theorem e_r03right_lit (x : UInt32) (k : Nat) (h1 : 1 ≤ OfNat.ofNat k) (h2 : OfNat.ofNat k ≤ 31) : fn C 270 [] [.int .u32 (x.toNat : Int), .int .u64 (no_index (OfNat.ofNat k : Int))] = some (.int .u32 ((rr x (OfNat.ofNat k)).toNat : Int), []) := e270 x (OfNat.ofNat k) h1 h2
def be4 (a b c d : UInt8) : UInt32 := ((W32.shl a.toUInt32 24 ||| W32.shl b.toUInt32 16) ||| W32.shl c.toUInt32 8) ||| d.toUInt32
theorem or_add (a b k : Nat) (h : b < 2 ^ k) : a * 2 ^ k ||| b = a * 2 ^ k + b := by
  rw [← Nat.shiftLeft_eq, Nat.shiftLeft_add_eq_or_of_lt h]
theorem be4_sum (a b c d : UInt8) : (be4 a b c d).toNat = a.toNat * 16777216 + b.toNat * 65536 + c.toNat * 256 + d.toNat := by
  have ha := u8_lt a; have hb := u8_lt b; have hc := u8_lt c; have hd := u8_lt d
  simp only [be4, W32.shl, UInt32.toNat_or, UInt8.toNat_toUInt32, UInt32.toNat_ofNat']
  rw [Nat.mod_eq_of_lt (show a.toNat * 2 ^ 24 < 2 ^ 32 by omega), Nat.mod_eq_of_lt (show b.toNat * 2 ^ 16 < 2 ^ 32 by omega), Nat.mod_eq_of_lt (show c.toNat * 2 ^ 8 < 2 ^ 32 by omega)]
  rw [or_add _ _ _ (by omega), show a.toNat * 2 ^ 24 + b.toNat * 2 ^ 16 = (a.toNat * 256 + b.toNat) * 2 ^ 16 by omega, or_add _ _ _ (by omega), show (a.toNat * 256 + b.toNat) * 2 ^ 16 + c.toNat * 2 ^ 8 = ((a.toNat * 256 + b.toNat) * 256 + c.toNat) * 2 ^ 8 by omega, or_add _ _ _ (by omega)]
theorem be4_num (a b c d : UInt8) : a.toUInt32 * UInt32.ofNat 16777216 + b.toUInt32 * UInt32.ofNat 65536 + c.toUInt32 * UInt32.ofNat 256 + d.toUInt32 = be4 a b c d := by
  have ha := u8_lt a; have hb := u8_lt b; have hc := u8_lt c; have hd := u8_lt d
  apply UInt32.toNat_inj.1
  rw [be4_sum]
  simp only [UInt32.toNat_add, UInt32.toNat_mul, UInt8.toNat_toUInt32, UInt32.toNat_ofNat']
  omega
def numB (l : List UInt8) : UInt32 := be4 (l.getD 0 0) (l.getD 1 0) (l.getD 2 0) (l.getD 3 0)
theorem four_of (b : List UInt8) (h : 4 ≤ b.length) : ∃ x y z w r, b = x :: y :: z :: w :: r := by
  match b, h with
  | x :: y :: z :: w :: r, _ => exact ⟨x, y, z, w, r, rfl⟩
@[go_sem] theorem e218 (b : List UInt8) (h : 4 ≤ b.length) : fn C 218 [] [.slice 1 (b.map byteRow)] = some (.int .u32 ((numB b).toNat : Int), []) := by
  obtain ⟨x, y, z, w, r, rfl⟩ := four_of b h
  rw [fn_text Tryz.func218 rfl rfl Tryz.results218 fq218.1 rfl rfl (by kernel_rfl)]
  simp -implicitDefEqProofs -dsimp +contextual (maxSteps := 5000000) (disch := first | omega | simp only [go_sem] <;> omega | refine ib ?_; kernel_rfl) only [go_sem, Nat.reduceBEq, Int.reduceNeg, Int.reduceLT, Int.reduceLE, Int.reduceAdd, Int.reduceSub, Int.reduceToNat, Int.reduceMul, Int.reduceMod, Int.reduceTMod, Int.reduceTDiv, Int.reduceEq, Nat.reducePow, Nat.reduceDiv, Nat.reduceShiftRight, Nat.reduceMod, List.reduceReplicate, ↓reduceIte, Nat.reduceEqDiff, Nat.reduceAdd, Nat.reduceSub, Nat.reduceLeDiff, Nat.reduceLT, Nat.reduceMul]
  rw [show numB (x :: y :: z :: w :: r) = be4 x y z w from rfl, ← be4_num]
end Go.Proofs.YtnpkhdjgedeppaaGreatDoor
namespace Go.Proofs.YtnpkhdjgedeppaaGreatDoor
set_option maxHeartbeats 64000000
open Go.Am
set_option linter.unusedSimpArgs false
set_option linter.unusedVariables false
set_option maxRecDepth 100000
def wd (blk : List UInt8) (i : Nat) : UInt32 := be4 (blk.getD (4 * i) 0) (blk.getD (4 * i + 1) 0) (blk.getD (4 * i + 2) 0) (blk.getD (4 * i + 3) 0)
def wds (blk : List UInt8) (n : Nat) : List UInt32 := (List.range n).map (wd blk)
@[go_sem] theorem wds_len (blk : List UInt8) (n : Nat) : (wds blk n).length = n := by simp [wds]
theorem wds_succ (blk : List UInt8) (n : Nat) : wds blk (n + 1) = wds blk n ++ [wd blk n] := by simp [wds, List.range_succ]
def nxt (l : List UInt32) : UInt32 := l.getD (l.length - 16) 0 + l.getD (l.length - 7) 0 + sg0 (l.getD (l.length - 15) 0) + sg1 (l.getD (l.length - 2) 0)
def extW : Nat → List UInt32 → List UInt32
  | 0, l => l
  | n + 1, l => extW n (l ++ [nxt l])
theorem extW_len : ∀ (n : Nat) (l : List UInt32), (extW n l).length = l.length + n
  | 0, _ => rfl
  | n + 1, l => by rw [extW, extW_len]; simp; omega
def wsOf (blk : List UInt8) : List UInt32 := extW 48 (wds blk 16)
@[go_sem] theorem wsOf_len (blk : List UInt8) : (wsOf blk).length = 64 := by rw [wsOf, extW_len, wds_len]
def pad64 (l : List UInt32) : List UInt32 := l ++ List.replicate (64 - l.length) 0
theorem pad64_len (l : List UInt32) (h : l.length ≤ 64) : (pad64 l).length = 64 := by simp [pad64]; omega
theorem pad64_set (l : List UInt32) (x : UInt32) (h : l.length < 64) : (pad64 l).set l.length x = pad64 (l ++ [x]) := by
  unfold pad64
  rw [List.set_append_right _ _ (Nat.le_refl _), Nat.sub_self, show 64 - l.length = (64 - (l.length + 1)) + 1 by omega, List.replicate_succ, List.set_cons_zero, List.length_append]
  simp
theorem pad64_get (l : List UInt32) (i : Nat) (h : i < l.length) (h2 : i < (pad64 l).length) : (pad64 l)[i] = l[i] := by
  simp only [pad64]; rw [List.getElem_append_left h]
theorem pad64_all (l : List UInt32) (h : l.length = 64) : pad64 l = l := by simp [pad64, h]
theorem getD_of {α : Type} (l : List α) (i : Nat) (d : α) (h : i < l.length) : l.getD i d = l[i] := by
  rw [List.getD_eq_getElem?_getD, List.getElem?_eq_getElem h]; rfl
def Z64w : List AVal := (List.replicate 64 (0 : UInt32)).map w32
@[go_sem] theorem Z64w_len : Z64w.length = 64 := rfl
@[go_sem] theorem Z64w_drop : Z64w.drop 64 = [] := rfl
theorem pad0 (blk : List UInt8) : (pad64 (wds blk 0)).map w32 = Z64w := rfl
attribute [local irreducible] extW wds pad64 nxt wd
@[go_sem] theorem e279 (blk : List UInt8) (h : blk.length = 64) : fn C 279 [] [.agg (blk.map w8)] = some (.agg ((wsOf blk).map w32), []) := by
  rw [fn_text Tryz.func279 rfl rfl Tryz.results279 fq279.1 rfl rfl (okArgs_of (by kernel_rfl) (by kernel_rfl) (by simp only [go_sem]) rfl)]
  simp -implicitDefEqProofs -dsimp +contextual (maxSteps := 5000000) (disch := first | omega | simp only [go_sem] <;> omega | refine ib ?_; kernel_rfl) only [go_sem, Nat.reduceBEq, Int.reduceNeg, Int.reduceLT, Int.reduceLE, Int.reduceAdd, Int.reduceSub, Int.reduceToNat, Int.reduceMul, Int.reduceMod, Int.reduceTMod, Int.reduceTDiv, Int.reduceEq, Nat.reducePow, Nat.reduceDiv, Nat.reduceShiftRight, Nat.reduceMod, List.reduceReplicate, ↓reduceIte, Nat.reduceEqDiff, Nat.reduceAdd, Nat.reduceSub, Nat.reduceLeDiff, Nat.reduceLT, Nat.reduceMul, h]
  refine (kLoop_rec (fun (i : Nat) f H => f 1 = .ptr 101 1 0 0 ∧ f 2 = .ptr 102 1 0 0 ∧ f 3 = .ptr 103 1 0 0 ∧ f 8 = .int .i64 (i : Int) ∧ H 101 = ⟨1, .live, 64, [blk.map w8], false⟩ ∧ H 102 = ⟨1, .live, 64, [Z64w], false⟩ ∧ H 103 = ⟨1, .live, 64, [(pad64 (wds blk i)).map w32], false⟩ ∧ i ≤ 16) (fun i => 16 - i) (fun _ => some (.agg ((wsOf blk).map w32), [])) ?_ 0 _ _ ⟨rfl, rfl, rfl, rfl, rfl, rfl, by rw [pad0]; rfl, by omega⟩)
  rintro i f H ⟨f1, f2, f3, f8, H1, H2, H3, hi⟩ ih
  have hp := pad64_len (wds blk i) (by rw [wds_len]; omega)
  by_cases hl : i < 16
  · simp -implicitDefEqProofs -dsimp +contextual (maxSteps := 5000000) (disch := first | omega | simp only [go_sem] <;> omega | refine ib ?_; kernel_rfl) only [go_sem, Nat.reduceBEq, Int.reduceNeg, Int.reduceLT, Int.reduceLE, Int.reduceAdd, Int.reduceSub, Int.reduceToNat, Int.reduceMul, Int.reduceMod, Int.reduceTMod, Int.reduceTDiv, Int.reduceEq, Nat.reducePow, Nat.reduceDiv, Nat.reduceShiftRight, Nat.reduceMod, List.reduceReplicate, ↓reduceIte, Nat.reduceEqDiff, Nat.reduceAdd, Nat.reduceSub, Nat.reduceLeDiff, Nat.reduceLT, Nat.reduceMul, f1, f2, f3, f8, H1, H3, hl, h, hp]
    have hw : ((W32.shl blk[4 * i].toUInt32 24 ||| W32.shl blk[4 * i + 1].toUInt32 16) ||| W32.shl blk[4 * i + 2].toUInt32 8) ||| blk[4 * i + 3].toUInt32 = wd blk i := by
      rw [wd, getD_of _ _ _ (by omega), getD_of _ _ _ (by omega), getD_of _ _ _ (by omega), getD_of _ _ _ (by omega)]; rfl
    have hs := pad64_set (wds blk i) (wd blk i) (by rw [wds_len]; omega)
    rw [wds_len, ← wds_succ] at hs
    rw [hw, hs]
    exact ih (i + 1) _ _ ⟨f1, f2, f3, rfl, H1, H2, rfl, by omega⟩ (by omega)
  · obtain rfl : i = 16 := by omega
    simp -implicitDefEqProofs -dsimp +contextual (maxSteps := 5000000) (disch := first | omega | simp only [go_sem] <;> omega | refine ib ?_; kernel_rfl) only [go_sem, Nat.reduceBEq, Int.reduceNeg, Int.reduceLT, Int.reduceLE, Int.reduceAdd, Int.reduceSub, Int.reduceToNat, Int.reduceMul, Int.reduceMod, Int.reduceTMod, Int.reduceTDiv, Int.reduceEq, Nat.reducePow, Nat.reduceDiv, Nat.reduceShiftRight, Nat.reduceMod, List.reduceReplicate, ↓reduceIte, Nat.reduceEqDiff, Nat.reduceAdd, Nat.reduceSub, Nat.reduceLeDiff, Nat.reduceLT, Nat.reduceMul, f1, f2, f3, f8, H1, H3, hl, h, hp]
    rw [wsOf, show (48 : Nat) = 64 - 16 from rfl]
    refine (kLoop_rec2 (fun (t : Nat) (l : List UInt32) f H => f 1 = .ptr 101 1 0 0 ∧ f 2 = .ptr 102 1 0 0 ∧ f 3 = .ptr 103 1 0 0 ∧ f 5 = .int .i64 (t : Int) ∧ H 102 = ⟨1, .live, 64, [Z64w], false⟩ ∧ H 103 = ⟨1, .live, 64, [(pad64 l).map w32], false⟩ ∧ l.length = t ∧ 16 ≤ t ∧ t ≤ 64) (fun t _ => 64 - t) (fun t l => some (.agg ((extW (64 - t) l).map w32), [])) ?_ 16 (wds blk 16) _ _ ⟨f1, f2, f3, rfl, H2, H3, wds_len _ _, by omega, by omega⟩)
    rintro t l f H ⟨f1, f2, f3, f5, H2, H3, hlen, ht, ht2⟩ ih
    have hp := pad64_len l (by omega)
    by_cases hlt : t < 64
    · have g1 := pad64_get l (t - 15) (by omega) (by omega)
      have g2 := pad64_get l (t - 2) (by omega) (by omega)
      have g3 := pad64_get l (t - 16) (by omega) (by omega)
      have g4 := pad64_get l (t - 7) (by omega) (by omega)
      simp -implicitDefEqProofs -dsimp +contextual (maxSteps := 5000000) (disch := first | omega | simp only [go_sem] <;> omega | refine ib ?_; kernel_rfl) only [go_sem, Nat.reduceBEq, Int.reduceNeg, Int.reduceLT, Int.reduceLE, Int.reduceAdd, Int.reduceSub, Int.reduceToNat, Int.reduceMul, Int.reduceMod, Int.reduceTMod, Int.reduceTDiv, Int.reduceEq, Nat.reducePow, Nat.reduceDiv, Nat.reduceShiftRight, Nat.reduceMod, List.reduceReplicate, ↓reduceIte, Nat.reduceEqDiff, Nat.reduceAdd, Nat.reduceSub, Nat.reduceLeDiff, Nat.reduceLT, Nat.reduceMul, f1, f2, f3, f5, H2, H3, hlt, hp, g1, g2, g3, g4]
      have hn : l[t - 16] + l[t - 7] + (rr l[t - 15] 7 ^^^ rr l[t - 15] 18 ^^^ W32.shr l[t - 15] 3) + (rr l[t - 2] 17 ^^^ rr l[t - 2] 19 ^^^ W32.shr l[t - 2] 10) = nxt l := by
        subst hlen
        rw [nxt, getD_of _ _ _ (by omega), getD_of _ _ _ (by omega), getD_of _ _ _ (by omega), getD_of _ _ _ (by omega)]; rfl
      have hs := pad64_set l (nxt l) (by omega)
      rw [hlen] at hs
      rw [hn, hs, show 64 - t = (64 - (t + 1)) + 1 by omega, extW]
      exact ih (t + 1) (l ++ [nxt l]) _ _ ⟨f1, f2, f3, rfl, H2, rfl, by simp [hlen], by omega, by omega⟩ (by omega)
    · simp -implicitDefEqProofs -dsimp +contextual (maxSteps := 5000000) (disch := first | omega | simp only [go_sem] <;> omega | refine ib ?_; kernel_rfl) only [go_sem, Nat.reduceBEq, Int.reduceNeg, Int.reduceLT, Int.reduceLE, Int.reduceAdd, Int.reduceSub, Int.reduceToNat, Int.reduceMul, Int.reduceMod, Int.reduceTMod, Int.reduceTDiv, Int.reduceEq, Nat.reducePow, Nat.reduceDiv, Nat.reduceShiftRight, Nat.reduceMod, List.reduceReplicate, ↓reduceIte, Nat.reduceEqDiff, Nat.reduceAdd, Nat.reduceSub, Nat.reduceLeDiff, Nat.reduceLT, Nat.reduceMul, f1, f2, f3, f5, H2, H3, hlt, hp]
      obtain rfl : t = 64 := by omega
      rw [pad64_all l hlen, show 64 - 64 = 0 from rfl, extW]
end Go.Proofs.YtnpkhdjgedeppaaGreatDoor
namespace Go.Proofs.YtnpkhdjgedeppaaGreatDoor
set_option maxHeartbeats 64000000
open Go.Am
set_option linter.unusedSimpArgs false
set_option linter.unusedVariables false
set_option maxRecDepth 100000
structure S8 where
  a : UInt32
  b : UInt32
  c : UInt32
  d : UInt32
  e : UInt32
  f : UInt32
  g : UInt32
  h : UInt32
def S8.l (s : S8) : List UInt32 := [s.a, s.b, s.c, s.d, s.e, s.f, s.g, s.h]
def chx (s : S8) (k w : UInt32) : UInt32 := s.h + (rr s.e 6 ^^^ rr s.e 11 ^^^ rr s.e 25) + ((s.e &&& s.f) ^^^ (~~~s.e &&& s.g)) + k + w
def chy (s : S8) : UInt32 := (rr s.a 2 ^^^ rr s.a 13 ^^^ rr s.a 22) + ((s.a &&& s.b) ^^^ (s.a &&& s.c) ^^^ (s.b &&& s.c))
def sstep (s : S8) (k w : UInt32) : S8 := ⟨chx s k w + chy s, s.a, s.b, s.c, s.d + chx s k w, s.e, s.f, s.g⟩
def rnd (ks ws : List UInt32) (s : S8) : S8 := (ks.zip ws).foldl (fun s p => sstep s p.1 p.2) s
def S8.add (s t : S8) : S8 := ⟨s.a + t.a, s.b + t.b, s.c + t.c, s.d + t.d, s.e + t.e, s.f + t.f, s.g + t.g, s.h + t.h⟩
def KS : List UInt32 := [1116352408, 1899447441, 3049323471, 3921009573, 961987163, 1508970993, 2453635748, 2870763221,   3624381080, 310598401, 607225278, 1426881987, 1925078388, 2162078206, 2614888103, 3248222580,   3835390401, 4022224774, 264347078, 604807628, 770255983, 1249150122, 1555081692, 1996064986,   2554220882, 2821834349, 2952996808, 3210313671, 3336571891, 3584528711, 113926993, 338241895,   666307205, 773529912, 1294757372, 1396182291, 1695183700, 1986661051, 2177026350, 2456956037,   2730485921, 2820302411, 3259730800, 3345764771, 3516065817, 3600352804, 4094571909, 275423344,   430227734, 506948616, 659060556, 883997877, 958139571, 1322822218, 1537002063, 1747873779,   1955562222, 2024104815, 2227730452, 2361852424, 2428436474, 2756734187, 3204031479, 3329325298]
@[go_sem] theorem KS_len : KS.length = 64 := rfl
def blockS (s : S8) (blk : List UInt8) : S8 := (rnd KS (wsOf blk) s).add s
@[go_sem] theorem KS_drop : KS.drop 64 = [] := rfl
@[go_sem] theorem g0_eq : tabV .u32 tabL0 = KS.map w32 := rfl
theorem chx_eq (s : S8) (k w : UInt32) : s.h + (rr s.e 6 ^^^ rr s.e 11 ^^^ rr s.e 25) + ((s.e &&& s.f) ^^^ (~~~s.e &&& s.g)) + k + w = chx s k w := by rw [chx]
theorem chy_eq (s : S8) : (rr s.a 2 ^^^ rr s.a 13 ^^^ rr s.a 22) + ((s.a &&& s.b) ^^^ (s.a &&& s.c) ^^^ (s.b &&& s.c)) = chy s := by rw [chy]
theorem rnd_nil (s : S8) : rnd [] [] s = s := by simp only [rnd, List.zip_nil_left, List.foldl_nil]
theorem cells_step (u : S8) (k w : UInt32) : [AVal.int .u32 ((chx u k w + chy u).toNat : Int), .int .u32 (u.a.toNat : Int), .int .u32 (u.b.toNat : Int), .int .u32 (u.c.toNat : Int), .int .u32 ((u.d + chx u k w).toNat : Int), .int .u32 (u.e.toNat : Int), .int .u32 (u.f.toNat : Int), .int .u32 (u.g.toNat : Int)] = [.int .u32 ((sstep u k w).a.toNat : Int), .int .u32 ((sstep u k w).b.toNat : Int), .int .u32 ((sstep u k w).c.toNat : Int), .int .u32 ((sstep u k w).d.toNat : Int), .int .u32 ((sstep u k w).e.toNat : Int), .int .u32 ((sstep u k w).f.toNat : Int), .int .u32 ((sstep u k w).g.toNat : Int), .int .u32 ((sstep u k w).h.toNat : Int)] := rfl
theorem cells_add (u s : S8) : [AVal.int .u32 ((u.a + s.a).toNat : Int), .int .u32 ((u.b + s.b).toNat : Int), .int .u32 ((u.c + s.c).toNat : Int), .int .u32 ((u.d + s.d).toNat : Int), .int .u32 ((u.e + s.e).toNat : Int), .int .u32 ((u.f + s.f).toNat : Int), .int .u32 ((u.g + s.g).toNat : Int), .int .u32 ((u.h + s.h).toNat : Int)] = (u.add s).l.map w32 := rfl
attribute [local irreducible] wsOf KS rr chx chy sstep S8.add
theorem rnd_cons (k w : UInt32) (ks ws : List UInt32) (s : S8) : rnd (k :: ks) (w :: ws) s = rnd ks ws (sstep s k w) := by simp only [rnd, List.zip_cons_cons, List.foldl_cons]
theorem rnd_drop (ks ws : List UInt32) (i : Nat) (h1 : i < ks.length) (h2 : i < ws.length) (u : S8) : rnd (ks.drop i) (ws.drop i) u = rnd (ks.drop (i + 1)) (ws.drop (i + 1)) (sstep u ks[i] ws[i]) := by
  rw [List.drop_eq_getElem_cons h1, List.drop_eq_getElem_cons h2, rnd_cons]
@[go_sem] theorem e265 (s : S8) (blk : List UInt8) (h : blk.length = 64) : fn C 265 [] [.agg (s.l.map w32), .agg (blk.map w8)] = some (.agg ((blockS s blk).l.map w32), []) := by
  rw [fn_text Tryz.func265 rfl rfl Tryz.results265 fq265.1 rfl rfl (okArgs_of (by kernel_rfl) (by kernel_rfl) (by simp only [go_sem]) rfl)]
  have hw := wsOf_len blk
  have hk := KS_len
  have hsl : s.l.map w32 = [.int .u32 (s.a.toNat : Int), .int .u32 (s.b.toNat : Int), .int .u32 (s.c.toNat : Int), .int .u32 (s.d.toNat : Int), .int .u32 (s.e.toNat : Int), .int .u32 (s.f.toNat : Int), .int .u32 (s.g.toNat : Int), .int .u32 (s.h.toNat : Int)] := rfl
  rw [hsl]
  simp -implicitDefEqProofs -dsimp +contextual (maxSteps := 5000000) (disch := first | omega | simp only [go_sem] <;> omega | refine ib ?_; kernel_rfl) only [go_sem, Nat.reduceBEq, Int.reduceNeg, Int.reduceLT, Int.reduceLE, Int.reduceAdd, Int.reduceSub, Int.reduceToNat, Int.reduceMul, Int.reduceMod, Int.reduceTMod, Int.reduceTDiv, Int.reduceEq, Nat.reducePow, Nat.reduceDiv, Nat.reduceShiftRight, Nat.reduceMod, List.reduceReplicate, ↓reduceIte, Nat.reduceEqDiff, Nat.reduceAdd, Nat.reduceSub, Nat.reduceLeDiff, Nat.reduceLT, Nat.reduceMul, h, hw]
  refine (kLoop_rec2 (fun (i : Nat) (u : S8) f H => f 2 = .ptr 102 1 0 0 ∧ f 4 = .ptr 104 1 0 0 ∧ f 5 = .ptr 105 1 0 0 ∧ f 6 = .ptr 106 1 0 0 ∧ f 20 = .int .i64 (i : Int) ∧ H 102 = ⟨1, .live, 8, [[.int .u32 (s.a.toNat : Int), .int .u32 (s.b.toNat : Int), .int .u32 (s.c.toNat : Int), .int .u32 (s.d.toNat : Int), .int .u32 (s.e.toNat : Int), .int .u32 (s.f.toNat : Int), .int .u32 (s.g.toNat : Int), .int .u32 (s.h.toNat : Int)]], false⟩ ∧ H 104 = ⟨1, .live, 8, [List.replicate 8 (.int .u32 0)], false⟩ ∧ H 105 = ⟨1, .live, 64, [(wsOf blk).map w32], false⟩ ∧ H 106 = ⟨1, .live, 8, [[.int .u32 (u.a.toNat : Int), .int .u32 (u.b.toNat : Int), .int .u32 (u.c.toNat : Int), .int .u32 (u.d.toNat : Int), .int .u32 (u.e.toNat : Int), .int .u32 (u.f.toNat : Int), .int .u32 (u.g.toNat : Int), .int .u32 (u.h.toNat : Int)]], false⟩ ∧ i ≤ 64) (fun i _ => 64 - i) (fun i u => some (.agg (((rnd (KS.drop i) ((wsOf blk).drop i) u).add s).l.map w32), [])) ?_ 0 s _ _ ⟨rfl, rfl, rfl, rfl, rfl, rfl, rfl, rfl, rfl, by omega⟩)
  rintro i u f H ⟨f2, f4, f5, f6, f20, H2, H4, H5, H6, hi⟩ ih
  by_cases hl : i < 64
  · simp -implicitDefEqProofs -dsimp +contextual (maxSteps := 5000000) (disch := first | omega | simp only [go_sem] <;> omega | refine ib ?_; kernel_rfl) only [go_sem, Nat.reduceBEq, Int.reduceNeg, Int.reduceLT, Int.reduceLE, Int.reduceAdd, Int.reduceSub, Int.reduceToNat, Int.reduceMul, Int.reduceMod, Int.reduceTMod, Int.reduceTDiv, Int.reduceEq, Nat.reducePow, Nat.reduceDiv, Nat.reduceShiftRight, Nat.reduceMod, List.reduceReplicate, ↓reduceIte, Nat.reduceEqDiff, Nat.reduceAdd, Nat.reduceSub, Nat.reduceLeDiff, Nat.reduceLT, Nat.reduceMul, f2, f4, f5, f6, f20, H2, H4, H5, H6, hl, hw, hk]
    have c1 := chx_eq u (KS[i]'(by rw [hk]; exact hl)) ((wsOf blk)[i]'(by rw [hw]; exact hl))
    have c2 := chy_eq u
    have c3 := cells_step u (KS[i]'(by rw [hk]; exact hl)) ((wsOf blk)[i]'(by rw [hw]; exact hl))
    rw [c1, c2, c3]
    have hfin := congrArg (fun r : S8 => some (AVal.agg ((r.add s).l.map w32), ([] : List AVal))) (rnd_drop KS (wsOf blk) i (by rw [hk]; exact hl) (by rw [hw]; exact hl) u)
    refine Eq.trans ?_ hfin.symm
    refine ih (i + 1) _ _ _ ?_ (by omega)
    exact ⟨f2, f4, f5, f6, rfl, H2, H4, H5, rfl, by omega⟩
  · simp -implicitDefEqProofs -dsimp +contextual (maxSteps := 5000000) (disch := first | omega | simp only [go_sem] <;> omega | refine ib ?_; kernel_rfl) only [go_sem, Nat.reduceBEq, Int.reduceNeg, Int.reduceLT, Int.reduceLE, Int.reduceAdd, Int.reduceSub, Int.reduceToNat, Int.reduceMul, Int.reduceMod, Int.reduceTMod, Int.reduceTDiv, Int.reduceEq, Nat.reducePow, Nat.reduceDiv, Nat.reduceShiftRight, Nat.reduceMod, List.reduceReplicate, ↓reduceIte, Nat.reduceEqDiff, Nat.reduceAdd, Nat.reduceSub, Nat.reduceLeDiff, Nat.reduceLT, Nat.reduceMul, f2, f4, f5, f6, f20, H2, H4, H5, H6, hl, kLoop_eq]
    obtain rfl : i = 64 := by omega
    rw [rnd_nil]
    exact congrArg (fun x => some (AVal.agg x, [])) (cells_add u s)
end Go.Proofs.YtnpkhdjgedeppaaGreatDoor
