import Derived.Test.YtccfjidpdlfenaaDoorFacts
import Derived.Test.YtccfjidpdlfenaaDoorTConcat
namespace Go.Proofs.YtccfjidpdlfenaaDoor
open Go.Am
set_option linter.unusedSimpArgs false
set_option linter.unusedVariables false
set_option maxRecDepth 100000

/-! slices.Concat of bytes, by its walk. -/
theorem usl_of_own {S : Nat → Prop} {U : List Nat} {w w' : World} {v : Value} {e : TypeId} {l : List UInt8} (h : w'.ownsRow w.heap.size e 1 v l.length (Lib.byteCells l)) :
    ∃ U', ORel (After S U w U' w') w' (.usl 1 (l.map byteRow)) v U' ∧ U'.Nodup ∧ ∀ b ∈ U', b < w'.heap.size ∧ (b ∈ U ∨ w.heap.size ≤ b) := by
  rcases h.2 with ⟨rfl, h0⟩ | ⟨g, cap, cur, rfl, hbg, hg, hnc, hcm, hcs, htake⟩
  · obtain rfl : l = [] := List.length_eq_zero_iff.1 h0
    exact ⟨[], ⟨none, 0, rfl, Nat.le_refl _, .inl ⟨rfl, rfl⟩⟩, List.nodup_nil, fun b hb => by cases hb⟩
  · by_cases hc : cap = 0
    · subst hc
      refine ⟨[], ⟨_, 0, by rw [List.length_map], by rw [List.length_map]; exact hnc, .inl ⟨rfl, rfl⟩⟩, List.nodup_nil, fun b hb => by cases hb⟩
    · have hlt : g < w'.heap.size := by
        rcases Nat.lt_or_ge g w'.heap.size with h' | h'
        · exact h'
        · simp [Array.getElem?_eq_none h'] at hg
      refine ⟨[g], ⟨_, cap, by rw [List.length_map], by rw [List.length_map]; exact hnc, .inr ⟨hc, g, 0, rfl, rfl, fun h => h.2.1 (by simp), ⟨cur, e, (0, 0), hg, by rw [hcs]; omega, fun _ => Free.zero _⟩, ?_⟩⟩, by simp, fun b hb => by
        simp only [List.mem_singleton] at hb; subst hb; exact ⟨hlt, .inr hbg⟩⟩
      rw [CRows_iff]
      intro i r hr
      simp only [List.getElem?_map, Option.map_eq_some_iff] at hr
      obtain ⟨c, hi, rfl⟩ := hr
      obtain ⟨hil, rfl⟩ := List.getElem?_eq_some_iff.1 hi
      refine ⟨rfl, ⟨_, ?_, rfl⟩, trivial⟩
      simp only [World.cell?, hg, Option.isSome_none, Bool.false_eq_true, if_false]
      have := congrArg (·[i]?) htake
      simp only [Nat.mul_one, Lib.byteCells, List.getElem?_map, hi, Option.map_some] at this
      rw [List.getElem?_take, if_pos hil] at this
      rw [Nat.zero_add, Nat.mul_one, ← Array.getElem?_toList]
      exact this
theorem slice_of_own {S : Nat → Prop} {U : List Nat} {w w' : World} {v : Value} {e : TypeId} {l : List UInt8} (h : w'.ownsRow w.heap.size e 1 v l.length (Lib.byteCells l)) : ORel (After S U w [] w') w' (.slice 1 (l.map byteRow)) v [] := by
  refine ⟨?_, rfl⟩
  rcases h.2 with ⟨rfl, h0⟩ | ⟨g, cap, cur, rfl, hbg, hg, hnc, hcm, hcs, htake⟩
  · obtain rfl : l = [] := List.length_eq_zero_iff.1 h0
    exact ⟨none, 0, rfl, Nat.le_refl _, fun h => absurd rfl h⟩
  · have hlt : g < w'.heap.size := by
      rcases Nat.lt_or_ge g w'.heap.size with h' | h'
      · exact h'
      · simp [Array.getElem?_eq_none h'] at hg
    refine ⟨_, cap, by rw [List.length_map], by rw [List.length_map]; exact hnc, fun _ => ⟨g, 0, rfl, ⟨hlt, by simp, .inr (.inl hbg)⟩, ?_⟩⟩
    rw [CRows_iff]
    intro i r hr
    simp only [List.getElem?_map, Option.map_eq_some_iff] at hr
    obtain ⟨c, hi, rfl⟩ := hr
    obtain ⟨hil, rfl⟩ := List.getElem?_eq_some_iff.1 hi
    refine ⟨rfl, ⟨_, ?_, rfl⟩, trivial⟩
    simp only [World.cell?, hg, Option.isSome_none, Bool.false_eq_true, if_false]
    have := congrArg (·[i]?) htake
    simp only [Nat.mul_one, Lib.byteCells, List.getElem?_map, hi, Option.map_some] at this
    rw [List.getElem?_take, if_pos hil] at this
    rw [Nat.zero_add, Nat.mul_one, ← Array.getElem?_toList]
    exact this
def partRow (l : List UInt8) : List AVal := [.slice 1 (l.map byteRow)]
def unparts : List (List AVal) → Option (List (List UInt8))
  | [] => some []
  | [.slice 1 es] :: rs => (unbyte es).bind fun l => (unparts rs).bind fun ls => some (l :: ls)
  | _ => none
theorem unparts_spec : ∀ (rs : List (List AVal)) (ps : List (List UInt8)), unparts rs = some ps → rs = ps.map partRow
  | [], ps, h => by simp only [unparts, Option.some.injEq] at h; subst h; rfl
  | r :: rs, ps, h => by
    unfold unparts at h
    split at h
    · rename_i e; cases e
    · rename_i es rs' e
      simp only [List.cons.injEq] at e
      obtain ⟨rfl, rfl⟩ := e
      simp only [Option.bind_eq_some_iff, Option.some.injEq] at h
      obtain ⟨l, h1, ls, h2, rfl⟩ := h
      have := unbyte_spec _ _ h1
      subst this
      have := unparts_spec _ _ h2
      subst this
      rfl
    · cases h
/-- A nil among the parts. -/
def normRow : List AVal → List AVal
  | [.sc (.slice none 0 0)] => [.slice 1 []]
  | r => r
theorem normRow_part (p : List UInt8) : normRow (partRow p) = partRow p := rfl
theorem normRow_parts (ps : List (List UInt8)) : (ps.map partRow).map normRow = ps.map partRow := by rw [List.map_map]; rfl
theorem normRow_cells {S : Nat → Prop} {w : World} {b off : Nat} {r : List AVal} (h : r.length = 1 ∧ CCells S w b off r) : (normRow r).length = 1 ∧ CCells S w b off (normRow r) := by
  unfold normRow
  split
  · obtain ⟨_, ⟨⟨x, h1, h2⟩, _⟩⟩ := h
    refine ⟨rfl, ⟨x, h1, ?_⟩, trivial⟩
    simp only [CRel] at h2
    subst h2
    exact ⟨none, 0, rfl, Nat.le_refl _, fun h => absurd rfl h⟩
  · exact h
theorem normRow_rows {S : Nat → Prop} {w : World} {b : Nat} : ∀ {rs : List (List AVal)} {off : Nat}, CRows S w b off 1 rs → CRows S w b off 1 (rs.map normRow)
  | [], _, _ => trivial
  | r :: rs, off, ⟨h1, h2, h3⟩ => ⟨(normRow_cells ⟨h1, h2⟩).1, (normRow_cells ⟨h1, h2⟩).2, normRow_rows h3⟩
theorem concat_spec (rs : List (List AVal)) (ps : List (List UInt8)) (hn : rs.map normRow = ps.map partRow) (h0 : ps ≠ []) (h1 : ps.length ≤ 1000000) (h2 : ps.flatten.length ≤ 1000000000000) : Am.Spec E 130 [.slice 1 rs] (.slice 1 (ps.flatten.map byteRow)) [] := by
  intro S w xs U _ hG hst hor hnd hb
  obtain ⟨y, ys, U1, U2, rfl, rfl, ⟨⟨a, cap, rfl, _, hc⟩, rfl⟩, ⟨rfl, rfl⟩⟩ := hor
  have hlen : rs.length = ps.length := by have := congrArg List.length hn; simpa using this
  obtain ⟨b, off, rfl, hS, hr⟩ := hc (fun e => h0 (List.length_eq_zero_iff.1 (by rw [← hlen, e]; rfl)))
  have hr := normRow_rows hr
  rw [hn] at hr
  rw [hlen]
  refine (concat_walk ps b off cap w (hst b hS) h1 h2 fun i hi => ?_).mono ?_
  · rw [CRows_iff] at hr
    obtain ⟨_, h2⟩ := hr i (partRow ps[i]) (by simp [hi])
    obtain ⟨⟨x, h3, h4⟩, _⟩ := h2
    obtain ⟨a', cap', rfl, _, hc'⟩ := h4
    refine ⟨a', cap', by rw [List.length_map] at h3; simpa using h3, fun hne => ?_⟩
    obtain ⟨b', off', rfl, hS', hr'⟩ := hc' (by simpa using hne)
    refine ⟨b', off', rfl, hst b' hS', fun j hj => ?_⟩
    rw [CRows_iff] at hr'
    obtain ⟨_, g2⟩ := hr' j (byteRow ps[i][j]) (by simp [hj])
    obtain ⟨⟨x, g3, g4⟩, _⟩ := g2
    simp only [CRel] at g4
    subst g4
    simpa using g3
  · rintro e w' ⟨v, rfl, hown, hbl⟩
    exact ⟨v, [], rfl, Keep.same hbl.os hbl.tape hbl.output hbl.size (fun k hk => hbl.block k hk), ⟨v, [], [], [], rfl, rfl, slice_of_own hown, rfl, rfl⟩, List.nodup_nil, fun b hb => by cases hb⟩
def concatO : List Nat → List AVal → Option Res := fun _ ds => match ds with
  | [.slice 1 es] => (unparts (es.map normRow)).bind fun ps => gu (ps ≠ [] ∧ ps.length ≤ 1000000 ∧ ps.flatten.length ≤ 1000000000000) (some (.slice 1 (ps.flatten.map byteRow), []))
  | _ => none
theorem concatO_ok : ∀ ex ds q, concatO ex ds = some q → SpecX E ex 130 ds q.1 q.2 := by
  intro ex ds q hq
  unfold concatO at hq
  split at hq
  · rename_i es
    rw [Option.bind_eq_some_iff] at hq
    obtain ⟨ps, h1, h2⟩ := hq
    simp only [gu_some, Option.some.injEq] at h2
    obtain ⟨⟨g1, g2, g3⟩, rfl⟩ := h2
    exact specX_of_spec (concat_spec es ps (unparts_spec _ _ h1) g1 g2 g3)
  · cases hq


end Go.Proofs.YtccfjidpdlfenaaDoor
namespace Go.Proofs.YtccfjidpdlfenaaDoor
open Go.Am
set_option linter.unusedSimpArgs false
set_option linter.unusedVariables false
set_option maxRecDepth 100000

/-! Functions of the library, by their contracts. -/
theorem own_85_0 : Am.Spec E 85 [.slice 4 []] (.slice 4 []) [] := by
  refine spec_empty (fun c => ?_) (fun a c => ?_)
  · refine fnE_sound (X := C0.X) (M := C0.M) mixed (fun f g ex ds q h => by cases h) (q := (.slice 4 [], [])) ?_
    show fn C0 85 [] _ = _
    rw [fn_text Tryd.func85 rfl rfl Tryd.results85 fq85.1 rfl rfl (by kernel_rfl)]
    simp -implicitDefEqProofs -dsimp +contextual (maxSteps := 9999999) (disch := first | omega | simp only [go_sem] <;> omega | refine ib ?_; kernel_rfl) only [go_sem, seval, ↓reduceIte]
  · refine fnE_sound (X := C0.X) (M := C0.M) mixed (fun f g ex ds q h => by cases h) (q := (.slice 4 [], [])) ?_
    show fn C0 85 [] _ = _
    rw [fn_text Tryd.func85 rfl rfl Tryd.results85 fq85.1 rfl rfl (by kernel_rfl)]
    simp -implicitDefEqProofs -dsimp +contextual (maxSteps := 9999999) (disch := first | omega | simp only [go_sem] <;> omega | refine ib ?_; kernel_rfl) only [go_sem, seval, ↓reduceIte]
theorem own_85 (r : List AVal) (rs : List (List AVal)) (h : okRows (r :: rs) = true) : Am.Spec E 85 [.slice 4 (r :: rs)] (.slice 4 (r :: rs)) [] := by
  simp only [okRows, Bool.and_eq_true, decide_eq_true_eq, List.all_cons, ones_cons, List.length_cons] at h
  obtain ⟨h1, ⟨h2, h3⟩, h4, h5⟩ := h
  refine fnE_sound (X := C0.X) (M := C0.M) mixed (fun f g ex ds q h => by cases h) (q := (.slice 4 (r :: rs), [])) ?_
  show fn C0 85 [] _ = _
  rw [fn_text Tryd.func85 rfl rfl Tryd.results85 fq85.1 rfl rfl (by kernel_rfl)]
  simp -implicitDefEqProofs -dsimp +contextual (maxSteps := 9999999) (disch := first | omega | simp only [go_sem] <;> omega | refine ib ?_; kernel_rfl) only [go_sem, seval, ↓reduceIte, h2, h3, h4, h5]

/-- slices.Clone, handed over whole. -/
def cloneUO (st : Nat) : List Nat → List AVal → Option Res := fun _ ds => match ds with
  | [.slice st' es] => gu (st' = st) (gu (okRows es = true) (some (.usl st es, [])))
  | _ => none

theorem cloneUO_ok {E : Env} {f : FuncId} {st : Nat} (h0 : Am.Spec E f [.slice st []] (.usl st []) []) (h : ∀ r rs, okRows (r :: rs) = true → Am.Spec E f [.slice st (r :: rs)] (.usl st (r :: rs)) []) :
    ∀ ex ds q, cloneUO st ex ds = some q → SpecX E ex f ds q.1 q.2 := by
  intro ex ds q hq
  unfold cloneUO at hq
  split at hq
  · rename_i st' es
    simp only [gu_some, Option.some.injEq] at hq
    obtain ⟨rfl, h1, rfl⟩ := hq
    refine specX_of_spec ?_
    cases es with
    | nil => exact h0
    | cons r rs => exact h r rs h1
  · cases hq

theorem cloneB_0 : Am.Spec E 168 [.slice 1 []] (.usl 1 []) [] := by
  refine spec_empty (fun c => ?_) (fun a c => ?_)
  · refine fnE_sound (X := C0.X) (M := C0.M) mixed (fun f g ex ds q h => by cases h) (q := (.usl 1 [], [])) ?_
    show fn C0 168 [] _ = _
    rw [fn_text Tryd.func168 rfl rfl Tryd.results168 fq168.1 rfl rfl (by kernel_rfl)]
    simp -implicitDefEqProofs -dsimp +contextual (maxSteps := 9999999) (disch := first | omega | simp only [go_sem] <;> omega | refine ib ?_; kernel_rfl) only [go_sem, seval, ↓reduceIte]
  · refine fnE_sound (X := C0.X) (M := C0.M) mixed (fun f g ex ds q h => by cases h) (q := (.usl 1 [], [])) ?_
    show fn C0 168 [] _ = _
    rw [fn_text Tryd.func168 rfl rfl Tryd.results168 fq168.1 rfl rfl (by kernel_rfl)]
    simp -implicitDefEqProofs -dsimp +contextual (maxSteps := 9999999) (disch := first | omega | simp only [go_sem] <;> omega | refine ib ?_; kernel_rfl) only [go_sem, seval, ↓reduceIte]
theorem cloneB_1 (r : List AVal) (rs : List (List AVal)) (h : okRows (r :: rs) = true) : Am.Spec E 168 [.slice 1 (r :: rs)] (.usl 1 (r :: rs)) [] := by
  simp only [okRows, Bool.and_eq_true, decide_eq_true_eq, List.all_cons, ones_cons, List.length_cons] at h
  obtain ⟨h1, ⟨h2, h3⟩, h4, h5⟩ := h
  refine fnE_sound (X := C0.X) (M := C0.M) mixed (fun f g ex ds q h => by cases h) (q := (.usl 1 (r :: rs), [])) ?_
  show fn C0 168 [] _ = _
  rw [fn_text Tryd.func168 rfl rfl Tryd.results168 fq168.1 rfl rfl (by kernel_rfl)]
  simp -implicitDefEqProofs -dsimp +contextual (maxSteps := 9999999) (disch := first | omega | simp only [go_sem] <;> omega | refine ib ?_; kernel_rfl) only [go_sem, seval, ↓reduceIte, h2, h3, h4, h5]
def cloneB : List Nat → List AVal → Option Res := cloneUO 1
theorem cloneB_ok : ∀ ex ds q, cloneB ex ds = some q → SpecX E ex 168 ds q.1 q.2 := cloneUO_ok cloneB_0 cloneB_1

def own : Own := ownOf [(85, cloneO 4), (130, concatO), (168, cloneB)]
noncomputable def C : Cf := ⟨E, M, own⟩
@[go_sem] theorem C_E : C.E = E := rfl
@[go_sem] theorem C_M : C.M = M := rfl
@[go_sem] theorem C_X : C.X = own := rfl
theorem own_ok : OwnOk C.E C.X := ownOf_ok fun p hp => by
  simp only [List.mem_cons, List.not_mem_nil, or_false] at hp
  rcases hp with rfl | rfl | rfl
  · exact cloneO_ok own_85_0 own_85
  · exact concatO_ok
  · exact cloneB_ok
theorem ow_130 (ex ds) : fn C 130 ex ds = concatO ex ds := fn_own rfl ex ds
theorem ow_168 (ex ds) : fn C 168 ex ds = cloneB ex ds := fn_own rfl ex ds
@[go_sem] theorem cl_85 (es : List (List AVal)) : fn C 85 [] [.slice 4 es] = gu (okRows es = true) (some (.slice 4 es, [])) := by
  rw [fn_own (g := cloneO 4) rfl]
  simp [cloneO, gu]

theorem unparts_two (a b : List UInt8) : unparts (List.map normRow [[.slice 1 (a.map byteRow)], [.slice 1 (b.map byteRow)]]) = some [a, b] := by
  simp [normRow, unparts, unbyte_map]
@[go_sem] theorem e130 (a b : List UInt8) (h : a.length + b.length ≤ 1000000000000) : fn C 130 [] [.slice 1 [[.slice 1 (a.map byteRow)], [.slice 1 (b.map byteRow)]]] = some (.slice 1 ((a ++ b).map byteRow), []) := by
  rw [ow_130]; simp only [concatO]; rw [unparts_two]; simp [gu, h]
theorem unparts_map (ps : List (List UInt8)) : unparts (ps.map partRow) = some ps := by
  induction ps with
  | nil => rfl
  | cons p ps ih => simp [unparts, partRow, unbyte_map] at ih ⊢; rw [ih]; rfl
theorem concat_all (p : List UInt8) (rs : List (List AVal)) (ps : List (List UInt8)) (hn : rs.map normRow = ps.map partRow) (h1 : ps.length ≤ 1000) (h : (p ++ ps.flatten).length ≤ 1000000000000) : fn C 130 [] [.slice 1 ([.slice 1 (p.map byteRow)] :: rs)] = some (.slice 1 ((p ++ ps.flatten).map byteRow), []) := by
  have e : ([.slice 1 (p.map byteRow)] :: rs).map normRow = (p :: ps).map partRow := by rw [List.map_cons, hn]; rfl
  rw [ow_130]
  simp only [concatO]
  rw [e]
  simp only [unparts_map, Option.bind_some, gu, List.flatten_cons]
  rw [if_pos ⟨by simp, by simp; omega, h⟩]
@[go_sem] theorem e168 (l : List UInt8) (h : l.length ≤ 1073741824) : fn C 168 [] [.slice 1 (l.map byteRow)] = some (.usl 1 (l.map byteRow), []) := by
  rw [ow_168]; simp [cloneB, cloneUO, gu, okRows_byte, h]

end Go.Proofs.YtccfjidpdlfenaaDoor
namespace Go.Proofs.YtccfjidpdlfenaaDoor
open Go.Am
set_option linter.unusedSimpArgs false
set_option linter.unusedVariables false
set_option maxRecDepth 100000
def okB (b : UInt8) : Bool := decide (32 < b.toNat) && decide (b.toNat < 127)
def keyR (l : List UInt8) : Bool := decide (1 ≤ l.length) && decide (l.length ≤ 24) && l.all okB

@[go_sem] theorem e82 (l : List UInt8) : fn C 82 [] [.str l] = some (.bool (decide (l.length ≤ 32)), []) := by
  rw [fn_text Tryd.func82 rfl rfl Tryd.results82 fq82.1 rfl rfl (by kernel_rfl)]
  simp -implicitDefEqProofs -dsimp +contextual (maxSteps := 9999999) (disch := first | omega | simp only [go_sem] <;> omega | refine ib ?_; kernel_rfl) only [go_sem, seval, ↓reduceIte] <;>
  exact Res_bool (by simp; omega)

@[go_sem] theorem e87 (l : List UInt8) : fn C 87 [] [.str l] = some (.bool (keyR l), []) := by
  rw [fn_text Tryd.func87 rfl rfl Tryd.results87 fq87.1 rfl rfl (by kernel_rfl)]
  simp -implicitDefEqProofs -dsimp +contextual (maxSteps := 9999999) (disch := first | omega | simp only [go_sem] <;> omega | refine ib ?_; kernel_rfl) only [go_sem, seval, ↓reduceIte]
  (repeat' (refine kD_intro (fun _ => ?_) (fun _ => ?_)))
  · exact Res_bool (by simp [keyR]; omega)
  · exact Res_bool (by simp [keyR]; omega)
  refine (kLoop_rec (fun i f H => f 0 = .str l ∧ f 3 = .int .i64 (i : Nat) ∧ H = Heap.nil ∧ i ≤ l.length) (fun i => l.length - i) (fun i => some (.bool ((l.drop i).all okB), [])) ?_ 0 _ _ ⟨rfl, rfl, rfl, by omega⟩).trans ?_
  · rintro i f _ ⟨h0, h3, rfl, hi⟩ ih
    by_cases hl : i < l.length
    · rw [List.drop_eq_getElem_cons hl]
      simp -implicitDefEqProofs -dsimp +contextual (maxSteps := 9999999) (disch := first | omega | simp only [go_sem] <;> omega | refine ib ?_; kernel_rfl) only [go_sem, seval, ↓reduceIte, h0, h3, hl]
      (repeat' (refine kD_intro (fun _ => ?_) (fun _ => ?_)))
      · exact Res_bool (by simp [okB] <;> omega)
      · exact Res_bool (by simp [okB] <;> omega)
      · have hb : okB l[i] = true := by simp [okB] <;> omega
        exact (ih (i + 1) _ _ (by exact ⟨h0, rfl, rfl, by omega⟩) (by omega)).trans (by simp [hb])
    · simp -implicitDefEqProofs -dsimp +contextual (maxSteps := 9999999) (disch := first | omega | simp only [go_sem] <;> omega | refine ib ?_; kernel_rfl) only [go_sem, seval, ↓reduceIte, h0, h3, hl] <;>
      exact Res_bool (by simp [show i = l.length by omega])
  · exact Res_bool (by simp [keyR]; omega)

@[go_sem] theorem e81 (l : List UInt8) (hl : l.length ≤ 9223372036854775807) : fn C 81 [] [.str l] = some (.bool (keyR l), []) := by
  rw [fn_text Tryd.func81 rfl rfl Tryd.results81 fq81.1 rfl rfl (by kernel_rfl)]
  simp -implicitDefEqProofs -dsimp +contextual (maxSteps := 9999999) (disch := first | omega | simp only [go_sem] <;> omega | refine ib ?_; kernel_rfl) only [go_sem, seval, ↓reduceIte]
  refine (kLoop_rec (fun i f H => f 0 = .str l ∧ f 5 = .int .i64 l.length ∧ f 6 = .int .i64 (i : Nat) ∧ H = Heap.nil ∧ i ≤ l.length) (fun i => l.length - i) (fun i => some (.bool (decide (1 ≤ l.length) && decide (l.length ≤ 24) && (l.drop i).all okB), [])) ?_ 0 _ _ ⟨rfl, rfl, rfl, rfl, by omega⟩).trans rfl
  rintro i f _ ⟨h0, h5, h6, rfl, hi⟩ ih
  by_cases hl : i < l.length
  · rw [List.drop_eq_getElem_cons hl]
    simp -implicitDefEqProofs -dsimp +contextual (maxSteps := 9999999) (disch := first | omega | simp only [go_sem] <;> omega | refine ib ?_; kernel_rfl) only [go_sem, seval, ↓reduceIte, h0, h5, h6, hl]
    (repeat' (refine kD_intro (fun _ => ?_) (fun _ => ?_)))
    · exact Res_bool (by simp [okB] <;> omega)
    · exact Res_bool (by simp [okB] <;> omega)
    · have hb : okB l[i] = true := by simp [okB] <;> omega
      exact (ih (i + 1) _ _ (by exact ⟨h0, h5, rfl, rfl, by omega⟩) (by omega)).trans (by simp [hb])
  · simp -implicitDefEqProofs -dsimp +contextual (maxSteps := 9999999) (disch := first | omega | simp only [go_sem] <;> omega | refine ib ?_; kernel_rfl) only [go_sem, seval, ↓reduceIte, h0, h5, h6, hl]
    obtain rfl : i = l.length := by omega
    cases l with
    | nil => simp -implicitDefEqProofs -dsimp +contextual (maxSteps := 9999999) (disch := first | omega | simp only [go_sem] <;> omega | refine ib ?_; kernel_rfl) only [go_sem, seval, ↓reduceIte]
    | cons b l => simp -implicitDefEqProofs -dsimp +contextual (maxSteps := 9999999) (disch := first | omega | simp only [go_sem] <;> omega | refine ib ?_; kernel_rfl) only [go_sem, seval, ↓reduceIte] <;> exact Res_bool (by simp <;> omega)

end Go.Proofs.YtccfjidpdlfenaaDoor
namespace Go.Proofs.YtccfjidpdlfenaaDoor
open Go.Am
set_option linter.unusedSimpArgs false
set_option linter.unusedVariables false
set_option maxRecDepth 100000
structure It where
  k : List UInt8
  v : List UInt8
  n : Int
  g : Bool
deriving DecidableEq
def It.cs (x : It) : List AVal := [.str x.k, .str x.v, .int .i64 x.n, .bool x.g]
def zeroIt : It := ⟨[], [], 0, false⟩
@[go_sem] theorem zeroIt_k : zeroIt.k = [] := rfl
@[go_sem] theorem zeroIt_v : zeroIt.v = [] := rfl
@[go_sem] theorem zeroIt_n : zeroIt.n = 0 := rfl
@[go_sem] theorem zeroIt_g : zeroIt.g = false := rfl
@[go_sem] theorem It.cs_eq (x : It) : x.cs = [.str x.k, .str x.v, .int .i64 x.n, .bool x.g] := rfl
@[go_sem] theorem It.ones_cs (l : List It) : ones (l.map It.cs) = true := ones_map _ _ fun x => rfl
@[go_sem] theorem It.clos_cs (l : List It) : (l.map It.cs).all clos = true := allclos_map _ (fun _ => rfl) l
@[go_sem] theorem It.flat_cs (l : List It) : flatss (l.map It.cs) = true := flatss_map _ (fun _ => rfl) l
@[go_sem] theorem It.ok_cs (l : List It) : okRows (l.map It.cs) = decide (l.length ≤ 1073741824) := okRows_map _ (fun _ => rfl) (fun _ => rfl) l
@[go_sem] theorem It.eta (x : It) : (⟨x.k, x.v, x.n, x.g⟩ : It) = x := rfl
@[go_sem] theorem It.set_cs (l : List It) (j : Nat) (k v : List UInt8) (n : Int) (g : Bool) : (l.map It.cs).set j [.str k, .str v, .int .i64 n, .bool g] = (l.set j ⟨k, v, n, g⟩).map It.cs := by rw [List.map_set]; rfl
@[go_sem] theorem It.app_cs (l : List It) (k v : List UInt8) (n : Int) (g : Bool) : l.map It.cs ++ [[.str k, .str v, .int .i64 n, .bool g]] = (l ++ [(⟨k, v, n, g⟩ : It)]).map It.cs := by rw [List.map_append]; rfl
theorem It.eq_iff (x y : It) : x = y ↔ x.k = y.k ∧ x.v = y.v ∧ x.n = y.n ∧ x.g = y.g := by cases x; cases y; simp

def itemR (x : It) : Bool := keyR x.k && decide (x.v.length ≤ 32) && decide (1 ≤ x.n) && decide (x.n ≤ 1073741824)

@[go_sem] theorem e45 (k v : List UInt8) (n : Int) (g : Bool) : fn C 45 [] [.agg [.str k, .str v, .int .i64 n, .bool g]] = some (.bool (itemR ⟨k, v, n, g⟩), []) := by
  rw [fn_text Tryd.func45 rfl rfl Tryd.results45 fq45.1 rfl rfl (by kernel_rfl)]
  simp -implicitDefEqProofs -dsimp +contextual (maxSteps := 9999999) (disch := first | omega | simp only [go_sem] <;> omega | refine ib ?_; kernel_rfl) only [go_sem, seval, ↓reduceIte]
  (repeat' (refine kD_intro (fun _ => ?_) (fun _ => ?_))) <;> exact Res_bool (by simp [itemR, *]; try omega)

@[go_sem] theorem e43 (k v : List UInt8) (n : Int) (g : Bool) (hk : k.length ≤ 9223372036854775807) : fn C 43 [] [.agg [.str k, .str v, .int .i64 n, .bool g]] = some (.bool (itemR ⟨k, v, n, g⟩), []) := by
  rw [fn_text Tryd.func43 rfl rfl Tryd.results43 fq43.1 rfl rfl (by kernel_rfl)]
  simp -implicitDefEqProofs -dsimp +contextual (maxSteps := 9999999) (disch := first | omega | simp only [go_sem] <;> omega | refine ib ?_; kernel_rfl) only [go_sem, seval, ↓reduceIte]
  (repeat' (refine kD_intro (fun _ => ?_) (fun _ => ?_))) <;> exact Res_bool (by simp [itemR, *]; try omega)

@[go_sem] theorem eqItem (a b a' b' : List UInt8) (c c' : Int) (d d' : Bool) : eqF E.P 8 70 (.agg [.str a, .str b, .int .i64 c, .bool d]) (.agg [.str a', .str b', .int .i64 c', .bool d']) = some (decide ((⟨a, b, c, d⟩ : It) = ⟨a', b', c', d'⟩)) := by
  have u26 : E.P.underlying 70 = _ := Tryd.underlying70
  have u9 : E.P.underlying 9 = _ := Tryd.underlying9
  have u3 : E.P.underlying 3 = _ := Tryd.underlying3
  have u4 : E.P.underlying 4 = _ := Tryd.underlying4
  have hs : E.P.stoodInHeld 70 = false := by kernel_rfl
  simp [eqF, eqGo, u26, u9, u3, u4, hs, tq9.1, tq9.2.1, tq3.1, tq3.2.1, tq4.1, tq4.2.1, mkV, beq_dec, Bool.and_assoc, ← Bool.decide_and]

@[go_sem] theorem e13 (a b : List It) (hl : a.length ≤ 9223372036854775807) : fn C 13 [] [.slice 4 (a.map It.cs), .slice 4 (b.map It.cs)] = some (.bool (decide (a = b)), []) := by
  rw [fn_text Tryd.func13 rfl rfl Tryd.results13 fq13.1 rfl rfl (by kernel_rfl)]
  simp -implicitDefEqProofs -dsimp +contextual (maxSteps := 9999999) (disch := first | omega | simp only [go_sem] <;> omega | refine ib ?_; kernel_rfl) only [go_sem, seval, ↓reduceIte]
  (repeat' (refine kD_intro (fun _ => ?_) (fun _ => ?_)))
  · rename_i h1
    refine (kLoop_rec (fun i f H => f 0 = .slice 4 (a.map It.cs) ∧ f 1 = .slice 4 (b.map It.cs) ∧ f 5 = .int .i64 (i : Nat) ∧ H = Heap.nil ∧ i ≤ a.length ∧ a.take i = b.take i) (fun i => a.length - i) (fun i => some (.bool (decide (a = b)), [])) ?_ 0 _ _ ⟨rfl, rfl, rfl, rfl, by omega, rfl⟩).trans rfl
    rintro i f _ ⟨h0, h2, h5, rfl, hi, ht⟩ ih
    by_cases hl : i < a.length
    · simp -implicitDefEqProofs -dsimp +contextual (maxSteps := 9999999) (disch := first | omega | simp only [go_sem] <;> omega | refine ib ?_; kernel_rfl) only [go_sem, seval, ↓reduceIte, h0, h2, h5, hl, h1]
      (repeat' (refine kD_intro (fun _ => ?_) (fun _ => ?_)))
      · rename_i he
        refine ih (i + 1) _ _ ⟨h0, h2, rfl, rfl, by omega, ?_⟩ (by omega)
        rw [List.take_succ_eq_append_getElem hl, List.take_succ_eq_append_getElem (by omega), ht, he]
      · rename_i he
        have : ¬ a = b := fun e => he (by subst e; rfl)
        exact Res_bool (by simp [this])
    · simp -implicitDefEqProofs -dsimp +contextual (maxSteps := 9999999) (disch := first | omega | simp only [go_sem] <;> omega | refine ib ?_; kernel_rfl) only [go_sem, seval, ↓reduceIte, h0, h2, h5, hl]
      obtain rfl : i = a.length := by omega
      have : a = b := by rw [List.take_length, h1, List.take_length] at ht; exact ht
      exact Res_bool (by simp [this])
  · rename_i h
    have : ¬ a = b := fun e => h (by rw [e])
    exact Res_bool (by simp [this])

end Go.Proofs.YtccfjidpdlfenaaDoor
namespace Go.Proofs.YtccfjidpdlfenaaDoor
open Go.Am
set_option linter.unusedSimpArgs false
set_option linter.unusedVariables false
set_option maxRecDepth 100000
def placeR (l : List It) (key : List UInt8) : Int := if l.findIdx (fun x => decide (x.k = key)) < l.length then (l.findIdx (fun x => decide (x.k = key)) : Nat) else -1
theorem all_take {α : Type} {p : α → Bool} {l : List α} {i : Nat} (h : i < l.length) (h1 : (l.take i).all p = true) (h2 : p l[i] = true) : (l.take (i + 1)).all p = true := by
  rw [List.take_succ_eq_append_getElem h, List.all_append, h1]; simp [h2]
theorem place_at {l : List It} {key : List UInt8} {i : Nat} (h : i < l.length) (hn : (l.take i).all (fun x => !decide (x.k = key)) = true) (he : l[i].k = key) : placeR l key = i := by
  have : l.findIdx (fun x => decide (x.k = key)) = i := by
    rw [List.findIdx_eq h]
    refine ⟨by simpa using he, fun j hj => ?_⟩
    have := List.all_eq_true.1 hn l[j] (by
      rw [List.mem_take_iff_getElem]; exact ⟨j, by omega, rfl⟩)
    simpa using this
  unfold placeR
  rw [this, if_pos h]
theorem place_none {l : List It} {key : List UInt8} (hn : l.all (fun x => !decide (x.k = key)) = true) : placeR l key = -1 := by
  unfold placeR
  rw [if_neg]
  intro hlt
  have := List.findIdx_getElem (w := hlt)
  have h2 := List.all_eq_true.1 hn _ (List.getElem_mem hlt)
  simp only [Bool.not_eq_true', decide_eq_false_iff_not] at h2
  exact h2 (by simpa using this)
def getR (l : List It) (key : List UInt8) : It × Bool := match l.find? (fun x => decide (x.k = key)) with | some x => (x, true) | none => (zeroIt, false)
theorem get_at {l : List It} {key : List UInt8} {i : Nat} (h : i < l.length) (hn : (l.take i).all (fun x => !decide (x.k = key)) = true) (he : l[i].k = key) : getR l key = (l[i], true) := by
  have : l.find? (fun x => decide (x.k = key)) = some l[i] := by
    rw [List.find?_eq_some_iff_getElem]
    refine ⟨by simpa using he, i, h, rfl, fun j hj => ?_⟩
    have := List.all_eq_true.1 hn l[j] (by
      rw [List.mem_take_iff_getElem]; exact ⟨j, by omega, rfl⟩)
    simpa using this
  simp [getR, this]
theorem get_none {l : List It} {key : List UInt8} (hn : l.all (fun x => !decide (x.k = key)) = true) : getR l key = (zeroIt, false) := by
  have : l.find? (fun x => decide (x.k = key)) = none := by
    rw [List.find?_eq_none]
    intro x hx
    have := List.all_eq_true.1 hn x hx
    simpa using this
  simp [getR, this]
/-- Where a key is. -/
theorem place_cases (l : List It) (key : List UInt8) : (∃ (j : Nat) (h : j < l.length), l[j].k = key ∧ (l.take j).all (fun x => !decide (x.k = key)) = true ∧ placeR l key = j ∧ getR l key = (l[j], true)) ∨ (l.all (fun x => !decide (x.k = key)) = true ∧ placeR l key = -1 ∧ getR l key = (zeroIt, false)) := by
  by_cases h : l.all (fun x => !decide (x.k = key)) = true
  · exact .inr ⟨h, place_none h, get_none h⟩
  · left
    have hlt : l.findIdx (fun x => decide (x.k = key)) < l.length := by
      rw [List.findIdx_lt_length]
      simp only [List.all_eq_true, Bool.not_eq_true', decide_eq_false_iff_not, Classical.not_forall, Classical.not_not] at h
      obtain ⟨x, hx, he⟩ := h
      exact ⟨x, hx, by simpa using he⟩
    have he : l[l.findIdx (fun x => decide (x.k = key))].k = key := by
      have := List.findIdx_getElem (w := hlt); simpa using this
    have hn : (l.take (l.findIdx (fun x => decide (x.k = key)))).all (fun x => !decide (x.k = key)) = true := by
      rw [List.all_eq_true]
      intro x hx
      rw [List.mem_take_iff_getElem] at hx
      obtain ⟨j, hj, rfl⟩ := hx
      have := List.not_of_lt_findIdx (p := fun x : It => decide (x.k = key)) (xs := l) (i := j) (by omega)
      simpa using this
    exact ⟨_, hlt, he, hn, place_at hlt hn he, get_at hlt hn he⟩

@[go_sem] theorem e88 (l : List It) (key : List UInt8) (hl : l.length ≤ 9223372036854775807) : fn C 88 [] [.slice 4 (l.map It.cs), .str key] = some (.int .i64 (placeR l key), []) := by
  rw [fn_text Tryd.func88 rfl rfl Tryd.results88 fq88.1 rfl rfl (by kernel_rfl)]
  simp -implicitDefEqProofs -dsimp +contextual (maxSteps := 9999999) (disch := first | omega | simp only [go_sem] <;> omega | refine ib ?_; kernel_rfl) only [go_sem, seval, ↓reduceIte]
  refine (kLoop_rec (fun i f H => f 0 = .slice 4 (l.map It.cs) ∧ f 1 = .str key ∧ f 5 = .int .i64 (i : Nat) ∧ H = Heap.nil ∧ i ≤ l.length ∧ (l.take i).all (fun x => !decide (x.k = key)) = true) (fun i => l.length - i) (fun i => some (.int .i64 (placeR l key), [])) ?_ 0 _ _ ⟨rfl, rfl, rfl, rfl, by omega, rfl⟩).trans rfl
  rintro i f _ ⟨h0, h1, h5, rfl, hi, hall⟩ ih
  by_cases hl : i < l.length
  · simp -implicitDefEqProofs -dsimp +contextual (maxSteps := 9999999) (disch := first | omega | simp only [go_sem] <;> omega | refine ib ?_; kernel_rfl) only [go_sem, seval, ↓reduceIte, h0, h1, h5, hl]
    (repeat' (refine kD_intro (fun _ => ?_) (fun _ => ?_)))
    · rename_i h; rw [place_at hl hall h]
    · rename_i h; exact ih (i + 1) _ _ ⟨h0, h1, rfl, rfl, by omega, all_take hl hall (by simpa using h)⟩ (by omega)
  · simp -implicitDefEqProofs -dsimp +contextual (maxSteps := 9999999) (disch := first | omega | simp only [go_sem] <;> omega | refine ib ?_; kernel_rfl) only [go_sem, seval, ↓reduceIte, h0, h1, h5, hl]
    obtain rfl : i = l.length := by omega
    rw [place_none (by simpa using hall)]

@[go_sem] theorem e84 (k v : List UInt8) (n : Int) (g : Bool) (key : List UInt8) : fn C 84 [] [.agg [.str k, .str v, .int .i64 n, .bool g], .iptr [.str key]] = some (.bool (decide (k = key)), []) := by
  rw [fn_text Tryd.func84 rfl rfl Tryd.results84 fq84.1 rfl rfl (by kernel_rfl)]
  simp -implicitDefEqProofs -dsimp +contextual (maxSteps := 9999999) (disch := first | omega | simp only [go_sem] <;> omega | refine ib ?_; kernel_rfl) only [go_sem, seval, ↓reduceIte]

@[go_sem] theorem e83 (l : List It) (key : List UInt8) (hl : l.length ≤ 9223372036854775807) : fn C 83 [] [.slice 4 (l.map It.cs), .fn (.func 84) [] [.iptr [.str key]]] = some (.int .i64 (placeR l key), []) := by
  rw [fn_text Tryd.func83 rfl rfl Tryd.results83 fq83.1 rfl rfl (by kernel_rfl)]
  simp -implicitDefEqProofs -dsimp +contextual (maxSteps := 9999999) (disch := first | omega | simp only [go_sem] <;> omega | refine ib ?_; kernel_rfl) only [go_sem, seval, ↓reduceIte]
  refine (kLoop_rec (fun i f H => f 0 = .slice 4 (l.map It.cs) ∧ f 1 = .fn (.func 84) [] [.iptr [.str key]] ∧ f 7 = .int .i64 l.length ∧ f 8 = .int .i64 (i : Nat) ∧ H = Heap.nil ∧ i ≤ l.length ∧ (l.take i).all (fun x => !decide (x.k = key)) = true) (fun i => l.length - i) (fun i => some (.int .i64 (placeR l key), [])) ?_ 0 _ _ ⟨rfl, rfl, rfl, rfl, rfl, by omega, rfl⟩).trans rfl
  rintro i f _ ⟨h0, h1, h7, h8, rfl, hi, hall⟩ ih
  by_cases hl : i < l.length
  · simp -implicitDefEqProofs -dsimp +contextual (maxSteps := 9999999) (disch := first | omega | simp only [go_sem] <;> omega | refine ib ?_; kernel_rfl) only [go_sem, seval, ↓reduceIte, h0, h1, h7, h8, hl]
    (repeat' (refine kD_intro (fun _ => ?_) (fun _ => ?_)))
    · rename_i h; rw [place_at hl hall h]
    · rename_i h; exact ih (i + 1) _ _ ⟨h0, h1, h7, rfl, rfl, by omega, all_take hl hall (by simpa using h)⟩ (by omega)
  · simp -implicitDefEqProofs -dsimp +contextual (maxSteps := 9999999) (disch := first | omega | simp only [go_sem] <;> omega | refine ib ?_; kernel_rfl) only [go_sem, seval, ↓reduceIte, h0, h1, h7, h8, hl]
    obtain rfl : i = l.length := by omega
    rw [place_none (by simpa using hall)]

@[go_sem] theorem e41 (l : List It) (key : List UInt8) (hl : l.length ≤ 9223372036854775807) : fn C 41 [] [.slice 4 (l.map It.cs), .str key] = some (.int .i64 (placeR l key), []) := by
  rw [fn_text Tryd.func41 rfl rfl Tryd.results41 fq41.1 rfl rfl (by kernel_rfl)]
  simp -implicitDefEqProofs -dsimp +contextual (maxSteps := 9999999) (disch := first | omega | simp only [go_sem] <;> omega | refine ib ?_; kernel_rfl) only [go_sem, seval, ↓reduceIte]

@[go_sem] theorem e46 (l : List It) (key : List UInt8) (hl : l.length ≤ 9223372036854775807) : fn C 46 [] [.slice 4 (l.map It.cs), .str key] = some (.tup [.agg (getR l key).1.cs, .bool (getR l key).2], []) := by
  rw [fn_text Tryd.func46 rfl rfl Tryd.results46 fq46.1 rfl rfl (by kernel_rfl)]
  simp -implicitDefEqProofs -dsimp +contextual (maxSteps := 9999999) (disch := first | omega | simp only [go_sem] <;> omega | refine ib ?_; kernel_rfl) only [go_sem, seval, ↓reduceIte]
  refine (kLoop_rec (fun i f H => f 0 = .slice 4 (l.map It.cs) ∧ f 1 = .str key ∧ f 4 = .ptr 104 1 0 0 ∧ f 6 = .int .i64 (i : Nat) ∧ H 104 = ⟨1, .live, 4, [zeroIt.cs], false⟩ ∧ i ≤ l.length ∧ (l.take i).all (fun x => !decide (x.k = key)) = true) (fun i => l.length - i) (fun i => some (.tup [.agg (getR l key).1.cs, .bool (getR l key).2], [])) ?_ 0 _ _ ⟨rfl, rfl, rfl, rfl, rfl, by omega, rfl⟩).trans rfl
  rintro i f H ⟨h0, h1, h4, h6, hH, hi, hall⟩ ih
  by_cases hl : i < l.length
  · simp -implicitDefEqProofs -dsimp +contextual (maxSteps := 9999999) (disch := first | omega | simp only [go_sem] <;> omega | refine ib ?_; kernel_rfl) only [go_sem, seval, ↓reduceIte, h0, h1, h4, h6, hl, hH]
    (repeat' (refine kD_intro (fun _ => ?_) (fun _ => ?_)))
    · rename_i h; rw [get_at hl hall h]; simp [h]
    · rename_i h; exact ih (i + 1) _ _ ⟨h0, h1, h4, rfl, by simp -implicitDefEqProofs -dsimp +contextual (maxSteps := 9999999) (disch := first | omega | simp only [go_sem] <;> omega | refine ib ?_; kernel_rfl) only [go_sem, seval, ↓reduceIte, hH], by omega, all_take hl hall (by simpa using h)⟩ (by omega)
  · simp -implicitDefEqProofs -dsimp +contextual (maxSteps := 9999999) (disch := first | omega | simp only [go_sem] <;> omega | refine ib ?_; kernel_rfl) only [go_sem, seval, ↓reduceIte, h0, h1, h4, h6, hl, hH]
    obtain rfl : i = l.length := by omega
    rw [get_none (by simpa using hall)] <;> rfl

@[go_sem] theorem e39 (l : List It) (key : List UInt8) (hl : l.length ≤ 9223372036854775807) : fn C 39 [] [.slice 4 (l.map It.cs), .str key] = some (.tup [.agg (getR l key).1.cs, .bool (getR l key).2], []) := by
  rw [fn_text Tryd.func39 rfl rfl Tryd.results39 fq39.1 rfl rfl (by kernel_rfl)]
  rcases place_cases l key with ⟨j, hj, he, hn, hp, hg⟩ | ⟨hn, hp, hg⟩
  · simp -implicitDefEqProofs -dsimp +contextual (maxSteps := 9999999) (disch := first | omega | simp only [go_sem] <;> omega | refine ib ?_; kernel_rfl) only [go_sem, seval, ↓reduceIte, hp, hg]
  · simp -implicitDefEqProofs -dsimp +contextual (maxSteps := 9999999) (disch := first | omega | simp only [go_sem] <;> omega | refine ib ?_; kernel_rfl) only [go_sem, seval, ↓reduceIte, hp, hg]

theorem less_at (a b : List UInt8) (i : Nat) (h : a.take i = b.take i) (ha : i < a.length) (hb : i < b.length) (hne : a[i] ≠ b[i]) : Op.bytesLess a b = decide (a[i].toNat < b[i].toNat) := by
  induction i generalizing a b with
  | zero =>
    cases a with
    | nil => simp at ha
    | cons x a =>
      cases b with
      | nil => simp at hb
      | cons y b =>
        simp only [List.getElem_cons_zero] at hne ⊢
        simp [Op.bytesLess, hne, UInt8.lt_iff_toNat_lt]
  | succ i ih =>
    cases a with
    | nil => simp at ha
    | cons x a =>
      cases b with
      | nil => simp at hb
      | cons y b =>
        simp only [List.take_succ_cons, List.cons.injEq] at h
        obtain ⟨rfl, h⟩ := h
        simp only [List.getElem_cons_succ] at hne ⊢
        rw [← ih a b h (by simpa using ha) (by simpa using hb) hne]
        simp [Op.bytesLess]
theorem less_len (a b : List UInt8) (i : Nat) (hi : i ≤ a.length) (hi' : i ≤ b.length) (h : a.take i = b.take i) (he : i = a.length ∨ i = b.length) : Op.bytesLess a b = decide (a.length < b.length) := by
  induction i generalizing a b with
  | zero =>
    cases a with
    | nil => cases b <;> simp [Op.bytesLess]
    | cons x a =>
      cases b with
      | nil => simp [Op.bytesLess]
      | cons y b => simp at he
  | succ i ih =>
    cases a with
    | nil => simp at hi
    | cons x a =>
      cases b with
      | nil => simp at hi'
      | cons y b =>
        simp only [List.take_succ_cons, List.cons.injEq] at h
        obtain ⟨rfl, h⟩ := h
        have := ih a b (by simpa using hi) (by simpa using hi') h (by simpa using he)
        simp [Op.bytesLess, this]

@[go_sem] theorem e89 (a b : List UInt8) (hl : a.length ≤ 9223372036854775807) (hm : b.length ≤ 9223372036854775807) : fn C 89 [] [.str a, .str b] = some (.bool (Op.bytesLess a b), []) := by
  rw [fn_text Tryd.func89 rfl rfl Tryd.results89 fq89.1 rfl rfl (by kernel_rfl)]
  simp -implicitDefEqProofs -dsimp +contextual (maxSteps := 9999999) (disch := first | omega | simp only [go_sem] <;> omega | refine ib ?_; kernel_rfl) only [go_sem, seval, ↓reduceIte]
  refine (kLoop_rec (fun i f H => f 0 = .str a ∧ f 1 = .str b ∧ f 5 = .int .i64 (i : Nat) ∧ H = Heap.nil ∧ i ≤ a.length ∧ i ≤ b.length ∧ a.take i = b.take i) (fun i => a.length - i) (fun i => some (.bool (Op.bytesLess a b), [])) ?_ 0 _ _ ⟨rfl, rfl, rfl, rfl, by omega, by omega, rfl⟩).trans rfl
  rintro i f _ ⟨h0, h1, h5, rfl, hi, hj, ht⟩ ih
  by_cases h4 : i < a.length
  · by_cases h6 : i < b.length
    · simp -implicitDefEqProofs -dsimp +contextual (maxSteps := 9999999) (disch := first | omega | simp only [go_sem] <;> omega | refine ib ?_; kernel_rfl) only [go_sem, seval, ↓reduceIte, h0, h1, h5, h4, h6]
      (repeat' (refine kD_intro (fun _ => ?_) (fun _ => ?_)))
      · rename_i he
        refine ih (i + 1) _ _ ⟨h0, h1, rfl, rfl, by omega, by omega, ?_⟩ (by omega)
        rw [List.take_succ_eq_append_getElem h4, List.take_succ_eq_append_getElem h6, ht, UInt8.toNat_inj.1 he]
      · rename_i he
        rw [less_at a b i ht h4 h6 (fun e => he (by rw [e]))]
    · simp -implicitDefEqProofs -dsimp +contextual (maxSteps := 9999999) (disch := first | omega | simp only [go_sem] <;> omega | refine ib ?_; kernel_rfl) only [go_sem, seval, ↓reduceIte, h0, h1, h5, h4, h6]
      rw [less_len a b i hi hj ht (.inr (by omega))]
  · simp -implicitDefEqProofs -dsimp +contextual (maxSteps := 9999999) (disch := first | omega | simp only [go_sem] <;> omega | refine ib ?_; kernel_rfl) only [go_sem, seval, ↓reduceIte, h0, h1, h5, h4]
    (repeat' (refine kD_intro (fun _ => ?_) (fun _ => ?_))) <;> rw [less_len a b i hi hj ht (.inl (by omega))]

def chainR : Option It → List It → Bool
  | _, [] => true
  | p, x :: r => itemR x && (match p with | none => true | some y => Op.bytesLess y.k x.k) && chainR (some x) r
def rightR (l : List It) : Bool := chainR none l && decide (l.length ≤ 16)
def prevR (l : List It) (i : Nat) : Option It := if i = 0 then none else l[i - 1]?

@[go_sem] theorem e40 (l : List It) (hl : l.length ≤ 9223372036854775807) (hk : ∀ x ∈ l, x.k.length ≤ 9223372036854775807) : fn C 40 [] [.slice 4 (l.map It.cs)] = some (.bool (rightR l), []) := by
  rw [fn_text Tryd.func40 rfl rfl Tryd.results40 fq40.1 rfl rfl (by kernel_rfl)]
  simp -implicitDefEqProofs -dsimp +contextual (maxSteps := 9999999) (disch := first | omega | simp only [go_sem] <;> omega | refine ib ?_; kernel_rfl) only [go_sem, seval, ↓reduceIte]
  refine (kLoop_rec (fun i f _ => f 0 = .slice 4 (l.map It.cs) ∧ f 5 = .slice 4 (l.map It.cs) ∧ f 6 = .int .i64 l.length ∧ f 7 = .int .i64 (i : Nat) ∧ i ≤ l.length) (fun i => l.length - i) (fun i => some (.bool (chainR (prevR l i) (l.drop i) && decide (l.length ≤ 16)), [])) ?_ 0 _ _ ⟨rfl, rfl, rfl, rfl, by omega⟩).trans rfl
  rintro i f H ⟨h0, h5, h6, h7, hi⟩ ih
  by_cases hl : i < l.length
  · rw [List.drop_eq_getElem_cons hl]
    have k1 := hk l[i] (List.getElem_mem _)
    have k2 := hk (l[i - 1]'(by omega)) (List.getElem_mem _)
    simp -implicitDefEqProofs -dsimp +contextual (maxSteps := 9999999) (disch := first | omega | simp only [go_sem] <;> omega | refine ib ?_; kernel_rfl) only [go_sem, seval, ↓reduceIte, h0, h5, h6, h7, hl]
    (repeat' (refine kD_intro (fun _ => ?_) (fun _ => ?_)))
    · rename_i hit h0i hle
      refine (ih (i + 1) _ _ (by exact ⟨h0, h5, h6, rfl, by omega⟩) (by omega)).trans ?_
      exact Res_bool (by simp [chainR, prevR, hit, show i ≠ 0 by omega, hle, List.getElem?_eq_getElem (show i - 1 < l.length by omega), hl])
    · rename_i hit h0i hle
      exact Res_bool (by simp [chainR, prevR, hit, show i ≠ 0 by omega, hle, List.getElem?_eq_getElem (show i - 1 < l.length by omega)])
    · rename_i hit h0i
      refine (ih (i + 1) _ _ (by exact ⟨h0, h5, h6, rfl, by omega⟩) (by omega)).trans ?_
      obtain rfl : i = 0 := by omega
      exact Res_bool (by simp [chainR, prevR, hit, hl])
    · rename_i hit
      exact Res_bool (by simp [chainR, hit])
  · simp -implicitDefEqProofs -dsimp +contextual (maxSteps := 9999999) (disch := first | omega | simp only [go_sem] <;> omega | refine ib ?_; kernel_rfl) only [go_sem, seval, ↓reduceIte, h0, h5, h6, h7, hl]
    obtain rfl : i = l.length := by omega
    exact Res_bool (by simp [chainR] <;> omega)

@[go_sem] theorem e42 (l : List It) (hl : l.length ≤ 1073741824) : fn C 42 [] [.slice 4 (l.map It.cs)] = some (.slice 4 (l.map It.cs), []) := by
  rw [fn_text Tryd.func42 rfl rfl Tryd.results42 fq42.1 rfl rfl (by kernel_rfl)]
  simp -implicitDefEqProofs -dsimp +contextual (maxSteps := 9999999) (disch := first | omega | simp only [go_sem] <;> omega | refine ib ?_; kernel_rfl) only [go_sem, seval, ↓reduceIte]

/-- Where a key belongs. -/
def insAt : List It → List UInt8 → Nat
  | [], _ => 0
  | x :: r, k => if Op.bytesLess x.k k = true then insAt r k + 1 else 0
def setR (l : List It) (x : It) : List It := if 0 ≤ placeR l x.k then l.set (placeR l x.k).toNat x else l.take (insAt l x.k) ++ x :: l.drop (insAt l x.k)
theorem insAt_le (l : List It) (k) : insAt l k ≤ l.length := by
  induction l with
  | nil => simp [insAt]
  | cons x r ih => simp only [insAt]; split <;> simp <;> omega
theorem insAt_eq (l : List It) (k : List UInt8) (i : Nat) (hi : i ≤ l.length) (h : ∀ j (hj : j < l.length), j < i → Op.bytesLess l[j].k k = true) (hn : ∀ (hj : i < l.length), Op.bytesLess l[i].k k = false) : insAt l k = i := by
  induction l generalizing i with
  | nil => simp at hi; simp [insAt, hi]
  | cons x r ih =>
    cases i with
    | zero => have := hn (by simp); simp at this; simp [insAt, this]
    | succ i =>
      have h0 := h 0 (by simp) (by omega)
      simp at h0
      simp only [insAt, h0, if_true]
      rw [ih i (by simpa using hi) (fun j hj hji => h (j + 1) (by simpa using hj) (by omega)) (fun hj => hn (by simpa using hj))]
theorem set_map {α β : Type} (f : α → β) (l : List α) (i : Nat) (a : α) : (l.map f).set i (f a) = (l.set i a).map f := by rw [List.map_set]

@[go_sem] theorem e47 (l : List It) (k v : List UInt8) (n : Int) (g : Bool) (hl : l.length ≤ 1073741824) (hk : ∀ x ∈ l, x.k.length ≤ 9223372036854775807) (hk2 : k.length ≤ 9223372036854775807) : fn C 47 [] [.slice 4 (l.map It.cs), .agg [.str k, .str v, .int .i64 n, .bool g]] = some (.slice 4 ((setR l ⟨k, v, n, g⟩).map It.cs), []) := by
  rw [fn_text Tryd.func47 rfl rfl Tryd.results47 fq47.1 rfl rfl (by kernel_rfl)]
  rcases place_cases l k with ⟨j, hj, he, hn, hp, hg⟩ | ⟨hn, hp, hg⟩
  · simp -implicitDefEqProofs -dsimp +contextual (maxSteps := 9999999) (disch := first | omega | simp only [go_sem] <;> omega | refine ib ?_; kernel_rfl) only [go_sem, seval, ↓reduceIte, hp, hj]
    rw [setR, hp, if_pos (by omega)]; rfl
  · simp -implicitDefEqProofs -dsimp +contextual (maxSteps := 9999999) (disch := first | omega | simp only [go_sem] <;> omega | refine ib ?_; kernel_rfl) only [go_sem, seval, ↓reduceIte, hp]
    refine (kLoop_rec (fun i f H => f 0 = .slice 4 (l.map It.cs) ∧ f 3 = .ptr 103 1 0 0 ∧ f 5 = .int .i64 (i : Nat) ∧ H 103 = ⟨1, .live, 4, [[.str k, .str v, .int .i64 n, .bool g]], false⟩ ∧ i ≤ l.length ∧ ∀ j (hj : j < l.length), j < i → Op.bytesLess l[j].k k = true) (fun i => l.length - i) (fun i => some (.slice 4 ((setR l ⟨k, v, n, g⟩).map It.cs), [])) ?_ 0 _ _ ⟨rfl, rfl, rfl, rfl, by omega, fun j _ h => by omega⟩).trans rfl
    rintro i f H ⟨h0, h3, h5, hH, hi, hb⟩ ih
    have fin : ∀ (hn : ∀ (hj : i < l.length), Op.bytesLess l[i].k k = false), setR l ⟨k, v, n, g⟩ = l.take i ++ ⟨k, v, n, g⟩ :: l.drop i := fun hn => by
      rw [setR, hp, if_neg (by omega), insAt_eq l k i hi hb hn]
    by_cases hl : i < l.length
    · have k1 := hk l[i] (List.getElem_mem _)
      simp -implicitDefEqProofs -dsimp +contextual (maxSteps := 9999999) (disch := first | omega | simp only [go_sem] <;> omega | refine ib ?_; kernel_rfl) only [go_sem, seval, ↓reduceIte, h0, h3, h5, hH, hl, hi]
      (repeat' (refine kD_intro (fun _ => ?_) (fun _ => ?_)))
      · rename_i hb'
        refine ih (i + 1) _ _ ⟨h0, h3, rfl, hH, by omega, fun j hj hji => ?_⟩ (by omega)
        by_cases e : j = i
        · subst e; exact hb'
        · exact hb j hj (by omega)
      · rename_i hb'
        rw [fin (fun _ => by simpa using hb')]
        simp [List.take_of_length_le]
    · obtain rfl : i = l.length := by omega
      simp -implicitDefEqProofs -dsimp +contextual (maxSteps := 9999999) (disch := first | omega | simp only [go_sem] <;> omega | refine ib ?_; kernel_rfl) only [go_sem, seval, ↓reduceIte, h0, h3, h5, hH, hl]
      rw [fin (fun h => absurd h hl)]
      simp

theorem ins_len (l : List It) (x : It) (i : Nat) (hi : i ≤ l.length) : (l.take i ++ x :: l.drop i).length = l.length + 1 := by simp; omega

set_option maxHeartbeats 2000000 in
@[go_sem] theorem e86 (l : List It) (i : Nat) (k v : List UInt8) (n : Int) (g : Bool) (hi : i ≤ l.length) (hl : l.length ≤ 1073741824) : fn C 86 [0] [.usl 4 (l.map It.cs), .int .i64 i, .slice 4 [[.str k, .str v, .int .i64 n, .bool g]]] = some (.slice 4 ((l.take i ++ ⟨k, v, n, g⟩ :: l.drop i).map It.cs), []) := by
  rw [fn_text Tryd.func86 rfl rfl Tryd.results86 fq86.1 rfl rfl (by kernel_rfl)]
  by_cases h : i = l.length
  · subst h
    simp -implicitDefEqProofs -dsimp +contextual (maxSteps := 9999999) (disch := first | omega | simp only [go_sem] <;> omega | refine ib ?_; kernel_rfl) only [go_sem, seval, ↓reduceIte]
  · simp -implicitDefEqProofs -dsimp +contextual (maxSteps := 9999999) (disch := first | omega | simp only [go_sem] <;> omega | refine ib ?_; kernel_rfl) only [go_sem, seval, ↓reduceIte, h, hi]
    simp <;> omega

@[go_sem] theorem e44 (l : List It) (k v : List UInt8) (n : Int) (g : Bool) (hl : l.length ≤ 1073741824) : fn C 44 [] [.slice 4 (l.map It.cs), .agg [.str k, .str v, .int .i64 n, .bool g]] = some (.slice 4 ((setR l ⟨k, v, n, g⟩).map It.cs), []) := by
  rw [fn_text Tryd.func44 rfl rfl Tryd.results44 fq44.1 rfl rfl (by kernel_rfl)]
  rcases place_cases l k with ⟨j, hj, he, hn, hp, hg⟩ | ⟨hn, hp, hg⟩
  · simp -implicitDefEqProofs -dsimp +contextual (maxSteps := 9999999) (disch := first | omega | simp only [go_sem] <;> omega | refine ib ?_; kernel_rfl) only [go_sem, seval, ↓reduceIte, hp, hj]
    rw [setR, hp, if_pos (by omega)]; rfl
  · simp -implicitDefEqProofs -dsimp +contextual (maxSteps := 9999999) (disch := first | omega | simp only [go_sem] <;> omega | refine ib ?_; kernel_rfl) only [go_sem, seval, ↓reduceIte, hp]
    refine (kLoop_rec (fun i f H => f 3 = .ptr 103 1 0 0 ∧ f 5 = .osl 110 1 0 l.length ∧ f 7 = .int .i64 (i : Nat) ∧ H 103 = ⟨1, .live, 4, [[.str k, .str v, .int .i64 n, .bool g]], false⟩ ∧ H 110 = ⟨1, .live, 4, l.map It.cs, true⟩ ∧ i ≤ l.length ∧ ∀ j (hj : j < l.length), j < i → Op.bytesLess l[j].k k = true) (fun i => l.length - i) (fun i => some (.slice 4 ((setR l ⟨k, v, n, g⟩).map It.cs), [])) ?_ 0 _ _ ⟨rfl, rfl, rfl, rfl, rfl, by omega, fun j _ h => by omega⟩).trans rfl
    rintro i f H ⟨h3, h5, h7, hH, hG, hi, hb⟩ ih
    have fin : ∀ (hn : ∀ (hj : i < l.length), Op.bytesLess l[i].k k = false), setR l ⟨k, v, n, g⟩ = l.take i ++ ⟨k, v, n, g⟩ :: l.drop i := fun hn => by
      rw [setR, hp, if_neg (by omega), insAt_eq l k i hi hb hn]
    by_cases hl : i < l.length
    · simp -implicitDefEqProofs -dsimp +contextual (maxSteps := 9999999) (disch := first | omega | simp only [go_sem] <;> omega | refine ib ?_; kernel_rfl) only [go_sem, seval, ↓reduceIte, h3, h5, h7, hH, hG, hl, hi]
      (repeat' (refine kD_intro (fun _ => ?_) (fun _ => ?_)))
      · rename_i hb'
        refine ih (i + 1) _ _ ⟨h3, h5, rfl, hH, hG, by omega, fun j hj hji => ?_⟩ (by omega)
        by_cases e : j = i
        · subst e; exact hb'
        · exact hb j hj (by omega)
      · rename_i hb'
        rw [fin (fun _ => by simpa using hb')]
    · obtain rfl : i = l.length := by omega
      simp -implicitDefEqProofs -dsimp +contextual (maxSteps := 9999999) (disch := first | omega | simp only [go_sem] <;> omega | refine ib ?_; kernel_rfl) only [go_sem, seval, ↓reduceIte, h3, h5, h7, hH, hG, hl, hi]
      rw [fin (fun h => absurd h hl)]
      simp

def putV (n : Int) : Int := (if 0 > n then 0 else n) + 1
def putR (l : List It) (k v : List UInt8) (g : Bool) : List It × It × Int :=
  if keyR k = true ∧ v.length ≤ 32 then
    if (getR l k).2 = false ∧ 16 ≤ l.length then (l, zeroIt, 27)
    else if 1073741824 ≤ (getR l k).1.n then (l, zeroIt, 3)
    else (setR l ⟨k, if g = true then [] else v, putV (getR l k).1.n, g⟩, ⟨k, if g = true then [] else v, putV (getR l k).1.n, g⟩, 0)
  else (l, zeroIt, 2)
theorem getR_false (l : List It) (k : List UInt8) (h : (getR l k).2 = false) : (getR l k).1 = zeroIt := by
  unfold getR at h ⊢
  split at h
  · cases h
  · rfl

set_option maxHeartbeats 4000000 in
@[go_sem] theorem e38 (l : List It) (k v : List UInt8) (g : Bool) (hl : l.length ≤ 1073741824) (hk : k.length ≤ 9223372036854775807) : fn C 38 [] [.slice 4 (l.map It.cs), .str k, .str v, .bool g] = some (.tup [.slice 4 ((putR l k v g).1.map It.cs), .agg (putR l k v g).2.1.cs, .int .i64 (putR l k v g).2.2], []) := by
  rw [fn_text Tryd.func38 rfl rfl Tryd.results38 fq38.1 rfl rfl (by kernel_rfl)]
  rcases Bool.eq_false_or_eq_true (getR l k).2 with h2 | h2
  · simp -implicitDefEqProofs -dsimp +contextual (maxSteps := 9999999) (disch := first | omega | simp only [go_sem] <;> omega | refine ib ?_; kernel_rfl) only [go_sem, seval, ↓reduceIte, h2]
    (repeat' (refine kD_intro (fun _ => ?_) (fun _ => ?_))) <;> simp (disch := first | assumption | omega) [putR, if_pos, if_neg, *, putV, zeroIt, It.cs]
  · simp -implicitDefEqProofs -dsimp +contextual (maxSteps := 9999999) (disch := first | omega | simp only [go_sem] <;> omega | refine ib ?_; kernel_rfl) only [go_sem, seval, ↓reduceIte, h2, getR_false l k h2]
    (repeat' (refine kD_intro (fun _ => ?_) (fun _ => ?_))) <;> simp (disch := first | assumption | omega) [putR, if_pos, if_neg, *, getR_false l k h2, putV, zeroIt, It.cs]
end Go.Proofs.YtccfjidpdlfenaaDoor
namespace Go.Proofs.YtccfjidpdlfenaaDoor
open Go.Am
set_option linter.unusedSimpArgs false
set_option linter.unusedVariables false
set_option maxRecDepth 100000
theorem setR_len (l : List It) (x : It) : (setR l x).length ≤ l.length + 1 := by
  unfold setR; split
  · simp
  · simp; omega
def mergeS (s : List It × Int) (x : It) : List It × Int :=
  if itemR x = true then
    if (getR s.1 x.k).2 = true ∧ x.n ≤ (getR s.1 x.k).1.n then s
    else if (getR s.1 x.k).2 = false ∧ 16 ≤ s.1.length then (s.1, 27)
    else (setR s.1 x, s.2)
  else s
def mergeR (l more : List It) : List It × Int := more.foldl mergeS (l, 0)
theorem mergeS_len (s : List It × Int) (x : It) : (mergeS s x).1.length ≤ s.1.length + 1 := by
  unfold mergeS
  have := setR_len s.1 x
  split
  · split
    · omega
    · split <;> simp <;> omega
  · omega
theorem foldl_len (more : List It) : ∀ s : List It × Int, (more.foldl mergeS s).1.length ≤ s.1.length + more.length := by
  induction more with
  | nil => intro s; simp
  | cons x more ih => intro s; have h1 := ih (mergeS s x); have h2 := mergeS_len s x; simp only [List.foldl_cons, List.length_cons]; omega
theorem mergeR_len (l more : List It) : (mergeR l more).1.length ≤ l.length + more.length := foldl_len more (l, 0)
theorem mergeR_succ (l more : List It) (i : Nat) (h : i < more.length) : mergeR l (more.take (i + 1)) = mergeS (mergeR l (more.take i)) more[i] := by
  rw [List.take_succ_eq_append_getElem h]; simp only [mergeR, List.foldl_append, List.foldl_cons, List.foldl_nil]

set_option maxHeartbeats 4000000 in
@[go_sem] theorem e11 (l more : List It) (hl : l.length ≤ 1000000) (hm : more.length ≤ 1000000) (hk : ∀ x ∈ more, x.k.length ≤ 9223372036854775807) : fn C 11 [] [.slice 4 (l.map It.cs), .slice 4 (more.map It.cs)] = some (.tup [.slice 4 ((mergeR l more).1.map It.cs), .int .i64 (mergeR l more).2], []) := by
  rw [fn_text Tryd.func11 rfl rfl Tryd.results11 fq11.1 rfl rfl (by kernel_rfl)]
  simp -implicitDefEqProofs -dsimp +contextual (maxSteps := 9999999) (disch := first | omega | simp only [go_sem] <;> omega | refine ib ?_; kernel_rfl) only [go_sem, seval, ↓reduceIte]
  refine (kLoop_rec (fun i f H => f 6 = .slice 4 ((mergeR l (more.take i)).1.map It.cs) ∧ f 7 = .int .i64 (mergeR l (more.take i)).2 ∧ f 14 = .slice 4 (more.map It.cs) ∧ f 15 = .int .i64 more.length ∧ f 16 = .int .i64 (i : Nat) ∧ i ≤ more.length) (fun i => more.length - i) (fun i => some (.tup [.slice 4 ((mergeR l more).1.map It.cs), .int .i64 (mergeR l more).2], [])) ?_ 0 _ _ ⟨rfl, rfl, rfl, rfl, rfl, by omega⟩).trans rfl
  rintro i f H ⟨h6, h7, h14, h15, h16, hi⟩ ih
  by_cases hl : i < more.length
  · have hs := mergeR_succ l more i hl
    have hn := mergeR_len l (more.take i)
    have hki := hk more[i] (List.getElem_mem _)
    have hgf := getR_false (mergeR l (more.take i)).1 more[i].k
    simp only [List.length_take] at hn
    generalize mergeR l (more.take i) = s at *
    simp -implicitDefEqProofs -dsimp +contextual (maxSteps := 9999999) (disch := first | omega | simp only [go_sem] <;> omega | refine ib ?_; kernel_rfl) only [go_sem, seval, ↓reduceIte, h6, h7, h14, h15, h16, hl]
    have go := fun (r : List It × Int) (f' : Nat → AVal) (H' : Heap) (e : mergeS s more[i] = r) (a : f' 6 = .slice 4 (r.1.map It.cs)) (b : f' 7 = .int .i64 r.2) (c : f' 14 = .slice 4 (more.map It.cs)) (d : f' 15 = .int .i64 more.length) (g : f' 16 = .int .i64 ((i + 1 : Nat) : Int)) => ih (i + 1) f' H' (by rw [hs, e]; exact ⟨a, b, c, d, g, by omega⟩) (by omega)
    (repeat' (refine kD_intro (fun _ => ?_) (fun _ => ?_)))
    · exact go s _ _ (by simp [mergeS, *]) h6 h7 h14 h15 rfl
    · exact go (setR s.1 more[i], s.2) _ _ (by simp [mergeS, *]) rfl h7 h14 h15 rfl
    · exact go (s.1, 27) _ _ (by simp [mergeS, *]) h6 rfl h14 h15 rfl
    · exact go (setR s.1 more[i], s.2) _ _ (by simp [mergeS, *]) rfl h7 h14 h15 rfl
    · exact go s _ _ (by simp [mergeS, *]) h6 h7 h14 h15 rfl
  · obtain rfl : i = more.length := by omega
    rw [List.take_length] at h6 h7
    simp -implicitDefEqProofs -dsimp +contextual (maxSteps := 9999999) (disch := first | omega | simp only [go_sem] <;> omega | refine ib ?_; kernel_rfl) only [go_sem, seval, ↓reduceIte, h6, h7, h14, h15, h16, hl]

theorem setR_mem (l : List It) (x y : It) (h : y ∈ setR l x) : y ∈ l ∨ y = x := by
  unfold setR at h
  split at h
  · exact List.mem_or_eq_of_mem_set h
  · rw [List.mem_append, List.mem_cons] at h
    rcases h with h | h | h
    · exact .inl (List.mem_of_mem_take h)
    · exact .inr h
    · exact .inl (List.mem_of_mem_drop h)
theorem mergeS_mem (s : List It × Int) (x y : It) (h : y ∈ (mergeS s x).1) : y ∈ s.1 ∨ y = x := by
  unfold mergeS at h
  split at h
  · split at h
    · exact .inl h
    · split at h
      · exact .inl h
      · exact setR_mem _ _ _ h
  · exact .inl h
theorem foldl_mem (more : List It) : ∀ (s : List It × Int) (y : It), y ∈ (more.foldl mergeS s).1 → y ∈ s.1 ∨ y ∈ more := by
  induction more with
  | nil => intro s y h; exact .inl h
  | cons x more ih =>
    intro s y h
    rcases ih _ _ h with h | h
    · rcases mergeS_mem _ _ _ h with h | h
      · exact .inl h
      · exact .inr (by rw [h]; exact List.mem_cons_self)
    · exact .inr (List.mem_cons_of_mem _ h)
theorem mergeR_mem (l more : List It) (y : It) (h : y ∈ (mergeR l more).1) : y ∈ l ∨ y ∈ more := foldl_mem more (l, 0) y h

set_option maxHeartbeats 4000000 in
@[go_sem] theorem e12 (l more : List It) (hl : l.length ≤ 1000000) (hm : more.length ≤ 1000000) (hk : ∀ x ∈ l, x.k.length ≤ 9223372036854775807) (hk2 : ∀ x ∈ more, x.k.length ≤ 9223372036854775807) : fn C 12 [] [.slice 4 (l.map It.cs), .slice 4 (more.map It.cs)] = some (.tup [.slice 4 ((mergeR l more).1.map It.cs), .int .i64 (mergeR l more).2], []) := by
  rw [fn_text Tryd.func12 rfl rfl Tryd.results12 fq12.1 rfl rfl (by kernel_rfl)]
  simp -implicitDefEqProofs -dsimp +contextual (maxSteps := 9999999) (disch := first | omega | simp only [go_sem] <;> omega | refine ib ?_; kernel_rfl) only [go_sem, seval, ↓reduceIte]
  refine (kLoop_rec (fun i f H => f 1 = .slice 4 (more.map It.cs) ∧ ((∃ (g : Nat) , f 6 = .osl 111 g 0 (mergeR l (more.take i)).1.length ∧ H 111 = ⟨g, .live, 4, (mergeR l (more.take i)).1.map It.cs, false⟩) ∨ f 6 = .slice 4 ((mergeR l (more.take i)).1.map It.cs)) ∧ f 7 = .int .i64 (mergeR l (more.take i)).2 ∧ f 8 = .int .i64 (i : Nat) ∧ i ≤ more.length) (fun i => more.length - i) (fun i => some (.tup [.slice 4 ((mergeR l more).1.map It.cs), .int .i64 (mergeR l more).2], [])) ?_ 0 _ _ ⟨rfl, .inl ⟨_, rfl, rfl⟩, rfl, rfl, by omega⟩).trans rfl
  rintro i f H ⟨h1, h6, h7, h8, hi⟩ ih
  by_cases hl : i < more.length
  · have hs := mergeR_succ l more i hl
    have hn := mergeR_len l (more.take i)
    have hki := hk2 more[i] (List.getElem_mem _)
    have hkm : ∀ x ∈ (mergeR l (more.take i)).1, x.k.length ≤ 9223372036854775807 := fun x hx => by
      rcases mergeR_mem _ _ _ hx with h | h
      · exact hk x h
      · exact hk2 x (List.mem_of_mem_take h)
    have hgf := getR_false (mergeR l (more.take i)).1 more[i].k
    simp only [List.length_take] at hn
    generalize mergeR l (more.take i) = s at *
    have go1 := fun (r : List It × Int) (f' : Nat → AVal) (H' : Heap) (g : Nat) (e : mergeS s more[i] = r) (c : f' 1 = .slice 4 (more.map It.cs)) (a : f' 6 = .osl 111 g 0 r.1.length) (hH : H' 111 = ⟨g, .live, 4, r.1.map It.cs, false⟩) (b : f' 7 = .int .i64 r.2) (d : f' 8 = .int .i64 ((i + 1 : Nat) : Int)) => ih (i + 1) f' H' (by rw [hs, e]; exact ⟨c, .inl ⟨g, a, hH⟩, b, d, by omega⟩) (by omega)
    have go2 := fun (r : List It × Int) (f' : Nat → AVal) (H' : Heap) (e : mergeS s more[i] = r) (c : f' 1 = .slice 4 (more.map It.cs)) (a : f' 6 = .slice 4 (r.1.map It.cs)) (b : f' 7 = .int .i64 r.2) (d : f' 8 = .int .i64 ((i + 1 : Nat) : Int)) => ih (i + 1) f' H' (by rw [hs, e]; exact ⟨c, .inr a, b, d, by omega⟩) (by omega)
    rcases h6 with ⟨g, h6, hH⟩ | h6
    · simp -implicitDefEqProofs -dsimp +contextual (maxSteps := 9999999) (disch := first | omega | simp only [go_sem] <;> omega | refine ib ?_; kernel_rfl) only [go_sem, seval, ↓reduceIte, h1, h6, h7, h8, hl, hH]
      (repeat' (refine kD_intro (fun _ => ?_) (fun _ => ?_)))
      · exact go1 s _ _ g (by simp [mergeS, *] <;> omega) h1 h6 (by simp [Heap.set, hH]) h7 rfl
      · exact go2 (setR s.1 more[i], s.2) _ _ (by simp [mergeS, *] <;> omega) h1 rfl h7 rfl
      · exact go1 (s.1, 27) _ _ g (by simp [mergeS, *] <;> omega) h1 h6 (by simp [Heap.set, hH]) rfl rfl
      · exact go2 (setR s.1 more[i], s.2) _ _ (by simp [mergeS, *] <;> omega) h1 rfl h7 rfl
      · exact go1 s _ _ g (by simp [mergeS, *] <;> omega) h1 h6 hH h7 rfl
    · simp -implicitDefEqProofs -dsimp +contextual (maxSteps := 9999999) (disch := first | omega | simp only [go_sem] <;> omega | refine ib ?_; kernel_rfl) only [go_sem, seval, ↓reduceIte, h1, h6, h7, h8, hl]
      (repeat' (refine kD_intro (fun _ => ?_) (fun _ => ?_)))
      · exact go2 s _ _ (by simp [mergeS, *] <;> omega) h1 h6 h7 rfl
      · exact go2 (setR s.1 more[i], s.2) _ _ (by simp [mergeS, *] <;> omega) h1 rfl h7 rfl
      · exact go2 (s.1, 27) _ _ (by simp [mergeS, *] <;> omega) h1 h6 rfl rfl
      · exact go2 (setR s.1 more[i], s.2) _ _ (by simp [mergeS, *] <;> omega) h1 rfl h7 rfl
      · exact go2 s _ _ (by simp [mergeS, *] <;> omega) h1 h6 h7 rfl
  · obtain rfl : i = more.length := by omega
    rw [List.take_length] at h6 h7
    rcases h6 with ⟨g, h6, hH⟩ | h6
    · simp -implicitDefEqProofs -dsimp +contextual (maxSteps := 9999999) (disch := first | omega | simp only [go_sem] <;> omega | refine ib ?_; kernel_rfl) only [go_sem, seval, ↓reduceIte, h1, h6, h7, h8, hl, hH]
    · simp -implicitDefEqProofs -dsimp +contextual (maxSteps := 9999999) (disch := first | omega | simp only [go_sem] <;> omega | refine ib ?_; kernel_rfl) only [go_sem, seval, ↓reduceIte, h1, h6, h7, h8, hl]

def greatR (l : List It) : Bool := decide (60 < l.length) || l.any (fun x => decide (300 < x.k.length) || decide (300 < x.v.length))

set_option maxHeartbeats 4000000 in
@[go_sem] theorem e9 (l : List It) (hl : l.length ≤ 9223372036854775807) (hk : ∀ x ∈ l, x.k.length ≤ 9223372036854775807 ∧ x.v.length ≤ 9223372036854775807) : fn C 9 [] [.slice 4 (l.map It.cs)] = some (.bool (greatR l), []) := by
  rw [fn_text Tryd.func9 rfl rfl Tryd.results9 fq9.1 rfl rfl (by kernel_rfl)]
  simp -implicitDefEqProofs -dsimp +contextual (maxSteps := 9999999) (disch := first | omega | simp only [go_sem] <;> omega | refine ib ?_; kernel_rfl) only [go_sem, seval, ↓reduceIte]
  refine kD_intro (fun h => by simp [greatR, h]) (fun h => ?_)
  refine (kLoop_rec (fun i f H => f 0 = .slice 4 (l.map It.cs) ∧ f 3 = .int .i64 (i : Nat) ∧ i ≤ l.length) (fun i => l.length - i) (fun i => some (.bool ((l.drop i).any (fun x => decide (300 < x.k.length) || decide (300 < x.v.length))), [])) ?_ 0 _ _ ⟨rfl, rfl, by omega⟩).trans (by simp [greatR, h])
  rintro i f H ⟨h0, h3, hi⟩ ih
  by_cases hl : i < l.length
  · have hki := hk l[i] (List.getElem_mem _)
    rw [List.drop_eq_getElem_cons hl]
    simp -implicitDefEqProofs -dsimp +contextual (maxSteps := 9999999) (disch := first | omega | simp only [go_sem] <;> omega | refine ib ?_; kernel_rfl) only [go_sem, seval, ↓reduceIte, h0, h3, hl]
    (repeat' (refine kD_intro (fun _ => ?_) (fun _ => ?_)))
    all_goals first
      | exact Res_bool (by simp only [List.any_cons]; simp [*])
      | exact (ih (i + 1) _ _ (by exact ⟨h0, rfl, by omega⟩) (by omega)).trans (Res_bool (by simp only [List.any_cons]; simp [*]))
  · obtain rfl : i = l.length := by omega
    simp -implicitDefEqProofs -dsimp +contextual (maxSteps := 9999999) (disch := first | omega | simp only [go_sem] <;> omega | refine ib ?_; kernel_rfl) only [go_sem, seval, ↓reduceIte, h0, h3]
    exact Res_bool (by simp)

theorem wk_k : keyR [107] = true := by decide
theorem wk_0 : keyR [] = false := by decide
@[go_sem] theorem w1 : fn C 38 [] [.slice 4 [], .str [107], .str [118], .bool false] = some (.tup [.slice 4 [[.str [107], .str [118], .int .i64 1, .bool false]], .agg [.str [107], .str [118], .int .i64 1, .bool false], .int .i64 0], []) :=
  e38 [] [107] [118] false (by decide) (by decide)
@[go_sem] theorem w2 : fn C 38 [] [.slice 4 [[.str [107], .str [118], .int .i64 1, .bool false]], .str [107], .str [119], .bool false] = some (.tup [.slice 4 [[.str [107], .str [119], .int .i64 2, .bool false]], .agg [.str [107], .str [119], .int .i64 2, .bool false], .int .i64 0], []) :=
  e38 [⟨[107], [118], 1, false⟩] [107] [119] false (by decide) (by decide)
@[go_sem] theorem w3 : fn C 38 [] [.slice 4 [[.str [107], .str [119], .int .i64 2, .bool false]], .str [], .str [119], .bool false] = some (.tup [.slice 4 [[.str [107], .str [119], .int .i64 2, .bool false]], .agg [.str [], .str [], .int .i64 0, .bool false], .int .i64 2], []) :=
  e38 [⟨[107], [119], 2, false⟩] [] [119] false (by decide) (by decide)
@[go_sem] theorem w4 : fn C 39 [] [.slice 4 [[.str [107], .str [119], .int .i64 2, .bool false]], .str [107]] = some (.tup [.agg [.str [107], .str [119], .int .i64 2, .bool false], .bool true], []) :=
  e39 [⟨[107], [119], 2, false⟩] [107] (by decide)
@[go_sem] theorem w5 : fn C 40 [] [.slice 4 [[.str [107], .str [119], .int .i64 2, .bool false]]] = some (.bool true, []) :=
  e40 [⟨[107], [119], 2, false⟩] (by decide) (by decide)
@[go_sem] theorem w6 : fn C 41 [] [.slice 4 [[.str [107], .str [119], .int .i64 2, .bool false]], .str [120]] = some (.int .i64 (-1), []) :=
  e41 [⟨[107], [119], 2, false⟩] [120] (by decide)

set_option maxHeartbeats 4000000 in
@[go_sem] theorem e10 : fn C 10 [] [] = some (.bool true, []) := by
  rw [fn_text Tryd.func10 rfl rfl Tryd.results10 fq10.1 rfl rfl (by kernel_rfl)]
  simp -implicitDefEqProofs -dsimp +contextual (maxSteps := 9999999) (disch := first | omega | simp only [go_sem] <;> omega | refine ib ?_; kernel_rfl) only [go_sem, seval, ↓reduceIte]

end Go.Proofs.YtccfjidpdlfenaaDoor
namespace Go.Proofs.YtccfjidpdlfenaaDoor
open Go.Am
set_option linter.unusedSimpArgs false
set_option linter.unusedVariables false
set_option maxRecDepth 100000
/-! Layer 1: numbers as bytes. -/
def beN (s n : Nat) : List UInt8 := (List.range s).map fun i => UInt8.ofNat (n / 2 ^ (8 * (s - 1 - i)))
@[go_sem] theorem beN_len (s n : Nat) : (beN s n).length = s := by simp [beN]
theorem beN_get (s n i : Nat) (h : i < (beN s n).length) : (beN s n)[i] = UInt8.ofNat (n / 2 ^ (8 * (s - 1 - i))) := by simp [beN]

theorem packNum (ex : List Nat) (hex : ex = [] ∨ ex = [0]) (l : List UInt8) (n s : Nat) (hn : n ≤ 18446744073709551615) (hs1 : 1 ≤ s) (hs : s ≤ 8) (hl : l.length ≤ 1000000000) : fn C 52 ex [.usl 1 (l.map byteRow), .int .u64 (n : Int), .int .i64 (s : Int)] = some (.usl 1 ((l ++ beN s n).map byteRow), []) := by
  rcases hex with rfl | rfl
  · rw [fn_text Tryd.func52 rfl rfl Tryd.results52 fq52.1 rfl rfl (by kernel_rfl)]
    simp -implicitDefEqProofs -dsimp +contextual (maxSteps := 9999999) (disch := first | omega | simp only [go_sem] <;> omega | refine ib ?_; kernel_rfl) only [go_sem, seval, ↓reduceIte, show ¬ s < 1 by omega, show ¬ 8 < s by omega]
    refine kLoop_rec (fun (i : Nat) f H => f 0 = .osl 1 (i + 1) 0 (l.length + i) ∧ f 1 = .int .u64 (n : Int) ∧ f 2 = .int .i64 (s : Int) ∧ f 15 = .int .i64 (s : Int) ∧ f 16 = .int .i64 (i : Int) ∧ (∃ e, H 1 = ⟨i + 1, .live, 1, (l ++ (beN s n).take i).map byteRow, e⟩) ∧ i ≤ s) (fun i => s - i) (fun _ => some (.usl 1 ((l ++ beN s n).map byteRow), [])) ?_ 0 _ _ ?_
    rotate_left
    · exact ⟨rfl, rfl, rfl, rfl, rfl, ⟨_, by rw [List.take_zero, List.append_nil]; rfl⟩, by omega⟩
    rintro i f H ⟨f0, f1, f2, f15, f16, ⟨e, H1⟩, hi⟩ ih
    have hb := beN_len s n
    by_cases hl : i < s
    · have e1 : (s : Int) - 1 - (i : Int) = ((s - 1 - i : Nat) : Int) := by omega
      simp -implicitDefEqProofs -dsimp +contextual (maxSteps := 9999999) (disch := first | omega | simp only [go_sem] <;> omega | refine ib ?_; kernel_rfl) only [go_sem, seval, ↓reduceIte, f0, f1, f2, f15, f16, H1, hl, hb, e1, u8_wrap]
      have e2 : (beN s n).take (i + 1) = (beN s n).take i ++ [UInt8.ofNat (n / 2 ^ (8 * (s - 1 - i)))] := by
        rw [List.take_succ_eq_append_getElem (by omega), beN_get]
      rw [List.append_assoc, ← e2]
      exact ih (i + 1) _ _ ⟨rfl, f1, f2, f15, rfl, ⟨_, rfl⟩, by omega⟩ (by omega)
    · obtain rfl : i = s := by omega
      simp -implicitDefEqProofs -dsimp +contextual (maxSteps := 9999999) (disch := first | omega | simp only [go_sem] <;> omega | refine ib ?_; kernel_rfl) only [go_sem, seval, ↓reduceIte, f0, f1, f2, f15, f16, H1, hl, hb]
  · rw [fn_text Tryd.func52 rfl rfl Tryd.results52 fq52.1 rfl rfl (by kernel_rfl)]
    simp -implicitDefEqProofs -dsimp +contextual (maxSteps := 9999999) (disch := first | omega | simp only [go_sem] <;> omega | refine ib ?_; kernel_rfl) only [go_sem, seval, ↓reduceIte, show ¬ s < 1 by omega, show ¬ 8 < s by omega]
    refine kLoop_rec (fun (i : Nat) f H => f 0 = .osl 1 (i + 1) 0 (l.length + i) ∧ f 1 = .int .u64 (n : Int) ∧ f 2 = .int .i64 (s : Int) ∧ f 15 = .int .i64 (s : Int) ∧ f 16 = .int .i64 (i : Int) ∧ (∃ e, H 1 = ⟨i + 1, .live, 1, (l ++ (beN s n).take i).map byteRow, e⟩) ∧ i ≤ s) (fun i => s - i) (fun _ => some (.usl 1 ((l ++ beN s n).map byteRow), [])) ?_ 0 _ _ ?_
    rotate_left
    · exact ⟨rfl, rfl, rfl, rfl, rfl, ⟨_, by rw [List.take_zero, List.append_nil]; rfl⟩, by omega⟩
    rintro i f H ⟨f0, f1, f2, f15, f16, ⟨e, H1⟩, hi⟩ ih
    have hb := beN_len s n
    by_cases hl : i < s
    · have e1 : (s : Int) - 1 - (i : Int) = ((s - 1 - i : Nat) : Int) := by omega
      simp -implicitDefEqProofs -dsimp +contextual (maxSteps := 9999999) (disch := first | omega | simp only [go_sem] <;> omega | refine ib ?_; kernel_rfl) only [go_sem, seval, ↓reduceIte, f0, f1, f2, f15, f16, H1, hl, hb, e1, u8_wrap]
      have e2 : (beN s n).take (i + 1) = (beN s n).take i ++ [UInt8.ofNat (n / 2 ^ (8 * (s - 1 - i)))] := by
        rw [List.take_succ_eq_append_getElem (by omega), beN_get]
      rw [List.append_assoc, ← e2]
      exact ih (i + 1) _ _ ⟨rfl, f1, f2, f15, rfl, ⟨_, rfl⟩, by omega⟩ (by omega)
    · obtain rfl : i = s := by omega
      simp -implicitDefEqProofs -dsimp +contextual (maxSteps := 9999999) (disch := first | omega | simp only [go_sem] <;> omega | refine ib ?_; kernel_rfl) only [go_sem, seval, ↓reduceIte, f0, f1, f2, f15, f16, H1, hl, hb]

@[go_sem] theorem packNum_lit (l : List UInt8) (n s : Nat) (hn : n ≤ 18446744073709551615) (hs1 : 1 ≤ OfNat.ofNat s) (hs : OfNat.ofNat s ≤ 8) (hl : l.length ≤ 1000000000) : fn C 52 [] [.usl 1 (l.map byteRow), .int .u64 (n : Int), .int .i64 (no_index (OfNat.ofNat s : Int))] = some (.usl 1 ((l ++ beN (OfNat.ofNat s) n).map byteRow), []) := packNum [] (.inl rfl) l n (OfNat.ofNat s) hn hs1 hs hl
@[go_sem] theorem packNum_lit0 (l : List UInt8) (n s : Nat) (hn : n ≤ 18446744073709551615) (hs1 : 1 ≤ OfNat.ofNat s) (hs : OfNat.ofNat s ≤ 8) (hl : l.length ≤ 1000000000) : fn C 52 [0] [.usl 1 (l.map byteRow), .int .u64 (n : Int), .int .i64 (no_index (OfNat.ofNat s : Int))] = some (.usl 1 ((l ++ beN (OfNat.ofNat s) n).map byteRow), []) := packNum [0] (.inr rfl) l n (OfNat.ofNat s) hn hs1 hs hl

theorem beN_drop (s n k : Nat) (hk : k < s) : (beN s n).drop (s - k - 1) = UInt8.ofNat (n / 2 ^ (8 * k)) :: (beN s n).drop (s - k) := by
  rw [List.drop_eq_getElem_cons (by rw [beN_len]; omega), beN_get, show s - 1 - (s - k - 1) = k by omega, show s - k - 1 + 1 = s - k by omega]
theorem rep_set (l t : List UInt8) (m : Nat) (x : UInt8) : (l ++ (List.replicate (m + 1) 0 ++ t)).set (l.length + m) x = l ++ (List.replicate m 0 ++ x :: t) := by
  rw [List.set_append_right _ _ (by omega), Nat.add_sub_cancel_left, List.replicate_succ', List.append_assoc, List.set_append_right _ _ (by simp)]
  simp

theorem refNum (l : List UInt8) (n s : Nat) (hn : n ≤ 18446744073709551615) (hs1 : 1 ≤ s) (hs : s ≤ 8) (hl : l.length ≤ 1000000000) : fn C 55 [] [.slice 1 (l.map byteRow), .int .u64 (n : Int), .int .i64 (s : Int)] = some (.usl 1 ((l ++ beN s n).map byteRow), []) := by
  rw [fn_text Tryd.func55 rfl rfl Tryd.results55 fq55.1 rfl rfl (by kernel_rfl)]
  simp -implicitDefEqProofs -dsimp +contextual (maxSteps := 9999999) (disch := first | omega | simp only [go_sem] <;> omega | refine ib ?_; kernel_rfl) only [go_sem, seval, ↓reduceIte, show ¬ s < 1 by omega, show ¬ 8 < s by omega]
  refine kLoop_rec (fun (i : Nat) f H => f 0 = .slice 1 (l.map byteRow) ∧ f 1 = .int .u64 (n : Int) ∧ f 2 = .int .i64 (s : Int) ∧ f 7 = .osl 117 (i + 2) 0 (l.length + i) ∧ f 8 = .int .i64 (i : Int) ∧ H 117 = ⟨i + 2, .live, 1, (l ++ List.replicate i (0 : UInt8)).map byteRow, false⟩ ∧ i ≤ s) (fun i => s - i) (fun _ => some (.usl 1 ((l ++ beN s n).map byteRow), [])) ?_ 0 _ _ ?_
  rotate_left
  · refine ⟨rfl, rfl, rfl, rfl, rfl, ?_, by omega⟩
    rw [List.replicate_zero, List.append_nil]; rfl
  rintro i f H ⟨f0, f1, f2, f7, f8, H1, hi⟩ ih
  by_cases hl : i < s
  · have e : (l ++ List.replicate i (0 : UInt8)).map byteRow ++ [[AVal.int IntKind.u8 0]] = (l ++ List.replicate (i + 1) (0 : UInt8)).map byteRow := by
      rw [List.replicate_succ', ← List.append_assoc, List.map_append (l₁ := l ++ _)]; rfl
    simp -implicitDefEqProofs -dsimp +contextual (maxSteps := 9999999) (disch := first | omega | simp only [go_sem] <;> omega | refine ib ?_; kernel_rfl) only [go_sem, seval, ↓reduceIte, f0, f1, f2, f7, f8, H1, hl, e]
    exact ih (i + 1) _ _ ⟨f0, f1, f2, rfl, rfl, rfl, by omega⟩ (by omega)
  · obtain rfl : i = s := by omega
    simp -implicitDefEqProofs -dsimp +contextual (maxSteps := 9999999) (disch := first | omega | simp only [go_sem] <;> omega | refine ib ?_; kernel_rfl) only [go_sem, seval, ↓reduceIte, f0, f1, f2, f7, f8, H1, hl]
    refine kLoop_rec (fun (k : Nat) f H => f 0 = .slice 1 (l.map byteRow) ∧ f 1 = .int .u64 ((n / 2 ^ (8 * k) : Nat) : Int) ∧ f 7 = .osl 117 (i + 2) 0 (l.length + i) ∧ f 9 = .int .i64 (((l.length + i - k : Nat) : Int) - 1) ∧ H 117 = ⟨i + 2, .live, 1, (l ++ (List.replicate (i - k) (0 : UInt8) ++ (beN i n).drop (i - k))).map byteRow, false⟩ ∧ k ≤ i) (fun k => i - k) (fun _ => some (.usl 1 ((l ++ beN i n).map byteRow), [])) ?_ 0 _ _ ?_
    rotate_left
    · refine ⟨f0, ?_, f7, ?_, ?_, by omega⟩
      · rw [show n / 2 ^ (8 * 0) = n by simp]; exact f1
      · show AVal.int IntKind.i64 _ = AVal.int IntKind.i64 _
        congr 1; omega
      · rw [H1, Nat.sub_zero, List.drop_of_length_le (by rw [beN_len]; omega), List.append_nil]
    clear f0 f1 f2 f7 f8 H1 ih
    rintro k f H ⟨f0, f1, f7, f9, H1, hk⟩ ih
    by_cases hl : k < i
    · have hq : n / 2 ^ (8 * k) / 256 = n / 2 ^ (8 * (k + 1)) := by rw [Nat.div_div_eq_div_mul, show 8 * (k + 1) = 8 * k + 8 by omega, Nat.pow_add]
      have hq2 : n / 2 ^ (8 * (k + 1)) ≤ n := Nat.div_le_self ..
      have hw : IntKind.u64.wrap ((n / 2 ^ (8 * k) / 256 : Nat) : Int) = ((n / 2 ^ (8 * (k + 1)) : Nat) : Int) := by
        rw [hq]; generalize n / 2 ^ (8 * (k + 1)) = q at hq2 ⊢; exact wrap_u64_id (by omega) (by omega)
      have hx : UInt8.ofNat (n / 2 ^ (8 * k) % 256) = UInt8.ofNat (n / 2 ^ (8 * k)) := UInt8.toNat_inj.1 (by simp)
      have hset := rep_set l ((beN i n).drop (i - k)) (i - k - 1) (UInt8.ofNat (n / 2 ^ (8 * k)))
      rw [← beN_drop i n k hl, show i - k - 1 + 1 = i - k by omega, show l.length + (i - k - 1) = l.length + i - k - 1 by omega] at hset
      simp -implicitDefEqProofs -dsimp +contextual (maxSteps := 9999999) (disch := first | omega | simp only [go_sem] <;> omega | refine ib ?_; kernel_rfl) only [go_sem, seval, ↓reduceIte, f0, f1, f7, f9, H1, hl, u8_wrap, hw, hx, hset]
      exact ih (k + 1) _ _ ⟨f0, rfl, f7, rfl, rfl, by omega⟩ (by omega)
    · obtain rfl : k = i := by omega
      simp -implicitDefEqProofs -dsimp +contextual (maxSteps := 9999999) (disch := first | omega | simp only [go_sem] <;> omega | refine ib ?_; kernel_rfl) only [go_sem, seval, ↓reduceIte, f0, f1, f7, f9, H1, hl]

@[go_sem] theorem refNum_lit (l : List UInt8) (n s : Nat) (hn : n ≤ 18446744073709551615) (hs1 : 1 ≤ OfNat.ofNat s) (hs : OfNat.ofNat s ≤ 8) (hl : l.length ≤ 1000000000) : fn C 55 [] [.slice 1 (l.map byteRow), .int .u64 (n : Int), .int .i64 (no_index (OfNat.ofNat s : Int))] = some (.usl 1 ((l ++ beN (OfNat.ofNat s) n).map byteRow), []) := refNum l n (OfNat.ofNat s) hn hs1 hs hl

end Go.Proofs.YtccfjidpdlfenaaDoor
namespace Go.Proofs.YtccfjidpdlfenaaDoor
open Go.Am
set_option linter.unusedSimpArgs false
set_option linter.unusedVariables false
set_option maxRecDepth 100000
/-! Layer 1: texts as bytes. -/
def textB (s : List UInt8) : List UInt8 := beN 2 s.length ++ s
@[go_sem] theorem textB_len (s : List UInt8) : (textB s).length = s.length + 2 := by simp [textB, beN_len]; omega
theorem beN_2 (n : Nat) : beN 2 n = [UInt8.ofNat (n / 256), UInt8.ofNat n] := by simp [beN, List.range, List.range.loop]
theorem beN_8 (n : Nat) : beN 8 n = [UInt8.ofNat (n / 72057594037927936), UInt8.ofNat (n / 281474976710656), UInt8.ofNat (n / 1099511627776), UInt8.ofNat (n / 4294967296), UInt8.ofNat (n / 16777216), UInt8.ofNat (n / 65536), UInt8.ofNat (n / 256), UInt8.ofNat n] := by simp [beN, List.range, List.range.loop]

theorem numNil (ex : List Nat) (hex : ex = [] ∨ ex = [0]) (n s : Nat) (hn : n ≤ 18446744073709551615) (hs1 : 1 ≤ s) (hs : s ≤ 8) : fn C 52 ex [.usl 1 [], .int .u64 (n : Int), .int .i64 (s : Int)] = some (.usl 1 ((beN s n).map byteRow), []) := by
  have h := packNum ex hex [] n s hn hs1 hs (by simp)
  simpa using h
@[go_sem] theorem numNil_lit (n s : Nat) (hn : n ≤ 18446744073709551615) (hs1 : 1 ≤ OfNat.ofNat s) (hs : OfNat.ofNat s ≤ 8) : fn C 52 [] [.usl 1 [], .int .u64 (n : Int), .int .i64 (no_index (OfNat.ofNat s : Int))] = some (.usl 1 ((beN (OfNat.ofNat s) n).map byteRow), []) := numNil [] (.inl rfl) n _ hn hs1 hs
@[go_sem] theorem numNil_lit0 (n s : Nat) (hn : n ≤ 18446744073709551615) (hs1 : 1 ≤ OfNat.ofNat s) (hs : OfNat.ofNat s ≤ 8) : fn C 52 [0] [.usl 1 [], .int .u64 (n : Int), .int .i64 (no_index (OfNat.ofNat s : Int))] = some (.usl 1 ((beN (OfNat.ofNat s) n).map byteRow), []) := numNil [0] (.inr rfl) n _ hn hs1 hs
@[go_sem] theorem refNumNil_lit (n s : Nat) (hn : n ≤ 18446744073709551615) (hs1 : 1 ≤ OfNat.ofNat s) (hs : OfNat.ofNat s ≤ 8) : fn C 55 [] [.slice 1 [], .int .u64 (n : Int), .int .i64 (no_index (OfNat.ofNat s : Int))] = some (.usl 1 ((beN (OfNat.ofNat s) n).map byteRow), []) := by
  have h := refNum [] n (OfNat.ofNat s) hn hs1 hs (by simp)
  simpa using h

theorem packText (ex : List Nat) (hex : ex = [] ∨ ex = [0]) (l s : List UInt8) (hl : l.length ≤ 10000000) (hs : s.length ≤ 65535) : fn C 95 ex [.usl 1 (l.map byteRow), .str s] = some (.usl 1 ((l ++ textB s).map byteRow), []) := by
  rcases hex with rfl | rfl
  · rw [fn_text Tryd.func95 rfl rfl Tryd.results95 fq95.1 rfl rfl (by kernel_rfl)]
    simp -implicitDefEqProofs -dsimp +contextual (maxSteps := 9999999) (disch := first | omega | simp only [go_sem] <;> omega | refine ib ?_; kernel_rfl) only [go_sem, seval, ↓reduceIte, Nat.min_eq_left hs]
    rw [textB, List.append_assoc]
  · rw [fn_text Tryd.func95 rfl rfl Tryd.results95 fq95.1 rfl rfl (by kernel_rfl)]
    simp -implicitDefEqProofs -dsimp +contextual (maxSteps := 9999999) (disch := first | omega | simp only [go_sem] <;> omega | refine ib ?_; kernel_rfl) only [go_sem, seval, ↓reduceIte, Nat.min_eq_left hs]
    rw [textB, List.append_assoc]
@[go_sem] theorem e95 (l s : List UInt8) (hl : l.length ≤ 10000000) (hs : s.length ≤ 65535) : fn C 95 [] [.usl 1 (l.map byteRow), .str s] = some (.usl 1 ((l ++ textB s).map byteRow), []) := packText [] (.inl rfl) l s hl hs
@[go_sem] theorem eText0 (l s : List UInt8) (hl : l.length ≤ 10000000) (hs : s.length ≤ 65535) : fn C 95 [0] [.usl 1 (l.map byteRow), .str s] = some (.usl 1 ((l ++ textB s).map byteRow), []) := packText [0] (.inr rfl) l s hl hs
@[go_sem] theorem eTextNil (s : List UInt8) (hs : s.length ≤ 65535) : fn C 95 [] [.usl 1 [], .str s] = some (.usl 1 ((textB s).map byteRow), []) := packText [] (.inl rfl) [] s (by simp) hs

@[go_sem] theorem e56 (l s : List UInt8) (hl : l.length ≤ 10000000) (hs : s.length ≤ 65535) : fn C 56 [] [.slice 1 (l.map byteRow), .str s] = some (.usl 1 ((l ++ textB s).map byteRow), []) := by
  rw [fn_text Tryd.func56 rfl rfl Tryd.results56 fq56.1 rfl rfl (by kernel_rfl)]
  simp -implicitDefEqProofs -dsimp +contextual (maxSteps := 9999999) (disch := first | omega | simp only [go_sem] <;> omega | refine ib ?_; kernel_rfl) only [go_sem, seval, ↓reduceIte, show ¬ 65535 < s.length by omega]
  rw [textB, List.append_assoc]
@[go_sem] theorem eRTextNil (s : List UInt8) (hs : s.length ≤ 65535) : fn C 56 [] [.slice 1 [], .str s] = some (.usl 1 ((textB s).map byteRow), []) := e56 [] s (by simp) hs

end Go.Proofs.YtccfjidpdlfenaaDoor
namespace Go.Proofs.YtccfjidpdlfenaaDoor
open Go.Am
set_option linter.unusedSimpArgs false
set_option linter.unusedVariables false
set_option maxRecDepth 100000
/-! Numbers of bytes, the highest first. -/
theorem u64_shl8 (P : Program) (t : TypeId) (k : IntKind) (a : Nat) (ha : a < 72057594037927936) : binV P .shl t (.int .u64 (a : Int)) (.int k 8) = some (.int .u64 ((a * 256 : Nat) : Int)) := by
  have e : binV P .shl t (.int .u64 (a : Int)) (.int k 8) = some (.int .u64 (IntKind.u64.wrap ((a : Int) * 2 ^ 8))) := rfl
  rw [e]
  exact congrArg (fun x => some (AVal.int .u64 x)) (by rw [IntKind.wrap_u64]; omega)
theorem or_low8 (a b : Nat) (hb : b < 256) : a * 256 ||| b = a * 256 + b := by
  have := Nat.two_pow_add_eq_or_of_lt (i := 8) (b := b) (by simpa using hb) a
  rw [show 2 ^ 8 * a = a * 256 by omega] at this
  exact this.symm
theorem u64_or8 (P : Program) (t : TypeId) (a b : Nat) (ha : a * 256 < 18446744073709551616) (hb : b < 256) : binV P .or t (.int .u64 ((a * 256 : Nat) : Int)) (.int .u64 (b : Int)) = some (.int .u64 ((a * 256 + b : Nat) : Int)) := by
  have e : binV P .or t (.int .u64 ((a * 256 : Nat) : Int)) (.int .u64 (b : Int)) = some (.int .u64 (IntKind.u64.wrap ((BitVec.ofInt 64 ((a * 256 : Nat) : Int) ||| BitVec.ofInt 64 (b : Int)).toNat : Int))) := rfl
  rw [e, BitVec.ofInt_natCast, BitVec.ofInt_natCast, BitVec.toNat_or, BitVec.toNat_ofNat, BitVec.toNat_ofNat, Nat.mod_eq_of_lt (show a * 256 < 2 ^ 64 by omega), Nat.mod_eq_of_lt (show b < 2 ^ 64 by omega), or_low8 a b hb]
  exact congrArg (fun x => some (AVal.int .u64 x)) (by rw [IntKind.wrap_u64]; omega)

def beV (l : List UInt8) : Nat := l.foldl (fun n c => n * 256 + c.toNat) 0
theorem beV_take (l : List UInt8) (i : Nat) (h : i < l.length) : beV (l.take (i + 1)) = beV (l.take i) * 256 + l[i].toNat := by
  rw [List.take_succ_eq_append_getElem h, beV, List.foldl_append]; rfl
theorem beV_lt (l : List UInt8) : beV l < 256 ^ l.length := by
  have : ∀ (l : List UInt8) (a : Nat), l.foldl (fun n c => n * 256 + c.toNat) a < (a + 1) * 256 ^ l.length := by
    intro l
    induction l with
    | nil => intro a; simp
    | cons x l ih =>
      intro a
      have h := u8_lt x
      refine Nat.lt_of_lt_of_le (ih _) ?_
      rw [List.length_cons, Nat.pow_succ, Nat.mul_comm (256 ^ l.length), ← Nat.mul_assoc]
      exact Nat.mul_le_mul_right _ (by simp only; omega)
  simpa [beV] using this l 0
@[go_sem] theorem rep_byte (n : Nat) : List.replicate n [AVal.int .u8 0] = (List.replicate n (0 : UInt8)).map byteRow := by rw [List.map_replicate]; rfl

end Go.Proofs.YtccfjidpdlfenaaDoor
namespace Go.Proofs.YtccfjidpdlfenaaDoor
open Go.Am
set_option linter.unusedSimpArgs false
set_option linter.unusedVariables false
set_option maxRecDepth 100000
/-! Words turned. -/
def rotl (x : UInt32) (m : Nat) : UInt32 := W32.shl x m ||| W32.shr x (32 - m)

theorem and31 (n : Int) (h : 0 ≤ n) (h2 : n ≤ 18446744073709551615) (P : Program) (t : TypeId) : binV P .and t (.int .u64 n) (.int .u64 31) = some (.int .u64 (n % 32)) := by
  obtain ⟨m, rfl⟩ := Int.eq_ofNat_of_zero_le h
  have e : binV P .and t (.int .u64 (m : Int)) (.int .u64 31) = some (.int .u64 (IntKind.u64.wrap (((BitVec.ofInt 64 (m : Int)) &&& (BitVec.ofInt 64 ((31 : Nat) : Int))).toNat : Int))) := rfl
  rw [e, BitVec.ofInt_natCast, BitVec.ofInt_natCast, BitVec.toNat_and, BitVec.toNat_ofNat, BitVec.toNat_ofNat, Nat.mod_eq_of_lt (show m < 2 ^ 64 by omega), show (31 : Nat) % 2 ^ 64 = 2 ^ 5 - 1 by decide, Nat.and_two_pow_sub_one_eq_mod, IntKind.wrap_u64]
  congr 2; omega

@[go_sem] theorem e167 (x : UInt32) (n : Int) (h1 : -1000 ≤ n) (h2 : n ≤ 1000) : fn C 167 [] [.int .u32 (x.toNat : Int), .int .i64 n] = some (.int .u32 ((rotl x (n % 32).toNat).toNat : Int), []) := by
  have hw : IntKind.u64.wrap n % 32 = n % 32 := by rw [IntKind.wrap_u64]; omega
  have hw1 : 0 ≤ IntKind.u64.wrap n := by rw [IntKind.wrap_u64]; omega
  have hw2 : IntKind.u64.wrap n ≤ 18446744073709551615 := by rw [IntKind.wrap_u64]; omega
  obtain ⟨m, hm⟩ := Int.eq_ofNat_of_zero_le (show 0 ≤ n % 32 by omega)
  have a31 := fun P t => and31 (IntKind.u64.wrap n) hw1 hw2 P t
  rw [hw, hm] at a31
  have hm32 : m < 32 := by omega
  have e32 : (32 : Int) - (m : Int) = ((32 - m : Nat) : Int) := by omega
  rw [fn_text Tryd.func167 rfl rfl Tryd.results167 fq167.1 rfl rfl (by kernel_rfl)]
  simp -implicitDefEqProofs -dsimp +contextual (maxSteps := 5000000) (disch := first | omega | simp only [go_sem] <;> omega | refine ib ?_; kernel_rfl) only [go_sem, Nat.reduceBEq, Int.reduceNeg, Int.reduceLT, Int.reduceLE, Int.reduceAdd, Int.reduceSub, Int.reduceToNat, Int.reduceMul, Int.reduceMod, Int.reduceTMod, Int.reduceTDiv, Int.reduceEq, Nat.reducePow, Nat.reduceDiv, Nat.reduceShiftRight, Nat.reduceMod, List.reduceReplicate, ↓reduceIte, Nat.reduceEqDiff, Nat.reduceAdd, Nat.reduceSub, Nat.reduceLeDiff, Nat.reduceLT, Nat.reduceMul, a31, hm, e32]
  rfl

end Go.Proofs.YtccfjidpdlfenaaDoor
namespace Go.Proofs.YtccfjidpdlfenaaDoor
open Go.Am
set_option linter.unusedSimpArgs false
set_option linter.unusedVariables false
set_option maxRecDepth 100000
/-! Layer 3: words. -/
def rr (x : UInt32) (k : Nat) : UInt32 := rotl x (32 - k)
def sg0 (x : UInt32) : UInt32 := rr x 7 ^^^ rr x 18 ^^^ W32.shr x 3
def sg1 (x : UInt32) : UInt32 := rr x 17 ^^^ rr x 19 ^^^ W32.shr x 10
def wRow (x : UInt32) : List AVal := [.int .u32 (x.toNat : Int)]
@[go_sem] theorem e155 (x : UInt32) (k : Nat) (h1 : 1 ≤ k) (h2 : k ≤ 31) : fn C 155 [] [.int .u32 (x.toNat : Int), .int .i64 (k : Int)] = some (.int .u32 ((rr x k).toNat : Int), []) := by
  have e := e167 x (-(k : Int)) (by omega) (by omega)
  rw [show ((-(k : Int)) % 32).toNat = 32 - k by omega] at e
  rw [fn_text Tryd.func155 rfl rfl Tryd.results155 fq155.1 rfl rfl (by kernel_rfl)]
  simp -implicitDefEqProofs -dsimp +contextual (maxSteps := 5000000) (disch := first | omega | simp only [go_sem] <;> omega | refine ib ?_; kernel_rfl) only [go_sem, Nat.reduceBEq, Int.reduceNeg, Int.reduceLT, Int.reduceLE, Int.reduceAdd, Int.reduceSub, Int.reduceToNat, Int.reduceMul, Int.reduceMod, Int.reduceTMod, Int.reduceTDiv, Int.reduceEq, Nat.reducePow, Nat.reduceDiv, Nat.reduceShiftRight, Nat.reduceMod, List.reduceReplicate, ↓reduceIte, Nat.reduceEqDiff, Nat.reduceAdd, Nat.reduceSub, Nat.reduceLeDiff, Nat.reduceLT, Nat.reduceMul, e, Int.zero_sub]
  rfl

@[go_sem] theorem e_dright_lit (x : UInt32) (k : Nat) (h1 : 1 ≤ OfNat.ofNat k) (h2 : OfNat.ofNat k ≤ 31) : fn C 155 [] [.int .u32 (x.toNat : Int), .int .i64 (no_index (OfNat.ofNat k : Int))] = some (.int .u32 ((rr x (OfNat.ofNat k)).toNat : Int), []) := e155 x (OfNat.ofNat k) h1 h2

@[go_sem] theorem e156 (x : UInt32) (k : Nat) (h1 : 1 ≤ k) (h2 : k ≤ 31) : fn C 156 [] [.int .u32 (x.toNat : Int), .int .u64 (k : Int)] = some (.int .u32 ((rr x k).toNat : Int), []) := by
  have e32 : (32 : Int) - (k : Int) = ((32 - k : Nat) : Int) := by omega
  rw [fn_text Tryd.func156 rfl rfl Tryd.results156 fq156.1 rfl rfl (by kernel_rfl)]
  simp -implicitDefEqProofs -dsimp +contextual (maxSteps := 5000000) (disch := first | omega | simp only [go_sem] <;> omega | refine ib ?_; kernel_rfl) only [go_sem, Nat.reduceBEq, Int.reduceNeg, Int.reduceLT, Int.reduceLE, Int.reduceAdd, Int.reduceSub, Int.reduceToNat, Int.reduceMul, Int.reduceMod, Int.reduceTMod, Int.reduceTDiv, Int.reduceEq, Nat.reducePow, Nat.reduceDiv, Nat.reduceShiftRight, Nat.reduceMod, List.reduceReplicate, ↓reduceIte, Nat.reduceEqDiff, Nat.reduceAdd, Nat.reduceSub, Nat.reduceLeDiff, Nat.reduceLT, Nat.reduceMul, e32]
  rw [show W32.shr x k ||| W32.shl x (32 - k) = rr x k by rw [rr, rotl, UInt32.or_comm, show 32 - (32 - k) = k by omega]]

@[go_sem] theorem e_r03right_lit (x : UInt32) (k : Nat) (h1 : 1 ≤ OfNat.ofNat k) (h2 : OfNat.ofNat k ≤ 31) : fn C 156 [] [.int .u32 (x.toNat : Int), .int .u64 (no_index (OfNat.ofNat k : Int))] = some (.int .u32 ((rr x (OfNat.ofNat k)).toNat : Int), []) := e156 x (OfNat.ofNat k) h1 h2

def be4 (a b c d : UInt8) : UInt32 := ((W32.shl a.toUInt32 24 ||| W32.shl b.toUInt32 16) ||| W32.shl c.toUInt32 8) ||| d.toUInt32
theorem or_add (a b k : Nat) (h : b < 2 ^ k) : a * 2 ^ k ||| b = a * 2 ^ k + b := by
  rw [← Nat.shiftLeft_eq, Nat.shiftLeft_add_eq_or_of_lt h]
theorem be4_sum (a b c d : UInt8) : (be4 a b c d).toNat = a.toNat * 16777216 + b.toNat * 65536 + c.toNat * 256 + d.toNat := by
  have ha := u8_lt a; have hb := u8_lt b; have hc := u8_lt c; have hd := u8_lt d
  simp only [be4, W32.shl, UInt32.toNat_or, UInt8.toNat_toUInt32, UInt32.toNat_ofNat']
  rw [Nat.mod_eq_of_lt (show a.toNat * 2 ^ 24 < 2 ^ 32 by omega), Nat.mod_eq_of_lt (show b.toNat * 2 ^ 16 < 2 ^ 32 by omega), Nat.mod_eq_of_lt (show c.toNat * 2 ^ 8 < 2 ^ 32 by omega)]
  rw [or_add _ _ _ (by omega), show a.toNat * 2 ^ 24 + b.toNat * 2 ^ 16 = (a.toNat * 256 + b.toNat) * 2 ^ 16 by omega, or_add _ _ _ (by omega), show (a.toNat * 256 + b.toNat) * 2 ^ 16 + c.toNat * 2 ^ 8 = ((a.toNat * 256 + b.toNat) * 256 + c.toNat) * 2 ^ 8 by omega, or_add _ _ _ (by omega)]
theorem be4_num (a b c d : UInt8) : a.toUInt32 * UInt32.ofNat 16777216 + b.toUInt32 * UInt32.ofNat 65536 + c.toUInt32 * UInt32.ofNat 256 + d.toUInt32 = be4 a b c d := by
  have ha := u8_lt a; have hb := u8_lt b; have hc := u8_lt c; have hd := u8_lt d
  apply UInt32.toNat_inj.1
  rw [be4_sum]
  simp only [UInt32.toNat_add, UInt32.toNat_mul, UInt8.toNat_toUInt32, UInt32.toNat_ofNat']
  omega
def numB (l : List UInt8) : UInt32 := be4 (l.getD 0 0) (l.getD 1 0) (l.getD 2 0) (l.getD 3 0)
theorem four_of (b : List UInt8) (h : 4 ≤ b.length) : ∃ x y z w r, b = x :: y :: z :: w :: r := by
  match b, h with
  | x :: y :: z :: w :: r, _ => exact ⟨x, y, z, w, r, rfl⟩
@[go_sem] theorem e118 (b : List UInt8) (h : 4 ≤ b.length) : fn C 118 [] [.slice 1 (b.map byteRow)] = some (.int .u32 ((numB b).toNat : Int), []) := by
  obtain ⟨x, y, z, w, r, rfl⟩ := four_of b h
  rw [fn_text Tryd.func118 rfl rfl Tryd.results118 fq118.1 rfl rfl (by kernel_rfl)]
  simp -implicitDefEqProofs -dsimp +contextual (maxSteps := 5000000) (disch := first | omega | simp only [go_sem] <;> omega | refine ib ?_; kernel_rfl) only [go_sem, Nat.reduceBEq, Int.reduceNeg, Int.reduceLT, Int.reduceLE, Int.reduceAdd, Int.reduceSub, Int.reduceToNat, Int.reduceMul, Int.reduceMod, Int.reduceTMod, Int.reduceTDiv, Int.reduceEq, Nat.reducePow, Nat.reduceDiv, Nat.reduceShiftRight, Nat.reduceMod, List.reduceReplicate, ↓reduceIte, Nat.reduceEqDiff, Nat.reduceAdd, Nat.reduceSub, Nat.reduceLeDiff, Nat.reduceLT, Nat.reduceMul]
  rw [show numB (x :: y :: z :: w :: r) = be4 x y z w from rfl, ← be4_num]

end Go.Proofs.YtccfjidpdlfenaaDoor
namespace Go.Proofs.YtccfjidpdlfenaaDoor
open Go.Am
set_option linter.unusedSimpArgs false
set_option linter.unusedVariables false
set_option maxRecDepth 100000
/-! Layer 3: a block's words. -/
def wd (blk : List UInt8) (i : Nat) : UInt32 := be4 (blk.getD (4 * i) 0) (blk.getD (4 * i + 1) 0) (blk.getD (4 * i + 2) 0) (blk.getD (4 * i + 3) 0)
def wds (blk : List UInt8) (n : Nat) : List UInt32 := (List.range n).map (wd blk)
@[go_sem] theorem wds_len (blk : List UInt8) (n : Nat) : (wds blk n).length = n := by simp [wds]
theorem wds_succ (blk : List UInt8) (n : Nat) : wds blk (n + 1) = wds blk n ++ [wd blk n] := by simp [wds, List.range_succ]
def nxt (l : List UInt32) : UInt32 := l.getD (l.length - 16) 0 + l.getD (l.length - 7) 0 + sg0 (l.getD (l.length - 15) 0) + sg1 (l.getD (l.length - 2) 0)
def extW : Nat → List UInt32 → List UInt32
  | 0, l => l
  | n + 1, l => extW n (l ++ [nxt l])
theorem extW_len : ∀ (n : Nat) (l : List UInt32), (extW n l).length = l.length + n
  | 0, _ => rfl
  | n + 1, l => by rw [extW, extW_len]; simp; omega
def wsOf (blk : List UInt8) : List UInt32 := extW 48 (wds blk 16)
@[go_sem] theorem wsOf_len (blk : List UInt8) : (wsOf blk).length = 64 := by rw [wsOf, extW_len, wds_len]
def pad64 (l : List UInt32) : List UInt32 := l ++ List.replicate (64 - l.length) 0
theorem pad64_len (l : List UInt32) (h : l.length ≤ 64) : (pad64 l).length = 64 := by simp [pad64]; omega
theorem pad64_set (l : List UInt32) (x : UInt32) (h : l.length < 64) : (pad64 l).set l.length x = pad64 (l ++ [x]) := by
  unfold pad64
  rw [List.set_append_right _ _ (Nat.le_refl _), Nat.sub_self, show 64 - l.length = (64 - (l.length + 1)) + 1 by omega, List.replicate_succ, List.set_cons_zero, List.length_append]
  simp
theorem pad64_get (l : List UInt32) (i : Nat) (h : i < l.length) (h2 : i < (pad64 l).length) : (pad64 l)[i] = l[i] := by
  simp only [pad64]; rw [List.getElem_append_left h]
theorem pad64_all (l : List UInt32) (h : l.length = 64) : pad64 l = l := by simp [pad64, h]
theorem getD_of {α : Type} (l : List α) (i : Nat) (d : α) (h : i < l.length) : l.getD i d = l[i] := by
  rw [List.getD_eq_getElem?_getD, List.getElem?_eq_getElem h]; rfl
def Z64w : List AVal := (List.replicate 64 (0 : UInt32)).map w32
@[go_sem] theorem Z64w_len : Z64w.length = 64 := rfl
@[go_sem] theorem Z64w_drop : Z64w.drop 64 = [] := rfl
theorem pad0 (blk : List UInt8) : (pad64 (wds blk 0)).map w32 = Z64w := rfl
attribute [local irreducible] extW wds pad64 nxt wd
set_option maxHeartbeats 1000000 in
@[go_sem] theorem e154 (blk : List UInt8) (h : blk.length = 64) : fn C 154 [] [.agg (blk.map w8)] = some (.agg ((wsOf blk).map w32), []) := by
  rw [fn_text Tryd.func154 rfl rfl Tryd.results154 fq154.1 rfl rfl (okArgs_of (by kernel_rfl) (by kernel_rfl) (by simp only [go_sem]) rfl)]
  simp -implicitDefEqProofs -dsimp +contextual (maxSteps := 5000000) (disch := first | omega | simp only [go_sem] <;> omega | refine ib ?_; kernel_rfl) only [go_sem, Nat.reduceBEq, Int.reduceNeg, Int.reduceLT, Int.reduceLE, Int.reduceAdd, Int.reduceSub, Int.reduceToNat, Int.reduceMul, Int.reduceMod, Int.reduceTMod, Int.reduceTDiv, Int.reduceEq, Nat.reducePow, Nat.reduceDiv, Nat.reduceShiftRight, Nat.reduceMod, List.reduceReplicate, ↓reduceIte, Nat.reduceEqDiff, Nat.reduceAdd, Nat.reduceSub, Nat.reduceLeDiff, Nat.reduceLT, Nat.reduceMul, h]
  refine (kLoop_rec (fun (i : Nat) f H => f 1 = .ptr 101 1 0 0 ∧ f 2 = .ptr 102 1 0 0 ∧ f 3 = .ptr 103 1 0 0 ∧ f 8 = .int .i64 (i : Int) ∧ H 101 = ⟨1, .live, 64, [blk.map w8], false⟩ ∧ H 102 = ⟨1, .live, 64, [Z64w], false⟩ ∧ H 103 = ⟨1, .live, 64, [(pad64 (wds blk i)).map w32], false⟩ ∧ i ≤ 16) (fun i => 16 - i) (fun _ => some (.agg ((wsOf blk).map w32), [])) ?_ 0 _ _ ⟨rfl, rfl, rfl, rfl, rfl, rfl, by rw [pad0]; rfl, by omega⟩)
  rintro i f H ⟨f1, f2, f3, f8, H1, H2, H3, hi⟩ ih
  have hp := pad64_len (wds blk i) (by rw [wds_len]; omega)
  by_cases hl : i < 16
  · simp -implicitDefEqProofs -dsimp +contextual (maxSteps := 5000000) (disch := first | omega | simp only [go_sem] <;> omega | refine ib ?_; kernel_rfl) only [go_sem, Nat.reduceBEq, Int.reduceNeg, Int.reduceLT, Int.reduceLE, Int.reduceAdd, Int.reduceSub, Int.reduceToNat, Int.reduceMul, Int.reduceMod, Int.reduceTMod, Int.reduceTDiv, Int.reduceEq, Nat.reducePow, Nat.reduceDiv, Nat.reduceShiftRight, Nat.reduceMod, List.reduceReplicate, ↓reduceIte, Nat.reduceEqDiff, Nat.reduceAdd, Nat.reduceSub, Nat.reduceLeDiff, Nat.reduceLT, Nat.reduceMul, f1, f2, f3, f8, H1, H3, hl, h, hp]
    have hw : ((W32.shl blk[4 * i].toUInt32 24 ||| W32.shl blk[4 * i + 1].toUInt32 16) ||| W32.shl blk[4 * i + 2].toUInt32 8) ||| blk[4 * i + 3].toUInt32 = wd blk i := by
      rw [wd, getD_of _ _ _ (by omega), getD_of _ _ _ (by omega), getD_of _ _ _ (by omega), getD_of _ _ _ (by omega)]; rfl
    have hs := pad64_set (wds blk i) (wd blk i) (by rw [wds_len]; omega)
    rw [wds_len, ← wds_succ] at hs
    rw [hw, hs]
    exact ih (i + 1) _ _ ⟨f1, f2, f3, rfl, H1, H2, rfl, by omega⟩ (by omega)
  · obtain rfl : i = 16 := by omega
    simp -implicitDefEqProofs -dsimp +contextual (maxSteps := 5000000) (disch := first | omega | simp only [go_sem] <;> omega | refine ib ?_; kernel_rfl) only [go_sem, Nat.reduceBEq, Int.reduceNeg, Int.reduceLT, Int.reduceLE, Int.reduceAdd, Int.reduceSub, Int.reduceToNat, Int.reduceMul, Int.reduceMod, Int.reduceTMod, Int.reduceTDiv, Int.reduceEq, Nat.reducePow, Nat.reduceDiv, Nat.reduceShiftRight, Nat.reduceMod, List.reduceReplicate, ↓reduceIte, Nat.reduceEqDiff, Nat.reduceAdd, Nat.reduceSub, Nat.reduceLeDiff, Nat.reduceLT, Nat.reduceMul, f1, f2, f3, f8, H1, H3, hl, h, hp]
    rw [wsOf, show (48 : Nat) = 64 - 16 from rfl]
    refine (kLoop_rec2 (fun (t : Nat) (l : List UInt32) f H => f 1 = .ptr 101 1 0 0 ∧ f 2 = .ptr 102 1 0 0 ∧ f 3 = .ptr 103 1 0 0 ∧ f 5 = .int .i64 (t : Int) ∧ H 102 = ⟨1, .live, 64, [Z64w], false⟩ ∧ H 103 = ⟨1, .live, 64, [(pad64 l).map w32], false⟩ ∧ l.length = t ∧ 16 ≤ t ∧ t ≤ 64) (fun t _ => 64 - t) (fun t l => some (.agg ((extW (64 - t) l).map w32), [])) ?_ 16 (wds blk 16) _ _ ⟨f1, f2, f3, rfl, H2, H3, wds_len _ _, by omega, by omega⟩)
    rintro t l f H ⟨f1, f2, f3, f5, H2, H3, hlen, ht, ht2⟩ ih
    have hp := pad64_len l (by omega)
    by_cases hlt : t < 64
    · have g1 := pad64_get l (t - 15) (by omega) (by omega)
      have g2 := pad64_get l (t - 2) (by omega) (by omega)
      have g3 := pad64_get l (t - 16) (by omega) (by omega)
      have g4 := pad64_get l (t - 7) (by omega) (by omega)
      simp -implicitDefEqProofs -dsimp +contextual (maxSteps := 5000000) (disch := first | omega | simp only [go_sem] <;> omega | refine ib ?_; kernel_rfl) only [go_sem, Nat.reduceBEq, Int.reduceNeg, Int.reduceLT, Int.reduceLE, Int.reduceAdd, Int.reduceSub, Int.reduceToNat, Int.reduceMul, Int.reduceMod, Int.reduceTMod, Int.reduceTDiv, Int.reduceEq, Nat.reducePow, Nat.reduceDiv, Nat.reduceShiftRight, Nat.reduceMod, List.reduceReplicate, ↓reduceIte, Nat.reduceEqDiff, Nat.reduceAdd, Nat.reduceSub, Nat.reduceLeDiff, Nat.reduceLT, Nat.reduceMul, f1, f2, f3, f5, H2, H3, hlt, hp, g1, g2, g3, g4]
      have hn : l[t - 16] + l[t - 7] + (rr l[t - 15] 7 ^^^ rr l[t - 15] 18 ^^^ W32.shr l[t - 15] 3) + (rr l[t - 2] 17 ^^^ rr l[t - 2] 19 ^^^ W32.shr l[t - 2] 10) = nxt l := by
        subst hlen
        rw [nxt, getD_of _ _ _ (by omega), getD_of _ _ _ (by omega), getD_of _ _ _ (by omega), getD_of _ _ _ (by omega)]; rfl
      have hs := pad64_set l (nxt l) (by omega)
      rw [hlen] at hs
      rw [hn, hs, show 64 - t = (64 - (t + 1)) + 1 by omega, extW]
      exact ih (t + 1) (l ++ [nxt l]) _ _ ⟨f1, f2, f3, rfl, H2, rfl, by simp [hlen], by omega, by omega⟩ (by omega)
    · simp -implicitDefEqProofs -dsimp +contextual (maxSteps := 5000000) (disch := first | omega | simp only [go_sem] <;> omega | refine ib ?_; kernel_rfl) only [go_sem, Nat.reduceBEq, Int.reduceNeg, Int.reduceLT, Int.reduceLE, Int.reduceAdd, Int.reduceSub, Int.reduceToNat, Int.reduceMul, Int.reduceMod, Int.reduceTMod, Int.reduceTDiv, Int.reduceEq, Nat.reducePow, Nat.reduceDiv, Nat.reduceShiftRight, Nat.reduceMod, List.reduceReplicate, ↓reduceIte, Nat.reduceEqDiff, Nat.reduceAdd, Nat.reduceSub, Nat.reduceLeDiff, Nat.reduceLT, Nat.reduceMul, f1, f2, f3, f5, H2, H3, hlt, hp]
      obtain rfl : t = 64 := by omega
      rw [pad64_all l hlen, show 64 - 64 = 0 from rfl, extW]

end Go.Proofs.YtccfjidpdlfenaaDoor
namespace Go.Proofs.YtccfjidpdlfenaaDoor
open Go.Am
set_option linter.unusedSimpArgs false
set_option linter.unusedVariables false
set_option maxRecDepth 100000
/-! Layer 3: a block taken into a state. -/
structure S8 where
  a : UInt32
  b : UInt32
  c : UInt32
  d : UInt32
  e : UInt32
  f : UInt32
  g : UInt32
  h : UInt32
def S8.l (s : S8) : List UInt32 := [s.a, s.b, s.c, s.d, s.e, s.f, s.g, s.h]
def chx (s : S8) (k w : UInt32) : UInt32 := s.h + (rr s.e 6 ^^^ rr s.e 11 ^^^ rr s.e 25) + ((s.e &&& s.f) ^^^ (~~~s.e &&& s.g)) + k + w
def chy (s : S8) : UInt32 := (rr s.a 2 ^^^ rr s.a 13 ^^^ rr s.a 22) + ((s.a &&& s.b) ^^^ (s.a &&& s.c) ^^^ (s.b &&& s.c))
def sstep (s : S8) (k w : UInt32) : S8 := ⟨chx s k w + chy s, s.a, s.b, s.c, s.d + chx s k w, s.e, s.f, s.g⟩
def rnd (ks ws : List UInt32) (s : S8) : S8 := (ks.zip ws).foldl (fun s p => sstep s p.1 p.2) s
def S8.add (s t : S8) : S8 := ⟨s.a + t.a, s.b + t.b, s.c + t.c, s.d + t.d, s.e + t.e, s.f + t.f, s.g + t.g, s.h + t.h⟩
def KS : List UInt32 := [1116352408, 1899447441, 3049323471, 3921009573, 961987163, 1508970993, 2453635748, 2870763221,   3624381080, 310598401, 607225278, 1426881987, 1925078388, 2162078206, 2614888103, 3248222580,   3835390401, 4022224774, 264347078, 604807628, 770255983, 1249150122, 1555081692, 1996064986,   2554220882, 2821834349, 2952996808, 3210313671, 3336571891, 3584528711, 113926993, 338241895,   666307205, 773529912, 1294757372, 1396182291, 1695183700, 1986661051, 2177026350, 2456956037,   2730485921, 2820302411, 3259730800, 3345764771, 3516065817, 3600352804, 4094571909, 275423344,   430227734, 506948616, 659060556, 883997877, 958139571, 1322822218, 1537002063, 1747873779,   1955562222, 2024104815, 2227730452, 2361852424, 2428436474, 2756734187, 3204031479, 3329325298]
@[go_sem] theorem KS_len : KS.length = 64 := rfl
def blockS (s : S8) (blk : List UInt8) : S8 := (rnd KS (wsOf blk) s).add s
@[go_sem] theorem KS_drop : KS.drop 64 = [] := rfl
@[go_sem] theorem g0_eq : tabV .u32 tabL0 = KS.map w32 := rfl
theorem chx_eq (s : S8) (k w : UInt32) : s.h + (rr s.e 6 ^^^ rr s.e 11 ^^^ rr s.e 25) + ((s.e &&& s.f) ^^^ (~~~s.e &&& s.g)) + k + w = chx s k w := by rw [chx]
theorem chy_eq (s : S8) : (rr s.a 2 ^^^ rr s.a 13 ^^^ rr s.a 22) + ((s.a &&& s.b) ^^^ (s.a &&& s.c) ^^^ (s.b &&& s.c)) = chy s := by rw [chy]
theorem rnd_nil (s : S8) : rnd [] [] s = s := by simp only [rnd, List.zip_nil_left, List.foldl_nil]
theorem cells_step (u : S8) (k w : UInt32) : [AVal.int .u32 ((chx u k w + chy u).toNat : Int), .int .u32 (u.a.toNat : Int), .int .u32 (u.b.toNat : Int), .int .u32 (u.c.toNat : Int), .int .u32 ((u.d + chx u k w).toNat : Int), .int .u32 (u.e.toNat : Int), .int .u32 (u.f.toNat : Int), .int .u32 (u.g.toNat : Int)] = [.int .u32 ((sstep u k w).a.toNat : Int), .int .u32 ((sstep u k w).b.toNat : Int), .int .u32 ((sstep u k w).c.toNat : Int), .int .u32 ((sstep u k w).d.toNat : Int), .int .u32 ((sstep u k w).e.toNat : Int), .int .u32 ((sstep u k w).f.toNat : Int), .int .u32 ((sstep u k w).g.toNat : Int), .int .u32 ((sstep u k w).h.toNat : Int)] := rfl
theorem cells_add (u s : S8) : [AVal.int .u32 ((u.a + s.a).toNat : Int), .int .u32 ((u.b + s.b).toNat : Int), .int .u32 ((u.c + s.c).toNat : Int), .int .u32 ((u.d + s.d).toNat : Int), .int .u32 ((u.e + s.e).toNat : Int), .int .u32 ((u.f + s.f).toNat : Int), .int .u32 ((u.g + s.g).toNat : Int), .int .u32 ((u.h + s.h).toNat : Int)] = (u.add s).l.map w32 := rfl
attribute [local irreducible] wsOf KS rr chx chy sstep S8.add
theorem rnd_cons (k w : UInt32) (ks ws : List UInt32) (s : S8) : rnd (k :: ks) (w :: ws) s = rnd ks ws (sstep s k w) := by simp only [rnd, List.zip_cons_cons, List.foldl_cons]
theorem rnd_drop (ks ws : List UInt32) (i : Nat) (h1 : i < ks.length) (h2 : i < ws.length) (u : S8) : rnd (ks.drop i) (ws.drop i) u = rnd (ks.drop (i + 1)) (ws.drop (i + 1)) (sstep u ks[i] ws[i]) := by
  rw [List.drop_eq_getElem_cons h1, List.drop_eq_getElem_cons h2, rnd_cons]
set_option maxHeartbeats 1000000 in
@[go_sem] theorem e133 (s : S8) (blk : List UInt8) (h : blk.length = 64) : fn C 133 [] [.agg (s.l.map w32), .agg (blk.map w8)] = some (.agg ((blockS s blk).l.map w32), []) := by
  rw [fn_text Tryd.func133 rfl rfl Tryd.results133 fq133.1 rfl rfl (okArgs_of (by kernel_rfl) (by kernel_rfl) (by simp only [go_sem]) rfl)]
  have hw := wsOf_len blk
  have hk := KS_len
  have hsl : s.l.map w32 = [.int .u32 (s.a.toNat : Int), .int .u32 (s.b.toNat : Int), .int .u32 (s.c.toNat : Int), .int .u32 (s.d.toNat : Int), .int .u32 (s.e.toNat : Int), .int .u32 (s.f.toNat : Int), .int .u32 (s.g.toNat : Int), .int .u32 (s.h.toNat : Int)] := rfl
  rw [hsl]
  simp -implicitDefEqProofs -dsimp +contextual (maxSteps := 5000000) (disch := first | omega | simp only [go_sem] <;> omega | refine ib ?_; kernel_rfl) only [go_sem, Nat.reduceBEq, Int.reduceNeg, Int.reduceLT, Int.reduceLE, Int.reduceAdd, Int.reduceSub, Int.reduceToNat, Int.reduceMul, Int.reduceMod, Int.reduceTMod, Int.reduceTDiv, Int.reduceEq, Nat.reducePow, Nat.reduceDiv, Nat.reduceShiftRight, Nat.reduceMod, List.reduceReplicate, ↓reduceIte, Nat.reduceEqDiff, Nat.reduceAdd, Nat.reduceSub, Nat.reduceLeDiff, Nat.reduceLT, Nat.reduceMul, h, hw]
  refine (kLoop_rec2 (fun (i : Nat) (u : S8) f H => f 2 = .ptr 102 1 0 0 ∧ f 4 = .ptr 104 1 0 0 ∧ f 5 = .ptr 105 1 0 0 ∧ f 6 = .ptr 106 1 0 0 ∧ f 20 = .int .i64 (i : Int) ∧ H 102 = ⟨1, .live, 8, [[.int .u32 (s.a.toNat : Int), .int .u32 (s.b.toNat : Int), .int .u32 (s.c.toNat : Int), .int .u32 (s.d.toNat : Int), .int .u32 (s.e.toNat : Int), .int .u32 (s.f.toNat : Int), .int .u32 (s.g.toNat : Int), .int .u32 (s.h.toNat : Int)]], false⟩ ∧ H 104 = ⟨1, .live, 8, [List.replicate 8 (.int .u32 0)], false⟩ ∧ H 105 = ⟨1, .live, 64, [(wsOf blk).map w32], false⟩ ∧ H 106 = ⟨1, .live, 8, [[.int .u32 (u.a.toNat : Int), .int .u32 (u.b.toNat : Int), .int .u32 (u.c.toNat : Int), .int .u32 (u.d.toNat : Int), .int .u32 (u.e.toNat : Int), .int .u32 (u.f.toNat : Int), .int .u32 (u.g.toNat : Int), .int .u32 (u.h.toNat : Int)]], false⟩ ∧ i ≤ 64) (fun i _ => 64 - i) (fun i u => some (.agg (((rnd (KS.drop i) ((wsOf blk).drop i) u).add s).l.map w32), [])) ?_ 0 s _ _ ⟨rfl, rfl, rfl, rfl, rfl, rfl, rfl, rfl, rfl, by omega⟩)
  rintro i u f H ⟨f2, f4, f5, f6, f20, H2, H4, H5, H6, hi⟩ ih
  by_cases hl : i < 64
  · simp -implicitDefEqProofs -dsimp +contextual (maxSteps := 5000000) (disch := first | omega | simp only [go_sem] <;> omega | refine ib ?_; kernel_rfl) only [go_sem, Nat.reduceBEq, Int.reduceNeg, Int.reduceLT, Int.reduceLE, Int.reduceAdd, Int.reduceSub, Int.reduceToNat, Int.reduceMul, Int.reduceMod, Int.reduceTMod, Int.reduceTDiv, Int.reduceEq, Nat.reducePow, Nat.reduceDiv, Nat.reduceShiftRight, Nat.reduceMod, List.reduceReplicate, ↓reduceIte, Nat.reduceEqDiff, Nat.reduceAdd, Nat.reduceSub, Nat.reduceLeDiff, Nat.reduceLT, Nat.reduceMul, f2, f4, f5, f6, f20, H2, H4, H5, H6, hl, hw, hk]
    have c1 := chx_eq u (KS[i]'(by rw [hk]; exact hl)) ((wsOf blk)[i]'(by rw [hw]; exact hl))
    have c2 := chy_eq u
    have c3 := cells_step u (KS[i]'(by rw [hk]; exact hl)) ((wsOf blk)[i]'(by rw [hw]; exact hl))
    rw [c1, c2, c3]
    have hfin := congrArg (fun r : S8 => some (AVal.agg ((r.add s).l.map w32), ([] : List AVal))) (rnd_drop KS (wsOf blk) i (by rw [hk]; exact hl) (by rw [hw]; exact hl) u)
    refine Eq.trans ?_ hfin.symm
    refine ih (i + 1) _ _ _ ?_ (by omega)
    exact ⟨f2, f4, f5, f6, rfl, H2, H4, H5, rfl, by omega⟩
  · simp -implicitDefEqProofs -dsimp +contextual (maxSteps := 5000000) (disch := first | omega | simp only [go_sem] <;> omega | refine ib ?_; kernel_rfl) only [go_sem, Nat.reduceBEq, Int.reduceNeg, Int.reduceLT, Int.reduceLE, Int.reduceAdd, Int.reduceSub, Int.reduceToNat, Int.reduceMul, Int.reduceMod, Int.reduceTMod, Int.reduceTDiv, Int.reduceEq, Nat.reducePow, Nat.reduceDiv, Nat.reduceShiftRight, Nat.reduceMod, List.reduceReplicate, ↓reduceIte, Nat.reduceEqDiff, Nat.reduceAdd, Nat.reduceSub, Nat.reduceLeDiff, Nat.reduceLT, Nat.reduceMul, f2, f4, f5, f6, f20, H2, H4, H5, H6, hl, kLoop_eq]
    obtain rfl : i = 64 := by omega
    rw [rnd_nil]
    exact congrArg (fun x => some (AVal.agg x, [])) (cells_add u s)

end Go.Proofs.YtccfjidpdlfenaaDoor
namespace Go.Proofs.YtccfjidpdlfenaaDoor
open Go.Am
set_option linter.unusedSimpArgs false
set_option linter.unusedVariables false
set_option maxRecDepth 100000
/-! Layer 3: a block, as the document has it. -/
theorem div8 (x : UInt32) : ((x.toNat / 8 : Nat) : Int) = ((W32.shr x 3).toNat : Int) := by
  have := u32_lt x
  simp only [W32.shr, UInt32.toNat_ofNat']; omega
theorem div1024 (x : UInt32) : ((x.toNat / 1024 : Nat) : Int) = ((W32.shr x 10).toNat : Int) := by
  have := u32_lt x
  simp only [W32.shr, UInt32.toNat_ofNat']; omega
@[go_sem] theorem wRow_eq (x : UInt32) : wRow x = [.int .u32 (x.toNat : Int)] := rfl
theorem wds_zero (blk : List UInt8) : wds blk 0 = [] := rfl
@[go_sem] theorem wRow_clos (l : List UInt32) : (l.map wRow).all clos = true := by
  rw [List.all_eq_true]; intro r hr
  rw [List.mem_map] at hr
  obtain ⟨x, _, rfl⟩ := hr
  rfl
@[go_sem] theorem e157 : fn C 157 [] [] = some (.slice 1 (KS.map wRow), []) := by
  rw [fn_text Tryd.func157 rfl rfl Tryd.results157 fq157.1 rfl rfl (by kernel_rfl)]
  have h : [[AVal.int .u32 1116352408], [AVal.int .u32 1899447441], [AVal.int .u32 3049323471], [AVal.int .u32 3921009573], [AVal.int .u32 961987163], [AVal.int .u32 1508970993], [AVal.int .u32 2453635748], [AVal.int .u32 2870763221], [AVal.int .u32 3624381080], [AVal.int .u32 310598401], [AVal.int .u32 607225278], [AVal.int .u32 1426881987], [AVal.int .u32 1925078388], [AVal.int .u32 2162078206], [AVal.int .u32 2614888103], [AVal.int .u32 3248222580], [AVal.int .u32 3835390401], [AVal.int .u32 4022224774], [AVal.int .u32 264347078], [AVal.int .u32 604807628], [AVal.int .u32 770255983], [AVal.int .u32 1249150122], [AVal.int .u32 1555081692], [AVal.int .u32 1996064986], [AVal.int .u32 2554220882], [AVal.int .u32 2821834349], [AVal.int .u32 2952996808], [AVal.int .u32 3210313671], [AVal.int .u32 3336571891], [AVal.int .u32 3584528711], [AVal.int .u32 113926993], [AVal.int .u32 338241895], [AVal.int .u32 666307205], [AVal.int .u32 773529912], [AVal.int .u32 1294757372], [AVal.int .u32 1396182291], [AVal.int .u32 1695183700], [AVal.int .u32 1986661051], [AVal.int .u32 2177026350], [AVal.int .u32 2456956037], [AVal.int .u32 2730485921], [AVal.int .u32 2820302411], [AVal.int .u32 3259730800], [AVal.int .u32 3345764771], [AVal.int .u32 3516065817], [AVal.int .u32 3600352804], [AVal.int .u32 4094571909], [AVal.int .u32 275423344], [AVal.int .u32 430227734], [AVal.int .u32 506948616], [AVal.int .u32 659060556], [AVal.int .u32 883997877], [AVal.int .u32 958139571], [AVal.int .u32 1322822218], [AVal.int .u32 1537002063], [AVal.int .u32 1747873779], [AVal.int .u32 1955562222], [AVal.int .u32 2024104815], [AVal.int .u32 2227730452], [AVal.int .u32 2361852424], [AVal.int .u32 2428436474], [AVal.int .u32 2756734187], [AVal.int .u32 3204031479], [AVal.int .u32 3329325298]] = KS.map wRow := by kernel_rfl
  simp -implicitDefEqProofs -dsimp +contextual (maxSteps := 5000000) (disch := first | omega | simp only [go_sem] <;> omega | refine ib ?_; kernel_rfl) only [go_sem, Nat.reduceBEq, Int.reduceNeg, Int.reduceLT, Int.reduceLE, Int.reduceAdd, Int.reduceSub, Int.reduceToNat, Int.reduceMul, Int.reduceMod, Int.reduceTMod, Int.reduceTDiv, Int.reduceEq, Nat.reducePow, Nat.reduceDiv, Nat.reduceShiftRight, Nat.reduceMod, List.reduceReplicate, ↓reduceIte, Nat.reduceEqDiff, Nat.reduceAdd, Nat.reduceSub, Nat.reduceLeDiff, Nat.reduceLT, Nat.reduceMul, h]
theorem rows_add (u s : S8) : [[AVal.int .u32 ((s.a + u.a).toNat : Int)], [AVal.int .u32 ((s.b + u.b).toNat : Int)], [AVal.int .u32 ((s.c + u.c).toNat : Int)], [AVal.int .u32 ((s.d + u.d).toNat : Int)], [AVal.int .u32 ((s.e + u.e).toNat : Int)], [AVal.int .u32 ((s.f + u.f).toNat : Int)], [AVal.int .u32 ((s.g + u.g).toNat : Int)], [AVal.int .u32 ((s.h + u.h).toNat : Int)]] = (u.add s).l.map wRow := by
  rw [UInt32.add_comm s.a, UInt32.add_comm s.b, UInt32.add_comm s.c, UInt32.add_comm s.d, UInt32.add_comm s.e, UInt32.add_comm s.f, UInt32.add_comm s.g, UInt32.add_comm s.h]; rfl
theorem sstep_eq (u : S8) (k w : UInt32) : sstep u k w = ⟨chx u k w + chy u, u.a, u.b, u.c, u.d + chx u k w, u.e, u.f, u.g⟩ := by unfold sstep; rfl
theorem wsOf_eq (blk : List UInt8) : wsOf blk = extW 48 (wds blk 16) := rfl
theorem extW_succ (n : Nat) (l : List UInt32) : extW (n + 1) l = extW n (l ++ [nxt l]) := rfl
theorem extW_zero (l : List UInt32) : extW 0 l = l := rfl
attribute [local irreducible] wsOf KS rr wds nxt extW wd chx chy sstep S8.add
theorem numB_wd (blk : List UInt8) (t : Nat) (h : 4 * t + 4 ≤ blk.length) : numB ((blk.drop (4 * t)).take (4 * t + 4 - 4 * t)) = wd blk t := by
  rw [show 4 * t + 4 - 4 * t = 4 by omega, wd, numB]
  simp only [List.getD_eq_getElem?_getD, List.getElem?_take, List.getElem?_drop]
  simp
set_option maxHeartbeats 1000000 in
@[go_sem] theorem e136 (s : S8) (blk : List UInt8) (h : blk.length = 64) : fn C 136 [] [.slice 1 (s.l.map wRow), .slice 1 (blk.map byteRow)] = some (.slice 1 ((blockS s blk).l.map wRow), []) := by
  rw [fn_text Tryd.func136 rfl rfl Tryd.results136 fq136.1 rfl rfl (by kernel_rfl)]
  have hw := wsOf_len blk
  have hk := KS_len
  have hsl : s.l.map wRow = [[.int .u32 (s.a.toNat : Int)], [.int .u32 (s.b.toNat : Int)], [.int .u32 (s.c.toNat : Int)], [.int .u32 (s.d.toNat : Int)], [.int .u32 (s.e.toNat : Int)], [.int .u32 (s.f.toNat : Int)], [.int .u32 (s.g.toNat : Int)], [.int .u32 (s.h.toNat : Int)]] := rfl
  rw [hsl]
  simp -implicitDefEqProofs -dsimp +contextual (maxSteps := 5000000) (disch := first | omega | simp only [go_sem] <;> omega | refine ib ?_; kernel_rfl) only [go_sem, Nat.reduceBEq, Int.reduceNeg, Int.reduceLT, Int.reduceLE, Int.reduceAdd, Int.reduceSub, Int.reduceToNat, Int.reduceMul, Int.reduceMod, Int.reduceTMod, Int.reduceTDiv, Int.reduceEq, Nat.reducePow, Nat.reduceDiv, Nat.reduceShiftRight, Nat.reduceMod, List.reduceReplicate, ↓reduceIte, Nat.reduceEqDiff, Nat.reduceAdd, Nat.reduceSub, Nat.reduceLeDiff, Nat.reduceLT, Nat.reduceMul, h, hw]
  refine (kLoop_rec2 (fun (t : Nat) (l : List UInt32) f H => f 0 = .slice 1 [[.int .u32 (s.a.toNat : Int)], [.int .u32 (s.b.toNat : Int)], [.int .u32 (s.c.toNat : Int)], [.int .u32 (s.d.toNat : Int)], [.int .u32 (s.e.toNat : Int)], [.int .u32 (s.f.toNat : Int)], [.int .u32 (s.g.toNat : Int)], [.int .u32 (s.h.toNat : Int)]] ∧ f 1 = .slice 1 (blk.map byteRow) ∧ f 6 = .int .i64 (t : Int) ∧ ((t = 0 ∧ f 5 = .sc (.slice none 0 0) ∧ H 137 = ⟨0, .dead, 0, [], false⟩) ∨ (t ≠ 0 ∧ f 5 = .osl 137 t 0 t ∧ H 137 = ⟨t, .live, 1, l.map wRow, false⟩)) ∧ l.length = t ∧ t ≤ 64 ∧ (t ≤ 16 → l = wds blk t)) (fun t _ => 64 - t) (fun t l => some (.slice 1 (((rnd KS (if t ≤ 16 then wsOf blk else extW (64 - t) l) s).add s).l.map wRow), [])) ?_ 0 [] _ _ ⟨rfl, rfl, rfl, .inl ⟨rfl, rfl, rfl⟩, rfl, by omega, fun _ => by rw [wds]; rfl⟩)
  rintro t l f H ⟨f0, f1, f6, hc, hlen, ht, hwd⟩ ih
  by_cases hlt : t < 64
  · by_cases h16 : t < 16
    · rcases hc with ⟨rfl, f5, H137⟩ | ⟨h0, f5, H137⟩
      · simp -implicitDefEqProofs -dsimp +contextual (maxSteps := 5000000) (disch := first | omega | simp only [go_sem] <;> omega | refine ib ?_; kernel_rfl) only [go_sem, Nat.reduceBEq, Int.reduceNeg, Int.reduceLT, Int.reduceLE, Int.reduceAdd, Int.reduceSub, Int.reduceToNat, Int.reduceMul, Int.reduceMod, Int.reduceTMod, Int.reduceTDiv, Int.reduceEq, Nat.reducePow, Nat.reduceDiv, Nat.reduceShiftRight, Nat.reduceMod, List.reduceReplicate, ↓reduceIte, Nat.reduceEqDiff, Nat.reduceAdd, Nat.reduceSub, Nat.reduceLeDiff, Nat.reduceLT, Nat.reduceMul, f0, f1, f5, f6, H137, h, hlt, h16]
        have hn : numB (blk.take 4) = wd blk 0 := by simpa using numB_wd blk 0 (by omega)
        refine Eq.trans (ih 1 [wd blk 0] _ _ ⟨f0, f1, rfl, .inr ⟨by omega, by simp [upd], ?_⟩, rfl, by omega, fun _ => ?_⟩ (by omega)) ?_
        · rw [hn]; rfl
        · rw [show (1 : Nat) = 0 + 1 from rfl, wds_succ, wds_zero]; rfl
        · rw [if_pos (by decide)]
      · have hn := numB_wd blk t (by omega)
        simp -implicitDefEqProofs -dsimp +contextual (maxSteps := 5000000) (disch := first | omega | simp only [go_sem] <;> omega | refine ib ?_; kernel_rfl) only [go_sem, Nat.reduceBEq, Int.reduceNeg, Int.reduceLT, Int.reduceLE, Int.reduceAdd, Int.reduceSub, Int.reduceToNat, Int.reduceMul, Int.reduceMod, Int.reduceTMod, Int.reduceTDiv, Int.reduceEq, Nat.reducePow, Nat.reduceDiv, Nat.reduceShiftRight, Nat.reduceMod, List.reduceReplicate, ↓reduceIte, Nat.reduceEqDiff, Nat.reduceAdd, Nat.reduceSub, Nat.reduceLeDiff, Nat.reduceLT, Nat.reduceMul, f0, f1, f5, f6, H137, h, hlt, h16, hlen]
        rw [hn]
        refine Eq.trans (ih (t + 1) (l ++ [wd blk t]) _ _ ⟨f0, f1, rfl, .inr ⟨by omega, by simp [upd], ?_⟩, by simp [hlen], by omega, fun _ => ?_⟩ (by omega)) ?_
        · rw [List.map_append]; rfl
        · rw [wds_succ, hwd (by omega)]
        · rw [if_pos (by omega)]
          try rw [if_pos (by omega)]
    · rcases hc with ⟨rfl, f5, H137⟩ | ⟨h0, f5, H137⟩
      · exact absurd (by decide) h16
      · simp -implicitDefEqProofs -dsimp +contextual (maxSteps := 5000000) (disch := first | omega | simp only [go_sem] <;> omega | refine ib ?_; kernel_rfl) only [go_sem, Nat.reduceBEq, Int.reduceNeg, Int.reduceLT, Int.reduceLE, Int.reduceAdd, Int.reduceSub, Int.reduceToNat, Int.reduceMul, Int.reduceMod, Int.reduceTMod, Int.reduceTDiv, Int.reduceEq, Nat.reducePow, Nat.reduceDiv, Nat.reduceShiftRight, Nat.reduceMod, List.reduceReplicate, ↓reduceIte, Nat.reduceEqDiff, Nat.reduceAdd, Nat.reduceSub, Nat.reduceLeDiff, Nat.reduceLT, Nat.reduceMul, f0, f1, f5, f6, H137, h, hlt, h16, hlen, div8, div1024]
        have hn : l[t - 16] + l[t - 7] + (rr l[t - 15] 7 ^^^ rr l[t - 15] 18 ^^^ W32.shr l[t - 15] 3) + (rr l[t - 2] 17 ^^^ rr l[t - 2] 19 ^^^ W32.shr l[t - 2] 10) = nxt l := by
          subst hlen
          rw [nxt, getD_of _ _ _ (by omega), getD_of _ _ _ (by omega), getD_of _ _ _ (by omega), getD_of _ _ _ (by omega), sg0, sg1]
        have hF : (if t ≤ 16 then wsOf blk else extW (64 - t) l) = extW (64 - (t + 1)) (l ++ [nxt l]) := by
          rw [← extW_succ, show 64 - (t + 1) + 1 = 64 - t by omega]
          split
          · obtain rfl : t = 16 := by omega
            rw [wsOf_eq, hwd (by omega)]
          · rfl
        rw [hn, hF]
        refine Eq.trans (ih (t + 1) (l ++ [nxt l]) _ _ ⟨f0, f1, rfl, .inr ⟨by omega, by simp [upd], ?_⟩, by simp [hlen], by omega, fun _ => by omega⟩ (by omega)) ?_
        · rw [List.map_append]; rfl
        · rw [if_neg (by omega)]
  · obtain rfl : t = 64 := by omega
    rcases hc with ⟨h0, _⟩ | ⟨h0, f5, H137⟩
    · omega
    rw [if_neg (by omega), show 64 - 64 = 0 from rfl, extW_zero]
    simp -implicitDefEqProofs -dsimp +contextual (maxSteps := 5000000) (disch := first | omega | simp only [go_sem] <;> omega | refine ib ?_; kernel_rfl) only [go_sem, Nat.reduceBEq, Int.reduceNeg, Int.reduceLT, Int.reduceLE, Int.reduceAdd, Int.reduceSub, Int.reduceToNat, Int.reduceMul, Int.reduceMod, Int.reduceTMod, Int.reduceTDiv, Int.reduceEq, Nat.reducePow, Nat.reduceDiv, Nat.reduceShiftRight, Nat.reduceMod, List.reduceReplicate, ↓reduceIte, Nat.reduceEqDiff, Nat.reduceAdd, Nat.reduceSub, Nat.reduceLeDiff, Nat.reduceLT, Nat.reduceMul, f0, f1, f5, f6, H137, h, hlt, hlen, hk]
    refine (kLoop_rec2 (fun (i : Nat) (u : S8) f H => f 0 = .slice 1 [[.int .u32 (s.a.toNat : Int)], [.int .u32 (s.b.toNat : Int)], [.int .u32 (s.c.toNat : Int)], [.int .u32 (s.d.toNat : Int)], [.int .u32 (s.e.toNat : Int)], [.int .u32 (s.f.toNat : Int)], [.int .u32 (s.g.toNat : Int)], [.int .u32 (s.h.toNat : Int)]] ∧ f 5 = .osl 137 64 0 64 ∧ f 9 = .slice 1 (KS.map wRow) ∧ f 10 = .int .u32 (u.a.toNat : Int) ∧ f 11 = .int .u32 (u.b.toNat : Int) ∧ f 12 = .int .u32 (u.c.toNat : Int) ∧ f 13 = .int .u32 (u.d.toNat : Int) ∧ f 14 = .int .u32 (u.e.toNat : Int) ∧ f 15 = .int .u32 (u.f.toNat : Int) ∧ f 16 = .int .u32 (u.g.toNat : Int) ∧ f 17 = .int .u32 (u.h.toNat : Int) ∧ f 18 = .int .i64 (i : Int) ∧ H 137 = ⟨64, .live, 1, l.map wRow, false⟩ ∧ i ≤ 64) (fun i _ => 64 - i) (fun i u => some (.slice 1 (((rnd (KS.drop i) (l.drop i) u).add s).l.map wRow), [])) ?_ 0 s _ _ ⟨f0, f5, rfl, rfl, rfl, rfl, rfl, rfl, rfl, rfl, rfl, rfl, H137, by omega⟩)
    rintro i u f H ⟨f0, f5, f9, g10, g11, g12, g13, g14, g15, g16, g17, f18, H137, hi⟩ ih
    by_cases hl : i < 64
    · simp -implicitDefEqProofs -dsimp +contextual (maxSteps := 5000000) (disch := first | omega | simp only [go_sem] <;> omega | refine ib ?_; kernel_rfl) only [go_sem, Nat.reduceBEq, Int.reduceNeg, Int.reduceLT, Int.reduceLE, Int.reduceAdd, Int.reduceSub, Int.reduceToNat, Int.reduceMul, Int.reduceMod, Int.reduceTMod, Int.reduceTDiv, Int.reduceEq, Nat.reducePow, Nat.reduceDiv, Nat.reduceShiftRight, Nat.reduceMod, List.reduceReplicate, ↓reduceIte, Nat.reduceEqDiff, Nat.reduceAdd, Nat.reduceSub, Nat.reduceLeDiff, Nat.reduceLT, Nat.reduceMul, f0, f5, f9, g10, g11, g12, g13, g14, g15, g16, g17, f18, H137, hl, hlen, hk]
      have c1 := chx_eq u (KS[i]'(by rw [hk]; exact hl)) (l[i]'(by rw [hlen]; exact hl))
      have c2 := chy_eq u
      have c3 := rnd_drop KS l i (by rw [hk]; exact hl) (by rw [hlen]; exact hl) u
      rw [sstep_eq] at c3
      rw [c1, c2, c3]
      refine ih (i + 1) _ _ _ ?_ (by omega)
      exact ⟨f0, f5, f9, rfl, rfl, rfl, rfl, rfl, rfl, rfl, rfl, rfl, H137, by omega⟩
    · simp -implicitDefEqProofs -dsimp +contextual (maxSteps := 5000000) (disch := first | omega | simp only [go_sem] <;> omega | refine ib ?_; kernel_rfl) only [go_sem, Nat.reduceBEq, Int.reduceNeg, Int.reduceLT, Int.reduceLE, Int.reduceAdd, Int.reduceSub, Int.reduceToNat, Int.reduceMul, Int.reduceMod, Int.reduceTMod, Int.reduceTDiv, Int.reduceEq, Nat.reducePow, Nat.reduceDiv, Nat.reduceShiftRight, Nat.reduceMod, List.reduceReplicate, ↓reduceIte, Nat.reduceEqDiff, Nat.reduceAdd, Nat.reduceSub, Nat.reduceLeDiff, Nat.reduceLT, Nat.reduceMul, f0, f5, f9, g10, g11, g12, g13, g14, g15, g16, g17, f18, H137, hl, hlen, hk]
      obtain rfl : i = 64 := by omega
      rw [rnd_nil]
      exact congrArg (fun x => some (AVal.slice 1 x, ([] : List AVal))) (rows_add u s)

end Go.Proofs.YtccfjidpdlfenaaDoor
namespace Go.Proofs.YtccfjidpdlfenaaDoor
open Go.Am
set_option linter.unusedSimpArgs false
set_option linter.unusedVariables false
set_option maxRecDepth 100000
/-! Layer 3: what stands behind a text. -/
def padD (n : Nat) : List UInt8 := 128 :: (List.replicate ((119 - n % 64) % 64) 0 ++ beN 8 (n * 8))
set_option maxHeartbeats 1000000 in
@[go_sem] theorem e131 (n : Nat) (h : n ≤ 1000000000000) : fn C 131 [] [.int .i64 (n : Int)] = some (.slice 1 ((padD n).map byteRow), []) := by
  rw [fn_text Tryd.func131 rfl rfl Tryd.results131 fq131.1 rfl rfl (by kernel_rfl)]
  have h119 : (119 : Int) - ((n % 64 : Nat) : Int) = ((119 - n % 64 : Nat) : Int) := by omega
  simp -implicitDefEqProofs -dsimp +contextual (maxSteps := 5000000) (disch := first | omega | simp only [go_sem] <;> omega | refine ib ?_; kernel_rfl) only [go_sem, Nat.reduceBEq, Int.reduceNeg, Int.reduceLT, Int.reduceLE, Int.reduceAdd, Int.reduceSub, Int.reduceToNat, Int.reduceMul, Int.reduceMod, Int.reduceTMod, Int.reduceTDiv, Int.reduceEq, Nat.reducePow, Nat.reduceDiv, Nat.reduceShiftRight, Nat.reduceMod, List.reduceReplicate, ↓reduceIte, Nat.reduceEqDiff, Nat.reduceAdd, Nat.reduceSub, Nat.reduceLeDiff, Nat.reduceLT, Nat.reduceMul, h119, kLoop_eq, Nat.not_lt_zero]
  have b1 : ((n * 8 / 72057594037927936 : Nat) : Int) = ((UInt8.ofNat (n * 8 / 72057594037927936)).toNat : Int) := by simp only [UInt8.toNat_ofNat']; omega
  have b2 : ((n * 8 / 281474976710656 : Nat) : Int) = ((UInt8.ofNat (n * 8 / 281474976710656)).toNat : Int) := by simp only [UInt8.toNat_ofNat']; omega
  have b3 : ((n * 8 / 1099511627776 : Nat) : Int) = ((UInt8.ofNat (n * 8 / 1099511627776)).toNat : Int) := by simp only [UInt8.toNat_ofNat']; omega
  rw [b1, b2, b3, u8_wrap, u8_wrap, u8_wrap, u8_wrap, u8_wrap]
  simp only [padD, beN, show List.range 8 = [0, 1, 2, 3, 4, 5, 6, 7] from rfl, List.map_cons, List.map_nil, List.map_append, List.append_assoc, List.cons_append, List.nil_append, List.append_nil]
  rfl
set_option maxHeartbeats 1000000 in
@[go_sem] theorem e134 (n : Nat) (h : n ≤ 1000000000000) : fn C 134 [] [.int .i64 (n : Int)] = some (.slice 1 ((padD n).map byteRow), []) := by
  rw [fn_text Tryd.func134 rfl rfl Tryd.results134 fq134.1 rfl rfl (by kernel_rfl)]
  simp -implicitDefEqProofs -dsimp +contextual (maxSteps := 5000000) (disch := first | omega | simp only [go_sem] <;> omega | refine ib ?_; kernel_rfl) only [go_sem, Nat.reduceBEq, Int.reduceNeg, Int.reduceLT, Int.reduceLE, Int.reduceAdd, Int.reduceSub, Int.reduceToNat, Int.reduceMul, Int.reduceMod, Int.reduceTMod, Int.reduceTDiv, Int.reduceEq, Nat.reducePow, Nat.reduceDiv, Nat.reduceShiftRight, Nat.reduceMod, List.reduceReplicate, ↓reduceIte, Nat.reduceEqDiff, Nat.reduceAdd, Nat.reduceSub, Nat.reduceLeDiff, Nat.reduceLT, Nat.reduceMul, Nat.not_lt_zero]
  obtain ⟨Z, hZ⟩ : ∃ Z, Z = (119 - n % 64) % 64 := ⟨_, rfl⟩
  refine (kLoop_rec (fun (k : Nat) f H => f 0 = .int .i64 (n : Int) ∧ f 3 = .osl 108 (k + 1) 0 (k + 1) ∧ H 108 = ⟨k + 1, .live, 1, (128 :: List.replicate k (0 : UInt8)).map byteRow, false⟩ ∧ k ≤ Z) (fun k => Z - k) (fun _ => some (.slice 1 ((padD n).map byteRow), [])) ?_ 0 _ _ ⟨rfl, rfl, rfl, by omega⟩)
  rintro k f H ⟨f0, f3, H8, hk⟩ ih
  by_cases hl : (n % 64 + (k + 1) + 8) % 64 = 0
  · obtain rfl : k = Z := by omega
    simp -implicitDefEqProofs -dsimp +contextual (maxSteps := 5000000) (disch := first | omega | simp only [go_sem] <;> omega | refine ib ?_; kernel_rfl) only [go_sem, Nat.reduceBEq, Int.reduceNeg, Int.reduceLT, Int.reduceLE, Int.reduceAdd, Int.reduceSub, Int.reduceToNat, Int.reduceMul, Int.reduceMod, Int.reduceTMod, Int.reduceTDiv, Int.reduceEq, Nat.reducePow, Nat.reduceDiv, Nat.reduceShiftRight, Nat.reduceMod, List.reduceReplicate, ↓reduceIte, Nat.reduceEqDiff, Nat.reduceAdd, Nat.reduceSub, Nat.reduceLeDiff, Nat.reduceLT, Nat.reduceMul, f0, f3, H8, hl, kLoop_eq]
    have hm : ∀ m : Nat, ((m % 256 : Nat) : Int) = ((UInt8.ofNat m).toNat : Int) := fun m => by simp [UInt8.toNat_ofNat']
    rw [hm, hm, hm, hm, hm, hm, hm, hm, hZ]
    simp only [padD, beN, show List.range 8 = [0, 1, 2, 3, 4, 5, 6, 7] from rfl, List.map_cons, List.map_nil, List.map_append, List.append_assoc, List.cons_append, List.nil_append, List.append_nil]
    rfl
  · simp -implicitDefEqProofs -dsimp +contextual (maxSteps := 5000000) (disch := first | omega | simp only [go_sem] <;> omega | refine ib ?_; kernel_rfl) only [go_sem, Nat.reduceBEq, Int.reduceNeg, Int.reduceLT, Int.reduceLE, Int.reduceAdd, Int.reduceSub, Int.reduceToNat, Int.reduceMul, Int.reduceMod, Int.reduceTMod, Int.reduceTDiv, Int.reduceEq, Nat.reducePow, Nat.reduceDiv, Nat.reduceShiftRight, Nat.reduceMod, List.reduceReplicate, ↓reduceIte, Nat.reduceEqDiff, Nat.reduceAdd, Nat.reduceSub, Nat.reduceLeDiff, Nat.reduceLT, Nat.reduceMul, f0, f3, H8, hl]
    refine ih (k + 1) _ _ ⟨f0, rfl, ?_, by omega⟩ (by omega)
    rw [List.replicate_succ', List.map_cons, List.map_append]
    rfl

end Go.Proofs.YtccfjidpdlfenaaDoor
namespace Go.Proofs.YtccfjidpdlfenaaDoor
open Go.Am
set_option linter.unusedSimpArgs false
set_option linter.unusedVariables false
set_option maxRecDepth 100000
/-! Layer 3: sums. -/
def H0 : S8 := ⟨1779033703, 3144134277, 1013904242, 2773480762, 1359893119, 2600822924, 528734635, 1541459225⟩
theorem H0_w : [AVal.int .u32 1779033703, .int .u32 3144134277, .int .u32 1013904242, .int .u32 2773480762, .int .u32 1359893119, .int .u32 2600822924, .int .u32 528734635, .int .u32 1541459225] = H0.l.map w32 := by kernel_rfl
theorem H0_r : [[AVal.int .u32 1779033703], [.int .u32 3144134277], [.int .u32 1013904242], [.int .u32 2773480762], [.int .u32 1359893119], [.int .u32 2600822924], [.int .u32 528734635], [.int .u32 1541459225]] = H0.l.map wRow := by kernel_rfl
@[go_sem] theorem S8_len (s : S8) : s.l.length = 8 := rfl
def stS (all : List UInt8) : Nat → S8
  | 0 => H0
  | i + 1 => blockS (stS all i) ((all.drop (64 * i)).take 64)
def be8 (x : UInt32) : List UInt8 := [(W32.shr x 24).toUInt8, (W32.shr x 16).toUInt8, (W32.shr x 8).toUInt8, x.toUInt8]
def outS (s : S8) : List UInt8 := s.l.flatMap be8
def allB (b : List UInt8) : List UInt8 := b ++ padD b.length
def sumB (b : List UInt8) : List UInt8 := outS (stS (allB b) ((allB b).length / 64))
theorem padD_len (n : Nat) : (padD n).length = (119 - n % 64) % 64 + 9 := by simp [padD, beN_len]
theorem allB_len (b : List UInt8) : (allB b).length = b.length + ((119 - b.length % 64) % 64 + 9) := by rw [allB, List.length_append, padD_len]
theorem allB_mod (b : List UInt8) : (allB b).length % 64 = 0 := by rw [allB_len]; omega

@[go_sem] theorem e132 : fn C 132 [] [] = some (.agg (H0.l.map w32), []) := by
  rw [fn_text Tryd.func132 rfl rfl Tryd.results132 fq132.1 rfl rfl (by kernel_rfl)]
  simp -implicitDefEqProofs -dsimp +contextual (maxSteps := 5000000) (disch := first | omega | simp only [go_sem] <;> omega | refine ib ?_; kernel_rfl) only [go_sem, Nat.reduceBEq, Int.reduceNeg, Int.reduceLT, Int.reduceLE, Int.reduceAdd, Int.reduceSub, Int.reduceToNat, Int.reduceMul, Int.reduceMod, Int.reduceTMod, Int.reduceTDiv, Int.reduceEq, Nat.reducePow, Nat.reduceDiv, Nat.reduceShiftRight, Nat.reduceMod, List.reduceReplicate, ↓reduceIte, Nat.reduceEqDiff, Nat.reduceAdd, Nat.reduceSub, Nat.reduceLeDiff, Nat.reduceLT, Nat.reduceMul, H0_w]

@[go_sem] theorem e135 : fn C 135 [] [] = some (.slice 1 (H0.l.map wRow), []) := by
  rw [fn_text Tryd.func135 rfl rfl Tryd.results135 fq135.1 rfl rfl (by kernel_rfl)]
  simp -implicitDefEqProofs -dsimp +contextual (maxSteps := 5000000) (disch := first | omega | simp only [go_sem] <;> omega | refine ib ?_; kernel_rfl) only [go_sem, Nat.reduceBEq, Int.reduceNeg, Int.reduceLT, Int.reduceLE, Int.reduceAdd, Int.reduceSub, Int.reduceToNat, Int.reduceMul, Int.reduceMod, Int.reduceTMod, Int.reduceTDiv, Int.reduceEq, Nat.reducePow, Nat.reduceDiv, Nat.reduceShiftRight, Nat.reduceMod, List.reduceReplicate, ↓reduceIte, Nat.reduceEqDiff, Nat.reduceAdd, Nat.reduceSub, Nat.reduceLeDiff, Nat.reduceLT, Nat.reduceMul, H0_r]

attribute [local irreducible] blockS padD
set_option maxHeartbeats 1000000 in
@[go_sem] theorem e116 (b : List UInt8) (h : b.length ≤ 1000000) : fn C 116 [] [.slice 1 (b.map byteRow)] = some (.slice 1 ((sumB b).map byteRow), []) := by
  rw [fn_text Tryd.func116 rfl rfl Tryd.results116 fq116.1 rfl rfl (by kernel_rfl)]
  have hp := padD_len b.length
  simp -implicitDefEqProofs -dsimp +contextual (maxSteps := 5000000) (disch := first | omega | simp only [go_sem] <;> omega | refine ib ?_; kernel_rfl) only [go_sem, Nat.reduceBEq, Int.reduceNeg, Int.reduceLT, Int.reduceLE, Int.reduceAdd, Int.reduceSub, Int.reduceToNat, Int.reduceMul, Int.reduceMod, Int.reduceTMod, Int.reduceTDiv, Int.reduceEq, Nat.reducePow, Nat.reduceDiv, Nat.reduceShiftRight, Nat.reduceMod, List.reduceReplicate, ↓reduceIte, Nat.reduceEqDiff, Nat.reduceAdd, Nat.reduceSub, Nat.reduceLeDiff, Nat.reduceLT, Nat.reduceMul, h, hp]
  have hmod := allB_mod b
  have hAl := allB_len b
  rw [show b ++ padD b.length = allB b from rfl, sumB]
  generalize hA : allB b = A at *
  have hAm : A.length ≤ 1001000 := by omega
  obtain ⟨m, hm⟩ : ∃ m, A.length = 64 * m := ⟨A.length / 64, by omega⟩
  rw [show A.length / 64 = m by omega]
  refine (kLoop_rec (fun (i : Nat) f H => f 3 = .slice 1 (A.map byteRow) ∧ f 4 = .ptr 104 1 0 0 ∧ f 5 = .int .i64 ((64 * i : Nat) : Int) ∧ H 104 = ⟨1, .live, 8, [(stS A i).l.map w32], false⟩ ∧ (H 148).gen = 0 ∧ i ≤ m) (fun i => m - i) (fun _ => some (.slice 1 ((outS (stS A m)).map byteRow), [])) ?_ 0 _ _ ⟨rfl, rfl, rfl, rfl, rfl, by omega⟩)
  rintro i f H ⟨f3, f4, f5, H4, g, hi⟩ ih
  by_cases hl : 64 * i + 64 ≤ A.length
  · simp -implicitDefEqProofs -dsimp +contextual (maxSteps := 5000000) (disch := first | omega | simp only [go_sem] <;> omega | refine ib ?_; kernel_rfl) only [go_sem, Nat.reduceBEq, Int.reduceNeg, Int.reduceLT, Int.reduceLE, Int.reduceAdd, Int.reduceSub, Int.reduceToNat, Int.reduceMul, Int.reduceMod, Int.reduceTMod, Int.reduceTDiv, Int.reduceEq, Nat.reducePow, Nat.reduceDiv, Nat.reduceShiftRight, Nat.reduceMod, List.reduceReplicate, ↓reduceIte, Nat.reduceEqDiff, Nat.reduceAdd, Nat.reduceSub, Nat.reduceLeDiff, Nat.reduceLT, Nat.reduceMul, f3, f4, f5, H4, g, hl]
    refine ih (i + 1) _ _ ⟨f3, f4, by simp only [upd, if_true]; congr 1, ?_, g, by omega⟩ (by omega)
    rw [stS, show 64 * i + 64 - 64 * i = 64 by omega]
    rfl
  · obtain rfl : i = m := by omega
    simp -implicitDefEqProofs -dsimp +contextual (maxSteps := 5000000) (disch := first | omega | simp only [go_sem] <;> omega | refine ib ?_; kernel_rfl) only [go_sem, Nat.reduceBEq, Int.reduceNeg, Int.reduceLT, Int.reduceLE, Int.reduceAdd, Int.reduceSub, Int.reduceToNat, Int.reduceMul, Int.reduceMod, Int.reduceTMod, Int.reduceTDiv, Int.reduceEq, Nat.reducePow, Nat.reduceDiv, Nat.reduceShiftRight, Nat.reduceMod, List.reduceReplicate, ↓reduceIte, Nat.reduceEqDiff, Nat.reduceAdd, Nat.reduceSub, Nat.reduceLeDiff, Nat.reduceLT, Nat.reduceMul, f3, f4, f5, H4, g, hl]
    generalize stS A i = s
    have hsl : s.l.map w32 = [.int .u32 (s.a.toNat : Int), .int .u32 (s.b.toNat : Int), .int .u32 (s.c.toNat : Int), .int .u32 (s.d.toNat : Int), .int .u32 (s.e.toNat : Int), .int .u32 (s.f.toNat : Int), .int .u32 (s.g.toNat : Int), .int .u32 (s.h.toNat : Int)] := rfl
    rw [hsl]
    simp -implicitDefEqProofs -dsimp +contextual (maxSteps := 5000000) (disch := first | omega | simp only [go_sem] <;> omega | refine ib ?_; kernel_rfl) only [go_sem, Nat.reduceBEq, Int.reduceNeg, Int.reduceLT, Int.reduceLE, Int.reduceAdd, Int.reduceSub, Int.reduceToNat, Int.reduceMul, Int.reduceMod, Int.reduceTMod, Int.reduceTDiv, Int.reduceEq, Nat.reducePow, Nat.reduceDiv, Nat.reduceShiftRight, Nat.reduceMod, List.reduceReplicate, ↓reduceIte, Nat.reduceEqDiff, Nat.reduceAdd, Nat.reduceSub, Nat.reduceLeDiff, Nat.reduceLT, Nat.reduceMul, kLoop_eq, f3, H4, g]
    rfl

set_option maxHeartbeats 1000000 in
@[go_sem] theorem e117 (b : List UInt8) (h : b.length ≤ 1000000) : fn C 117 [] [.slice 1 (b.map byteRow)] = some (.usl 1 ((sumB b).map byteRow), []) := by
  rw [fn_text Tryd.func117 rfl rfl Tryd.results117 fq117.1 rfl rfl (by kernel_rfl)]
  have hp := padD_len b.length
  simp -implicitDefEqProofs -dsimp +contextual (maxSteps := 5000000) (disch := first | omega | simp only [go_sem] <;> omega | refine ib ?_; kernel_rfl) only [go_sem, Nat.reduceBEq, Int.reduceNeg, Int.reduceLT, Int.reduceLE, Int.reduceAdd, Int.reduceSub, Int.reduceToNat, Int.reduceMul, Int.reduceMod, Int.reduceTMod, Int.reduceTDiv, Int.reduceEq, Nat.reducePow, Nat.reduceDiv, Nat.reduceShiftRight, Nat.reduceMod, List.reduceReplicate, ↓reduceIte, Nat.reduceEqDiff, Nat.reduceAdd, Nat.reduceSub, Nat.reduceLeDiff, Nat.reduceLT, Nat.reduceMul, h, hp]
  have hmod := allB_mod b
  have hAl := allB_len b
  rw [show b ++ padD b.length = allB b from rfl, sumB, ← hAl]
  generalize hA : allB b = A at *
  have hAm : A.length ≤ 1001000 := by omega
  obtain ⟨m, hm⟩ : ∃ m, A.length = 64 * m := ⟨A.length / 64, by omega⟩
  rw [show A.length / 64 = m by omega]
  refine (kLoop_rec (fun (i : Nat) f H => f 3 = .osl 108 3 0 A.length ∧ f 4 = .slice 1 ((stS A i).l.map wRow) ∧ f 5 = .int .i64 ((64 * i : Nat) : Int) ∧ (H 108 = ⟨3, .live, 1, A.map byteRow, false⟩ ∨ H 108 = ⟨3, .froz, 1, A.map byteRow, false⟩) ∧ (H 157).gen = 0 ∧ i ≤ m) (fun i => m - i) (fun _ => some (.usl 1 ((outS (stS A m)).map byteRow), [])) ?_ 0 _ _ ⟨rfl, rfl, rfl, .inl rfl, rfl, by omega⟩)
  rintro i f H ⟨f3, f4, f5, H8, g, hi⟩ ih
  by_cases hl : 64 * i < A.length
  · have h64 : 64 * i + 64 ≤ A.length := by omega
    rcases H8 with H8 | H8
    · simp -implicitDefEqProofs -dsimp +contextual (maxSteps := 5000000) (disch := first | omega | simp only [go_sem] <;> omega | refine ib ?_; kernel_rfl) only [go_sem, Nat.reduceBEq, Int.reduceNeg, Int.reduceLT, Int.reduceLE, Int.reduceAdd, Int.reduceSub, Int.reduceToNat, Int.reduceMul, Int.reduceMod, Int.reduceTMod, Int.reduceTDiv, Int.reduceEq, Nat.reducePow, Nat.reduceDiv, Nat.reduceShiftRight, Nat.reduceMod, List.reduceReplicate, ↓reduceIte, Nat.reduceEqDiff, Nat.reduceAdd, Nat.reduceSub, Nat.reduceLeDiff, Nat.reduceLT, Nat.reduceMul, f3, f4, f5, H8, g, hl, h64]
      refine ih (i + 1) _ _ ⟨f3, ?_, by simp only [upd, if_true]; congr 1, .inr rfl, g, by omega⟩ (by omega)
      rw [stS, show 64 * i + 64 - 64 * i = 64 by omega]
      rfl
    · simp -implicitDefEqProofs -dsimp +contextual (maxSteps := 5000000) (disch := first | omega | simp only [go_sem] <;> omega | refine ib ?_; kernel_rfl) only [go_sem, Nat.reduceBEq, Int.reduceNeg, Int.reduceLT, Int.reduceLE, Int.reduceAdd, Int.reduceSub, Int.reduceToNat, Int.reduceMul, Int.reduceMod, Int.reduceTMod, Int.reduceTDiv, Int.reduceEq, Nat.reducePow, Nat.reduceDiv, Nat.reduceShiftRight, Nat.reduceMod, List.reduceReplicate, ↓reduceIte, Nat.reduceEqDiff, Nat.reduceAdd, Nat.reduceSub, Nat.reduceLeDiff, Nat.reduceLT, Nat.reduceMul, f3, f4, f5, H8, g, hl, h64]
      refine ih (i + 1) _ _ ⟨f3, ?_, by simp only [upd, if_true]; congr 1, .inr rfl, g, by omega⟩ (by omega)
      rw [stS, show 64 * i + 64 - 64 * i = 64 by omega]
      rfl
  · obtain rfl : i = m := by omega
    generalize stS A i = s at *
    have hsl : s.l.map wRow = [[.int .u32 (s.a.toNat : Int)], [.int .u32 (s.b.toNat : Int)], [.int .u32 (s.c.toNat : Int)], [.int .u32 (s.d.toNat : Int)], [.int .u32 (s.e.toNat : Int)], [.int .u32 (s.f.toNat : Int)], [.int .u32 (s.g.toNat : Int)], [.int .u32 (s.h.toNat : Int)]] := rfl
    rw [hsl] at f4
    rcases H8 with H8 | H8
    · simp -implicitDefEqProofs -dsimp +contextual (maxSteps := 5000000) (disch := first | omega | simp only [go_sem] <;> omega | refine ib ?_; kernel_rfl) only [go_sem, Nat.reduceBEq, Int.reduceNeg, Int.reduceLT, Int.reduceLE, Int.reduceAdd, Int.reduceSub, Int.reduceToNat, Int.reduceMul, Int.reduceMod, Int.reduceTMod, Int.reduceTDiv, Int.reduceEq, Nat.reducePow, Nat.reduceDiv, Nat.reduceShiftRight, Nat.reduceMod, List.reduceReplicate, ↓reduceIte, Nat.reduceEqDiff, Nat.reduceAdd, Nat.reduceSub, Nat.reduceLeDiff, Nat.reduceLT, Nat.reduceMul, f3, f4, f5, H8, g, hl, kLoop_eq]
      rfl
    · simp -implicitDefEqProofs -dsimp +contextual (maxSteps := 5000000) (disch := first | omega | simp only [go_sem] <;> omega | refine ib ?_; kernel_rfl) only [go_sem, Nat.reduceBEq, Int.reduceNeg, Int.reduceLT, Int.reduceLE, Int.reduceAdd, Int.reduceSub, Int.reduceToNat, Int.reduceMul, Int.reduceMod, Int.reduceTMod, Int.reduceTDiv, Int.reduceEq, Nat.reducePow, Nat.reduceDiv, Nat.reduceShiftRight, Nat.reduceMod, List.reduceReplicate, ↓reduceIte, Nat.reduceEqDiff, Nat.reduceAdd, Nat.reduceSub, Nat.reduceLeDiff, Nat.reduceLT, Nat.reduceMul, f3, f4, f5, H8, g, hl, kLoop_eq]
      rfl

@[go_sem] theorem sumB_len (b : List UInt8) : (sumB b).length = 32 := by rw [sumB]; rfl

end Go.Proofs.YtccfjidpdlfenaaDoor
