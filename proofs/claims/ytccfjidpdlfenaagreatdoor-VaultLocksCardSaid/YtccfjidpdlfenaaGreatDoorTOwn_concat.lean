import Derived.Test.YtccfjidpdlfenaaGreatDoorFacts
import Derived.Test.YtccfjidpdlfenaaGreatDoorTConcat
namespace Go.Proofs.YtccfjidpdlfenaaGreatDoor
open Go.Am
set_option linter.unusedSimpArgs false
set_option linter.unusedVariables false
set_option maxRecDepth 100000

/-! slices.Concat of bytes, by its walk. -/
theorem usl_of_own {S : Nat → Prop} {U : List Nat} {w w' : World} {v : Value} {e : TypeId} {l : List UInt8} (h : w'.ownsRow w.heap.size e 1 v l.length (Lib.byteCells l)) :
    ∃ U', ORel (After S U w U' w') w' (.usl 1 (l.map byteRow)) v U' ∧ U'.Nodup ∧ ∀ b ∈ U', b < w'.heap.size ∧ (b ∈ U ∨ w.heap.size ≤ b) := by
  rcases h.2 with ⟨rfl, h0⟩ | ⟨g, cap, cur, rfl, hbg, hg, hnc, hcm, hcs, htake⟩
  · obtain rfl : l = [] := List.length_eq_zero_iff.1 h0
    exact ⟨[], ⟨none, 0, rfl, Nat.le_refl _, .inl ⟨rfl, rfl⟩⟩, List.nodup_nil, fun b hb => by cases hb⟩
  · by_cases hc : cap = 0
    · subst hc
      refine ⟨[], ⟨_, 0, by rw [List.length_map], by rw [List.length_map]; exact hnc, .inl ⟨rfl, rfl⟩⟩, List.nodup_nil, fun b hb => by cases hb⟩
    · have hlt : g < w'.heap.size := by
        rcases Nat.lt_or_ge g w'.heap.size with h' | h'
        · exact h'
        · simp [Array.getElem?_eq_none h'] at hg
      refine ⟨[g], ⟨_, cap, by rw [List.length_map], by rw [List.length_map]; exact hnc, .inr ⟨hc, g, 0, rfl, rfl, fun h => h.2.1 (by simp), ⟨cur, e, (0, 0), hg, by rw [hcs]; omega, fun _ => Free.zero _⟩, ?_⟩⟩, by simp, fun b hb => by
        simp only [List.mem_singleton] at hb; subst hb; exact ⟨hlt, .inr hbg⟩⟩
      rw [CRows_iff]
      intro i r hr
      simp only [List.getElem?_map, Option.map_eq_some_iff] at hr
      obtain ⟨c, hi, rfl⟩ := hr
      obtain ⟨hil, rfl⟩ := List.getElem?_eq_some_iff.1 hi
      refine ⟨rfl, ⟨_, ?_, rfl⟩, trivial⟩
      simp only [World.cell?, hg, Option.isSome_none, Bool.false_eq_true, if_false]
      have := congrArg (·[i]?) htake
      simp only [Nat.mul_one, Lib.byteCells, List.getElem?_map, hi, Option.map_some] at this
      rw [List.getElem?_take, if_pos hil] at this
      rw [Nat.zero_add, Nat.mul_one, ← Array.getElem?_toList]
      exact this
theorem slice_of_own {S : Nat → Prop} {U : List Nat} {w w' : World} {v : Value} {e : TypeId} {l : List UInt8} (h : w'.ownsRow w.heap.size e 1 v l.length (Lib.byteCells l)) : ORel (After S U w [] w') w' (.slice 1 (l.map byteRow)) v [] := by
  refine ⟨?_, rfl⟩
  rcases h.2 with ⟨rfl, h0⟩ | ⟨g, cap, cur, rfl, hbg, hg, hnc, hcm, hcs, htake⟩
  · obtain rfl : l = [] := List.length_eq_zero_iff.1 h0
    exact ⟨none, 0, rfl, Nat.le_refl _, fun h => absurd rfl h⟩
  · have hlt : g < w'.heap.size := by
      rcases Nat.lt_or_ge g w'.heap.size with h' | h'
      · exact h'
      · simp [Array.getElem?_eq_none h'] at hg
    refine ⟨_, cap, by rw [List.length_map], by rw [List.length_map]; exact hnc, fun _ => ⟨g, 0, rfl, ⟨hlt, by simp, .inr (.inl hbg)⟩, ?_⟩⟩
    rw [CRows_iff]
    intro i r hr
    simp only [List.getElem?_map, Option.map_eq_some_iff] at hr
    obtain ⟨c, hi, rfl⟩ := hr
    obtain ⟨hil, rfl⟩ := List.getElem?_eq_some_iff.1 hi
    refine ⟨rfl, ⟨_, ?_, rfl⟩, trivial⟩
    simp only [World.cell?, hg, Option.isSome_none, Bool.false_eq_true, if_false]
    have := congrArg (·[i]?) htake
    simp only [Nat.mul_one, Lib.byteCells, List.getElem?_map, hi, Option.map_some] at this
    rw [List.getElem?_take, if_pos hil] at this
    rw [Nat.zero_add, Nat.mul_one, ← Array.getElem?_toList]
    exact this
def partRow (l : List UInt8) : List AVal := [.slice 1 (l.map byteRow)]
def unparts : List (List AVal) → Option (List (List UInt8))
  | [] => some []
  | [.slice 1 es] :: rs => (unbyte es).bind fun l => (unparts rs).bind fun ls => some (l :: ls)
  | _ => none
theorem unparts_spec : ∀ (rs : List (List AVal)) (ps : List (List UInt8)), unparts rs = some ps → rs = ps.map partRow
  | [], ps, h => by simp only [unparts, Option.some.injEq] at h; subst h; rfl
  | r :: rs, ps, h => by
    unfold unparts at h
    split at h
    · rename_i e; cases e
    · rename_i es rs' e
      simp only [List.cons.injEq] at e
      obtain ⟨rfl, rfl⟩ := e
      simp only [Option.bind_eq_some_iff, Option.some.injEq] at h
      obtain ⟨l, h1, ls, h2, rfl⟩ := h
      have := unbyte_spec _ _ h1
      subst this
      have := unparts_spec _ _ h2
      subst this
      rfl
    · cases h
/-- A nil among the parts. -/
def normRow : List AVal → List AVal
  | [.sc (.slice none 0 0)] => [.slice 1 []]
  | r => r
theorem normRow_part (p : List UInt8) : normRow (partRow p) = partRow p := rfl
theorem normRow_parts (ps : List (List UInt8)) : (ps.map partRow).map normRow = ps.map partRow := by rw [List.map_map]; rfl
theorem normRow_cells {S : Nat → Prop} {w : World} {b off : Nat} {r : List AVal} (h : r.length = 1 ∧ CCells S w b off r) : (normRow r).length = 1 ∧ CCells S w b off (normRow r) := by
  unfold normRow
  split
  · obtain ⟨_, ⟨⟨x, h1, h2⟩, _⟩⟩ := h
    refine ⟨rfl, ⟨x, h1, ?_⟩, trivial⟩
    simp only [CRel] at h2
    subst h2
    exact ⟨none, 0, rfl, Nat.le_refl _, fun h => absurd rfl h⟩
  · exact h
theorem normRow_rows {S : Nat → Prop} {w : World} {b : Nat} : ∀ {rs : List (List AVal)} {off : Nat}, CRows S w b off 1 rs → CRows S w b off 1 (rs.map normRow)
  | [], _, _ => trivial
  | r :: rs, off, ⟨h1, h2, h3⟩ => ⟨(normRow_cells ⟨h1, h2⟩).1, (normRow_cells ⟨h1, h2⟩).2, normRow_rows h3⟩
theorem concat_spec (rs : List (List AVal)) (ps : List (List UInt8)) (hn : rs.map normRow = ps.map partRow) (h0 : ps ≠ []) (h1 : ps.length ≤ 1000000) (h2 : ps.flatten.length ≤ 1000000000000) : Am.Spec E 106 [.slice 1 rs] (.slice 1 (ps.flatten.map byteRow)) [] := by
  intro S w xs U _ hG hst hor hnd hb
  obtain ⟨y, ys, U1, U2, rfl, rfl, ⟨⟨a, cap, rfl, _, hc⟩, rfl⟩, ⟨rfl, rfl⟩⟩ := hor
  have hlen : rs.length = ps.length := by have := congrArg List.length hn; simpa using this
  obtain ⟨b, off, rfl, hS, hr⟩ := hc (fun e => h0 (List.length_eq_zero_iff.1 (by rw [← hlen, e]; rfl)))
  have hr := normRow_rows hr
  rw [hn] at hr
  rw [hlen]
  refine (concat_walk ps b off cap w (hst b hS) h1 h2 fun i hi => ?_).mono ?_
  · rw [CRows_iff] at hr
    obtain ⟨_, h2⟩ := hr i (partRow ps[i]) (by simp [hi])
    obtain ⟨⟨x, h3, h4⟩, _⟩ := h2
    obtain ⟨a', cap', rfl, _, hc'⟩ := h4
    refine ⟨a', cap', by rw [List.length_map] at h3; simpa using h3, fun hne => ?_⟩
    obtain ⟨b', off', rfl, hS', hr'⟩ := hc' (by simpa using hne)
    refine ⟨b', off', rfl, hst b' hS', fun j hj => ?_⟩
    rw [CRows_iff] at hr'
    obtain ⟨_, g2⟩ := hr' j (byteRow ps[i][j]) (by simp [hj])
    obtain ⟨⟨x, g3, g4⟩, _⟩ := g2
    simp only [CRel] at g4
    subst g4
    simpa using g3
  · rintro e w' ⟨v, rfl, hown, hbl⟩
    exact ⟨v, [], rfl, Keep.same hbl.os hbl.tape hbl.output hbl.size (fun k hk => hbl.block k hk), ⟨v, [], [], [], rfl, rfl, slice_of_own hown, rfl, rfl⟩, List.nodup_nil, fun b hb => by cases hb⟩
def concatO : List Nat → List AVal → Option Res := fun _ ds => match ds with
  | [.slice 1 es] => (unparts (es.map normRow)).bind fun ps => gu (ps ≠ [] ∧ ps.length ≤ 1000000 ∧ ps.flatten.length ≤ 1000000000000) (some (.slice 1 (ps.flatten.map byteRow), []))
  | _ => none
theorem concatO_ok : ∀ ex ds q, concatO ex ds = some q → SpecX E ex 106 ds q.1 q.2 := by
  intro ex ds q hq
  unfold concatO at hq
  split at hq
  · rename_i es
    rw [Option.bind_eq_some_iff] at hq
    obtain ⟨ps, h1, h2⟩ := hq
    simp only [gu_some, Option.some.injEq] at h2
    obtain ⟨⟨g1, g2, g3⟩, rfl⟩ := h2
    exact specX_of_spec (concat_spec es ps (unparts_spec _ _ h1) g1 g2 g3)
  · cases hq


end Go.Proofs.YtccfjidpdlfenaaGreatDoor
namespace Go.Proofs.YtccfjidpdlfenaaGreatDoor
open Go.Am
set_option linter.unusedSimpArgs false
set_option linter.unusedVariables false
set_option maxRecDepth 100000

/-! Functions of the library, by their contracts. -/

/-- slices.Clone, handed over whole. -/
def cloneUO (st : Nat) : List Nat → List AVal → Option Res := fun _ ds => match ds with
  | [.slice st' es] => gu (st' = st) (gu (okRows es = true) (some (.usl st es, [])))
  | _ => none

theorem cloneUO_ok {E : Env} {f : FuncId} {st : Nat} (h0 : Am.Spec E f [.slice st []] (.usl st []) []) (h : ∀ r rs, okRows (r :: rs) = true → Am.Spec E f [.slice st (r :: rs)] (.usl st (r :: rs)) []) :
    ∀ ex ds q, cloneUO st ex ds = some q → SpecX E ex f ds q.1 q.2 := by
  intro ex ds q hq
  unfold cloneUO at hq
  split at hq
  · rename_i st' es
    simp only [gu_some, Option.some.injEq] at hq
    obtain ⟨rfl, h1, rfl⟩ := hq
    refine specX_of_spec ?_
    cases es with
    | nil => exact h0
    | cons r rs => exact h r rs h1
  · cases hq

theorem cloneB_0 : Am.Spec E 141 [.slice 1 []] (.usl 1 []) [] := by
  refine spec_empty (fun c => ?_) (fun a c => ?_)
  · refine fnE_sound (X := C0.X) (M := C0.M) mixed (fun f g ex ds q h => by cases h) (q := (.usl 1 [], [])) ?_
    show fn C0 141 [] _ = _
    rw [fn_text Tryz.func141 rfl rfl Tryz.results141 fq141.1 rfl rfl (by kernel_rfl)]
    simp -implicitDefEqProofs -dsimp +contextual (maxSteps := 9999999) (disch := first | omega | simp only [go_sem] <;> omega | refine ib ?_; kernel_rfl) only [go_sem, seval, ↓reduceIte]
  · refine fnE_sound (X := C0.X) (M := C0.M) mixed (fun f g ex ds q h => by cases h) (q := (.usl 1 [], [])) ?_
    show fn C0 141 [] _ = _
    rw [fn_text Tryz.func141 rfl rfl Tryz.results141 fq141.1 rfl rfl (by kernel_rfl)]
    simp -implicitDefEqProofs -dsimp +contextual (maxSteps := 9999999) (disch := first | omega | simp only [go_sem] <;> omega | refine ib ?_; kernel_rfl) only [go_sem, seval, ↓reduceIte]
theorem cloneB_1 (r : List AVal) (rs : List (List AVal)) (h : okRows (r :: rs) = true) : Am.Spec E 141 [.slice 1 (r :: rs)] (.usl 1 (r :: rs)) [] := by
  simp only [okRows, Bool.and_eq_true, decide_eq_true_eq, List.all_cons, ones_cons, List.length_cons] at h
  obtain ⟨h1, ⟨h2, h3⟩, h4, h5⟩ := h
  refine fnE_sound (X := C0.X) (M := C0.M) mixed (fun f g ex ds q h => by cases h) (q := (.usl 1 (r :: rs), [])) ?_
  show fn C0 141 [] _ = _
  rw [fn_text Tryz.func141 rfl rfl Tryz.results141 fq141.1 rfl rfl (by kernel_rfl)]
  simp -implicitDefEqProofs -dsimp +contextual (maxSteps := 9999999) (disch := first | omega | simp only [go_sem] <;> omega | refine ib ?_; kernel_rfl) only [go_sem, seval, ↓reduceIte, h2, h3, h4, h5]
def cloneB : List Nat → List AVal → Option Res := cloneUO 1
theorem cloneB_ok : ∀ ex ds q, cloneB ex ds = some q → SpecX E ex 141 ds q.1 q.2 := cloneUO_ok cloneB_0 cloneB_1

def own : Own := ownOf [(106, concatO), (141, cloneB)]
noncomputable def C : Cf := ⟨E, M, own⟩
@[go_sem] theorem C_E : C.E = E := rfl
@[go_sem] theorem C_M : C.M = M := rfl
@[go_sem] theorem C_X : C.X = own := rfl
theorem own_ok : OwnOk C.E C.X := ownOf_ok fun p hp => by
  simp only [List.mem_cons, List.not_mem_nil, or_false] at hp
  rcases hp with rfl | rfl
  · exact concatO_ok
  · exact cloneB_ok
theorem ow_106 (ex ds) : fn C 106 ex ds = concatO ex ds := fn_own rfl ex ds
theorem ow_141 (ex ds) : fn C 141 ex ds = cloneB ex ds := fn_own rfl ex ds

theorem unparts_two (a b : List UInt8) : unparts (List.map normRow [[.slice 1 (a.map byteRow)], [.slice 1 (b.map byteRow)]]) = some [a, b] := by
  simp [normRow, unparts, unbyte_map]
@[go_sem] theorem e106 (a b : List UInt8) (h : a.length + b.length ≤ 1000000000000) : fn C 106 [] [.slice 1 [[.slice 1 (a.map byteRow)], [.slice 1 (b.map byteRow)]]] = some (.slice 1 ((a ++ b).map byteRow), []) := by
  rw [ow_106]; simp only [concatO]; rw [unparts_two]; simp [gu, h]
theorem unparts_map (ps : List (List UInt8)) : unparts (ps.map partRow) = some ps := by
  induction ps with
  | nil => rfl
  | cons p ps ih => simp [unparts, partRow, unbyte_map] at ih ⊢; rw [ih]; rfl
theorem concat_all (p : List UInt8) (rs : List (List AVal)) (ps : List (List UInt8)) (hn : rs.map normRow = ps.map partRow) (h1 : ps.length ≤ 1000) (h : (p ++ ps.flatten).length ≤ 1000000000000) : fn C 106 [] [.slice 1 ([.slice 1 (p.map byteRow)] :: rs)] = some (.slice 1 ((p ++ ps.flatten).map byteRow), []) := by
  have e : ([.slice 1 (p.map byteRow)] :: rs).map normRow = (p :: ps).map partRow := by rw [List.map_cons, hn]; rfl
  rw [ow_106]
  simp only [concatO]
  rw [e]
  simp only [unparts_map, Option.bind_some, gu, List.flatten_cons]
  rw [if_pos ⟨by simp, by simp; omega, h⟩]
@[go_sem] theorem e141 (l : List UInt8) (h : l.length ≤ 1073741824) : fn C 141 [] [.slice 1 (l.map byteRow)] = some (.usl 1 (l.map byteRow), []) := by
  rw [ow_141]; simp [cloneB, cloneUO, gu, okRows_byte, h]

end Go.Proofs.YtccfjidpdlfenaaGreatDoor
namespace Go.Proofs.YtccfjidpdlfenaaGreatDoor
open Go.Am
set_option linter.unusedSimpArgs false
set_option linter.unusedVariables false
set_option maxRecDepth 100000
def okB (b : UInt8) : Bool := decide (32 < b.toNat) && decide (b.toNat < 127)
def keyR (l : List UInt8) : Bool := decide (1 ≤ l.length) && decide (l.length ≤ 24) && l.all okB

@[go_sem] theorem e94 (l : List UInt8) : fn C 94 [] [.str l] = some (.bool (decide (l.length ≤ 32)), []) := by
  rw [fn_text Tryz.func94 rfl rfl Tryz.results94 fq94.1 rfl rfl (by kernel_rfl)]
  simp -implicitDefEqProofs -dsimp +contextual (maxSteps := 9999999) (disch := first | omega | simp only [go_sem] <;> omega | refine ib ?_; kernel_rfl) only [go_sem, seval, ↓reduceIte] <;>
  exact Res_bool (by simp; omega)

@[go_sem] theorem e95 (l : List UInt8) : fn C 95 [] [.str l] = some (.bool (keyR l), []) := by
  rw [fn_text Tryz.func95 rfl rfl Tryz.results95 fq95.1 rfl rfl (by kernel_rfl)]
  simp -implicitDefEqProofs -dsimp +contextual (maxSteps := 9999999) (disch := first | omega | simp only [go_sem] <;> omega | refine ib ?_; kernel_rfl) only [go_sem, seval, ↓reduceIte]
  (repeat' (refine kD_intro (fun _ => ?_) (fun _ => ?_)))
  · exact Res_bool (by simp [keyR]; omega)
  · exact Res_bool (by simp [keyR]; omega)
  refine (kLoop_rec (fun i f H => f 0 = .str l ∧ f 3 = .int .i64 (i : Nat) ∧ H = Heap.nil ∧ i ≤ l.length) (fun i => l.length - i) (fun i => some (.bool ((l.drop i).all okB), [])) ?_ 0 _ _ ⟨rfl, rfl, rfl, by omega⟩).trans ?_
  · rintro i f _ ⟨h0, h3, rfl, hi⟩ ih
    by_cases hl : i < l.length
    · rw [List.drop_eq_getElem_cons hl]
      simp -implicitDefEqProofs -dsimp +contextual (maxSteps := 9999999) (disch := first | omega | simp only [go_sem] <;> omega | refine ib ?_; kernel_rfl) only [go_sem, seval, ↓reduceIte, h0, h3, hl]
      (repeat' (refine kD_intro (fun _ => ?_) (fun _ => ?_)))
      · exact Res_bool (by simp [okB] <;> omega)
      · exact Res_bool (by simp [okB] <;> omega)
      · have hb : okB l[i] = true := by simp [okB] <;> omega
        exact (ih (i + 1) _ _ (by exact ⟨h0, rfl, rfl, by omega⟩) (by omega)).trans (by simp [hb])
    · simp -implicitDefEqProofs -dsimp +contextual (maxSteps := 9999999) (disch := first | omega | simp only [go_sem] <;> omega | refine ib ?_; kernel_rfl) only [go_sem, seval, ↓reduceIte, h0, h3, hl] <;>
      exact Res_bool (by simp [show i = l.length by omega])
  · exact Res_bool (by simp [keyR]; omega)

@[go_sem] theorem e93 (l : List UInt8) (hl : l.length ≤ 9223372036854775807) : fn C 93 [] [.str l] = some (.bool (keyR l), []) := by
  rw [fn_text Tryz.func93 rfl rfl Tryz.results93 fq93.1 rfl rfl (by kernel_rfl)]
  simp -implicitDefEqProofs -dsimp +contextual (maxSteps := 9999999) (disch := first | omega | simp only [go_sem] <;> omega | refine ib ?_; kernel_rfl) only [go_sem, seval, ↓reduceIte]
  refine (kLoop_rec (fun i f H => f 0 = .str l ∧ f 5 = .int .i64 l.length ∧ f 6 = .int .i64 (i : Nat) ∧ H = Heap.nil ∧ i ≤ l.length) (fun i => l.length - i) (fun i => some (.bool (decide (1 ≤ l.length) && decide (l.length ≤ 24) && (l.drop i).all okB), [])) ?_ 0 _ _ ⟨rfl, rfl, rfl, rfl, by omega⟩).trans rfl
  rintro i f _ ⟨h0, h5, h6, rfl, hi⟩ ih
  by_cases hl : i < l.length
  · rw [List.drop_eq_getElem_cons hl]
    simp -implicitDefEqProofs -dsimp +contextual (maxSteps := 9999999) (disch := first | omega | simp only [go_sem] <;> omega | refine ib ?_; kernel_rfl) only [go_sem, seval, ↓reduceIte, h0, h5, h6, hl]
    (repeat' (refine kD_intro (fun _ => ?_) (fun _ => ?_)))
    · exact Res_bool (by simp [okB] <;> omega)
    · exact Res_bool (by simp [okB] <;> omega)
    · have hb : okB l[i] = true := by simp [okB] <;> omega
      exact (ih (i + 1) _ _ (by exact ⟨h0, h5, rfl, rfl, by omega⟩) (by omega)).trans (by simp [hb])
  · simp -implicitDefEqProofs -dsimp +contextual (maxSteps := 9999999) (disch := first | omega | simp only [go_sem] <;> omega | refine ib ?_; kernel_rfl) only [go_sem, seval, ↓reduceIte, h0, h5, h6, hl]
    obtain rfl : i = l.length := by omega
    cases l with
    | nil => simp -implicitDefEqProofs -dsimp +contextual (maxSteps := 9999999) (disch := first | omega | simp only [go_sem] <;> omega | refine ib ?_; kernel_rfl) only [go_sem, seval, ↓reduceIte]
    | cons b l => simp -implicitDefEqProofs -dsimp +contextual (maxSteps := 9999999) (disch := first | omega | simp only [go_sem] <;> omega | refine ib ?_; kernel_rfl) only [go_sem, seval, ↓reduceIte] <;> exact Res_bool (by simp <;> omega)

end Go.Proofs.YtccfjidpdlfenaaGreatDoor
namespace Go.Proofs.YtccfjidpdlfenaaGreatDoor
open Go.Am
set_option linter.unusedSimpArgs false
set_option linter.unusedVariables false
set_option maxRecDepth 100000
structure It where
  k : List UInt8
  v : List UInt8
  n : Int
  g : Bool
deriving DecidableEq
def It.cs (x : It) : List AVal := [.str x.k, .str x.v, .int .i64 x.n, .bool x.g]
def zeroIt : It := ⟨[], [], 0, false⟩
@[go_sem] theorem zeroIt_k : zeroIt.k = [] := rfl
@[go_sem] theorem zeroIt_v : zeroIt.v = [] := rfl
@[go_sem] theorem zeroIt_n : zeroIt.n = 0 := rfl
@[go_sem] theorem zeroIt_g : zeroIt.g = false := rfl
@[go_sem] theorem It.cs_eq (x : It) : x.cs = [.str x.k, .str x.v, .int .i64 x.n, .bool x.g] := rfl
@[go_sem] theorem It.ones_cs (l : List It) : ones (l.map It.cs) = true := ones_map _ _ fun x => rfl
@[go_sem] theorem It.clos_cs (l : List It) : (l.map It.cs).all clos = true := allclos_map _ (fun _ => rfl) l
@[go_sem] theorem It.flat_cs (l : List It) : flatss (l.map It.cs) = true := flatss_map _ (fun _ => rfl) l
@[go_sem] theorem It.ok_cs (l : List It) : okRows (l.map It.cs) = decide (l.length ≤ 1073741824) := okRows_map _ (fun _ => rfl) (fun _ => rfl) l
@[go_sem] theorem It.eta (x : It) : (⟨x.k, x.v, x.n, x.g⟩ : It) = x := rfl
@[go_sem] theorem It.set_cs (l : List It) (j : Nat) (k v : List UInt8) (n : Int) (g : Bool) : (l.map It.cs).set j [.str k, .str v, .int .i64 n, .bool g] = (l.set j ⟨k, v, n, g⟩).map It.cs := by rw [List.map_set]; rfl
@[go_sem] theorem It.app_cs (l : List It) (k v : List UInt8) (n : Int) (g : Bool) : l.map It.cs ++ [[.str k, .str v, .int .i64 n, .bool g]] = (l ++ [(⟨k, v, n, g⟩ : It)]).map It.cs := by rw [List.map_append]; rfl
theorem It.eq_iff (x y : It) : x = y ↔ x.k = y.k ∧ x.v = y.v ∧ x.n = y.n ∧ x.g = y.g := by cases x; cases y; simp

def itemR (x : It) : Bool := keyR x.k && decide (x.v.length ≤ 32) && decide (1 ≤ x.n) && decide (x.n ≤ 1073741824)

@[go_sem] theorem e66 (k v : List UInt8) (n : Int) (g : Bool) : fn C 66 [] [.agg [.str k, .str v, .int .i64 n, .bool g]] = some (.bool (itemR ⟨k, v, n, g⟩), []) := by
  rw [fn_text Tryz.func66 rfl rfl Tryz.results66 fq66.1 rfl rfl (by kernel_rfl)]
  simp -implicitDefEqProofs -dsimp +contextual (maxSteps := 9999999) (disch := first | omega | simp only [go_sem] <;> omega | refine ib ?_; kernel_rfl) only [go_sem, seval, ↓reduceIte]
  (repeat' (refine kD_intro (fun _ => ?_) (fun _ => ?_))) <;> exact Res_bool (by simp [itemR, *]; try omega)

@[go_sem] theorem e65 (k v : List UInt8) (n : Int) (g : Bool) (hk : k.length ≤ 9223372036854775807) : fn C 65 [] [.agg [.str k, .str v, .int .i64 n, .bool g]] = some (.bool (itemR ⟨k, v, n, g⟩), []) := by
  rw [fn_text Tryz.func65 rfl rfl Tryz.results65 fq65.1 rfl rfl (by kernel_rfl)]
  simp -implicitDefEqProofs -dsimp +contextual (maxSteps := 9999999) (disch := first | omega | simp only [go_sem] <;> omega | refine ib ?_; kernel_rfl) only [go_sem, seval, ↓reduceIte]
  (repeat' (refine kD_intro (fun _ => ?_) (fun _ => ?_))) <;> exact Res_bool (by simp [itemR, *]; try omega)

@[go_sem] theorem eqItem (a b a' b' : List UInt8) (c c' : Int) (d d' : Bool) : eqF E.P 8 65 (.agg [.str a, .str b, .int .i64 c, .bool d]) (.agg [.str a', .str b', .int .i64 c', .bool d']) = some (decide ((⟨a, b, c, d⟩ : It) = ⟨a', b', c', d'⟩)) := by
  have u26 : E.P.underlying 65 = _ := Tryz.underlying65
  have u9 : E.P.underlying 9 = _ := Tryz.underlying9
  have u3 : E.P.underlying 3 = _ := Tryz.underlying3
  have u4 : E.P.underlying 4 = _ := Tryz.underlying4
  have hs : E.P.stoodInHeld 65 = false := by kernel_rfl
  simp [eqF, eqGo, u26, u9, u3, u4, hs, tq9.1, tq9.2.1, tq3.1, tq3.2.1, tq4.1, tq4.2.1, mkV, beq_dec, Bool.and_assoc, ← Bool.decide_and]

@[go_sem] theorem e21 (a b : List It) (hl : a.length ≤ 9223372036854775807) : fn C 21 [] [.slice 4 (a.map It.cs), .slice 4 (b.map It.cs)] = some (.bool (decide (a = b)), []) := by
  rw [fn_text Tryz.func21 rfl rfl Tryz.results21 fq21.1 rfl rfl (by kernel_rfl)]
  simp -implicitDefEqProofs -dsimp +contextual (maxSteps := 9999999) (disch := first | omega | simp only [go_sem] <;> omega | refine ib ?_; kernel_rfl) only [go_sem, seval, ↓reduceIte]
  (repeat' (refine kD_intro (fun _ => ?_) (fun _ => ?_)))
  · rename_i h1
    refine (kLoop_rec (fun i f H => f 0 = .slice 4 (a.map It.cs) ∧ f 1 = .slice 4 (b.map It.cs) ∧ f 5 = .int .i64 (i : Nat) ∧ H = Heap.nil ∧ i ≤ a.length ∧ a.take i = b.take i) (fun i => a.length - i) (fun i => some (.bool (decide (a = b)), [])) ?_ 0 _ _ ⟨rfl, rfl, rfl, rfl, by omega, rfl⟩).trans rfl
    rintro i f _ ⟨h0, h2, h5, rfl, hi, ht⟩ ih
    by_cases hl : i < a.length
    · simp -implicitDefEqProofs -dsimp +contextual (maxSteps := 9999999) (disch := first | omega | simp only [go_sem] <;> omega | refine ib ?_; kernel_rfl) only [go_sem, seval, ↓reduceIte, h0, h2, h5, hl, h1]
      (repeat' (refine kD_intro (fun _ => ?_) (fun _ => ?_)))
      · rename_i he
        refine ih (i + 1) _ _ ⟨h0, h2, rfl, rfl, by omega, ?_⟩ (by omega)
        rw [List.take_succ_eq_append_getElem hl, List.take_succ_eq_append_getElem (by omega), ht, he]
      · rename_i he
        have : ¬ a = b := fun e => he (by subst e; rfl)
        exact Res_bool (by simp [this])
    · simp -implicitDefEqProofs -dsimp +contextual (maxSteps := 9999999) (disch := first | omega | simp only [go_sem] <;> omega | refine ib ?_; kernel_rfl) only [go_sem, seval, ↓reduceIte, h0, h2, h5, hl]
      obtain rfl : i = a.length := by omega
      have : a = b := by rw [List.take_length, h1, List.take_length] at ht; exact ht
      exact Res_bool (by simp [this])
  · rename_i h
    have : ¬ a = b := fun e => h (by rw [e])
    exact Res_bool (by simp [this])

end Go.Proofs.YtccfjidpdlfenaaGreatDoor
namespace Go.Proofs.YtccfjidpdlfenaaGreatDoor
open Go.Am
set_option linter.unusedSimpArgs false
set_option linter.unusedVariables false
set_option maxRecDepth 100000
def placeR (l : List It) (key : List UInt8) : Int := if l.findIdx (fun x => decide (x.k = key)) < l.length then (l.findIdx (fun x => decide (x.k = key)) : Nat) else -1
theorem all_take {α : Type} {p : α → Bool} {l : List α} {i : Nat} (h : i < l.length) (h1 : (l.take i).all p = true) (h2 : p l[i] = true) : (l.take (i + 1)).all p = true := by
  rw [List.take_succ_eq_append_getElem h, List.all_append, h1]; simp [h2]
theorem place_at {l : List It} {key : List UInt8} {i : Nat} (h : i < l.length) (hn : (l.take i).all (fun x => !decide (x.k = key)) = true) (he : l[i].k = key) : placeR l key = i := by
  have : l.findIdx (fun x => decide (x.k = key)) = i := by
    rw [List.findIdx_eq h]
    refine ⟨by simpa using he, fun j hj => ?_⟩
    have := List.all_eq_true.1 hn l[j] (by
      rw [List.mem_take_iff_getElem]; exact ⟨j, by omega, rfl⟩)
    simpa using this
  unfold placeR
  rw [this, if_pos h]
theorem place_none {l : List It} {key : List UInt8} (hn : l.all (fun x => !decide (x.k = key)) = true) : placeR l key = -1 := by
  unfold placeR
  rw [if_neg]
  intro hlt
  have := List.findIdx_getElem (w := hlt)
  have h2 := List.all_eq_true.1 hn _ (List.getElem_mem hlt)
  simp only [Bool.not_eq_true', decide_eq_false_iff_not] at h2
  exact h2 (by simpa using this)
def getR (l : List It) (key : List UInt8) : It × Bool := match l.find? (fun x => decide (x.k = key)) with | some x => (x, true) | none => (zeroIt, false)
theorem get_at {l : List It} {key : List UInt8} {i : Nat} (h : i < l.length) (hn : (l.take i).all (fun x => !decide (x.k = key)) = true) (he : l[i].k = key) : getR l key = (l[i], true) := by
  have : l.find? (fun x => decide (x.k = key)) = some l[i] := by
    rw [List.find?_eq_some_iff_getElem]
    refine ⟨by simpa using he, i, h, rfl, fun j hj => ?_⟩
    have := List.all_eq_true.1 hn l[j] (by
      rw [List.mem_take_iff_getElem]; exact ⟨j, by omega, rfl⟩)
    simpa using this
  simp [getR, this]
theorem get_none {l : List It} {key : List UInt8} (hn : l.all (fun x => !decide (x.k = key)) = true) : getR l key = (zeroIt, false) := by
  have : l.find? (fun x => decide (x.k = key)) = none := by
    rw [List.find?_eq_none]
    intro x hx
    have := List.all_eq_true.1 hn x hx
    simpa using this
  simp [getR, this]
/-- Where a key is. -/
theorem place_cases (l : List It) (key : List UInt8) : (∃ (j : Nat) (h : j < l.length), l[j].k = key ∧ (l.take j).all (fun x => !decide (x.k = key)) = true ∧ placeR l key = j ∧ getR l key = (l[j], true)) ∨ (l.all (fun x => !decide (x.k = key)) = true ∧ placeR l key = -1 ∧ getR l key = (zeroIt, false)) := by
  by_cases h : l.all (fun x => !decide (x.k = key)) = true
  · exact .inr ⟨h, place_none h, get_none h⟩
  · left
    have hlt : l.findIdx (fun x => decide (x.k = key)) < l.length := by
      rw [List.findIdx_lt_length]
      simp only [List.all_eq_true, Bool.not_eq_true', decide_eq_false_iff_not, Classical.not_forall, Classical.not_not] at h
      obtain ⟨x, hx, he⟩ := h
      exact ⟨x, hx, by simpa using he⟩
    have he : l[l.findIdx (fun x => decide (x.k = key))].k = key := by
      have := List.findIdx_getElem (w := hlt); simpa using this
    have hn : (l.take (l.findIdx (fun x => decide (x.k = key)))).all (fun x => !decide (x.k = key)) = true := by
      rw [List.all_eq_true]
      intro x hx
      rw [List.mem_take_iff_getElem] at hx
      obtain ⟨j, hj, rfl⟩ := hx
      have := List.not_of_lt_findIdx (p := fun x : It => decide (x.k = key)) (xs := l) (i := j) (by omega)
      simpa using this
    exact ⟨_, hlt, he, hn, place_at hlt hn he, get_at hlt hn he⟩

theorem less_at (a b : List UInt8) (i : Nat) (h : a.take i = b.take i) (ha : i < a.length) (hb : i < b.length) (hne : a[i] ≠ b[i]) : Op.bytesLess a b = decide (a[i].toNat < b[i].toNat) := by
  induction i generalizing a b with
  | zero =>
    cases a with
    | nil => simp at ha
    | cons x a =>
      cases b with
      | nil => simp at hb
      | cons y b =>
        simp only [List.getElem_cons_zero] at hne ⊢
        simp [Op.bytesLess, hne, UInt8.lt_iff_toNat_lt]
  | succ i ih =>
    cases a with
    | nil => simp at ha
    | cons x a =>
      cases b with
      | nil => simp at hb
      | cons y b =>
        simp only [List.take_succ_cons, List.cons.injEq] at h
        obtain ⟨rfl, h⟩ := h
        simp only [List.getElem_cons_succ] at hne ⊢
        rw [← ih a b h (by simpa using ha) (by simpa using hb) hne]
        simp [Op.bytesLess]
theorem less_len (a b : List UInt8) (i : Nat) (hi : i ≤ a.length) (hi' : i ≤ b.length) (h : a.take i = b.take i) (he : i = a.length ∨ i = b.length) : Op.bytesLess a b = decide (a.length < b.length) := by
  induction i generalizing a b with
  | zero =>
    cases a with
    | nil => cases b <;> simp [Op.bytesLess]
    | cons x a =>
      cases b with
      | nil => simp [Op.bytesLess]
      | cons y b => simp at he
  | succ i ih =>
    cases a with
    | nil => simp at hi
    | cons x a =>
      cases b with
      | nil => simp at hi'
      | cons y b =>
        simp only [List.take_succ_cons, List.cons.injEq] at h
        obtain ⟨rfl, h⟩ := h
        have := ih a b (by simpa using hi) (by simpa using hi') h (by simpa using he)
        simp [Op.bytesLess, this]

@[go_sem] theorem e67 (a b : List UInt8) (hl : a.length ≤ 9223372036854775807) (hm : b.length ≤ 9223372036854775807) : fn C 67 [] [.str a, .str b] = some (.bool (Op.bytesLess a b), []) := by
  rw [fn_text Tryz.func67 rfl rfl Tryz.results67 fq67.1 rfl rfl (by kernel_rfl)]
  simp -implicitDefEqProofs -dsimp +contextual (maxSteps := 9999999) (disch := first | omega | simp only [go_sem] <;> omega | refine ib ?_; kernel_rfl) only [go_sem, seval, ↓reduceIte]
  refine (kLoop_rec (fun i f H => f 0 = .str a ∧ f 1 = .str b ∧ f 5 = .int .i64 (i : Nat) ∧ H = Heap.nil ∧ i ≤ a.length ∧ i ≤ b.length ∧ a.take i = b.take i) (fun i => a.length - i) (fun i => some (.bool (Op.bytesLess a b), [])) ?_ 0 _ _ ⟨rfl, rfl, rfl, rfl, by omega, by omega, rfl⟩).trans rfl
  rintro i f _ ⟨h0, h1, h5, rfl, hi, hj, ht⟩ ih
  by_cases h4 : i < a.length
  · by_cases h6 : i < b.length
    · simp -implicitDefEqProofs -dsimp +contextual (maxSteps := 9999999) (disch := first | omega | simp only [go_sem] <;> omega | refine ib ?_; kernel_rfl) only [go_sem, seval, ↓reduceIte, h0, h1, h5, h4, h6]
      (repeat' (refine kD_intro (fun _ => ?_) (fun _ => ?_)))
      · rename_i he
        refine ih (i + 1) _ _ ⟨h0, h1, rfl, rfl, by omega, by omega, ?_⟩ (by omega)
        rw [List.take_succ_eq_append_getElem h4, List.take_succ_eq_append_getElem h6, ht, UInt8.toNat_inj.1 he]
      · rename_i he
        rw [less_at a b i ht h4 h6 (fun e => he (by rw [e]))]
    · simp -implicitDefEqProofs -dsimp +contextual (maxSteps := 9999999) (disch := first | omega | simp only [go_sem] <;> omega | refine ib ?_; kernel_rfl) only [go_sem, seval, ↓reduceIte, h0, h1, h5, h4, h6]
      rw [less_len a b i hi hj ht (.inr (by omega))]
  · simp -implicitDefEqProofs -dsimp +contextual (maxSteps := 9999999) (disch := first | omega | simp only [go_sem] <;> omega | refine ib ?_; kernel_rfl) only [go_sem, seval, ↓reduceIte, h0, h1, h5, h4]
    (repeat' (refine kD_intro (fun _ => ?_) (fun _ => ?_))) <;> rw [less_len a b i hi hj ht (.inl (by omega))]

def chainR : Option It → List It → Bool
  | _, [] => true
  | p, x :: r => itemR x && (match p with | none => true | some y => Op.bytesLess y.k x.k) && chainR (some x) r
def rightR (l : List It) : Bool := chainR none l && decide (l.length ≤ 16)
def prevR (l : List It) (i : Nat) : Option It := if i = 0 then none else l[i - 1]?

@[go_sem] theorem e40 (l : List It) (hl : l.length ≤ 9223372036854775807) (hk : ∀ x ∈ l, x.k.length ≤ 9223372036854775807) : fn C 40 [] [.slice 4 (l.map It.cs)] = some (.bool (rightR l), []) := by
  rw [fn_text Tryz.func40 rfl rfl Tryz.results40 fq40.1 rfl rfl (by kernel_rfl)]
  simp -implicitDefEqProofs -dsimp +contextual (maxSteps := 9999999) (disch := first | omega | simp only [go_sem] <;> omega | refine ib ?_; kernel_rfl) only [go_sem, seval, ↓reduceIte]
  refine (kLoop_rec (fun i f H => f 0 = .slice 4 (l.map It.cs) ∧ f 3 = .int .i64 (i : Nat) ∧ H = Heap.nil ∧ i ≤ l.length) (fun i => l.length - i) (fun i => some (.bool (chainR (prevR l i) (l.drop i) && decide (l.length ≤ 16)), [])) ?_ 0 _ _ ⟨rfl, rfl, rfl, by omega⟩).trans rfl
  rintro i f _ ⟨h0, h3, rfl, hi⟩ ih
  by_cases hl : i < l.length
  · rw [List.drop_eq_getElem_cons hl]
    have k1 := hk l[i] (List.getElem_mem _)
    have k2 := hk (l[i - 1]'(by omega)) (List.getElem_mem _)
    simp -implicitDefEqProofs -dsimp +contextual (maxSteps := 9999999) (disch := first | omega | simp only [go_sem] <;> omega | refine ib ?_; kernel_rfl) only [go_sem, seval, ↓reduceIte, h0, h3, hl]
    (repeat' (refine kD_intro (fun _ => ?_) (fun _ => ?_)))
    · rename_i hit h0i hle
      refine (ih (i + 1) _ _ (by exact ⟨h0, rfl, rfl, by omega⟩) (by omega)).trans ?_
      exact Res_bool (by simp [chainR, prevR, hit, show i ≠ 0 by omega, hle, List.getElem?_eq_getElem (show i - 1 < l.length by omega), hl])
    · rename_i hit h0i hle
      exact Res_bool (by simp [chainR, prevR, hit, show i ≠ 0 by omega, hle, List.getElem?_eq_getElem (show i - 1 < l.length by omega)])
    · rename_i hit h0i
      refine (ih (i + 1) _ _ (by exact ⟨h0, rfl, rfl, by omega⟩) (by omega)).trans ?_
      obtain rfl : i = 0 := by omega
      exact Res_bool (by simp [chainR, prevR, hit, hl])
    · rename_i hit
      exact Res_bool (by simp [chainR, hit])
  · simp -implicitDefEqProofs -dsimp +contextual (maxSteps := 9999999) (disch := first | omega | simp only [go_sem] <;> omega | refine ib ?_; kernel_rfl) only [go_sem, seval, ↓reduceIte, h0, h3, hl]
    obtain rfl : i = l.length := by omega
    exact Res_bool (by simp [chainR] <;> omega)

@[go_sem] theorem e39 (l : List It) (hl : l.length ≤ 9223372036854775807) (hk : ∀ x ∈ l, x.k.length ≤ 9223372036854775807) : fn C 39 [] [.slice 4 (l.map It.cs)] = some (.bool (rightR l), []) := by
  rw [fn_text Tryz.func39 rfl rfl Tryz.results39 fq39.1 rfl rfl (by kernel_rfl)]
  simp -implicitDefEqProofs -dsimp +contextual (maxSteps := 9999999) (disch := first | omega | simp only [go_sem] <;> omega | refine ib ?_; kernel_rfl) only [go_sem, seval, ↓reduceIte]
  refine (kLoop_rec (fun i f _ => f 0 = .slice 4 (l.map It.cs) ∧ f 5 = .slice 4 (l.map It.cs) ∧ f 6 = .int .i64 l.length ∧ f 7 = .int .i64 (i : Nat) ∧ i ≤ l.length) (fun i => l.length - i) (fun i => some (.bool (chainR (prevR l i) (l.drop i) && decide (l.length ≤ 16)), [])) ?_ 0 _ _ ⟨rfl, rfl, rfl, rfl, by omega⟩).trans rfl
  rintro i f H ⟨h0, h5, h6, h7, hi⟩ ih
  by_cases hl : i < l.length
  · rw [List.drop_eq_getElem_cons hl]
    have k1 := hk l[i] (List.getElem_mem _)
    have k2 := hk (l[i - 1]'(by omega)) (List.getElem_mem _)
    simp -implicitDefEqProofs -dsimp +contextual (maxSteps := 9999999) (disch := first | omega | simp only [go_sem] <;> omega | refine ib ?_; kernel_rfl) only [go_sem, seval, ↓reduceIte, h0, h5, h6, h7, hl]
    (repeat' (refine kD_intro (fun _ => ?_) (fun _ => ?_)))
    · rename_i hit h0i hle
      refine (ih (i + 1) _ _ (by exact ⟨h0, h5, h6, rfl, by omega⟩) (by omega)).trans ?_
      exact Res_bool (by simp [chainR, prevR, hit, show i ≠ 0 by omega, hle, List.getElem?_eq_getElem (show i - 1 < l.length by omega), hl])
    · rename_i hit h0i hle
      exact Res_bool (by simp [chainR, prevR, hit, show i ≠ 0 by omega, hle, List.getElem?_eq_getElem (show i - 1 < l.length by omega)])
    · rename_i hit h0i
      refine (ih (i + 1) _ _ (by exact ⟨h0, h5, h6, rfl, by omega⟩) (by omega)).trans ?_
      obtain rfl : i = 0 := by omega
      exact Res_bool (by simp [chainR, prevR, hit, hl])
    · rename_i hit
      exact Res_bool (by simp [chainR, hit])
  · simp -implicitDefEqProofs -dsimp +contextual (maxSteps := 9999999) (disch := first | omega | simp only [go_sem] <;> omega | refine ib ?_; kernel_rfl) only [go_sem, seval, ↓reduceIte, h0, h5, h6, h7, hl]
    obtain rfl : i = l.length := by omega
    exact Res_bool (by simp [chainR] <;> omega)

/-- Where a key belongs. -/
def insAt : List It → List UInt8 → Nat
  | [], _ => 0
  | x :: r, k => if Op.bytesLess x.k k = true then insAt r k + 1 else 0
def setR (l : List It) (x : It) : List It := if 0 ≤ placeR l x.k then l.set (placeR l x.k).toNat x else l.take (insAt l x.k) ++ x :: l.drop (insAt l x.k)
theorem insAt_le (l : List It) (k) : insAt l k ≤ l.length := by
  induction l with
  | nil => simp [insAt]
  | cons x r ih => simp only [insAt]; split <;> simp <;> omega
theorem insAt_eq (l : List It) (k : List UInt8) (i : Nat) (hi : i ≤ l.length) (h : ∀ j (hj : j < l.length), j < i → Op.bytesLess l[j].k k = true) (hn : ∀ (hj : i < l.length), Op.bytesLess l[i].k k = false) : insAt l k = i := by
  induction l generalizing i with
  | nil => simp at hi; simp [insAt, hi]
  | cons x r ih =>
    cases i with
    | zero => have := hn (by simp); simp at this; simp [insAt, this]
    | succ i =>
      have h0 := h 0 (by simp) (by omega)
      simp at h0
      simp only [insAt, h0, if_true]
      rw [ih i (by simpa using hi) (fun j hj hji => h (j + 1) (by simpa using hj) (by omega)) (fun hj => hn (by simpa using hj))]
theorem set_map {α β : Type} (f : α → β) (l : List α) (i : Nat) (a : α) : (l.map f).set i (f a) = (l.set i a).map f := by rw [List.map_set]

theorem ins_len (l : List It) (x : It) (i : Nat) (hi : i ≤ l.length) : (l.take i ++ x :: l.drop i).length = l.length + 1 := by simp; omega

def putV (n : Int) : Int := (if 0 > n then 0 else n) + 1
def putR (l : List It) (k v : List UInt8) (g : Bool) : List It × It × Int :=
  if keyR k = true ∧ v.length ≤ 32 then
    if (getR l k).2 = false ∧ 16 ≤ l.length then (l, zeroIt, 27)
    else if 1073741824 ≤ (getR l k).1.n then (l, zeroIt, 3)
    else (setR l ⟨k, if g = true then [] else v, putV (getR l k).1.n, g⟩, ⟨k, if g = true then [] else v, putV (getR l k).1.n, g⟩, 0)
  else (l, zeroIt, 2)
theorem getR_false (l : List It) (k : List UInt8) (h : (getR l k).2 = false) : (getR l k).1 = zeroIt := by
  unfold getR at h ⊢
  split at h
  · cases h
  · rfl
end Go.Proofs.YtccfjidpdlfenaaGreatDoor
namespace Go.Proofs.YtccfjidpdlfenaaGreatDoor
open Go.Am
set_option linter.unusedSimpArgs false
set_option linter.unusedVariables false
set_option maxRecDepth 100000
theorem setR_len (l : List It) (x : It) : (setR l x).length ≤ l.length + 1 := by
  unfold setR; split
  · simp
  · simp; omega
def mergeS (s : List It × Int) (x : It) : List It × Int :=
  if itemR x = true then
    if (getR s.1 x.k).2 = true ∧ x.n ≤ (getR s.1 x.k).1.n then s
    else if (getR s.1 x.k).2 = false ∧ 16 ≤ s.1.length then (s.1, 27)
    else (setR s.1 x, s.2)
  else s
def mergeR (l more : List It) : List It × Int := more.foldl mergeS (l, 0)
theorem mergeS_len (s : List It × Int) (x : It) : (mergeS s x).1.length ≤ s.1.length + 1 := by
  unfold mergeS
  have := setR_len s.1 x
  split
  · split
    · omega
    · split <;> simp <;> omega
  · omega
theorem foldl_len (more : List It) : ∀ s : List It × Int, (more.foldl mergeS s).1.length ≤ s.1.length + more.length := by
  induction more with
  | nil => intro s; simp
  | cons x more ih => intro s; have h1 := ih (mergeS s x); have h2 := mergeS_len s x; simp only [List.foldl_cons, List.length_cons]; omega
theorem mergeR_len (l more : List It) : (mergeR l more).1.length ≤ l.length + more.length := foldl_len more (l, 0)
theorem mergeR_succ (l more : List It) (i : Nat) (h : i < more.length) : mergeR l (more.take (i + 1)) = mergeS (mergeR l (more.take i)) more[i] := by
  rw [List.take_succ_eq_append_getElem h]; simp only [mergeR, List.foldl_append, List.foldl_cons, List.foldl_nil]

theorem setR_mem (l : List It) (x y : It) (h : y ∈ setR l x) : y ∈ l ∨ y = x := by
  unfold setR at h
  split at h
  · exact List.mem_or_eq_of_mem_set h
  · rw [List.mem_append, List.mem_cons] at h
    rcases h with h | h | h
    · exact .inl (List.mem_of_mem_take h)
    · exact .inr h
    · exact .inl (List.mem_of_mem_drop h)
theorem mergeS_mem (s : List It × Int) (x y : It) (h : y ∈ (mergeS s x).1) : y ∈ s.1 ∨ y = x := by
  unfold mergeS at h
  split at h
  · split at h
    · exact .inl h
    · split at h
      · exact .inl h
      · exact setR_mem _ _ _ h
  · exact .inl h
theorem foldl_mem (more : List It) : ∀ (s : List It × Int) (y : It), y ∈ (more.foldl mergeS s).1 → y ∈ s.1 ∨ y ∈ more := by
  induction more with
  | nil => intro s y h; exact .inl h
  | cons x more ih =>
    intro s y h
    rcases ih _ _ h with h | h
    · rcases mergeS_mem _ _ _ h with h | h
      · exact .inl h
      · exact .inr (by rw [h]; exact List.mem_cons_self)
    · exact .inr (List.mem_cons_of_mem _ h)
theorem mergeR_mem (l more : List It) (y : It) (h : y ∈ (mergeR l more).1) : y ∈ l ∨ y ∈ more := foldl_mem more (l, 0) y h

def greatR (l : List It) : Bool := decide (60 < l.length) || l.any (fun x => decide (300 < x.k.length) || decide (300 < x.v.length))

set_option maxHeartbeats 4000000 in
@[go_sem] theorem e8 (l : List It) (hl : l.length ≤ 9223372036854775807) (hk : ∀ x ∈ l, x.k.length ≤ 9223372036854775807 ∧ x.v.length ≤ 9223372036854775807) : fn C 8 [] [.slice 4 (l.map It.cs)] = some (.bool (greatR l), []) := by
  rw [fn_text Tryz.func8 rfl rfl Tryz.results8 fq8.1 rfl rfl (by kernel_rfl)]
  simp -implicitDefEqProofs -dsimp +contextual (maxSteps := 9999999) (disch := first | omega | simp only [go_sem] <;> omega | refine ib ?_; kernel_rfl) only [go_sem, seval, ↓reduceIte]
  refine kD_intro (fun h => by simp [greatR, h]) (fun h => ?_)
  refine (kLoop_rec (fun i f H => f 0 = .slice 4 (l.map It.cs) ∧ f 3 = .int .i64 (i : Nat) ∧ i ≤ l.length) (fun i => l.length - i) (fun i => some (.bool ((l.drop i).any (fun x => decide (300 < x.k.length) || decide (300 < x.v.length))), [])) ?_ 0 _ _ ⟨rfl, rfl, by omega⟩).trans (by simp [greatR, h])
  rintro i f H ⟨h0, h3, hi⟩ ih
  by_cases hl : i < l.length
  · have hki := hk l[i] (List.getElem_mem _)
    rw [List.drop_eq_getElem_cons hl]
    simp -implicitDefEqProofs -dsimp +contextual (maxSteps := 9999999) (disch := first | omega | simp only [go_sem] <;> omega | refine ib ?_; kernel_rfl) only [go_sem, seval, ↓reduceIte, h0, h3, hl]
    (repeat' (refine kD_intro (fun _ => ?_) (fun _ => ?_)))
    all_goals first
      | exact Res_bool (by simp only [List.any_cons]; simp [*])
      | exact (ih (i + 1) _ _ (by exact ⟨h0, rfl, by omega⟩) (by omega)).trans (Res_bool (by simp only [List.any_cons]; simp [*]))
  · obtain rfl : i = l.length := by omega
    simp -implicitDefEqProofs -dsimp +contextual (maxSteps := 9999999) (disch := first | omega | simp only [go_sem] <;> omega | refine ib ?_; kernel_rfl) only [go_sem, seval, ↓reduceIte, h0, h3]
    exact Res_bool (by simp)
end Go.Proofs.YtccfjidpdlfenaaGreatDoor
namespace Go.Proofs.YtccfjidpdlfenaaGreatDoor
open Go.Am
set_option linter.unusedSimpArgs false
set_option linter.unusedVariables false
set_option maxRecDepth 100000
/-! Layer 1: numbers as bytes. -/
def beN (s n : Nat) : List UInt8 := (List.range s).map fun i => UInt8.ofNat (n / 2 ^ (8 * (s - 1 - i)))
@[go_sem] theorem beN_len (s n : Nat) : (beN s n).length = s := by simp [beN]
theorem beN_get (s n i : Nat) (h : i < (beN s n).length) : (beN s n)[i] = UInt8.ofNat (n / 2 ^ (8 * (s - 1 - i))) := by simp [beN]

theorem packNum (ex : List Nat) (hex : ex = [] ∨ ex = [0]) (l : List UInt8) (n s : Nat) (hn : n ≤ 18446744073709551615) (hs1 : 1 ≤ s) (hs : s ≤ 8) (hl : l.length ≤ 1000000000) : fn C 35 ex [.usl 1 (l.map byteRow), .int .u64 (n : Int), .int .i64 (s : Int)] = some (.usl 1 ((l ++ beN s n).map byteRow), []) := by
  rcases hex with rfl | rfl
  · rw [fn_text Tryz.func35 rfl rfl Tryz.results35 fq35.1 rfl rfl (by kernel_rfl)]
    simp -implicitDefEqProofs -dsimp +contextual (maxSteps := 9999999) (disch := first | omega | simp only [go_sem] <;> omega | refine ib ?_; kernel_rfl) only [go_sem, seval, ↓reduceIte, show ¬ s < 1 by omega, show ¬ 8 < s by omega]
    refine kLoop_rec (fun (i : Nat) f H => f 0 = .osl 1 (i + 1) 0 (l.length + i) ∧ f 1 = .int .u64 (n : Int) ∧ f 2 = .int .i64 (s : Int) ∧ f 15 = .int .i64 (s : Int) ∧ f 16 = .int .i64 (i : Int) ∧ (∃ e, H 1 = ⟨i + 1, .live, 1, (l ++ (beN s n).take i).map byteRow, e⟩) ∧ i ≤ s) (fun i => s - i) (fun _ => some (.usl 1 ((l ++ beN s n).map byteRow), [])) ?_ 0 _ _ ?_
    rotate_left
    · exact ⟨rfl, rfl, rfl, rfl, rfl, ⟨_, by rw [List.take_zero, List.append_nil]; rfl⟩, by omega⟩
    rintro i f H ⟨f0, f1, f2, f15, f16, ⟨e, H1⟩, hi⟩ ih
    have hb := beN_len s n
    by_cases hl : i < s
    · have e1 : (s : Int) - 1 - (i : Int) = ((s - 1 - i : Nat) : Int) := by omega
      simp -implicitDefEqProofs -dsimp +contextual (maxSteps := 9999999) (disch := first | omega | simp only [go_sem] <;> omega | refine ib ?_; kernel_rfl) only [go_sem, seval, ↓reduceIte, f0, f1, f2, f15, f16, H1, hl, hb, e1, u8_wrap]
      have e2 : (beN s n).take (i + 1) = (beN s n).take i ++ [UInt8.ofNat (n / 2 ^ (8 * (s - 1 - i)))] := by
        rw [List.take_succ_eq_append_getElem (by omega), beN_get]
      rw [List.append_assoc, ← e2]
      exact ih (i + 1) _ _ ⟨rfl, f1, f2, f15, rfl, ⟨_, rfl⟩, by omega⟩ (by omega)
    · obtain rfl : i = s := by omega
      simp -implicitDefEqProofs -dsimp +contextual (maxSteps := 9999999) (disch := first | omega | simp only [go_sem] <;> omega | refine ib ?_; kernel_rfl) only [go_sem, seval, ↓reduceIte, f0, f1, f2, f15, f16, H1, hl, hb]
  · rw [fn_text Tryz.func35 rfl rfl Tryz.results35 fq35.1 rfl rfl (by kernel_rfl)]
    simp -implicitDefEqProofs -dsimp +contextual (maxSteps := 9999999) (disch := first | omega | simp only [go_sem] <;> omega | refine ib ?_; kernel_rfl) only [go_sem, seval, ↓reduceIte, show ¬ s < 1 by omega, show ¬ 8 < s by omega]
    refine kLoop_rec (fun (i : Nat) f H => f 0 = .osl 1 (i + 1) 0 (l.length + i) ∧ f 1 = .int .u64 (n : Int) ∧ f 2 = .int .i64 (s : Int) ∧ f 15 = .int .i64 (s : Int) ∧ f 16 = .int .i64 (i : Int) ∧ (∃ e, H 1 = ⟨i + 1, .live, 1, (l ++ (beN s n).take i).map byteRow, e⟩) ∧ i ≤ s) (fun i => s - i) (fun _ => some (.usl 1 ((l ++ beN s n).map byteRow), [])) ?_ 0 _ _ ?_
    rotate_left
    · exact ⟨rfl, rfl, rfl, rfl, rfl, ⟨_, by rw [List.take_zero, List.append_nil]; rfl⟩, by omega⟩
    rintro i f H ⟨f0, f1, f2, f15, f16, ⟨e, H1⟩, hi⟩ ih
    have hb := beN_len s n
    by_cases hl : i < s
    · have e1 : (s : Int) - 1 - (i : Int) = ((s - 1 - i : Nat) : Int) := by omega
      simp -implicitDefEqProofs -dsimp +contextual (maxSteps := 9999999) (disch := first | omega | simp only [go_sem] <;> omega | refine ib ?_; kernel_rfl) only [go_sem, seval, ↓reduceIte, f0, f1, f2, f15, f16, H1, hl, hb, e1, u8_wrap]
      have e2 : (beN s n).take (i + 1) = (beN s n).take i ++ [UInt8.ofNat (n / 2 ^ (8 * (s - 1 - i)))] := by
        rw [List.take_succ_eq_append_getElem (by omega), beN_get]
      rw [List.append_assoc, ← e2]
      exact ih (i + 1) _ _ ⟨rfl, f1, f2, f15, rfl, ⟨_, rfl⟩, by omega⟩ (by omega)
    · obtain rfl : i = s := by omega
      simp -implicitDefEqProofs -dsimp +contextual (maxSteps := 9999999) (disch := first | omega | simp only [go_sem] <;> omega | refine ib ?_; kernel_rfl) only [go_sem, seval, ↓reduceIte, f0, f1, f2, f15, f16, H1, hl, hb]

@[go_sem] theorem packNum_lit (l : List UInt8) (n s : Nat) (hn : n ≤ 18446744073709551615) (hs1 : 1 ≤ OfNat.ofNat s) (hs : OfNat.ofNat s ≤ 8) (hl : l.length ≤ 1000000000) : fn C 35 [] [.usl 1 (l.map byteRow), .int .u64 (n : Int), .int .i64 (no_index (OfNat.ofNat s : Int))] = some (.usl 1 ((l ++ beN (OfNat.ofNat s) n).map byteRow), []) := packNum [] (.inl rfl) l n (OfNat.ofNat s) hn hs1 hs hl
@[go_sem] theorem packNum_lit0 (l : List UInt8) (n s : Nat) (hn : n ≤ 18446744073709551615) (hs1 : 1 ≤ OfNat.ofNat s) (hs : OfNat.ofNat s ≤ 8) (hl : l.length ≤ 1000000000) : fn C 35 [0] [.usl 1 (l.map byteRow), .int .u64 (n : Int), .int .i64 (no_index (OfNat.ofNat s : Int))] = some (.usl 1 ((l ++ beN (OfNat.ofNat s) n).map byteRow), []) := packNum [0] (.inr rfl) l n (OfNat.ofNat s) hn hs1 hs hl

theorem beN_drop (s n k : Nat) (hk : k < s) : (beN s n).drop (s - k - 1) = UInt8.ofNat (n / 2 ^ (8 * k)) :: (beN s n).drop (s - k) := by
  rw [List.drop_eq_getElem_cons (by rw [beN_len]; omega), beN_get, show s - 1 - (s - k - 1) = k by omega, show s - k - 1 + 1 = s - k by omega]
theorem rep_set (l t : List UInt8) (m : Nat) (x : UInt8) : (l ++ (List.replicate (m + 1) 0 ++ t)).set (l.length + m) x = l ++ (List.replicate m 0 ++ x :: t) := by
  rw [List.set_append_right _ _ (by omega), Nat.add_sub_cancel_left, List.replicate_succ', List.append_assoc, List.set_append_right _ _ (by simp)]
  simp

theorem refNum (l : List UInt8) (n s : Nat) (hn : n ≤ 18446744073709551615) (hs1 : 1 ≤ s) (hs : s ≤ 8) (hl : l.length ≤ 1000000000) : fn C 38 [] [.slice 1 (l.map byteRow), .int .u64 (n : Int), .int .i64 (s : Int)] = some (.usl 1 ((l ++ beN s n).map byteRow), []) := by
  rw [fn_text Tryz.func38 rfl rfl Tryz.results38 fq38.1 rfl rfl (by kernel_rfl)]
  simp -implicitDefEqProofs -dsimp +contextual (maxSteps := 9999999) (disch := first | omega | simp only [go_sem] <;> omega | refine ib ?_; kernel_rfl) only [go_sem, seval, ↓reduceIte, show ¬ s < 1 by omega, show ¬ 8 < s by omega]
  refine kLoop_rec (fun (i : Nat) f H => f 0 = .slice 1 (l.map byteRow) ∧ f 1 = .int .u64 (n : Int) ∧ f 2 = .int .i64 (s : Int) ∧ f 7 = .osl 117 (i + 2) 0 (l.length + i) ∧ f 8 = .int .i64 (i : Int) ∧ H 117 = ⟨i + 2, .live, 1, (l ++ List.replicate i (0 : UInt8)).map byteRow, false⟩ ∧ i ≤ s) (fun i => s - i) (fun _ => some (.usl 1 ((l ++ beN s n).map byteRow), [])) ?_ 0 _ _ ?_
  rotate_left
  · refine ⟨rfl, rfl, rfl, rfl, rfl, ?_, by omega⟩
    rw [List.replicate_zero, List.append_nil]; rfl
  rintro i f H ⟨f0, f1, f2, f7, f8, H1, hi⟩ ih
  by_cases hl : i < s
  · have e : (l ++ List.replicate i (0 : UInt8)).map byteRow ++ [[AVal.int IntKind.u8 0]] = (l ++ List.replicate (i + 1) (0 : UInt8)).map byteRow := by
      rw [List.replicate_succ', ← List.append_assoc, List.map_append (l₁ := l ++ _)]; rfl
    simp -implicitDefEqProofs -dsimp +contextual (maxSteps := 9999999) (disch := first | omega | simp only [go_sem] <;> omega | refine ib ?_; kernel_rfl) only [go_sem, seval, ↓reduceIte, f0, f1, f2, f7, f8, H1, hl, e]
    exact ih (i + 1) _ _ ⟨f0, f1, f2, rfl, rfl, rfl, by omega⟩ (by omega)
  · obtain rfl : i = s := by omega
    simp -implicitDefEqProofs -dsimp +contextual (maxSteps := 9999999) (disch := first | omega | simp only [go_sem] <;> omega | refine ib ?_; kernel_rfl) only [go_sem, seval, ↓reduceIte, f0, f1, f2, f7, f8, H1, hl]
    refine kLoop_rec (fun (k : Nat) f H => f 0 = .slice 1 (l.map byteRow) ∧ f 1 = .int .u64 ((n / 2 ^ (8 * k) : Nat) : Int) ∧ f 7 = .osl 117 (i + 2) 0 (l.length + i) ∧ f 9 = .int .i64 (((l.length + i - k : Nat) : Int) - 1) ∧ H 117 = ⟨i + 2, .live, 1, (l ++ (List.replicate (i - k) (0 : UInt8) ++ (beN i n).drop (i - k))).map byteRow, false⟩ ∧ k ≤ i) (fun k => i - k) (fun _ => some (.usl 1 ((l ++ beN i n).map byteRow), [])) ?_ 0 _ _ ?_
    rotate_left
    · refine ⟨f0, ?_, f7, ?_, ?_, by omega⟩
      · rw [show n / 2 ^ (8 * 0) = n by simp]; exact f1
      · show AVal.int IntKind.i64 _ = AVal.int IntKind.i64 _
        congr 1; omega
      · rw [H1, Nat.sub_zero, List.drop_of_length_le (by rw [beN_len]; omega), List.append_nil]
    clear f0 f1 f2 f7 f8 H1 ih
    rintro k f H ⟨f0, f1, f7, f9, H1, hk⟩ ih
    by_cases hl : k < i
    · have hq : n / 2 ^ (8 * k) / 256 = n / 2 ^ (8 * (k + 1)) := by rw [Nat.div_div_eq_div_mul, show 8 * (k + 1) = 8 * k + 8 by omega, Nat.pow_add]
      have hq2 : n / 2 ^ (8 * (k + 1)) ≤ n := Nat.div_le_self ..
      have hw : IntKind.u64.wrap ((n / 2 ^ (8 * k) / 256 : Nat) : Int) = ((n / 2 ^ (8 * (k + 1)) : Nat) : Int) := by
        rw [hq]; generalize n / 2 ^ (8 * (k + 1)) = q at hq2 ⊢; exact wrap_u64_id (by omega) (by omega)
      have hx : UInt8.ofNat (n / 2 ^ (8 * k) % 256) = UInt8.ofNat (n / 2 ^ (8 * k)) := UInt8.toNat_inj.1 (by simp)
      have hset := rep_set l ((beN i n).drop (i - k)) (i - k - 1) (UInt8.ofNat (n / 2 ^ (8 * k)))
      rw [← beN_drop i n k hl, show i - k - 1 + 1 = i - k by omega, show l.length + (i - k - 1) = l.length + i - k - 1 by omega] at hset
      simp -implicitDefEqProofs -dsimp +contextual (maxSteps := 9999999) (disch := first | omega | simp only [go_sem] <;> omega | refine ib ?_; kernel_rfl) only [go_sem, seval, ↓reduceIte, f0, f1, f7, f9, H1, hl, u8_wrap, hw, hx, hset]
      exact ih (k + 1) _ _ ⟨f0, rfl, f7, rfl, rfl, by omega⟩ (by omega)
    · obtain rfl : k = i := by omega
      simp -implicitDefEqProofs -dsimp +contextual (maxSteps := 9999999) (disch := first | omega | simp only [go_sem] <;> omega | refine ib ?_; kernel_rfl) only [go_sem, seval, ↓reduceIte, f0, f1, f7, f9, H1, hl]

@[go_sem] theorem refNum_lit (l : List UInt8) (n s : Nat) (hn : n ≤ 18446744073709551615) (hs1 : 1 ≤ OfNat.ofNat s) (hs : OfNat.ofNat s ≤ 8) (hl : l.length ≤ 1000000000) : fn C 38 [] [.slice 1 (l.map byteRow), .int .u64 (n : Int), .int .i64 (no_index (OfNat.ofNat s : Int))] = some (.usl 1 ((l ++ beN (OfNat.ofNat s) n).map byteRow), []) := refNum l n (OfNat.ofNat s) hn hs1 hs hl

end Go.Proofs.YtccfjidpdlfenaaGreatDoor
namespace Go.Proofs.YtccfjidpdlfenaaGreatDoor
open Go.Am
set_option linter.unusedSimpArgs false
set_option linter.unusedVariables false
set_option maxRecDepth 100000
/-! Layer 1: texts as bytes. -/
def textB (s : List UInt8) : List UInt8 := beN 2 s.length ++ s
@[go_sem] theorem textB_len (s : List UInt8) : (textB s).length = s.length + 2 := by simp [textB, beN_len]; omega
theorem beN_2 (n : Nat) : beN 2 n = [UInt8.ofNat (n / 256), UInt8.ofNat n] := by simp [beN, List.range, List.range.loop]
theorem beN_8 (n : Nat) : beN 8 n = [UInt8.ofNat (n / 72057594037927936), UInt8.ofNat (n / 281474976710656), UInt8.ofNat (n / 1099511627776), UInt8.ofNat (n / 4294967296), UInt8.ofNat (n / 16777216), UInt8.ofNat (n / 65536), UInt8.ofNat (n / 256), UInt8.ofNat n] := by simp [beN, List.range, List.range.loop]

theorem numNil (ex : List Nat) (hex : ex = [] ∨ ex = [0]) (n s : Nat) (hn : n ≤ 18446744073709551615) (hs1 : 1 ≤ s) (hs : s ≤ 8) : fn C 35 ex [.usl 1 [], .int .u64 (n : Int), .int .i64 (s : Int)] = some (.usl 1 ((beN s n).map byteRow), []) := by
  have h := packNum ex hex [] n s hn hs1 hs (by simp)
  simpa using h
@[go_sem] theorem numNil_lit (n s : Nat) (hn : n ≤ 18446744073709551615) (hs1 : 1 ≤ OfNat.ofNat s) (hs : OfNat.ofNat s ≤ 8) : fn C 35 [] [.usl 1 [], .int .u64 (n : Int), .int .i64 (no_index (OfNat.ofNat s : Int))] = some (.usl 1 ((beN (OfNat.ofNat s) n).map byteRow), []) := numNil [] (.inl rfl) n _ hn hs1 hs
@[go_sem] theorem numNil_lit0 (n s : Nat) (hn : n ≤ 18446744073709551615) (hs1 : 1 ≤ OfNat.ofNat s) (hs : OfNat.ofNat s ≤ 8) : fn C 35 [0] [.usl 1 [], .int .u64 (n : Int), .int .i64 (no_index (OfNat.ofNat s : Int))] = some (.usl 1 ((beN (OfNat.ofNat s) n).map byteRow), []) := numNil [0] (.inr rfl) n _ hn hs1 hs
@[go_sem] theorem refNumNil_lit (n s : Nat) (hn : n ≤ 18446744073709551615) (hs1 : 1 ≤ OfNat.ofNat s) (hs : OfNat.ofNat s ≤ 8) : fn C 38 [] [.slice 1 [], .int .u64 (n : Int), .int .i64 (no_index (OfNat.ofNat s : Int))] = some (.usl 1 ((beN (OfNat.ofNat s) n).map byteRow), []) := by
  have h := refNum [] n (OfNat.ofNat s) hn hs1 hs (by simp)
  simpa using h

theorem packText (ex : List Nat) (hex : ex = [] ∨ ex = [0]) (l s : List UInt8) (hl : l.length ≤ 10000000) (hs : s.length ≤ 65535) : fn C 36 ex [.usl 1 (l.map byteRow), .str s] = some (.usl 1 ((l ++ textB s).map byteRow), []) := by
  rcases hex with rfl | rfl
  · rw [fn_text Tryz.func36 rfl rfl Tryz.results36 fq36.1 rfl rfl (by kernel_rfl)]
    simp -implicitDefEqProofs -dsimp +contextual (maxSteps := 9999999) (disch := first | omega | simp only [go_sem] <;> omega | refine ib ?_; kernel_rfl) only [go_sem, seval, ↓reduceIte, Nat.min_eq_left hs]
    rw [textB, List.append_assoc]
  · rw [fn_text Tryz.func36 rfl rfl Tryz.results36 fq36.1 rfl rfl (by kernel_rfl)]
    simp -implicitDefEqProofs -dsimp +contextual (maxSteps := 9999999) (disch := first | omega | simp only [go_sem] <;> omega | refine ib ?_; kernel_rfl) only [go_sem, seval, ↓reduceIte, Nat.min_eq_left hs]
    rw [textB, List.append_assoc]
@[go_sem] theorem e36 (l s : List UInt8) (hl : l.length ≤ 10000000) (hs : s.length ≤ 65535) : fn C 36 [] [.usl 1 (l.map byteRow), .str s] = some (.usl 1 ((l ++ textB s).map byteRow), []) := packText [] (.inl rfl) l s hl hs
@[go_sem] theorem eText0 (l s : List UInt8) (hl : l.length ≤ 10000000) (hs : s.length ≤ 65535) : fn C 36 [0] [.usl 1 (l.map byteRow), .str s] = some (.usl 1 ((l ++ textB s).map byteRow), []) := packText [0] (.inr rfl) l s hl hs
@[go_sem] theorem eTextNil (s : List UInt8) (hs : s.length ≤ 65535) : fn C 36 [] [.usl 1 [], .str s] = some (.usl 1 ((textB s).map byteRow), []) := packText [] (.inl rfl) [] s (by simp) hs

@[go_sem] theorem e37 (l s : List UInt8) (hl : l.length ≤ 10000000) (hs : s.length ≤ 65535) : fn C 37 [] [.slice 1 (l.map byteRow), .str s] = some (.usl 1 ((l ++ textB s).map byteRow), []) := by
  rw [fn_text Tryz.func37 rfl rfl Tryz.results37 fq37.1 rfl rfl (by kernel_rfl)]
  simp -implicitDefEqProofs -dsimp +contextual (maxSteps := 9999999) (disch := first | omega | simp only [go_sem] <;> omega | refine ib ?_; kernel_rfl) only [go_sem, seval, ↓reduceIte, show ¬ 65535 < s.length by omega]
  rw [textB, List.append_assoc]
@[go_sem] theorem eRTextNil (s : List UInt8) (hs : s.length ≤ 65535) : fn C 37 [] [.slice 1 [], .str s] = some (.usl 1 ((textB s).map byteRow), []) := e37 [] s (by simp) hs

end Go.Proofs.YtccfjidpdlfenaaGreatDoor
namespace Go.Proofs.YtccfjidpdlfenaaGreatDoor
open Go.Am
set_option linter.unusedSimpArgs false
set_option linter.unusedVariables false
set_option maxRecDepth 100000
/-! Numbers of bytes, the highest first. -/
theorem u64_shl8 (P : Program) (t : TypeId) (k : IntKind) (a : Nat) (ha : a < 72057594037927936) : binV P .shl t (.int .u64 (a : Int)) (.int k 8) = some (.int .u64 ((a * 256 : Nat) : Int)) := by
  have e : binV P .shl t (.int .u64 (a : Int)) (.int k 8) = some (.int .u64 (IntKind.u64.wrap ((a : Int) * 2 ^ 8))) := rfl
  rw [e]
  exact congrArg (fun x => some (AVal.int .u64 x)) (by rw [IntKind.wrap_u64]; omega)
theorem or_low8 (a b : Nat) (hb : b < 256) : a * 256 ||| b = a * 256 + b := by
  have := Nat.two_pow_add_eq_or_of_lt (i := 8) (b := b) (by simpa using hb) a
  rw [show 2 ^ 8 * a = a * 256 by omega] at this
  exact this.symm
theorem u64_or8 (P : Program) (t : TypeId) (a b : Nat) (ha : a * 256 < 18446744073709551616) (hb : b < 256) : binV P .or t (.int .u64 ((a * 256 : Nat) : Int)) (.int .u64 (b : Int)) = some (.int .u64 ((a * 256 + b : Nat) : Int)) := by
  have e : binV P .or t (.int .u64 ((a * 256 : Nat) : Int)) (.int .u64 (b : Int)) = some (.int .u64 (IntKind.u64.wrap ((BitVec.ofInt 64 ((a * 256 : Nat) : Int) ||| BitVec.ofInt 64 (b : Int)).toNat : Int))) := rfl
  rw [e, BitVec.ofInt_natCast, BitVec.ofInt_natCast, BitVec.toNat_or, BitVec.toNat_ofNat, BitVec.toNat_ofNat, Nat.mod_eq_of_lt (show a * 256 < 2 ^ 64 by omega), Nat.mod_eq_of_lt (show b < 2 ^ 64 by omega), or_low8 a b hb]
  exact congrArg (fun x => some (AVal.int .u64 x)) (by rw [IntKind.wrap_u64]; omega)

def beV (l : List UInt8) : Nat := l.foldl (fun n c => n * 256 + c.toNat) 0
theorem beV_take (l : List UInt8) (i : Nat) (h : i < l.length) : beV (l.take (i + 1)) = beV (l.take i) * 256 + l[i].toNat := by
  rw [List.take_succ_eq_append_getElem h, beV, List.foldl_append]; rfl
theorem beV_lt (l : List UInt8) : beV l < 256 ^ l.length := by
  have : ∀ (l : List UInt8) (a : Nat), l.foldl (fun n c => n * 256 + c.toNat) a < (a + 1) * 256 ^ l.length := by
    intro l
    induction l with
    | nil => intro a; simp
    | cons x l ih =>
      intro a
      have h := u8_lt x
      refine Nat.lt_of_lt_of_le (ih _) ?_
      rw [List.length_cons, Nat.pow_succ, Nat.mul_comm (256 ^ l.length), ← Nat.mul_assoc]
      exact Nat.mul_le_mul_right _ (by simp only; omega)
  simpa [beV] using this l 0
@[go_sem] theorem rep_byte (n : Nat) : List.replicate n [AVal.int .u8 0] = (List.replicate n (0 : UInt8)).map byteRow := by rw [List.map_replicate]; rfl

end Go.Proofs.YtccfjidpdlfenaaGreatDoor
namespace Go.Proofs.YtccfjidpdlfenaaGreatDoor
open Go.Am
set_option linter.unusedSimpArgs false
set_option linter.unusedVariables false
set_option maxRecDepth 100000
/-! Words turned. -/
def rotl (x : UInt32) (m : Nat) : UInt32 := W32.shl x m ||| W32.shr x (32 - m)

theorem and31 (n : Int) (h : 0 ≤ n) (h2 : n ≤ 18446744073709551615) (P : Program) (t : TypeId) : binV P .and t (.int .u64 n) (.int .u64 31) = some (.int .u64 (n % 32)) := by
  obtain ⟨m, rfl⟩ := Int.eq_ofNat_of_zero_le h
  have e : binV P .and t (.int .u64 (m : Int)) (.int .u64 31) = some (.int .u64 (IntKind.u64.wrap (((BitVec.ofInt 64 (m : Int)) &&& (BitVec.ofInt 64 ((31 : Nat) : Int))).toNat : Int))) := rfl
  rw [e, BitVec.ofInt_natCast, BitVec.ofInt_natCast, BitVec.toNat_and, BitVec.toNat_ofNat, BitVec.toNat_ofNat, Nat.mod_eq_of_lt (show m < 2 ^ 64 by omega), show (31 : Nat) % 2 ^ 64 = 2 ^ 5 - 1 by decide, Nat.and_two_pow_sub_one_eq_mod, IntKind.wrap_u64]
  congr 2; omega

@[go_sem] theorem e149 (x : UInt32) (n : Int) (h1 : -1000 ≤ n) (h2 : n ≤ 1000) : fn C 149 [] [.int .u32 (x.toNat : Int), .int .i64 n] = some (.int .u32 ((rotl x (n % 32).toNat).toNat : Int), []) := by
  have hw : IntKind.u64.wrap n % 32 = n % 32 := by rw [IntKind.wrap_u64]; omega
  have hw1 : 0 ≤ IntKind.u64.wrap n := by rw [IntKind.wrap_u64]; omega
  have hw2 : IntKind.u64.wrap n ≤ 18446744073709551615 := by rw [IntKind.wrap_u64]; omega
  obtain ⟨m, hm⟩ := Int.eq_ofNat_of_zero_le (show 0 ≤ n % 32 by omega)
  have a31 := fun P t => and31 (IntKind.u64.wrap n) hw1 hw2 P t
  rw [hw, hm] at a31
  have hm32 : m < 32 := by omega
  have e32 : (32 : Int) - (m : Int) = ((32 - m : Nat) : Int) := by omega
  rw [fn_text Tryz.func149 rfl rfl Tryz.results149 fq149.1 rfl rfl (by kernel_rfl)]
  simp -implicitDefEqProofs -dsimp +contextual (maxSteps := 5000000) (disch := first | omega | simp only [go_sem] <;> omega | refine ib ?_; kernel_rfl) only [go_sem, Nat.reduceBEq, Int.reduceNeg, Int.reduceLT, Int.reduceLE, Int.reduceAdd, Int.reduceSub, Int.reduceToNat, Int.reduceMul, Int.reduceMod, Int.reduceTMod, Int.reduceTDiv, Int.reduceEq, Nat.reducePow, Nat.reduceDiv, Nat.reduceShiftRight, Nat.reduceMod, List.reduceReplicate, ↓reduceIte, Nat.reduceEqDiff, Nat.reduceAdd, Nat.reduceSub, Nat.reduceLeDiff, Nat.reduceLT, Nat.reduceMul, a31, hm, e32]
  rfl

end Go.Proofs.YtccfjidpdlfenaaGreatDoor
namespace Go.Proofs.YtccfjidpdlfenaaGreatDoor
open Go.Am
set_option linter.unusedSimpArgs false
set_option linter.unusedVariables false
set_option maxRecDepth 100000
/-! Layer 3: words. -/
def rr (x : UInt32) (k : Nat) : UInt32 := rotl x (32 - k)
def sg0 (x : UInt32) : UInt32 := rr x 7 ^^^ rr x 18 ^^^ W32.shr x 3
def sg1 (x : UInt32) : UInt32 := rr x 17 ^^^ rr x 19 ^^^ W32.shr x 10
def wRow (x : UInt32) : List AVal := [.int .u32 (x.toNat : Int)]
@[go_sem] theorem e143 (x : UInt32) (k : Nat) (h1 : 1 ≤ k) (h2 : k ≤ 31) : fn C 143 [] [.int .u32 (x.toNat : Int), .int .i64 (k : Int)] = some (.int .u32 ((rr x k).toNat : Int), []) := by
  have e := e149 x (-(k : Int)) (by omega) (by omega)
  rw [show ((-(k : Int)) % 32).toNat = 32 - k by omega] at e
  rw [fn_text Tryz.func143 rfl rfl Tryz.results143 fq143.1 rfl rfl (by kernel_rfl)]
  simp -implicitDefEqProofs -dsimp +contextual (maxSteps := 5000000) (disch := first | omega | simp only [go_sem] <;> omega | refine ib ?_; kernel_rfl) only [go_sem, Nat.reduceBEq, Int.reduceNeg, Int.reduceLT, Int.reduceLE, Int.reduceAdd, Int.reduceSub, Int.reduceToNat, Int.reduceMul, Int.reduceMod, Int.reduceTMod, Int.reduceTDiv, Int.reduceEq, Nat.reducePow, Nat.reduceDiv, Nat.reduceShiftRight, Nat.reduceMod, List.reduceReplicate, ↓reduceIte, Nat.reduceEqDiff, Nat.reduceAdd, Nat.reduceSub, Nat.reduceLeDiff, Nat.reduceLT, Nat.reduceMul, e, Int.zero_sub]
  rfl

@[go_sem] theorem e_dright_lit (x : UInt32) (k : Nat) (h1 : 1 ≤ OfNat.ofNat k) (h2 : OfNat.ofNat k ≤ 31) : fn C 143 [] [.int .u32 (x.toNat : Int), .int .i64 (no_index (OfNat.ofNat k : Int))] = some (.int .u32 ((rr x (OfNat.ofNat k)).toNat : Int), []) := e143 x (OfNat.ofNat k) h1 h2

@[go_sem] theorem e147 (x : UInt32) (k : Nat) (h1 : 1 ≤ k) (h2 : k ≤ 31) : fn C 147 [] [.int .u32 (x.toNat : Int), .int .u64 (k : Int)] = some (.int .u32 ((rr x k).toNat : Int), []) := by
  have e32 : (32 : Int) - (k : Int) = ((32 - k : Nat) : Int) := by omega
  rw [fn_text Tryz.func147 rfl rfl Tryz.results147 fq147.1 rfl rfl (by kernel_rfl)]
  simp -implicitDefEqProofs -dsimp +contextual (maxSteps := 5000000) (disch := first | omega | simp only [go_sem] <;> omega | refine ib ?_; kernel_rfl) only [go_sem, Nat.reduceBEq, Int.reduceNeg, Int.reduceLT, Int.reduceLE, Int.reduceAdd, Int.reduceSub, Int.reduceToNat, Int.reduceMul, Int.reduceMod, Int.reduceTMod, Int.reduceTDiv, Int.reduceEq, Nat.reducePow, Nat.reduceDiv, Nat.reduceShiftRight, Nat.reduceMod, List.reduceReplicate, ↓reduceIte, Nat.reduceEqDiff, Nat.reduceAdd, Nat.reduceSub, Nat.reduceLeDiff, Nat.reduceLT, Nat.reduceMul, e32]
  rw [show W32.shr x k ||| W32.shl x (32 - k) = rr x k by rw [rr, rotl, UInt32.or_comm, show 32 - (32 - k) = k by omega]]

@[go_sem] theorem e_r03right_lit (x : UInt32) (k : Nat) (h1 : 1 ≤ OfNat.ofNat k) (h2 : OfNat.ofNat k ≤ 31) : fn C 147 [] [.int .u32 (x.toNat : Int), .int .u64 (no_index (OfNat.ofNat k : Int))] = some (.int .u32 ((rr x (OfNat.ofNat k)).toNat : Int), []) := e147 x (OfNat.ofNat k) h1 h2

def be4 (a b c d : UInt8) : UInt32 := ((W32.shl a.toUInt32 24 ||| W32.shl b.toUInt32 16) ||| W32.shl c.toUInt32 8) ||| d.toUInt32
theorem or_add (a b k : Nat) (h : b < 2 ^ k) : a * 2 ^ k ||| b = a * 2 ^ k + b := by
  rw [← Nat.shiftLeft_eq, Nat.shiftLeft_add_eq_or_of_lt h]
theorem be4_sum (a b c d : UInt8) : (be4 a b c d).toNat = a.toNat * 16777216 + b.toNat * 65536 + c.toNat * 256 + d.toNat := by
  have ha := u8_lt a; have hb := u8_lt b; have hc := u8_lt c; have hd := u8_lt d
  simp only [be4, W32.shl, UInt32.toNat_or, UInt8.toNat_toUInt32, UInt32.toNat_ofNat']
  rw [Nat.mod_eq_of_lt (show a.toNat * 2 ^ 24 < 2 ^ 32 by omega), Nat.mod_eq_of_lt (show b.toNat * 2 ^ 16 < 2 ^ 32 by omega), Nat.mod_eq_of_lt (show c.toNat * 2 ^ 8 < 2 ^ 32 by omega)]
  rw [or_add _ _ _ (by omega), show a.toNat * 2 ^ 24 + b.toNat * 2 ^ 16 = (a.toNat * 256 + b.toNat) * 2 ^ 16 by omega, or_add _ _ _ (by omega), show (a.toNat * 256 + b.toNat) * 2 ^ 16 + c.toNat * 2 ^ 8 = ((a.toNat * 256 + b.toNat) * 256 + c.toNat) * 2 ^ 8 by omega, or_add _ _ _ (by omega)]
theorem be4_num (a b c d : UInt8) : a.toUInt32 * UInt32.ofNat 16777216 + b.toUInt32 * UInt32.ofNat 65536 + c.toUInt32 * UInt32.ofNat 256 + d.toUInt32 = be4 a b c d := by
  have ha := u8_lt a; have hb := u8_lt b; have hc := u8_lt c; have hd := u8_lt d
  apply UInt32.toNat_inj.1
  rw [be4_sum]
  simp only [UInt32.toNat_add, UInt32.toNat_mul, UInt8.toNat_toUInt32, UInt32.toNat_ofNat']
  omega
def numB (l : List UInt8) : UInt32 := be4 (l.getD 0 0) (l.getD 1 0) (l.getD 2 0) (l.getD 3 0)
theorem four_of (b : List UInt8) (h : 4 ≤ b.length) : ∃ x y z w r, b = x :: y :: z :: w :: r := by
  match b, h with
  | x :: y :: z :: w :: r, _ => exact ⟨x, y, z, w, r, rfl⟩
@[go_sem] theorem e146 (b : List UInt8) (h : 4 ≤ b.length) : fn C 146 [] [.slice 1 (b.map byteRow)] = some (.int .u32 ((numB b).toNat : Int), []) := by
  obtain ⟨x, y, z, w, r, rfl⟩ := four_of b h
  rw [fn_text Tryz.func146 rfl rfl Tryz.results146 fq146.1 rfl rfl (by kernel_rfl)]
  simp -implicitDefEqProofs -dsimp +contextual (maxSteps := 5000000) (disch := first | omega | simp only [go_sem] <;> omega | refine ib ?_; kernel_rfl) only [go_sem, Nat.reduceBEq, Int.reduceNeg, Int.reduceLT, Int.reduceLE, Int.reduceAdd, Int.reduceSub, Int.reduceToNat, Int.reduceMul, Int.reduceMod, Int.reduceTMod, Int.reduceTDiv, Int.reduceEq, Nat.reducePow, Nat.reduceDiv, Nat.reduceShiftRight, Nat.reduceMod, List.reduceReplicate, ↓reduceIte, Nat.reduceEqDiff, Nat.reduceAdd, Nat.reduceSub, Nat.reduceLeDiff, Nat.reduceLT, Nat.reduceMul]
  rw [show numB (x :: y :: z :: w :: r) = be4 x y z w from rfl, ← be4_num]

end Go.Proofs.YtccfjidpdlfenaaGreatDoor
namespace Go.Proofs.YtccfjidpdlfenaaGreatDoor
open Go.Am
set_option linter.unusedSimpArgs false
set_option linter.unusedVariables false
set_option maxRecDepth 100000
/-! Layer 3: a block's words. -/
def wd (blk : List UInt8) (i : Nat) : UInt32 := be4 (blk.getD (4 * i) 0) (blk.getD (4 * i + 1) 0) (blk.getD (4 * i + 2) 0) (blk.getD (4 * i + 3) 0)
def wds (blk : List UInt8) (n : Nat) : List UInt32 := (List.range n).map (wd blk)
@[go_sem] theorem wds_len (blk : List UInt8) (n : Nat) : (wds blk n).length = n := by simp [wds]
theorem wds_succ (blk : List UInt8) (n : Nat) : wds blk (n + 1) = wds blk n ++ [wd blk n] := by simp [wds, List.range_succ]
def nxt (l : List UInt32) : UInt32 := l.getD (l.length - 16) 0 + l.getD (l.length - 7) 0 + sg0 (l.getD (l.length - 15) 0) + sg1 (l.getD (l.length - 2) 0)
def extW : Nat → List UInt32 → List UInt32
  | 0, l => l
  | n + 1, l => extW n (l ++ [nxt l])
theorem extW_len : ∀ (n : Nat) (l : List UInt32), (extW n l).length = l.length + n
  | 0, _ => rfl
  | n + 1, l => by rw [extW, extW_len]; simp; omega
def wsOf (blk : List UInt8) : List UInt32 := extW 48 (wds blk 16)
@[go_sem] theorem wsOf_len (blk : List UInt8) : (wsOf blk).length = 64 := by rw [wsOf, extW_len, wds_len]
def pad64 (l : List UInt32) : List UInt32 := l ++ List.replicate (64 - l.length) 0
theorem pad64_len (l : List UInt32) (h : l.length ≤ 64) : (pad64 l).length = 64 := by simp [pad64]; omega
theorem pad64_set (l : List UInt32) (x : UInt32) (h : l.length < 64) : (pad64 l).set l.length x = pad64 (l ++ [x]) := by
  unfold pad64
  rw [List.set_append_right _ _ (Nat.le_refl _), Nat.sub_self, show 64 - l.length = (64 - (l.length + 1)) + 1 by omega, List.replicate_succ, List.set_cons_zero, List.length_append]
  simp
theorem pad64_get (l : List UInt32) (i : Nat) (h : i < l.length) (h2 : i < (pad64 l).length) : (pad64 l)[i] = l[i] := by
  simp only [pad64]; rw [List.getElem_append_left h]
theorem pad64_all (l : List UInt32) (h : l.length = 64) : pad64 l = l := by simp [pad64, h]
theorem getD_of {α : Type} (l : List α) (i : Nat) (d : α) (h : i < l.length) : l.getD i d = l[i] := by
  rw [List.getD_eq_getElem?_getD, List.getElem?_eq_getElem h]; rfl
def Z64w : List AVal := (List.replicate 64 (0 : UInt32)).map w32
@[go_sem] theorem Z64w_len : Z64w.length = 64 := rfl
@[go_sem] theorem Z64w_drop : Z64w.drop 64 = [] := rfl
theorem pad0 (blk : List UInt8) : (pad64 (wds blk 0)).map w32 = Z64w := rfl
attribute [local irreducible] extW wds pad64 nxt wd
set_option maxHeartbeats 1000000 in
@[go_sem] theorem e142 (blk : List UInt8) (h : blk.length = 64) : fn C 142 [] [.agg (blk.map w8)] = some (.agg ((wsOf blk).map w32), []) := by
  rw [fn_text Tryz.func142 rfl rfl Tryz.results142 fq142.1 rfl rfl (okArgs_of (by kernel_rfl) (by kernel_rfl) (by simp only [go_sem]) rfl)]
  simp -implicitDefEqProofs -dsimp +contextual (maxSteps := 5000000) (disch := first | omega | simp only [go_sem] <;> omega | refine ib ?_; kernel_rfl) only [go_sem, Nat.reduceBEq, Int.reduceNeg, Int.reduceLT, Int.reduceLE, Int.reduceAdd, Int.reduceSub, Int.reduceToNat, Int.reduceMul, Int.reduceMod, Int.reduceTMod, Int.reduceTDiv, Int.reduceEq, Nat.reducePow, Nat.reduceDiv, Nat.reduceShiftRight, Nat.reduceMod, List.reduceReplicate, ↓reduceIte, Nat.reduceEqDiff, Nat.reduceAdd, Nat.reduceSub, Nat.reduceLeDiff, Nat.reduceLT, Nat.reduceMul, h]
  refine (kLoop_rec (fun (i : Nat) f H => f 1 = .ptr 101 1 0 0 ∧ f 2 = .ptr 102 1 0 0 ∧ f 3 = .ptr 103 1 0 0 ∧ f 8 = .int .i64 (i : Int) ∧ H 101 = ⟨1, .live, 64, [blk.map w8], false⟩ ∧ H 102 = ⟨1, .live, 64, [Z64w], false⟩ ∧ H 103 = ⟨1, .live, 64, [(pad64 (wds blk i)).map w32], false⟩ ∧ i ≤ 16) (fun i => 16 - i) (fun _ => some (.agg ((wsOf blk).map w32), [])) ?_ 0 _ _ ⟨rfl, rfl, rfl, rfl, rfl, rfl, by rw [pad0]; rfl, by omega⟩)
  rintro i f H ⟨f1, f2, f3, f8, H1, H2, H3, hi⟩ ih
  have hp := pad64_len (wds blk i) (by rw [wds_len]; omega)
  by_cases hl : i < 16
  · simp -implicitDefEqProofs -dsimp +contextual (maxSteps := 5000000) (disch := first | omega | simp only [go_sem] <;> omega | refine ib ?_; kernel_rfl) only [go_sem, Nat.reduceBEq, Int.reduceNeg, Int.reduceLT, Int.reduceLE, Int.reduceAdd, Int.reduceSub, Int.reduceToNat, Int.reduceMul, Int.reduceMod, Int.reduceTMod, Int.reduceTDiv, Int.reduceEq, Nat.reducePow, Nat.reduceDiv, Nat.reduceShiftRight, Nat.reduceMod, List.reduceReplicate, ↓reduceIte, Nat.reduceEqDiff, Nat.reduceAdd, Nat.reduceSub, Nat.reduceLeDiff, Nat.reduceLT, Nat.reduceMul, f1, f2, f3, f8, H1, H3, hl, h, hp]
    have hw : ((W32.shl blk[4 * i].toUInt32 24 ||| W32.shl blk[4 * i + 1].toUInt32 16) ||| W32.shl blk[4 * i + 2].toUInt32 8) ||| blk[4 * i + 3].toUInt32 = wd blk i := by
      rw [wd, getD_of _ _ _ (by omega), getD_of _ _ _ (by omega), getD_of _ _ _ (by omega), getD_of _ _ _ (by omega)]; rfl
    have hs := pad64_set (wds blk i) (wd blk i) (by rw [wds_len]; omega)
    rw [wds_len, ← wds_succ] at hs
    rw [hw, hs]
    exact ih (i + 1) _ _ ⟨f1, f2, f3, rfl, H1, H2, rfl, by omega⟩ (by omega)
  · obtain rfl : i = 16 := by omega
    simp -implicitDefEqProofs -dsimp +contextual (maxSteps := 5000000) (disch := first | omega | simp only [go_sem] <;> omega | refine ib ?_; kernel_rfl) only [go_sem, Nat.reduceBEq, Int.reduceNeg, Int.reduceLT, Int.reduceLE, Int.reduceAdd, Int.reduceSub, Int.reduceToNat, Int.reduceMul, Int.reduceMod, Int.reduceTMod, Int.reduceTDiv, Int.reduceEq, Nat.reducePow, Nat.reduceDiv, Nat.reduceShiftRight, Nat.reduceMod, List.reduceReplicate, ↓reduceIte, Nat.reduceEqDiff, Nat.reduceAdd, Nat.reduceSub, Nat.reduceLeDiff, Nat.reduceLT, Nat.reduceMul, f1, f2, f3, f8, H1, H3, hl, h, hp]
    rw [wsOf, show (48 : Nat) = 64 - 16 from rfl]
    refine (kLoop_rec2 (fun (t : Nat) (l : List UInt32) f H => f 1 = .ptr 101 1 0 0 ∧ f 2 = .ptr 102 1 0 0 ∧ f 3 = .ptr 103 1 0 0 ∧ f 5 = .int .i64 (t : Int) ∧ H 102 = ⟨1, .live, 64, [Z64w], false⟩ ∧ H 103 = ⟨1, .live, 64, [(pad64 l).map w32], false⟩ ∧ l.length = t ∧ 16 ≤ t ∧ t ≤ 64) (fun t _ => 64 - t) (fun t l => some (.agg ((extW (64 - t) l).map w32), [])) ?_ 16 (wds blk 16) _ _ ⟨f1, f2, f3, rfl, H2, H3, wds_len _ _, by omega, by omega⟩)
    rintro t l f H ⟨f1, f2, f3, f5, H2, H3, hlen, ht, ht2⟩ ih
    have hp := pad64_len l (by omega)
    by_cases hlt : t < 64
    · have g1 := pad64_get l (t - 15) (by omega) (by omega)
      have g2 := pad64_get l (t - 2) (by omega) (by omega)
      have g3 := pad64_get l (t - 16) (by omega) (by omega)
      have g4 := pad64_get l (t - 7) (by omega) (by omega)
      simp -implicitDefEqProofs -dsimp +contextual (maxSteps := 5000000) (disch := first | omega | simp only [go_sem] <;> omega | refine ib ?_; kernel_rfl) only [go_sem, Nat.reduceBEq, Int.reduceNeg, Int.reduceLT, Int.reduceLE, Int.reduceAdd, Int.reduceSub, Int.reduceToNat, Int.reduceMul, Int.reduceMod, Int.reduceTMod, Int.reduceTDiv, Int.reduceEq, Nat.reducePow, Nat.reduceDiv, Nat.reduceShiftRight, Nat.reduceMod, List.reduceReplicate, ↓reduceIte, Nat.reduceEqDiff, Nat.reduceAdd, Nat.reduceSub, Nat.reduceLeDiff, Nat.reduceLT, Nat.reduceMul, f1, f2, f3, f5, H2, H3, hlt, hp, g1, g2, g3, g4]
      have hn : l[t - 16] + l[t - 7] + (rr l[t - 15] 7 ^^^ rr l[t - 15] 18 ^^^ W32.shr l[t - 15] 3) + (rr l[t - 2] 17 ^^^ rr l[t - 2] 19 ^^^ W32.shr l[t - 2] 10) = nxt l := by
        subst hlen
        rw [nxt, getD_of _ _ _ (by omega), getD_of _ _ _ (by omega), getD_of _ _ _ (by omega), getD_of _ _ _ (by omega)]; rfl
      have hs := pad64_set l (nxt l) (by omega)
      rw [hlen] at hs
      rw [hn, hs, show 64 - t = (64 - (t + 1)) + 1 by omega, extW]
      exact ih (t + 1) (l ++ [nxt l]) _ _ ⟨f1, f2, f3, rfl, H2, rfl, by simp [hlen], by omega, by omega⟩ (by omega)
    · simp -implicitDefEqProofs -dsimp +contextual (maxSteps := 5000000) (disch := first | omega | simp only [go_sem] <;> omega | refine ib ?_; kernel_rfl) only [go_sem, Nat.reduceBEq, Int.reduceNeg, Int.reduceLT, Int.reduceLE, Int.reduceAdd, Int.reduceSub, Int.reduceToNat, Int.reduceMul, Int.reduceMod, Int.reduceTMod, Int.reduceTDiv, Int.reduceEq, Nat.reducePow, Nat.reduceDiv, Nat.reduceShiftRight, Nat.reduceMod, List.reduceReplicate, ↓reduceIte, Nat.reduceEqDiff, Nat.reduceAdd, Nat.reduceSub, Nat.reduceLeDiff, Nat.reduceLT, Nat.reduceMul, f1, f2, f3, f5, H2, H3, hlt, hp]
      obtain rfl : t = 64 := by omega
      rw [pad64_all l hlen, show 64 - 64 = 0 from rfl, extW]

end Go.Proofs.YtccfjidpdlfenaaGreatDoor
namespace Go.Proofs.YtccfjidpdlfenaaGreatDoor
open Go.Am
set_option linter.unusedSimpArgs false
set_option linter.unusedVariables false
set_option maxRecDepth 100000
/-! Layer 3: a block taken into a state. -/
structure S8 where
  a : UInt32
  b : UInt32
  c : UInt32
  d : UInt32
  e : UInt32
  f : UInt32
  g : UInt32
  h : UInt32
def S8.l (s : S8) : List UInt32 := [s.a, s.b, s.c, s.d, s.e, s.f, s.g, s.h]
def chx (s : S8) (k w : UInt32) : UInt32 := s.h + (rr s.e 6 ^^^ rr s.e 11 ^^^ rr s.e 25) + ((s.e &&& s.f) ^^^ (~~~s.e &&& s.g)) + k + w
def chy (s : S8) : UInt32 := (rr s.a 2 ^^^ rr s.a 13 ^^^ rr s.a 22) + ((s.a &&& s.b) ^^^ (s.a &&& s.c) ^^^ (s.b &&& s.c))
def sstep (s : S8) (k w : UInt32) : S8 := ⟨chx s k w + chy s, s.a, s.b, s.c, s.d + chx s k w, s.e, s.f, s.g⟩
def rnd (ks ws : List UInt32) (s : S8) : S8 := (ks.zip ws).foldl (fun s p => sstep s p.1 p.2) s
def S8.add (s t : S8) : S8 := ⟨s.a + t.a, s.b + t.b, s.c + t.c, s.d + t.d, s.e + t.e, s.f + t.f, s.g + t.g, s.h + t.h⟩
def KS : List UInt32 := [1116352408, 1899447441, 3049323471, 3921009573, 961987163, 1508970993, 2453635748, 2870763221,   3624381080, 310598401, 607225278, 1426881987, 1925078388, 2162078206, 2614888103, 3248222580,   3835390401, 4022224774, 264347078, 604807628, 770255983, 1249150122, 1555081692, 1996064986,   2554220882, 2821834349, 2952996808, 3210313671, 3336571891, 3584528711, 113926993, 338241895,   666307205, 773529912, 1294757372, 1396182291, 1695183700, 1986661051, 2177026350, 2456956037,   2730485921, 2820302411, 3259730800, 3345764771, 3516065817, 3600352804, 4094571909, 275423344,   430227734, 506948616, 659060556, 883997877, 958139571, 1322822218, 1537002063, 1747873779,   1955562222, 2024104815, 2227730452, 2361852424, 2428436474, 2756734187, 3204031479, 3329325298]
@[go_sem] theorem KS_len : KS.length = 64 := rfl
def blockS (s : S8) (blk : List UInt8) : S8 := (rnd KS (wsOf blk) s).add s
@[go_sem] theorem KS_drop : KS.drop 64 = [] := rfl
@[go_sem] theorem g0_eq : tabV .u32 tabL0 = KS.map w32 := rfl
theorem chx_eq (s : S8) (k w : UInt32) : s.h + (rr s.e 6 ^^^ rr s.e 11 ^^^ rr s.e 25) + ((s.e &&& s.f) ^^^ (~~~s.e &&& s.g)) + k + w = chx s k w := by rw [chx]
theorem chy_eq (s : S8) : (rr s.a 2 ^^^ rr s.a 13 ^^^ rr s.a 22) + ((s.a &&& s.b) ^^^ (s.a &&& s.c) ^^^ (s.b &&& s.c)) = chy s := by rw [chy]
theorem rnd_nil (s : S8) : rnd [] [] s = s := by simp only [rnd, List.zip_nil_left, List.foldl_nil]
theorem cells_step (u : S8) (k w : UInt32) : [AVal.int .u32 ((chx u k w + chy u).toNat : Int), .int .u32 (u.a.toNat : Int), .int .u32 (u.b.toNat : Int), .int .u32 (u.c.toNat : Int), .int .u32 ((u.d + chx u k w).toNat : Int), .int .u32 (u.e.toNat : Int), .int .u32 (u.f.toNat : Int), .int .u32 (u.g.toNat : Int)] = [.int .u32 ((sstep u k w).a.toNat : Int), .int .u32 ((sstep u k w).b.toNat : Int), .int .u32 ((sstep u k w).c.toNat : Int), .int .u32 ((sstep u k w).d.toNat : Int), .int .u32 ((sstep u k w).e.toNat : Int), .int .u32 ((sstep u k w).f.toNat : Int), .int .u32 ((sstep u k w).g.toNat : Int), .int .u32 ((sstep u k w).h.toNat : Int)] := rfl
theorem cells_add (u s : S8) : [AVal.int .u32 ((u.a + s.a).toNat : Int), .int .u32 ((u.b + s.b).toNat : Int), .int .u32 ((u.c + s.c).toNat : Int), .int .u32 ((u.d + s.d).toNat : Int), .int .u32 ((u.e + s.e).toNat : Int), .int .u32 ((u.f + s.f).toNat : Int), .int .u32 ((u.g + s.g).toNat : Int), .int .u32 ((u.h + s.h).toNat : Int)] = (u.add s).l.map w32 := rfl
attribute [local irreducible] wsOf KS rr chx chy sstep S8.add
theorem rnd_cons (k w : UInt32) (ks ws : List UInt32) (s : S8) : rnd (k :: ks) (w :: ws) s = rnd ks ws (sstep s k w) := by simp only [rnd, List.zip_cons_cons, List.foldl_cons]
theorem rnd_drop (ks ws : List UInt32) (i : Nat) (h1 : i < ks.length) (h2 : i < ws.length) (u : S8) : rnd (ks.drop i) (ws.drop i) u = rnd (ks.drop (i + 1)) (ws.drop (i + 1)) (sstep u ks[i] ws[i]) := by
  rw [List.drop_eq_getElem_cons h1, List.drop_eq_getElem_cons h2, rnd_cons]
set_option maxHeartbeats 1000000 in
@[go_sem] theorem e130 (s : S8) (blk : List UInt8) (h : blk.length = 64) : fn C 130 [] [.agg (s.l.map w32), .agg (blk.map w8)] = some (.agg ((blockS s blk).l.map w32), []) := by
  rw [fn_text Tryz.func130 rfl rfl Tryz.results130 fq130.1 rfl rfl (okArgs_of (by kernel_rfl) (by kernel_rfl) (by simp only [go_sem]) rfl)]
  have hw := wsOf_len blk
  have hk := KS_len
  have hsl : s.l.map w32 = [.int .u32 (s.a.toNat : Int), .int .u32 (s.b.toNat : Int), .int .u32 (s.c.toNat : Int), .int .u32 (s.d.toNat : Int), .int .u32 (s.e.toNat : Int), .int .u32 (s.f.toNat : Int), .int .u32 (s.g.toNat : Int), .int .u32 (s.h.toNat : Int)] := rfl
  rw [hsl]
  simp -implicitDefEqProofs -dsimp +contextual (maxSteps := 5000000) (disch := first | omega | simp only [go_sem] <;> omega | refine ib ?_; kernel_rfl) only [go_sem, Nat.reduceBEq, Int.reduceNeg, Int.reduceLT, Int.reduceLE, Int.reduceAdd, Int.reduceSub, Int.reduceToNat, Int.reduceMul, Int.reduceMod, Int.reduceTMod, Int.reduceTDiv, Int.reduceEq, Nat.reducePow, Nat.reduceDiv, Nat.reduceShiftRight, Nat.reduceMod, List.reduceReplicate, ↓reduceIte, Nat.reduceEqDiff, Nat.reduceAdd, Nat.reduceSub, Nat.reduceLeDiff, Nat.reduceLT, Nat.reduceMul, h, hw]
  refine (kLoop_rec2 (fun (i : Nat) (u : S8) f H => f 2 = .ptr 102 1 0 0 ∧ f 4 = .ptr 104 1 0 0 ∧ f 5 = .ptr 105 1 0 0 ∧ f 6 = .ptr 106 1 0 0 ∧ f 20 = .int .i64 (i : Int) ∧ H 102 = ⟨1, .live, 8, [[.int .u32 (s.a.toNat : Int), .int .u32 (s.b.toNat : Int), .int .u32 (s.c.toNat : Int), .int .u32 (s.d.toNat : Int), .int .u32 (s.e.toNat : Int), .int .u32 (s.f.toNat : Int), .int .u32 (s.g.toNat : Int), .int .u32 (s.h.toNat : Int)]], false⟩ ∧ H 104 = ⟨1, .live, 8, [List.replicate 8 (.int .u32 0)], false⟩ ∧ H 105 = ⟨1, .live, 64, [(wsOf blk).map w32], false⟩ ∧ H 106 = ⟨1, .live, 8, [[.int .u32 (u.a.toNat : Int), .int .u32 (u.b.toNat : Int), .int .u32 (u.c.toNat : Int), .int .u32 (u.d.toNat : Int), .int .u32 (u.e.toNat : Int), .int .u32 (u.f.toNat : Int), .int .u32 (u.g.toNat : Int), .int .u32 (u.h.toNat : Int)]], false⟩ ∧ i ≤ 64) (fun i _ => 64 - i) (fun i u => some (.agg (((rnd (KS.drop i) ((wsOf blk).drop i) u).add s).l.map w32), [])) ?_ 0 s _ _ ⟨rfl, rfl, rfl, rfl, rfl, rfl, rfl, rfl, rfl, by omega⟩)
  rintro i u f H ⟨f2, f4, f5, f6, f20, H2, H4, H5, H6, hi⟩ ih
  by_cases hl : i < 64
  · simp -implicitDefEqProofs -dsimp +contextual (maxSteps := 5000000) (disch := first | omega | simp only [go_sem] <;> omega | refine ib ?_; kernel_rfl) only [go_sem, Nat.reduceBEq, Int.reduceNeg, Int.reduceLT, Int.reduceLE, Int.reduceAdd, Int.reduceSub, Int.reduceToNat, Int.reduceMul, Int.reduceMod, Int.reduceTMod, Int.reduceTDiv, Int.reduceEq, Nat.reducePow, Nat.reduceDiv, Nat.reduceShiftRight, Nat.reduceMod, List.reduceReplicate, ↓reduceIte, Nat.reduceEqDiff, Nat.reduceAdd, Nat.reduceSub, Nat.reduceLeDiff, Nat.reduceLT, Nat.reduceMul, f2, f4, f5, f6, f20, H2, H4, H5, H6, hl, hw, hk]
    have c1 := chx_eq u (KS[i]'(by rw [hk]; exact hl)) ((wsOf blk)[i]'(by rw [hw]; exact hl))
    have c2 := chy_eq u
    have c3 := cells_step u (KS[i]'(by rw [hk]; exact hl)) ((wsOf blk)[i]'(by rw [hw]; exact hl))
    rw [c1, c2, c3]
    have hfin := congrArg (fun r : S8 => some (AVal.agg ((r.add s).l.map w32), ([] : List AVal))) (rnd_drop KS (wsOf blk) i (by rw [hk]; exact hl) (by rw [hw]; exact hl) u)
    refine Eq.trans ?_ hfin.symm
    refine ih (i + 1) _ _ _ ?_ (by omega)
    exact ⟨f2, f4, f5, f6, rfl, H2, H4, H5, rfl, by omega⟩
  · simp -implicitDefEqProofs -dsimp +contextual (maxSteps := 5000000) (disch := first | omega | simp only [go_sem] <;> omega | refine ib ?_; kernel_rfl) only [go_sem, Nat.reduceBEq, Int.reduceNeg, Int.reduceLT, Int.reduceLE, Int.reduceAdd, Int.reduceSub, Int.reduceToNat, Int.reduceMul, Int.reduceMod, Int.reduceTMod, Int.reduceTDiv, Int.reduceEq, Nat.reducePow, Nat.reduceDiv, Nat.reduceShiftRight, Nat.reduceMod, List.reduceReplicate, ↓reduceIte, Nat.reduceEqDiff, Nat.reduceAdd, Nat.reduceSub, Nat.reduceLeDiff, Nat.reduceLT, Nat.reduceMul, f2, f4, f5, f6, f20, H2, H4, H5, H6, hl, kLoop_eq]
    obtain rfl : i = 64 := by omega
    rw [rnd_nil]
    exact congrArg (fun x => some (AVal.agg x, [])) (cells_add u s)

end Go.Proofs.YtccfjidpdlfenaaGreatDoor
namespace Go.Proofs.YtccfjidpdlfenaaGreatDoor
open Go.Am
set_option linter.unusedSimpArgs false
set_option linter.unusedVariables false
set_option maxRecDepth 100000
/-! Layer 3: a block, as the document has it. -/
theorem div8 (x : UInt32) : ((x.toNat / 8 : Nat) : Int) = ((W32.shr x 3).toNat : Int) := by
  have := u32_lt x
  simp only [W32.shr, UInt32.toNat_ofNat']; omega
theorem div1024 (x : UInt32) : ((x.toNat / 1024 : Nat) : Int) = ((W32.shr x 10).toNat : Int) := by
  have := u32_lt x
  simp only [W32.shr, UInt32.toNat_ofNat']; omega
@[go_sem] theorem wRow_eq (x : UInt32) : wRow x = [.int .u32 (x.toNat : Int)] := rfl
theorem wds_zero (blk : List UInt8) : wds blk 0 = [] := rfl
@[go_sem] theorem wRow_clos (l : List UInt32) : (l.map wRow).all clos = true := by
  rw [List.all_eq_true]; intro r hr
  rw [List.mem_map] at hr
  obtain ⟨x, _, rfl⟩ := hr
  rfl
@[go_sem] theorem e148 : fn C 148 [] [] = some (.slice 1 (KS.map wRow), []) := by
  rw [fn_text Tryz.func148 rfl rfl Tryz.results148 fq148.1 rfl rfl (by kernel_rfl)]
  have h : [[AVal.int .u32 1116352408], [AVal.int .u32 1899447441], [AVal.int .u32 3049323471], [AVal.int .u32 3921009573], [AVal.int .u32 961987163], [AVal.int .u32 1508970993], [AVal.int .u32 2453635748], [AVal.int .u32 2870763221], [AVal.int .u32 3624381080], [AVal.int .u32 310598401], [AVal.int .u32 607225278], [AVal.int .u32 1426881987], [AVal.int .u32 1925078388], [AVal.int .u32 2162078206], [AVal.int .u32 2614888103], [AVal.int .u32 3248222580], [AVal.int .u32 3835390401], [AVal.int .u32 4022224774], [AVal.int .u32 264347078], [AVal.int .u32 604807628], [AVal.int .u32 770255983], [AVal.int .u32 1249150122], [AVal.int .u32 1555081692], [AVal.int .u32 1996064986], [AVal.int .u32 2554220882], [AVal.int .u32 2821834349], [AVal.int .u32 2952996808], [AVal.int .u32 3210313671], [AVal.int .u32 3336571891], [AVal.int .u32 3584528711], [AVal.int .u32 113926993], [AVal.int .u32 338241895], [AVal.int .u32 666307205], [AVal.int .u32 773529912], [AVal.int .u32 1294757372], [AVal.int .u32 1396182291], [AVal.int .u32 1695183700], [AVal.int .u32 1986661051], [AVal.int .u32 2177026350], [AVal.int .u32 2456956037], [AVal.int .u32 2730485921], [AVal.int .u32 2820302411], [AVal.int .u32 3259730800], [AVal.int .u32 3345764771], [AVal.int .u32 3516065817], [AVal.int .u32 3600352804], [AVal.int .u32 4094571909], [AVal.int .u32 275423344], [AVal.int .u32 430227734], [AVal.int .u32 506948616], [AVal.int .u32 659060556], [AVal.int .u32 883997877], [AVal.int .u32 958139571], [AVal.int .u32 1322822218], [AVal.int .u32 1537002063], [AVal.int .u32 1747873779], [AVal.int .u32 1955562222], [AVal.int .u32 2024104815], [AVal.int .u32 2227730452], [AVal.int .u32 2361852424], [AVal.int .u32 2428436474], [AVal.int .u32 2756734187], [AVal.int .u32 3204031479], [AVal.int .u32 3329325298]] = KS.map wRow := by kernel_rfl
  simp -implicitDefEqProofs -dsimp +contextual (maxSteps := 5000000) (disch := first | omega | simp only [go_sem] <;> omega | refine ib ?_; kernel_rfl) only [go_sem, Nat.reduceBEq, Int.reduceNeg, Int.reduceLT, Int.reduceLE, Int.reduceAdd, Int.reduceSub, Int.reduceToNat, Int.reduceMul, Int.reduceMod, Int.reduceTMod, Int.reduceTDiv, Int.reduceEq, Nat.reducePow, Nat.reduceDiv, Nat.reduceShiftRight, Nat.reduceMod, List.reduceReplicate, ↓reduceIte, Nat.reduceEqDiff, Nat.reduceAdd, Nat.reduceSub, Nat.reduceLeDiff, Nat.reduceLT, Nat.reduceMul, h]
theorem rows_add (u s : S8) : [[AVal.int .u32 ((s.a + u.a).toNat : Int)], [AVal.int .u32 ((s.b + u.b).toNat : Int)], [AVal.int .u32 ((s.c + u.c).toNat : Int)], [AVal.int .u32 ((s.d + u.d).toNat : Int)], [AVal.int .u32 ((s.e + u.e).toNat : Int)], [AVal.int .u32 ((s.f + u.f).toNat : Int)], [AVal.int .u32 ((s.g + u.g).toNat : Int)], [AVal.int .u32 ((s.h + u.h).toNat : Int)]] = (u.add s).l.map wRow := by
  rw [UInt32.add_comm s.a, UInt32.add_comm s.b, UInt32.add_comm s.c, UInt32.add_comm s.d, UInt32.add_comm s.e, UInt32.add_comm s.f, UInt32.add_comm s.g, UInt32.add_comm s.h]; rfl
theorem sstep_eq (u : S8) (k w : UInt32) : sstep u k w = ⟨chx u k w + chy u, u.a, u.b, u.c, u.d + chx u k w, u.e, u.f, u.g⟩ := by unfold sstep; rfl
theorem wsOf_eq (blk : List UInt8) : wsOf blk = extW 48 (wds blk 16) := rfl
theorem extW_succ (n : Nat) (l : List UInt32) : extW (n + 1) l = extW n (l ++ [nxt l]) := rfl
theorem extW_zero (l : List UInt32) : extW 0 l = l := rfl
attribute [local irreducible] wsOf KS rr wds nxt extW wd chx chy sstep S8.add
theorem numB_wd (blk : List UInt8) (t : Nat) (h : 4 * t + 4 ≤ blk.length) : numB ((blk.drop (4 * t)).take (4 * t + 4 - 4 * t)) = wd blk t := by
  rw [show 4 * t + 4 - 4 * t = 4 by omega, wd, numB]
  simp only [List.getD_eq_getElem?_getD, List.getElem?_take, List.getElem?_drop]
  simp
set_option maxHeartbeats 1000000 in
@[go_sem] theorem e136 (s : S8) (blk : List UInt8) (h : blk.length = 64) : fn C 136 [] [.slice 1 (s.l.map wRow), .slice 1 (blk.map byteRow)] = some (.slice 1 ((blockS s blk).l.map wRow), []) := by
  rw [fn_text Tryz.func136 rfl rfl Tryz.results136 fq136.1 rfl rfl (by kernel_rfl)]
  have hw := wsOf_len blk
  have hk := KS_len
  have hsl : s.l.map wRow = [[.int .u32 (s.a.toNat : Int)], [.int .u32 (s.b.toNat : Int)], [.int .u32 (s.c.toNat : Int)], [.int .u32 (s.d.toNat : Int)], [.int .u32 (s.e.toNat : Int)], [.int .u32 (s.f.toNat : Int)], [.int .u32 (s.g.toNat : Int)], [.int .u32 (s.h.toNat : Int)]] := rfl
  rw [hsl]
  simp -implicitDefEqProofs -dsimp +contextual (maxSteps := 5000000) (disch := first | omega | simp only [go_sem] <;> omega | refine ib ?_; kernel_rfl) only [go_sem, Nat.reduceBEq, Int.reduceNeg, Int.reduceLT, Int.reduceLE, Int.reduceAdd, Int.reduceSub, Int.reduceToNat, Int.reduceMul, Int.reduceMod, Int.reduceTMod, Int.reduceTDiv, Int.reduceEq, Nat.reducePow, Nat.reduceDiv, Nat.reduceShiftRight, Nat.reduceMod, List.reduceReplicate, ↓reduceIte, Nat.reduceEqDiff, Nat.reduceAdd, Nat.reduceSub, Nat.reduceLeDiff, Nat.reduceLT, Nat.reduceMul, h, hw]
  refine (kLoop_rec2 (fun (t : Nat) (l : List UInt32) f H => f 0 = .slice 1 [[.int .u32 (s.a.toNat : Int)], [.int .u32 (s.b.toNat : Int)], [.int .u32 (s.c.toNat : Int)], [.int .u32 (s.d.toNat : Int)], [.int .u32 (s.e.toNat : Int)], [.int .u32 (s.f.toNat : Int)], [.int .u32 (s.g.toNat : Int)], [.int .u32 (s.h.toNat : Int)]] ∧ f 1 = .slice 1 (blk.map byteRow) ∧ f 6 = .int .i64 (t : Int) ∧ ((t = 0 ∧ f 5 = .sc (.slice none 0 0) ∧ H 137 = ⟨0, .dead, 0, [], false⟩) ∨ (t ≠ 0 ∧ f 5 = .osl 137 t 0 t ∧ H 137 = ⟨t, .live, 1, l.map wRow, false⟩)) ∧ l.length = t ∧ t ≤ 64 ∧ (t ≤ 16 → l = wds blk t)) (fun t _ => 64 - t) (fun t l => some (.slice 1 (((rnd KS (if t ≤ 16 then wsOf blk else extW (64 - t) l) s).add s).l.map wRow), [])) ?_ 0 [] _ _ ⟨rfl, rfl, rfl, .inl ⟨rfl, rfl, rfl⟩, rfl, by omega, fun _ => by rw [wds]; rfl⟩)
  rintro t l f H ⟨f0, f1, f6, hc, hlen, ht, hwd⟩ ih
  by_cases hlt : t < 64
  · by_cases h16 : t < 16
    · rcases hc with ⟨rfl, f5, H137⟩ | ⟨h0, f5, H137⟩
      · simp -implicitDefEqProofs -dsimp +contextual (maxSteps := 5000000) (disch := first | omega | simp only [go_sem] <;> omega | refine ib ?_; kernel_rfl) only [go_sem, Nat.reduceBEq, Int.reduceNeg, Int.reduceLT, Int.reduceLE, Int.reduceAdd, Int.reduceSub, Int.reduceToNat, Int.reduceMul, Int.reduceMod, Int.reduceTMod, Int.reduceTDiv, Int.reduceEq, Nat.reducePow, Nat.reduceDiv, Nat.reduceShiftRight, Nat.reduceMod, List.reduceReplicate, ↓reduceIte, Nat.reduceEqDiff, Nat.reduceAdd, Nat.reduceSub, Nat.reduceLeDiff, Nat.reduceLT, Nat.reduceMul, f0, f1, f5, f6, H137, h, hlt, h16]
        have hn : numB (blk.take 4) = wd blk 0 := by simpa using numB_wd blk 0 (by omega)
        refine Eq.trans (ih 1 [wd blk 0] _ _ ⟨f0, f1, rfl, .inr ⟨by omega, by simp [upd], ?_⟩, rfl, by omega, fun _ => ?_⟩ (by omega)) ?_
        · rw [hn]; rfl
        · rw [show (1 : Nat) = 0 + 1 from rfl, wds_succ, wds_zero]; rfl
        · rw [if_pos (by decide)]
      · have hn := numB_wd blk t (by omega)
        simp -implicitDefEqProofs -dsimp +contextual (maxSteps := 5000000) (disch := first | omega | simp only [go_sem] <;> omega | refine ib ?_; kernel_rfl) only [go_sem, Nat.reduceBEq, Int.reduceNeg, Int.reduceLT, Int.reduceLE, Int.reduceAdd, Int.reduceSub, Int.reduceToNat, Int.reduceMul, Int.reduceMod, Int.reduceTMod, Int.reduceTDiv, Int.reduceEq, Nat.reducePow, Nat.reduceDiv, Nat.reduceShiftRight, Nat.reduceMod, List.reduceReplicate, ↓reduceIte, Nat.reduceEqDiff, Nat.reduceAdd, Nat.reduceSub, Nat.reduceLeDiff, Nat.reduceLT, Nat.reduceMul, f0, f1, f5, f6, H137, h, hlt, h16, hlen]
        rw [hn]
        refine Eq.trans (ih (t + 1) (l ++ [wd blk t]) _ _ ⟨f0, f1, rfl, .inr ⟨by omega, by simp [upd], ?_⟩, by simp [hlen], by omega, fun _ => ?_⟩ (by omega)) ?_
        · rw [List.map_append]; rfl
        · rw [wds_succ, hwd (by omega)]
        · rw [if_pos (by omega)]
          try rw [if_pos (by omega)]
    · rcases hc with ⟨rfl, f5, H137⟩ | ⟨h0, f5, H137⟩
      · exact absurd (by decide) h16
      · simp -implicitDefEqProofs -dsimp +contextual (maxSteps := 5000000) (disch := first | omega | simp only [go_sem] <;> omega | refine ib ?_; kernel_rfl) only [go_sem, Nat.reduceBEq, Int.reduceNeg, Int.reduceLT, Int.reduceLE, Int.reduceAdd, Int.reduceSub, Int.reduceToNat, Int.reduceMul, Int.reduceMod, Int.reduceTMod, Int.reduceTDiv, Int.reduceEq, Nat.reducePow, Nat.reduceDiv, Nat.reduceShiftRight, Nat.reduceMod, List.reduceReplicate, ↓reduceIte, Nat.reduceEqDiff, Nat.reduceAdd, Nat.reduceSub, Nat.reduceLeDiff, Nat.reduceLT, Nat.reduceMul, f0, f1, f5, f6, H137, h, hlt, h16, hlen, div8, div1024]
        have hn : l[t - 16] + l[t - 7] + (rr l[t - 15] 7 ^^^ rr l[t - 15] 18 ^^^ W32.shr l[t - 15] 3) + (rr l[t - 2] 17 ^^^ rr l[t - 2] 19 ^^^ W32.shr l[t - 2] 10) = nxt l := by
          subst hlen
          rw [nxt, getD_of _ _ _ (by omega), getD_of _ _ _ (by omega), getD_of _ _ _ (by omega), getD_of _ _ _ (by omega), sg0, sg1]
        have hF : (if t ≤ 16 then wsOf blk else extW (64 - t) l) = extW (64 - (t + 1)) (l ++ [nxt l]) := by
          rw [← extW_succ, show 64 - (t + 1) + 1 = 64 - t by omega]
          split
          · obtain rfl : t = 16 := by omega
            rw [wsOf_eq, hwd (by omega)]
          · rfl
        rw [hn, hF]
        refine Eq.trans (ih (t + 1) (l ++ [nxt l]) _ _ ⟨f0, f1, rfl, .inr ⟨by omega, by simp [upd], ?_⟩, by simp [hlen], by omega, fun _ => by omega⟩ (by omega)) ?_
        · rw [List.map_append]; rfl
        · rw [if_neg (by omega)]
  · obtain rfl : t = 64 := by omega
    rcases hc with ⟨h0, _⟩ | ⟨h0, f5, H137⟩
    · omega
    rw [if_neg (by omega), show 64 - 64 = 0 from rfl, extW_zero]
    simp -implicitDefEqProofs -dsimp +contextual (maxSteps := 5000000) (disch := first | omega | simp only [go_sem] <;> omega | refine ib ?_; kernel_rfl) only [go_sem, Nat.reduceBEq, Int.reduceNeg, Int.reduceLT, Int.reduceLE, Int.reduceAdd, Int.reduceSub, Int.reduceToNat, Int.reduceMul, Int.reduceMod, Int.reduceTMod, Int.reduceTDiv, Int.reduceEq, Nat.reducePow, Nat.reduceDiv, Nat.reduceShiftRight, Nat.reduceMod, List.reduceReplicate, ↓reduceIte, Nat.reduceEqDiff, Nat.reduceAdd, Nat.reduceSub, Nat.reduceLeDiff, Nat.reduceLT, Nat.reduceMul, f0, f1, f5, f6, H137, h, hlt, hlen, hk]
    refine (kLoop_rec2 (fun (i : Nat) (u : S8) f H => f 0 = .slice 1 [[.int .u32 (s.a.toNat : Int)], [.int .u32 (s.b.toNat : Int)], [.int .u32 (s.c.toNat : Int)], [.int .u32 (s.d.toNat : Int)], [.int .u32 (s.e.toNat : Int)], [.int .u32 (s.f.toNat : Int)], [.int .u32 (s.g.toNat : Int)], [.int .u32 (s.h.toNat : Int)]] ∧ f 5 = .osl 137 64 0 64 ∧ f 9 = .slice 1 (KS.map wRow) ∧ f 10 = .int .u32 (u.a.toNat : Int) ∧ f 11 = .int .u32 (u.b.toNat : Int) ∧ f 12 = .int .u32 (u.c.toNat : Int) ∧ f 13 = .int .u32 (u.d.toNat : Int) ∧ f 14 = .int .u32 (u.e.toNat : Int) ∧ f 15 = .int .u32 (u.f.toNat : Int) ∧ f 16 = .int .u32 (u.g.toNat : Int) ∧ f 17 = .int .u32 (u.h.toNat : Int) ∧ f 18 = .int .i64 (i : Int) ∧ H 137 = ⟨64, .live, 1, l.map wRow, false⟩ ∧ i ≤ 64) (fun i _ => 64 - i) (fun i u => some (.slice 1 (((rnd (KS.drop i) (l.drop i) u).add s).l.map wRow), [])) ?_ 0 s _ _ ⟨f0, f5, rfl, rfl, rfl, rfl, rfl, rfl, rfl, rfl, rfl, rfl, H137, by omega⟩)
    rintro i u f H ⟨f0, f5, f9, g10, g11, g12, g13, g14, g15, g16, g17, f18, H137, hi⟩ ih
    by_cases hl : i < 64
    · simp -implicitDefEqProofs -dsimp +contextual (maxSteps := 5000000) (disch := first | omega | simp only [go_sem] <;> omega | refine ib ?_; kernel_rfl) only [go_sem, Nat.reduceBEq, Int.reduceNeg, Int.reduceLT, Int.reduceLE, Int.reduceAdd, Int.reduceSub, Int.reduceToNat, Int.reduceMul, Int.reduceMod, Int.reduceTMod, Int.reduceTDiv, Int.reduceEq, Nat.reducePow, Nat.reduceDiv, Nat.reduceShiftRight, Nat.reduceMod, List.reduceReplicate, ↓reduceIte, Nat.reduceEqDiff, Nat.reduceAdd, Nat.reduceSub, Nat.reduceLeDiff, Nat.reduceLT, Nat.reduceMul, f0, f5, f9, g10, g11, g12, g13, g14, g15, g16, g17, f18, H137, hl, hlen, hk]
      have c1 := chx_eq u (KS[i]'(by rw [hk]; exact hl)) (l[i]'(by rw [hlen]; exact hl))
      have c2 := chy_eq u
      have c3 := rnd_drop KS l i (by rw [hk]; exact hl) (by rw [hlen]; exact hl) u
      rw [sstep_eq] at c3
      rw [c1, c2, c3]
      refine ih (i + 1) _ _ _ ?_ (by omega)
      exact ⟨f0, f5, f9, rfl, rfl, rfl, rfl, rfl, rfl, rfl, rfl, rfl, H137, by omega⟩
    · simp -implicitDefEqProofs -dsimp +contextual (maxSteps := 5000000) (disch := first | omega | simp only [go_sem] <;> omega | refine ib ?_; kernel_rfl) only [go_sem, Nat.reduceBEq, Int.reduceNeg, Int.reduceLT, Int.reduceLE, Int.reduceAdd, Int.reduceSub, Int.reduceToNat, Int.reduceMul, Int.reduceMod, Int.reduceTMod, Int.reduceTDiv, Int.reduceEq, Nat.reducePow, Nat.reduceDiv, Nat.reduceShiftRight, Nat.reduceMod, List.reduceReplicate, ↓reduceIte, Nat.reduceEqDiff, Nat.reduceAdd, Nat.reduceSub, Nat.reduceLeDiff, Nat.reduceLT, Nat.reduceMul, f0, f5, f9, g10, g11, g12, g13, g14, g15, g16, g17, f18, H137, hl, hlen, hk]
      obtain rfl : i = 64 := by omega
      rw [rnd_nil]
      exact congrArg (fun x => some (AVal.slice 1 x, ([] : List AVal))) (rows_add u s)

end Go.Proofs.YtccfjidpdlfenaaGreatDoor
namespace Go.Proofs.YtccfjidpdlfenaaGreatDoor
open Go.Am
set_option linter.unusedSimpArgs false
set_option linter.unusedVariables false
set_option maxRecDepth 100000
/-! Layer 3: what stands behind a text. -/
def padD (n : Nat) : List UInt8 := 128 :: (List.replicate ((119 - n % 64) % 64) 0 ++ beN 8 (n * 8))
set_option maxHeartbeats 1000000 in
@[go_sem] theorem e128 (n : Nat) (h : n ≤ 1000000000000) : fn C 128 [] [.int .i64 (n : Int)] = some (.slice 1 ((padD n).map byteRow), []) := by
  rw [fn_text Tryz.func128 rfl rfl Tryz.results128 fq128.1 rfl rfl (by kernel_rfl)]
  have h119 : (119 : Int) - ((n % 64 : Nat) : Int) = ((119 - n % 64 : Nat) : Int) := by omega
  simp -implicitDefEqProofs -dsimp +contextual (maxSteps := 5000000) (disch := first | omega | simp only [go_sem] <;> omega | refine ib ?_; kernel_rfl) only [go_sem, Nat.reduceBEq, Int.reduceNeg, Int.reduceLT, Int.reduceLE, Int.reduceAdd, Int.reduceSub, Int.reduceToNat, Int.reduceMul, Int.reduceMod, Int.reduceTMod, Int.reduceTDiv, Int.reduceEq, Nat.reducePow, Nat.reduceDiv, Nat.reduceShiftRight, Nat.reduceMod, List.reduceReplicate, ↓reduceIte, Nat.reduceEqDiff, Nat.reduceAdd, Nat.reduceSub, Nat.reduceLeDiff, Nat.reduceLT, Nat.reduceMul, h119, kLoop_eq, Nat.not_lt_zero]
  have b1 : ((n * 8 / 72057594037927936 : Nat) : Int) = ((UInt8.ofNat (n * 8 / 72057594037927936)).toNat : Int) := by simp only [UInt8.toNat_ofNat']; omega
  have b2 : ((n * 8 / 281474976710656 : Nat) : Int) = ((UInt8.ofNat (n * 8 / 281474976710656)).toNat : Int) := by simp only [UInt8.toNat_ofNat']; omega
  have b3 : ((n * 8 / 1099511627776 : Nat) : Int) = ((UInt8.ofNat (n * 8 / 1099511627776)).toNat : Int) := by simp only [UInt8.toNat_ofNat']; omega
  rw [b1, b2, b3, u8_wrap, u8_wrap, u8_wrap, u8_wrap, u8_wrap]
  simp only [padD, beN, show List.range 8 = [0, 1, 2, 3, 4, 5, 6, 7] from rfl, List.map_cons, List.map_nil, List.map_append, List.append_assoc, List.cons_append, List.nil_append, List.append_nil]
  rfl
set_option maxHeartbeats 1000000 in
@[go_sem] theorem e134 (n : Nat) (h : n ≤ 1000000000000) : fn C 134 [] [.int .i64 (n : Int)] = some (.slice 1 ((padD n).map byteRow), []) := by
  rw [fn_text Tryz.func134 rfl rfl Tryz.results134 fq134.1 rfl rfl (by kernel_rfl)]
  simp -implicitDefEqProofs -dsimp +contextual (maxSteps := 5000000) (disch := first | omega | simp only [go_sem] <;> omega | refine ib ?_; kernel_rfl) only [go_sem, Nat.reduceBEq, Int.reduceNeg, Int.reduceLT, Int.reduceLE, Int.reduceAdd, Int.reduceSub, Int.reduceToNat, Int.reduceMul, Int.reduceMod, Int.reduceTMod, Int.reduceTDiv, Int.reduceEq, Nat.reducePow, Nat.reduceDiv, Nat.reduceShiftRight, Nat.reduceMod, List.reduceReplicate, ↓reduceIte, Nat.reduceEqDiff, Nat.reduceAdd, Nat.reduceSub, Nat.reduceLeDiff, Nat.reduceLT, Nat.reduceMul, Nat.not_lt_zero]
  obtain ⟨Z, hZ⟩ : ∃ Z, Z = (119 - n % 64) % 64 := ⟨_, rfl⟩
  refine (kLoop_rec (fun (k : Nat) f H => f 0 = .int .i64 (n : Int) ∧ f 3 = .osl 108 (k + 1) 0 (k + 1) ∧ H 108 = ⟨k + 1, .live, 1, (128 :: List.replicate k (0 : UInt8)).map byteRow, false⟩ ∧ k ≤ Z) (fun k => Z - k) (fun _ => some (.slice 1 ((padD n).map byteRow), [])) ?_ 0 _ _ ⟨rfl, rfl, rfl, by omega⟩)
  rintro k f H ⟨f0, f3, H8, hk⟩ ih
  by_cases hl : (n % 64 + (k + 1) + 8) % 64 = 0
  · obtain rfl : k = Z := by omega
    simp -implicitDefEqProofs -dsimp +contextual (maxSteps := 5000000) (disch := first | omega | simp only [go_sem] <;> omega | refine ib ?_; kernel_rfl) only [go_sem, Nat.reduceBEq, Int.reduceNeg, Int.reduceLT, Int.reduceLE, Int.reduceAdd, Int.reduceSub, Int.reduceToNat, Int.reduceMul, Int.reduceMod, Int.reduceTMod, Int.reduceTDiv, Int.reduceEq, Nat.reducePow, Nat.reduceDiv, Nat.reduceShiftRight, Nat.reduceMod, List.reduceReplicate, ↓reduceIte, Nat.reduceEqDiff, Nat.reduceAdd, Nat.reduceSub, Nat.reduceLeDiff, Nat.reduceLT, Nat.reduceMul, f0, f3, H8, hl, kLoop_eq]
    have hm : ∀ m : Nat, ((m % 256 : Nat) : Int) = ((UInt8.ofNat m).toNat : Int) := fun m => by simp [UInt8.toNat_ofNat']
    rw [hm, hm, hm, hm, hm, hm, hm, hm, hZ]
    simp only [padD, beN, show List.range 8 = [0, 1, 2, 3, 4, 5, 6, 7] from rfl, List.map_cons, List.map_nil, List.map_append, List.append_assoc, List.cons_append, List.nil_append, List.append_nil]
    rfl
  · simp -implicitDefEqProofs -dsimp +contextual (maxSteps := 5000000) (disch := first | omega | simp only [go_sem] <;> omega | refine ib ?_; kernel_rfl) only [go_sem, Nat.reduceBEq, Int.reduceNeg, Int.reduceLT, Int.reduceLE, Int.reduceAdd, Int.reduceSub, Int.reduceToNat, Int.reduceMul, Int.reduceMod, Int.reduceTMod, Int.reduceTDiv, Int.reduceEq, Nat.reducePow, Nat.reduceDiv, Nat.reduceShiftRight, Nat.reduceMod, List.reduceReplicate, ↓reduceIte, Nat.reduceEqDiff, Nat.reduceAdd, Nat.reduceSub, Nat.reduceLeDiff, Nat.reduceLT, Nat.reduceMul, f0, f3, H8, hl]
    refine ih (k + 1) _ _ ⟨f0, rfl, ?_, by omega⟩ (by omega)
    rw [List.replicate_succ', List.map_cons, List.map_append]
    rfl

end Go.Proofs.YtccfjidpdlfenaaGreatDoor
namespace Go.Proofs.YtccfjidpdlfenaaGreatDoor
open Go.Am
set_option linter.unusedSimpArgs false
set_option linter.unusedVariables false
set_option maxRecDepth 100000
/-! Layer 3: sums. -/
def H0 : S8 := ⟨1779033703, 3144134277, 1013904242, 2773480762, 1359893119, 2600822924, 528734635, 1541459225⟩
theorem H0_w : [AVal.int .u32 1779033703, .int .u32 3144134277, .int .u32 1013904242, .int .u32 2773480762, .int .u32 1359893119, .int .u32 2600822924, .int .u32 528734635, .int .u32 1541459225] = H0.l.map w32 := by kernel_rfl
theorem H0_r : [[AVal.int .u32 1779033703], [.int .u32 3144134277], [.int .u32 1013904242], [.int .u32 2773480762], [.int .u32 1359893119], [.int .u32 2600822924], [.int .u32 528734635], [.int .u32 1541459225]] = H0.l.map wRow := by kernel_rfl
@[go_sem] theorem S8_len (s : S8) : s.l.length = 8 := rfl
def stS (all : List UInt8) : Nat → S8
  | 0 => H0
  | i + 1 => blockS (stS all i) ((all.drop (64 * i)).take 64)
def be8 (x : UInt32) : List UInt8 := [(W32.shr x 24).toUInt8, (W32.shr x 16).toUInt8, (W32.shr x 8).toUInt8, x.toUInt8]
def outS (s : S8) : List UInt8 := s.l.flatMap be8
def allB (b : List UInt8) : List UInt8 := b ++ padD b.length
def sumB (b : List UInt8) : List UInt8 := outS (stS (allB b) ((allB b).length / 64))
theorem padD_len (n : Nat) : (padD n).length = (119 - n % 64) % 64 + 9 := by simp [padD, beN_len]
theorem allB_len (b : List UInt8) : (allB b).length = b.length + ((119 - b.length % 64) % 64 + 9) := by rw [allB, List.length_append, padD_len]
theorem allB_mod (b : List UInt8) : (allB b).length % 64 = 0 := by rw [allB_len]; omega

@[go_sem] theorem e129 : fn C 129 [] [] = some (.agg (H0.l.map w32), []) := by
  rw [fn_text Tryz.func129 rfl rfl Tryz.results129 fq129.1 rfl rfl (by kernel_rfl)]
  simp -implicitDefEqProofs -dsimp +contextual (maxSteps := 5000000) (disch := first | omega | simp only [go_sem] <;> omega | refine ib ?_; kernel_rfl) only [go_sem, Nat.reduceBEq, Int.reduceNeg, Int.reduceLT, Int.reduceLE, Int.reduceAdd, Int.reduceSub, Int.reduceToNat, Int.reduceMul, Int.reduceMod, Int.reduceTMod, Int.reduceTDiv, Int.reduceEq, Nat.reducePow, Nat.reduceDiv, Nat.reduceShiftRight, Nat.reduceMod, List.reduceReplicate, ↓reduceIte, Nat.reduceEqDiff, Nat.reduceAdd, Nat.reduceSub, Nat.reduceLeDiff, Nat.reduceLT, Nat.reduceMul, H0_w]

@[go_sem] theorem e135 : fn C 135 [] [] = some (.slice 1 (H0.l.map wRow), []) := by
  rw [fn_text Tryz.func135 rfl rfl Tryz.results135 fq135.1 rfl rfl (by kernel_rfl)]
  simp -implicitDefEqProofs -dsimp +contextual (maxSteps := 5000000) (disch := first | omega | simp only [go_sem] <;> omega | refine ib ?_; kernel_rfl) only [go_sem, Nat.reduceBEq, Int.reduceNeg, Int.reduceLT, Int.reduceLE, Int.reduceAdd, Int.reduceSub, Int.reduceToNat, Int.reduceMul, Int.reduceMod, Int.reduceTMod, Int.reduceTDiv, Int.reduceEq, Nat.reducePow, Nat.reduceDiv, Nat.reduceShiftRight, Nat.reduceMod, List.reduceReplicate, ↓reduceIte, Nat.reduceEqDiff, Nat.reduceAdd, Nat.reduceSub, Nat.reduceLeDiff, Nat.reduceLT, Nat.reduceMul, H0_r]

attribute [local irreducible] blockS padD
set_option maxHeartbeats 1000000 in
@[go_sem] theorem e109 (b : List UInt8) (h : b.length ≤ 1000000) : fn C 109 [] [.slice 1 (b.map byteRow)] = some (.slice 1 ((sumB b).map byteRow), []) := by
  rw [fn_text Tryz.func109 rfl rfl Tryz.results109 fq109.1 rfl rfl (by kernel_rfl)]
  have hp := padD_len b.length
  simp -implicitDefEqProofs -dsimp +contextual (maxSteps := 5000000) (disch := first | omega | simp only [go_sem] <;> omega | refine ib ?_; kernel_rfl) only [go_sem, Nat.reduceBEq, Int.reduceNeg, Int.reduceLT, Int.reduceLE, Int.reduceAdd, Int.reduceSub, Int.reduceToNat, Int.reduceMul, Int.reduceMod, Int.reduceTMod, Int.reduceTDiv, Int.reduceEq, Nat.reducePow, Nat.reduceDiv, Nat.reduceShiftRight, Nat.reduceMod, List.reduceReplicate, ↓reduceIte, Nat.reduceEqDiff, Nat.reduceAdd, Nat.reduceSub, Nat.reduceLeDiff, Nat.reduceLT, Nat.reduceMul, h, hp]
  have hmod := allB_mod b
  have hAl := allB_len b
  rw [show b ++ padD b.length = allB b from rfl, sumB]
  generalize hA : allB b = A at *
  have hAm : A.length ≤ 1001000 := by omega
  obtain ⟨m, hm⟩ : ∃ m, A.length = 64 * m := ⟨A.length / 64, by omega⟩
  rw [show A.length / 64 = m by omega]
  refine (kLoop_rec (fun (i : Nat) f H => f 3 = .slice 1 (A.map byteRow) ∧ f 4 = .ptr 104 1 0 0 ∧ f 5 = .int .i64 ((64 * i : Nat) : Int) ∧ H 104 = ⟨1, .live, 8, [(stS A i).l.map w32], false⟩ ∧ (H 148).gen = 0 ∧ i ≤ m) (fun i => m - i) (fun _ => some (.slice 1 ((outS (stS A m)).map byteRow), [])) ?_ 0 _ _ ⟨rfl, rfl, rfl, rfl, rfl, by omega⟩)
  rintro i f H ⟨f3, f4, f5, H4, g, hi⟩ ih
  by_cases hl : 64 * i + 64 ≤ A.length
  · simp -implicitDefEqProofs -dsimp +contextual (maxSteps := 5000000) (disch := first | omega | simp only [go_sem] <;> omega | refine ib ?_; kernel_rfl) only [go_sem, Nat.reduceBEq, Int.reduceNeg, Int.reduceLT, Int.reduceLE, Int.reduceAdd, Int.reduceSub, Int.reduceToNat, Int.reduceMul, Int.reduceMod, Int.reduceTMod, Int.reduceTDiv, Int.reduceEq, Nat.reducePow, Nat.reduceDiv, Nat.reduceShiftRight, Nat.reduceMod, List.reduceReplicate, ↓reduceIte, Nat.reduceEqDiff, Nat.reduceAdd, Nat.reduceSub, Nat.reduceLeDiff, Nat.reduceLT, Nat.reduceMul, f3, f4, f5, H4, g, hl]
    refine ih (i + 1) _ _ ⟨f3, f4, by simp only [upd, if_true]; congr 1, ?_, g, by omega⟩ (by omega)
    rw [stS, show 64 * i + 64 - 64 * i = 64 by omega]
    rfl
  · obtain rfl : i = m := by omega
    simp -implicitDefEqProofs -dsimp +contextual (maxSteps := 5000000) (disch := first | omega | simp only [go_sem] <;> omega | refine ib ?_; kernel_rfl) only [go_sem, Nat.reduceBEq, Int.reduceNeg, Int.reduceLT, Int.reduceLE, Int.reduceAdd, Int.reduceSub, Int.reduceToNat, Int.reduceMul, Int.reduceMod, Int.reduceTMod, Int.reduceTDiv, Int.reduceEq, Nat.reducePow, Nat.reduceDiv, Nat.reduceShiftRight, Nat.reduceMod, List.reduceReplicate, ↓reduceIte, Nat.reduceEqDiff, Nat.reduceAdd, Nat.reduceSub, Nat.reduceLeDiff, Nat.reduceLT, Nat.reduceMul, f3, f4, f5, H4, g, hl]
    generalize stS A i = s
    have hsl : s.l.map w32 = [.int .u32 (s.a.toNat : Int), .int .u32 (s.b.toNat : Int), .int .u32 (s.c.toNat : Int), .int .u32 (s.d.toNat : Int), .int .u32 (s.e.toNat : Int), .int .u32 (s.f.toNat : Int), .int .u32 (s.g.toNat : Int), .int .u32 (s.h.toNat : Int)] := rfl
    rw [hsl]
    simp -implicitDefEqProofs -dsimp +contextual (maxSteps := 5000000) (disch := first | omega | simp only [go_sem] <;> omega | refine ib ?_; kernel_rfl) only [go_sem, Nat.reduceBEq, Int.reduceNeg, Int.reduceLT, Int.reduceLE, Int.reduceAdd, Int.reduceSub, Int.reduceToNat, Int.reduceMul, Int.reduceMod, Int.reduceTMod, Int.reduceTDiv, Int.reduceEq, Nat.reducePow, Nat.reduceDiv, Nat.reduceShiftRight, Nat.reduceMod, List.reduceReplicate, ↓reduceIte, Nat.reduceEqDiff, Nat.reduceAdd, Nat.reduceSub, Nat.reduceLeDiff, Nat.reduceLT, Nat.reduceMul, kLoop_eq, f3, H4, g]
    rfl

set_option maxHeartbeats 1000000 in
@[go_sem] theorem e116 (b : List UInt8) (h : b.length ≤ 1000000) : fn C 116 [] [.slice 1 (b.map byteRow)] = some (.usl 1 ((sumB b).map byteRow), []) := by
  rw [fn_text Tryz.func116 rfl rfl Tryz.results116 fq116.1 rfl rfl (by kernel_rfl)]
  have hp := padD_len b.length
  simp -implicitDefEqProofs -dsimp +contextual (maxSteps := 5000000) (disch := first | omega | simp only [go_sem] <;> omega | refine ib ?_; kernel_rfl) only [go_sem, Nat.reduceBEq, Int.reduceNeg, Int.reduceLT, Int.reduceLE, Int.reduceAdd, Int.reduceSub, Int.reduceToNat, Int.reduceMul, Int.reduceMod, Int.reduceTMod, Int.reduceTDiv, Int.reduceEq, Nat.reducePow, Nat.reduceDiv, Nat.reduceShiftRight, Nat.reduceMod, List.reduceReplicate, ↓reduceIte, Nat.reduceEqDiff, Nat.reduceAdd, Nat.reduceSub, Nat.reduceLeDiff, Nat.reduceLT, Nat.reduceMul, h, hp]
  have hmod := allB_mod b
  have hAl := allB_len b
  rw [show b ++ padD b.length = allB b from rfl, sumB, ← hAl]
  generalize hA : allB b = A at *
  have hAm : A.length ≤ 1001000 := by omega
  obtain ⟨m, hm⟩ : ∃ m, A.length = 64 * m := ⟨A.length / 64, by omega⟩
  rw [show A.length / 64 = m by omega]
  refine (kLoop_rec (fun (i : Nat) f H => f 3 = .osl 108 3 0 A.length ∧ f 4 = .slice 1 ((stS A i).l.map wRow) ∧ f 5 = .int .i64 ((64 * i : Nat) : Int) ∧ (H 108 = ⟨3, .live, 1, A.map byteRow, false⟩ ∨ H 108 = ⟨3, .froz, 1, A.map byteRow, false⟩) ∧ (H 157).gen = 0 ∧ i ≤ m) (fun i => m - i) (fun _ => some (.usl 1 ((outS (stS A m)).map byteRow), [])) ?_ 0 _ _ ⟨rfl, rfl, rfl, .inl rfl, rfl, by omega⟩)
  rintro i f H ⟨f3, f4, f5, H8, g, hi⟩ ih
  by_cases hl : 64 * i < A.length
  · have h64 : 64 * i + 64 ≤ A.length := by omega
    rcases H8 with H8 | H8
    · simp -implicitDefEqProofs -dsimp +contextual (maxSteps := 5000000) (disch := first | omega | simp only [go_sem] <;> omega | refine ib ?_; kernel_rfl) only [go_sem, Nat.reduceBEq, Int.reduceNeg, Int.reduceLT, Int.reduceLE, Int.reduceAdd, Int.reduceSub, Int.reduceToNat, Int.reduceMul, Int.reduceMod, Int.reduceTMod, Int.reduceTDiv, Int.reduceEq, Nat.reducePow, Nat.reduceDiv, Nat.reduceShiftRight, Nat.reduceMod, List.reduceReplicate, ↓reduceIte, Nat.reduceEqDiff, Nat.reduceAdd, Nat.reduceSub, Nat.reduceLeDiff, Nat.reduceLT, Nat.reduceMul, f3, f4, f5, H8, g, hl, h64]
      refine ih (i + 1) _ _ ⟨f3, ?_, by simp only [upd, if_true]; congr 1, .inr rfl, g, by omega⟩ (by omega)
      rw [stS, show 64 * i + 64 - 64 * i = 64 by omega]
      rfl
    · simp -implicitDefEqProofs -dsimp +contextual (maxSteps := 5000000) (disch := first | omega | simp only [go_sem] <;> omega | refine ib ?_; kernel_rfl) only [go_sem, Nat.reduceBEq, Int.reduceNeg, Int.reduceLT, Int.reduceLE, Int.reduceAdd, Int.reduceSub, Int.reduceToNat, Int.reduceMul, Int.reduceMod, Int.reduceTMod, Int.reduceTDiv, Int.reduceEq, Nat.reducePow, Nat.reduceDiv, Nat.reduceShiftRight, Nat.reduceMod, List.reduceReplicate, ↓reduceIte, Nat.reduceEqDiff, Nat.reduceAdd, Nat.reduceSub, Nat.reduceLeDiff, Nat.reduceLT, Nat.reduceMul, f3, f4, f5, H8, g, hl, h64]
      refine ih (i + 1) _ _ ⟨f3, ?_, by simp only [upd, if_true]; congr 1, .inr rfl, g, by omega⟩ (by omega)
      rw [stS, show 64 * i + 64 - 64 * i = 64 by omega]
      rfl
  · obtain rfl : i = m := by omega
    generalize stS A i = s at *
    have hsl : s.l.map wRow = [[.int .u32 (s.a.toNat : Int)], [.int .u32 (s.b.toNat : Int)], [.int .u32 (s.c.toNat : Int)], [.int .u32 (s.d.toNat : Int)], [.int .u32 (s.e.toNat : Int)], [.int .u32 (s.f.toNat : Int)], [.int .u32 (s.g.toNat : Int)], [.int .u32 (s.h.toNat : Int)]] := rfl
    rw [hsl] at f4
    rcases H8 with H8 | H8
    · simp -implicitDefEqProofs -dsimp +contextual (maxSteps := 5000000) (disch := first | omega | simp only [go_sem] <;> omega | refine ib ?_; kernel_rfl) only [go_sem, Nat.reduceBEq, Int.reduceNeg, Int.reduceLT, Int.reduceLE, Int.reduceAdd, Int.reduceSub, Int.reduceToNat, Int.reduceMul, Int.reduceMod, Int.reduceTMod, Int.reduceTDiv, Int.reduceEq, Nat.reducePow, Nat.reduceDiv, Nat.reduceShiftRight, Nat.reduceMod, List.reduceReplicate, ↓reduceIte, Nat.reduceEqDiff, Nat.reduceAdd, Nat.reduceSub, Nat.reduceLeDiff, Nat.reduceLT, Nat.reduceMul, f3, f4, f5, H8, g, hl, kLoop_eq]
      rfl
    · simp -implicitDefEqProofs -dsimp +contextual (maxSteps := 5000000) (disch := first | omega | simp only [go_sem] <;> omega | refine ib ?_; kernel_rfl) only [go_sem, Nat.reduceBEq, Int.reduceNeg, Int.reduceLT, Int.reduceLE, Int.reduceAdd, Int.reduceSub, Int.reduceToNat, Int.reduceMul, Int.reduceMod, Int.reduceTMod, Int.reduceTDiv, Int.reduceEq, Nat.reducePow, Nat.reduceDiv, Nat.reduceShiftRight, Nat.reduceMod, List.reduceReplicate, ↓reduceIte, Nat.reduceEqDiff, Nat.reduceAdd, Nat.reduceSub, Nat.reduceLeDiff, Nat.reduceLT, Nat.reduceMul, f3, f4, f5, H8, g, hl, kLoop_eq]
      rfl

@[go_sem] theorem sumB_len (b : List UInt8) : (sumB b).length = 32 := by rw [sumB]; rfl

end Go.Proofs.YtccfjidpdlfenaaGreatDoor
namespace Go.Proofs.YtccfjidpdlfenaaGreatDoor
open Go.Am
set_option linter.unusedSimpArgs false
set_option linter.unusedVariables false
set_option maxRecDepth 100000
/-! Layer 4: tags. -/
@[go_sem] theorem e108 (a b : List UInt8) (h : a.length + b.length ≤ 1000000) : fn C 108 [] [.slice 1 (a.map byteRow), .slice 1 (b.map byteRow)] = some (.slice 1 ((sumB (a ++ b)).map byteRow), []) := by
  rw [fn_text Tryz.func108 rfl rfl Tryz.results108 fq108.1 rfl rfl (by kernel_rfl)]
  simp -implicitDefEqProofs -dsimp +contextual (maxSteps := 9999999) (disch := first | omega | simp only [go_sem] <;> omega | refine ib ?_; kernel_rfl) only [go_sem, seval, ↓reduceIte]

def keyB (k : List UInt8) : List UInt8 := (if 64 < k.length then sumB k else k) ++ List.replicate (64 - (if 64 < k.length then sumB k else k).length) 0
@[go_sem] theorem keyB_len (k : List UInt8) : (keyB k).length = 64 := by
  unfold keyB; split
  · simp [sumB_len]
  · simp; omega
def xorK (k : List UInt8) (y : UInt8) : List UInt8 := k.map (· ^^^ y)
@[go_sem] theorem xorK_len (k : List UInt8) (y : UInt8) : (xorK k y).length = k.length := by simp [xorK]
theorem xorK_take (k : List UInt8) (y : UInt8) (i : Nat) (h : i < k.length) : (xorK k y).take (i + 1) = (xorK k y).take i ++ [k[i] ^^^ y] := by
  rw [List.take_succ_eq_append_getElem (by rw [xorK_len]; exact h)]; simp [xorK]
def macB (k m : List UInt8) : List UInt8 := sumB (xorK (keyB k) 92 ++ sumB (xorK (keyB k) 54 ++ m))
@[go_sem] theorem macB_len (k m : List UInt8) : (macB k m).length = 32 := sumB_len _

theorem keyB_short (k : List UInt8) (h : ¬ 64 < k.length) : keyB k = k ++ List.replicate (64 - k.length) 0 := by simp [keyB, h]
theorem keyB_long (k : List UInt8) (h : 64 < k.length) : keyB k = sumB k ++ List.replicate 32 0 := by simp [keyB, h, sumB_len]
/-- A key, turned up to a place. -/
theorem turn_get (k : List UInt8) (y : UInt8) (i : Nat) (h : i < k.length) : ((xorK k y).take i ++ k.drop i)[i]'(by simp [xorK_len]; omega) = k[i] := by
  rw [List.getElem_append_right (by simp [xorK_len]; omega)]
  simp [xorK_len, show min i k.length = i by omega]
theorem turn_len (k : List UInt8) (y : UInt8) (i : Nat) : ((xorK k y).take i ++ k.drop i).length = k.length := by simp [xorK_len]; omega
theorem turn_set (k : List UInt8) (y : UInt8) (i : Nat) (h : i < k.length) : ((xorK k y).take i ++ k.drop i).set i (k[i] ^^^ y) = (xorK k y).take (i + 1) ++ k.drop (i + 1) := by
  rw [xorK_take k y i h, List.set_append_right _ _ (by simp [xorK_len]; omega)]
  simp only [List.length_take, xorK_len, show min i k.length = i by omega, Nat.sub_self]
  rw [List.drop_eq_getElem_cons h, List.set_cons_zero, List.append_assoc]; rfl

@[go_sem] theorem e127 (k : List UInt8) (h : k.length ≤ 1000000) : fn C 127 [] [.slice 1 (k.map byteRow)] = some (.usl 1 ((keyB k).map byteRow), []) := by
  rw [fn_text Tryz.func127 rfl rfl Tryz.results127 fq127.1 rfl rfl (by kernel_rfl)]
  by_cases h1 : 64 < k.length
  · simp -implicitDefEqProofs -dsimp +contextual (maxSteps := 9999999) (disch := first | omega | simp only [go_sem] <;> omega | refine ib ?_; kernel_rfl) only [go_sem, seval, ↓reduceIte, h1]
    rw [keyB_long k h1, List.map_append]; rfl
  · simp -implicitDefEqProofs -dsimp +contextual (maxSteps := 9999999) (disch := first | omega | simp only [go_sem] <;> omega | refine ib ?_; kernel_rfl) only [go_sem, seval, ↓reduceIte, h1]
    rw [keyB_short k h1, show (64 - (k.length : Int)).toNat = 64 - k.length by omega]

set_option maxHeartbeats 1000000 in
@[go_sem] theorem e115 (k : List UInt8) (h : k.length ≤ 1000000) : fn C 115 [] [.slice 1 (k.map byteRow)] = some (.usl 1 ((keyB k).map byteRow), []) := by
  rw [fn_text Tryz.func115 rfl rfl Tryz.results115 fq115.1 rfl rfl (by kernel_rfl)]
  have snoc : ∀ (l : List UInt8) (n : Nat), (l ++ List.replicate n 0).map byteRow ++ [[AVal.int IntKind.u8 0]] = (l ++ List.replicate (n + 1) 0).map byteRow := fun l n => by
    rw [List.replicate_succ', ← List.append_assoc, List.map_append (l₁ := l ++ List.replicate n 0)]; rfl
  by_cases h1 : 64 < k.length
  · simp -implicitDefEqProofs -dsimp +contextual (maxSteps := 9999999) (disch := first | omega | simp only [go_sem] <;> omega | refine ib ?_; kernel_rfl) only [go_sem, seval, ↓reduceIte, h1]
    refine (kLoop_rec (fun (i : Nat) f H => 32 + i ≤ 64 ∧ ∃ g, f 3 = .osl 111 g 0 (32 + i) ∧ H 111 = ⟨g, .live, 1, (sumB k ++ List.replicate i 0).map byteRow, false⟩) (fun i => 64 - i) (fun _ => some (.usl 1 ((keyB k).map byteRow), [])) ?_ 0 _ _ ⟨by omega, 1, rfl, by simp [Heap.set]⟩)
    rintro i f H ⟨hi, g, h3, hH⟩ ih
    by_cases hl : 32 + i < 64
    · simp -implicitDefEqProofs -dsimp +contextual (maxSteps := 9999999) (disch := first | omega | simp only [go_sem] <;> omega | refine ib ?_; kernel_rfl) only [go_sem, seval, ↓reduceIte, h3, hH, hl]
      exact ih (i + 1) _ _ ⟨by omega, g + 1, rfl, by rw [← snoc]; rfl⟩ (by omega)
    · simp -implicitDefEqProofs -dsimp +contextual (maxSteps := 9999999) (disch := first | omega | simp only [go_sem] <;> omega | refine ib ?_; kernel_rfl) only [go_sem, seval, ↓reduceIte, h3, hH, hl]
      rw [keyB_long k h1, show i = 32 by omega]
  · simp -implicitDefEqProofs -dsimp +contextual (maxSteps := 9999999) (disch := first | omega | simp only [go_sem] <;> omega | refine ib ?_; kernel_rfl) only [go_sem, seval, ↓reduceIte, h1]
    refine (kLoop_rec (fun (i : Nat) f H => k.length + i ≤ 64 ∧ ∃ g, f 3 = .osl 104 g 0 (k.length + i) ∧ H 104 = ⟨g, .live, 1, (k ++ List.replicate i 0).map byteRow, false⟩) (fun i => 64 - i) (fun _ => some (.usl 1 ((keyB k).map byteRow), [])) ?_ 0 _ _ ⟨by omega, 2, by simp [upd], by simp [Heap.set]⟩)
    rintro i f H ⟨hi, g, h3, hH⟩ ih
    by_cases hl : k.length + i < 64
    · simp -implicitDefEqProofs -dsimp +contextual (maxSteps := 9999999) (disch := first | omega | simp only [go_sem] <;> omega | refine ib ?_; kernel_rfl) only [go_sem, seval, ↓reduceIte, h3, hH, hl]
      exact ih (i + 1) _ _ ⟨by omega, g + 1, rfl, by rw [← snoc]; rfl⟩ (by omega)
    · simp -implicitDefEqProofs -dsimp +contextual (maxSteps := 9999999) (disch := first | omega | simp only [go_sem] <;> omega | refine ib ?_; kernel_rfl) only [go_sem, seval, ↓reduceIte, h3, hH, hl]
      rw [keyB_short k h1, show i = 64 - k.length by omega]

set_option maxHeartbeats 1000000 in
@[go_sem] theorem e107 (k : List UInt8) (y : UInt8) (h : k.length ≤ 1000000) : fn C 107 [] [.slice 1 (k.map byteRow), .int .u8 (y.toNat : Int)] = some (.slice 1 ((xorK (keyB k) y).map byteRow), []) := by
  rw [fn_text Tryz.func107 rfl rfl Tryz.results107 fq107.1 rfl rfl (by kernel_rfl)]
  simp -implicitDefEqProofs -dsimp +contextual (maxSteps := 9999999) (disch := first | omega | simp only [go_sem] <;> omega | refine ib ?_; kernel_rfl) only [go_sem, seval, ↓reduceIte]
  have hk := keyB_len k
  generalize keyB k = K at *
  refine (kLoop_rec (fun (i : Nat) f H => f 1 = .int .u8 (y.toNat : Int) ∧ f 5 = .osl 108 1 0 64 ∧ f 10 = .int .i64 64 ∧ f 11 = .int .i64 (i : Int) ∧ H 108 = ⟨1, .live, 1, ((xorK K y).take i ++ K.drop i).map byteRow, false⟩ ∧ i ≤ 64) (fun i => 64 - i) (fun _ => some (.slice 1 ((xorK K y).map byteRow), [])) ?_ 0 _ _ ⟨rfl, rfl, rfl, rfl, rfl, by omega⟩)
  rintro i f H ⟨h1, h5, h10, h11, hH, hi⟩ ih
  by_cases hl : i < 64
  · have hc := turn_get K y i (by omega)
    have hs := turn_set K y i (by omega)
    have hn := turn_len K y i
    obtain ⟨L, hL⟩ : ∃ L, L = (xorK K y).take i ++ K.drop i := ⟨_, rfl⟩
    simp only [← hL] at hH hc hs hn
    simp -implicitDefEqProofs -dsimp +contextual (maxSteps := 9999999) (disch := first | omega | simp only [go_sem] <;> omega | refine ib ?_; kernel_rfl) only [go_sem, seval, ↓reduceIte, h1, h5, h10, h11, hH, hl, hn, hk, hc]
    exact ih (i + 1) _ _ ⟨h1, h5, h10, rfl, by rw [← hs]; rfl, by omega⟩ (by omega)
  · obtain rfl : i = 64 := by omega
    rw [List.take_of_length_le (by simp [xorK_len, hk]), List.drop_of_length_le (by omega), List.append_nil] at hH
    simp -implicitDefEqProofs -dsimp +contextual (maxSteps := 9999999) (disch := first | omega | simp only [go_sem] <;> omega | refine ib ?_; kernel_rfl) only [go_sem, seval, ↓reduceIte, h1, h5, h10, h11, hH]

@[go_sem] theorem eTurn54 (k : List UInt8) (h : k.length ≤ 1000000) : fn C 107 [] [.slice 1 (k.map byteRow), .int .u8 54] = some (.slice 1 ((xorK (keyB k) 54).map byteRow), []) := e107 k 54 h
@[go_sem] theorem eTurn92 (k : List UInt8) (h : k.length ≤ 1000000) : fn C 107 [] [.slice 1 (k.map byteRow), .int .u8 92] = some (.slice 1 ((xorK (keyB k) 92).map byteRow), []) := e107 k 92 h
set_option maxHeartbeats 1000000 in
theorem e75 (k : List UInt8) (rs : List (List AVal)) (ps : List (List UInt8)) (hr : rs.map normRow = ps.map partRow) (ho : ones rs = true) (hc : rs.all clos = true) (hp : ps.length ≤ 900) (h : k.length ≤ 1000000) (hf : ps.flatten.length ≤ 500000) : fn C 75 [] [.slice 1 (k.map byteRow), .slice 1 rs] = some (.slice 1 ((macB k ps.flatten).map byteRow), []) := by
  rw [fn_text Tryz.func75 rfl rfl Tryz.results75 fq75.1 rfl rfl (by kernel_rfl)]
  have hrl : rs.length = ps.length := by have := congrArg List.length hr; simpa using this
  have hcc := concat_all (xorK (keyB k) 54) rs ps hr (by omega) (by rw [List.length_append, xorK_len, keyB_len]; omega)
  simp -implicitDefEqProofs -dsimp +contextual (maxSteps := 9999999) (disch := first | omega | simp only [go_sem] <;> omega | refine ib ?_; kernel_rfl) only [go_sem, seval, ↓reduceIte, hcc, ho, hc]
  rfl

set_option maxHeartbeats 1000000 in
@[go_sem] theorem e88 (k m : List UInt8) (h : k.length ≤ 1000000) (hf : m.length ≤ 500000) : fn C 88 [] [.slice 1 (k.map byteRow), .slice 1 (m.map byteRow)] = some (.slice 1 ((macB k m).map byteRow), []) := by
  rw [fn_text Tryz.func88 rfl rfl Tryz.results88 fq88.1 rfl rfl (by kernel_rfl)]
  simp -implicitDefEqProofs -dsimp +contextual (maxSteps := 9999999) (disch := first | omega | simp only [go_sem] <;> omega | refine ib ?_; kernel_rfl) only [go_sem, seval, ↓reduceIte]
  have hk := keyB_len k
  rw [macB]
  generalize keyB k = K at *
  have a54 := fun i (hi : i < K.length) => xorK_take K 54 i hi
  have a92 := fun i (hi : i < K.length) => xorK_take K 92 i hi
  have l54 := xorK_len K 54
  have l92 := xorK_len K 92
  refine (kLoop_rec (fun (i : Nat) f H => f 1 = .slice 1 (m.map byteRow) ∧ f 5 = .osl 110 1 0 64 ∧ f 8 = .int .i64 (i : Int) ∧ H 110 = ⟨1, .live, 1, K.map byteRow, false⟩ ∧ ((i = 0 ∧ f 6 = .sc (.slice none 0 0) ∧ f 7 = .sc (.slice none 0 0)) ∨ (∃ g g', f 6 = .osl 122 g 0 i ∧ f 7 = .osl 130 g' 0 i ∧ H 122 = ⟨g, .live, 1, ((xorK K 54).take i).map byteRow, false⟩ ∧ H 130 = ⟨g', .live, 1, ((xorK K 92).take i).map byteRow, false⟩)) ∧ i ≤ 64) (fun i => 64 - i) (fun _ => some (.slice 1 ((sumB (xorK K 92 ++ sumB (xorK K 54 ++ m))).map byteRow), [])) ?_ 0 _ _ ⟨rfl, rfl, rfl, rfl, .inl ⟨rfl, rfl, rfl⟩, by omega⟩)
  rintro i f H ⟨h1, h5, h8, hH, h67, hi⟩ ih
  by_cases hl : i < 64
  · have b54 := a54 i (by omega)
    have b92 := a92 i (by omega)
    rcases h67 with ⟨rfl, h6, h7⟩ | ⟨g, g', h6, h7, G6, G7⟩
    · simp -implicitDefEqProofs -dsimp +contextual (maxSteps := 9999999) (disch := first | omega | simp only [go_sem] <;> omega | refine ib ?_; kernel_rfl) only [go_sem, seval, ↓reduceIte, h1, h5, h6, h7, h8, hH, hl, hk]
      exact ih 1 _ _ ⟨h1, h5, rfl, hH, .inr ⟨_, _, rfl, rfl, by rw [b54]; rfl, by rw [b92]; rfl⟩, by omega⟩ (by omega)
    · simp -implicitDefEqProofs -dsimp +contextual (maxSteps := 9999999) (disch := first | omega | simp only [go_sem] <;> omega | refine ib ?_; kernel_rfl) only [go_sem, seval, ↓reduceIte, h1, h5, h6, h7, h8, hH, hl, hk, G6, G7, l54, l92]
      exact ih (i + 1) _ _ ⟨h1, h5, rfl, hH, .inr ⟨_, _, rfl, rfl, by rw [b54]; rfl, by rw [b92]; rfl⟩, by omega⟩ (by omega)
  · obtain rfl : i = 64 := by omega
    rcases h67 with ⟨h0, h6, h7⟩ | ⟨g, g', h6, h7, G6, G7⟩
    · omega
    · rw [List.take_of_length_le (by omega)] at G6 G7
      simp -implicitDefEqProofs -dsimp +contextual (maxSteps := 9999999) (disch := first | omega | simp only [go_sem] <;> omega | refine ib ?_; kernel_rfl) only [go_sem, seval, ↓reduceIte, h1, h5, h6, h7, h8, hH, hk, G6, G7, l54, l92]

end Go.Proofs.YtccfjidpdlfenaaGreatDoor
namespace Go.Proofs.YtccfjidpdlfenaaGreatDoor
open Go.Am
set_option linter.unusedSimpArgs false
set_option linter.unusedVariables false
set_option maxRecDepth 100000
/-! Layer 5: keys made of others. -/
def exp1 (key info : List UInt8) : List UInt8 := macB key (info ++ [1])
def exp2 (key info : List UInt8) : List UInt8 := macB key (exp1 key info ++ info ++ [2])
def exp64 (key info : List UInt8) : List UInt8 := exp1 key info ++ exp2 key info
@[go_sem] theorem exp1_len (k i : List UInt8) : (exp1 k i).length = 32 := macB_len _ _
@[go_sem] theorem exp2_len (k i : List UInt8) : (exp2 k i).length = 32 := macB_len _ _
@[go_sem] theorem exp64_len (k i : List UInt8) : (exp64 k i).length = 64 := by simp [exp64, exp1_len, exp2_len]

theorem exp_first (key info : List UInt8) (hk : key.length ≤ 100000) (hi : info.length ≤ 100000) : fn C 75 [] [.slice 1 (key.map byteRow), .slice 1 [[.sc (.slice none 0 0)], [.slice 1 (info.map byteRow)], [.slice 1 [[.int .u8 1]]]]] = some (.slice 1 ((exp1 key info).map byteRow), []) := by
  have h := e75 key [[.sc (.slice none 0 0)], [.slice 1 (info.map byteRow)], [.slice 1 [[.int .u8 1]]]] [[], info, [1]] rfl rfl (by simp only [go_sem]) (by simp) (by omega) (by simp; omega)
  simpa [exp1] using h
theorem exp_second (key info : List UInt8) (hk : key.length ≤ 100000) (hi : info.length ≤ 100000) : fn C 75 [] [.slice 1 (key.map byteRow), .slice 1 [[.slice 1 ((exp1 key info).map byteRow)], [.slice 1 (info.map byteRow)], [.slice 1 [[.int .u8 2]]]]] = some (.slice 1 ((exp2 key info).map byteRow), []) := by
  have h := e75 key [[.slice 1 ((exp1 key info).map byteRow)], [.slice 1 (info.map byteRow)], [.slice 1 [[.int .u8 2]]]] [exp1 key info, info, [2]] rfl rfl (by simp only [go_sem]) (by simp) (by omega) (by simp [exp1_len]; omega)
  simpa [exp2] using h

attribute [local irreducible] exp1 exp2

set_option maxHeartbeats 1000000 in
@[go_sem] theorem eExpand32 (key info : List UInt8) (hk : key.length ≤ 100000) (hi : info.length ≤ 100000) : fn C 44 [] [.slice 1 (key.map byteRow), .slice 1 (info.map byteRow), .int .i64 32] = some (.tup [.slice 1 ((exp1 key info).map byteRow), .int .i64 0], []) := by
  rw [fn_text Tryz.func44 rfl rfl Tryz.results44 fq44.1 rfl rfl (by kernel_rfl)]
  have h1 := exp_first key info hk hi
  have l1 := exp1_len key info
  simp -implicitDefEqProofs -dsimp +contextual (maxSteps := 9999999) (disch := first | omega | simp only [go_sem] <;> omega | refine ib ?_; kernel_rfl) only [go_sem, seval, ↓reduceIte, kLoop_eq, h1, l1]

set_option maxHeartbeats 1000000 in
@[go_sem] theorem eExpand64 (key info : List UInt8) (hk : key.length ≤ 100000) (hi : info.length ≤ 100000) : fn C 44 [] [.slice 1 (key.map byteRow), .slice 1 (info.map byteRow), .int .i64 64] = some (.tup [.slice 1 ((exp64 key info).map byteRow), .int .i64 0], []) := by
  rw [fn_text Tryz.func44 rfl rfl Tryz.results44 fq44.1 rfl rfl (by kernel_rfl)]
  have h1 := exp_first key info hk hi
  have h2 := exp_second key info hk hi
  have l1 := exp1_len key info
  have l2 := exp2_len key info
  simp -implicitDefEqProofs -dsimp +contextual (maxSteps := 9999999) (disch := first | omega | simp only [go_sem] <;> omega | refine ib ?_; kernel_rfl) only [go_sem, seval, ↓reduceIte, kLoop_eq, h1, h2, l1, l2]
  rfl

set_option maxHeartbeats 1000000 in
@[go_sem] theorem eRExpand32 (key info : List UInt8) (hk : key.length ≤ 100000) (hi : info.length ≤ 100000) : fn C 62 [] [.slice 1 (key.map byteRow), .slice 1 (info.map byteRow), .int .i64 32] = some (.tup [.slice 1 ((exp1 key info).map byteRow), .int .i64 0], []) := by
  rw [fn_text Tryz.func62 rfl rfl Tryz.results62 fq62.1 rfl rfl (by kernel_rfl)]
  have h1 : fn C 88 [] [.slice 1 (key.map byteRow), .slice 1 (info.map byteRow ++ [[.int .u8 1]])] = some (.slice 1 ((exp1 key info).map byteRow), []) := by
    have h := e88 key (info ++ [1]) (by omega) (by simp; omega)
    simpa [exp1, byteRow] using h
  have l1 := exp1_len key info
  simp -implicitDefEqProofs -dsimp +contextual (maxSteps := 9999999) (disch := first | omega | simp only [go_sem] <;> omega | refine ib ?_; kernel_rfl) only [go_sem, seval, ↓reduceIte, kLoop_eq, h1, l1]

set_option maxHeartbeats 1000000 in
@[go_sem] theorem eRExpand64 (key info : List UInt8) (hk : key.length ≤ 100000) (hi : info.length ≤ 100000) : fn C 62 [] [.slice 1 (key.map byteRow), .slice 1 (info.map byteRow), .int .i64 64] = some (.tup [.slice 1 ((exp64 key info).map byteRow), .int .i64 0], []) := by
  rw [fn_text Tryz.func62 rfl rfl Tryz.results62 fq62.1 rfl rfl (by kernel_rfl)]
  have h1 : fn C 88 [] [.slice 1 (key.map byteRow), .slice 1 (info.map byteRow ++ [[.int .u8 1]])] = some (.slice 1 ((exp1 key info).map byteRow), []) := by
    have h := e88 key (info ++ [1]) (by omega) (by simp; omega)
    simpa [exp1, byteRow] using h
  have h2 : fn C 88 [] [.slice 1 (key.map byteRow), .slice 1 ((exp1 key info ++ info).map byteRow ++ [[.int .u8 2]])] = some (.slice 1 ((exp2 key info).map byteRow), []) := by
    have h := e88 key (exp1 key info ++ info ++ [2]) (by omega) (by simp [exp1_len]; omega)
    simpa [exp2, byteRow] using h
  have l1 := exp1_len key info
  have l2 := exp2_len key info
  simp -implicitDefEqProofs -dsimp +contextual (maxSteps := 9999999) (disch := first | omega | simp only [go_sem] <;> omega | refine ib ?_; kernel_rfl) only [go_sem, seval, ↓reduceIte, kLoop_eq, h1, h2, l1, l2]
  rfl

def extB (salt secret : List UInt8) : List UInt8 := macB salt secret
@[go_sem] theorem extB_len (k i : List UInt8) : (extB k i).length = 32 := macB_len _ _

def titleC : List UInt8 := [99, 97, 114, 99, 97, 110, 101, 116, 32]
@[go_sem] theorem titleC_len : titleC.length = 9 := rfl
theorem titleC_fold : ([99, 97, 114, 99, 97, 110, 101, 116, 32] : List UInt8) = titleC := rfl
def namedB (key name : List UInt8) : List UInt8 := exp1 key (titleC ++ name)
@[go_sem] theorem namedB_len (k i : List UInt8) : (namedB k i).length = 32 := exp1_len _ _

set_option maxHeartbeats 1000000 in
@[go_sem] theorem e17 (key name : List UInt8) (hk : key.length ≤ 10000) (hi : name.length ≤ 10000) : fn C 17 [] [.slice 1 (key.map byteRow), .str name] = some (.slice 1 ((namedB key name).map byteRow), []) := by
  rw [fn_text Tryz.func17 rfl rfl Tryz.results17 fq17.1 rfl rfl (by kernel_rfl)]
  simp -implicitDefEqProofs -dsimp +contextual (maxSteps := 9999999) (disch := first | omega | simp only [go_sem] <;> omega | refine ib ?_; kernel_rfl) only [go_sem, seval, ↓reduceIte, titleC_fold]
  rfl

set_option maxHeartbeats 1000000 in
@[go_sem] theorem e31 (key name : List UInt8) (hk : key.length ≤ 10000) (hi : name.length ≤ 10000) : fn C 31 [] [.slice 1 (key.map byteRow), .str name] = some (.slice 1 ((namedB key name).map byteRow), []) := by
  rw [fn_text Tryz.func31 rfl rfl Tryz.results31 fq31.1 rfl rfl (by kernel_rfl)]
  simp -implicitDefEqProofs -dsimp +contextual (maxSteps := 9999999) (disch := first | omega | simp only [go_sem] <;> omega | refine ib ?_; kernel_rfl) only [go_sem, seval, ↓reduceIte, titleC_fold]
  rfl

end Go.Proofs.YtccfjidpdlfenaaGreatDoor
namespace Go.Proofs.YtccfjidpdlfenaaGreatDoor
open Go.Am
set_option linter.unusedSimpArgs false
set_option linter.unusedVariables false
set_option maxRecDepth 100000
/-! Layer 11: certificates as bytes. -/
structure En where
  name : List UInt8
  id : Nat
  fr : Int
  un : Int
  ix : Int
  tag : List UInt8
deriving DecidableEq
def En.cs (e : En) : List AVal := [.str e.name, .int .u64 (e.id : Int), .int .i64 e.fr, .int .i64 e.un, .int .i64 e.ix, .str e.tag]
@[go_sem] theorem En.cs_eq (e : En) : e.cs = [.str e.name, .int .u64 (e.id : Int), .int .i64 e.fr, .int .i64 e.un, .int .i64 e.ix, .str e.tag] := rfl
def u64V (n : Int) : Nat := (n % 18446744073709551616).toNat
theorem wrap_u64V (n : Int) : IntKind.u64.wrap n = (u64V n : Int) := by rw [IntKind.wrap_u64, u64V]; omega
theorem u64V_le (n : Int) : u64V n ≤ 18446744073709551615 := by rw [u64V]; omega
structure En.ok (e : En) : Prop where
  id : e.id ≤ 18446744073709551615
  f1 : -9223372036854775808 ≤ e.fr
  f2 : e.fr ≤ 9223372036854775807
  u1 : -9223372036854775808 ≤ e.un
  u2 : e.un ≤ 9223372036854775807
  i1 : -9223372036854775808 ≤ e.ix
  i2 : e.ix ≤ 9223372036854775807
def bodyB (e : En) : List UInt8 := textB e.name ++ beN 8 e.id ++ beN 4 (u64V e.fr) ++ beN 4 (u64V e.un) ++ beN 2 (u64V e.ix)
@[go_sem] theorem bodyB_len (e : En) : (bodyB e).length = e.name.length + 20 := by simp [bodyB, beN_len, textB_len]
def entB (e : En) : List UInt8 := bodyB e ++ e.tag
@[go_sem] theorem entB_len (e : En) : (entB e).length = e.name.length + 20 + e.tag.length := by simp [entB, bodyB_len]
end Go.Proofs.YtccfjidpdlfenaaGreatDoor
