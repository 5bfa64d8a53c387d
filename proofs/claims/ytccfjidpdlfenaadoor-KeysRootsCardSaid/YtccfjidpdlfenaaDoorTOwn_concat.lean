import Derived.Test.YtccfjidpdlfenaaDoorFacts
import Derived.Test.YtccfjidpdlfenaaDoorTConcat
namespace Go.Proofs.YtccfjidpdlfenaaDoor
open Go.Am
set_option linter.unusedSimpArgs false
set_option linter.unusedVariables false
set_option maxRecDepth 100000

/-! slices.Concat of bytes, by its walk. -/
theorem usl_of_own {S : Nat → Prop} {U : List Nat} {w w' : World} {v : Value} {e : TypeId} {l : List UInt8} (h : w'.ownsRow w.heap.size e 1 v l.length (Lib.byteCells l)) :
    ∃ U', ORel (After S U w U' w') w' (.usl 1 (l.map byteRow)) v U' ∧ U'.Nodup ∧ ∀ b ∈ U', b < w'.heap.size ∧ (b ∈ U ∨ w.heap.size ≤ b) := by
  rcases h.2 with ⟨rfl, h0⟩ | ⟨g, cap, cur, rfl, hbg, hg, hnc, hcm, hcs, htake⟩
  · obtain rfl : l = [] := List.length_eq_zero_iff.1 h0
    exact ⟨[], ⟨none, 0, rfl, Nat.le_refl _, .inl ⟨rfl, rfl⟩⟩, List.nodup_nil, fun b hb => by cases hb⟩
  · by_cases hc : cap = 0
    · subst hc
      refine ⟨[], ⟨_, 0, by rw [List.length_map], by rw [List.length_map]; exact hnc, .inl ⟨rfl, rfl⟩⟩, List.nodup_nil, fun b hb => by cases hb⟩
    · have hlt : g < w'.heap.size := by
        rcases Nat.lt_or_ge g w'.heap.size with h' | h'
        · exact h'
        · simp [Array.getElem?_eq_none h'] at hg
      refine ⟨[g], ⟨_, cap, by rw [List.length_map], by rw [List.length_map]; exact hnc, .inr ⟨hc, g, 0, rfl, rfl, fun h => h.2.1 (by simp), ⟨cur, e, (0, 0), hg, by rw [hcs]; omega, fun _ => Free.zero _⟩, ?_⟩⟩, by simp, fun b hb => by
        simp only [List.mem_singleton] at hb; subst hb; exact ⟨hlt, .inr hbg⟩⟩
      rw [CRows_iff]
      intro i r hr
      simp only [List.getElem?_map, Option.map_eq_some_iff] at hr
      obtain ⟨c, hi, rfl⟩ := hr
      obtain ⟨hil, rfl⟩ := List.getElem?_eq_some_iff.1 hi
      refine ⟨rfl, ⟨_, ?_, rfl⟩, trivial⟩
      simp only [World.cell?, hg, Option.isSome_none, Bool.false_eq_true, if_false]
      have := congrArg (·[i]?) htake
      simp only [Nat.mul_one, Lib.byteCells, List.getElem?_map, hi, Option.map_some] at this
      rw [List.getElem?_take, if_pos hil] at this
      rw [Nat.zero_add, Nat.mul_one, ← Array.getElem?_toList]
      exact this
theorem slice_of_own {S : Nat → Prop} {U : List Nat} {w w' : World} {v : Value} {e : TypeId} {l : List UInt8} (h : w'.ownsRow w.heap.size e 1 v l.length (Lib.byteCells l)) : ORel (After S U w [] w') w' (.slice 1 (l.map byteRow)) v [] := by
  refine ⟨?_, rfl⟩
  rcases h.2 with ⟨rfl, h0⟩ | ⟨g, cap, cur, rfl, hbg, hg, hnc, hcm, hcs, htake⟩
  · obtain rfl : l = [] := List.length_eq_zero_iff.1 h0
    exact ⟨none, 0, rfl, Nat.le_refl _, fun h => absurd rfl h⟩
  · have hlt : g < w'.heap.size := by
      rcases Nat.lt_or_ge g w'.heap.size with h' | h'
      · exact h'
      · simp [Array.getElem?_eq_none h'] at hg
    refine ⟨_, cap, by rw [List.length_map], by rw [List.length_map]; exact hnc, fun _ => ⟨g, 0, rfl, ⟨hlt, by simp, .inr (.inl hbg)⟩, ?_⟩⟩
    rw [CRows_iff]
    intro i r hr
    simp only [List.getElem?_map, Option.map_eq_some_iff] at hr
    obtain ⟨c, hi, rfl⟩ := hr
    obtain ⟨hil, rfl⟩ := List.getElem?_eq_some_iff.1 hi
    refine ⟨rfl, ⟨_, ?_, rfl⟩, trivial⟩
    simp only [World.cell?, hg, Option.isSome_none, Bool.false_eq_true, if_false]
    have := congrArg (·[i]?) htake
    simp only [Nat.mul_one, Lib.byteCells, List.getElem?_map, hi, Option.map_some] at this
    rw [List.getElem?_take, if_pos hil] at this
    rw [Nat.zero_add, Nat.mul_one, ← Array.getElem?_toList]
    exact this
def partRow (l : List UInt8) : List AVal := [.slice 1 (l.map byteRow)]
def unparts : List (List AVal) → Option (List (List UInt8))
  | [] => some []
  | [.slice 1 es] :: rs => (unbyte es).bind fun l => (unparts rs).bind fun ls => some (l :: ls)
  | _ => none
theorem unparts_spec : ∀ (rs : List (List AVal)) (ps : List (List UInt8)), unparts rs = some ps → rs = ps.map partRow
  | [], ps, h => by simp only [unparts, Option.some.injEq] at h; subst h; rfl
  | r :: rs, ps, h => by
    unfold unparts at h
    split at h
    · rename_i e; cases e
    · rename_i es rs' e
      simp only [List.cons.injEq] at e
      obtain ⟨rfl, rfl⟩ := e
      simp only [Option.bind_eq_some_iff, Option.some.injEq] at h
      obtain ⟨l, h1, ls, h2, rfl⟩ := h
      have := unbyte_spec _ _ h1
      subst this
      have := unparts_spec _ _ h2
      subst this
      rfl
    · cases h
/-- A nil among the parts. -/
def normRow : List AVal → List AVal
  | [.sc (.slice none 0 0)] => [.slice 1 []]
  | r => r
theorem normRow_part (p : List UInt8) : normRow (partRow p) = partRow p := rfl
theorem normRow_parts (ps : List (List UInt8)) : (ps.map partRow).map normRow = ps.map partRow := by rw [List.map_map]; rfl
theorem normRow_cells {S : Nat → Prop} {w : World} {b off : Nat} {r : List AVal} (h : r.length = 1 ∧ CCells S w b off r) : (normRow r).length = 1 ∧ CCells S w b off (normRow r) := by
  unfold normRow
  split
  · obtain ⟨_, ⟨⟨x, h1, h2⟩, _⟩⟩ := h
    refine ⟨rfl, ⟨x, h1, ?_⟩, trivial⟩
    simp only [CRel] at h2
    subst h2
    exact ⟨none, 0, rfl, Nat.le_refl _, fun h => absurd rfl h⟩
  · exact h
theorem normRow_rows {S : Nat → Prop} {w : World} {b : Nat} : ∀ {rs : List (List AVal)} {off : Nat}, CRows S w b off 1 rs → CRows S w b off 1 (rs.map normRow)
  | [], _, _ => trivial
  | r :: rs, off, ⟨h1, h2, h3⟩ => ⟨(normRow_cells ⟨h1, h2⟩).1, (normRow_cells ⟨h1, h2⟩).2, normRow_rows h3⟩
theorem concat_spec (rs : List (List AVal)) (ps : List (List UInt8)) (hn : rs.map normRow = ps.map partRow) (h0 : ps ≠ []) (h1 : ps.length ≤ 1000000) (h2 : ps.flatten.length ≤ 1000000000000) : Am.Spec E 130 [.slice 1 rs] (.slice 1 (ps.flatten.map byteRow)) [] := by
  intro S w xs U _ hG hst hor hnd hb
  obtain ⟨y, ys, U1, U2, rfl, rfl, ⟨⟨a, cap, rfl, _, hc⟩, rfl⟩, ⟨rfl, rfl⟩⟩ := hor
  have hlen : rs.length = ps.length := by have := congrArg List.length hn; simpa using this
  obtain ⟨b, off, rfl, hS, hr⟩ := hc (fun e => h0 (List.length_eq_zero_iff.1 (by rw [← hlen, e]; rfl)))
  have hr := normRow_rows hr
  rw [hn] at hr
  rw [hlen]
  refine (concat_walk ps b off cap w (hst b hS) h1 h2 fun i hi => ?_).mono ?_
  · rw [CRows_iff] at hr
    obtain ⟨_, h2⟩ := hr i (partRow ps[i]) (by simp [hi])
    obtain ⟨⟨x, h3, h4⟩, _⟩ := h2
    obtain ⟨a', cap', rfl, _, hc'⟩ := h4
    refine ⟨a', cap', by rw [List.length_map] at h3; simpa using h3, fun hne => ?_⟩
    obtain ⟨b', off', rfl, hS', hr'⟩ := hc' (by simpa using hne)
    refine ⟨b', off', rfl, hst b' hS', fun j hj => ?_⟩
    rw [CRows_iff] at hr'
    obtain ⟨_, g2⟩ := hr' j (byteRow ps[i][j]) (by simp [hj])
    obtain ⟨⟨x, g3, g4⟩, _⟩ := g2
    simp only [CRel] at g4
    subst g4
    simpa using g3
  · rintro e w' ⟨v, rfl, hown, hbl⟩
    exact ⟨v, [], rfl, Keep.same hbl.os hbl.tape hbl.output hbl.size (fun k hk => hbl.block k hk), ⟨v, [], [], [], rfl, rfl, slice_of_own hown, rfl, rfl⟩, List.nodup_nil, fun b hb => by cases hb⟩
def concatO : List Nat → List AVal → Option Res := fun _ ds => match ds with
  | [.slice 1 es] => (unparts (es.map normRow)).bind fun ps => gu (ps ≠ [] ∧ ps.length ≤ 1000000 ∧ ps.flatten.length ≤ 1000000000000) (some (.slice 1 (ps.flatten.map byteRow), []))
  | _ => none
theorem concatO_ok : ∀ ex ds q, concatO ex ds = some q → SpecX E ex 130 ds q.1 q.2 := by
  intro ex ds q hq
  unfold concatO at hq
  split at hq
  · rename_i es
    rw [Option.bind_eq_some_iff] at hq
    obtain ⟨ps, h1, h2⟩ := hq
    simp only [gu_some, Option.some.injEq] at h2
    obtain ⟨⟨g1, g2, g3⟩, rfl⟩ := h2
    exact specX_of_spec (concat_spec es ps (unparts_spec _ _ h1) g1 g2 g3)
  · cases hq


end Go.Proofs.YtccfjidpdlfenaaDoor
