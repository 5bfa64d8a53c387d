import Derived.Test.YtclgfgnhcakhdaaGreatDoorAm5
namespace Go.Am
set_option maxHeartbeats 64000000
set_option linter.unusedSectionVars false
mutual
def AVal.flat : AVal → Bool
  | .bool _ | .int _ _ | .str _ | .sc _ | .junk => true
  | .agg cs => flats cs
  | .tup cs => flats cs
  | .usl _ es => flatss es
  | .uptr cs => flats cs
  | _ => false
def flats : List AVal → Bool
  | [] => true
  | v :: vs => v.flat && flats vs
def flatss : List (List AVal) → Bool
  | [] => true
  | r :: rs => flats r && flatss rs
end
section
variable {S S2 : Nat → Prop} {w : World}
mutual
theorem CRel.ofFlat : ∀ (v : AVal) (x : Value), v.flat = true → CRel S w v x → CRel S2 w v x
  | .bool _, _, _, h => h
  | .int _ _, _, _, h => h
  | .str _, _, _, h => h
  | .sc _, _, _, h => h
  | .junk, _, _, _ => trivial
  | .agg cs, _, hf, ⟨xs, hx, h⟩ => ⟨xs, hx, CRels.ofFlat cs _ hf h⟩
  | .tup cs, _, hf, ⟨xs, hx, h⟩ => ⟨xs, hx, CRels.ofFlat cs _ hf h⟩
  | .ptr _ _ _ _, _, hf, _ => by simp [AVal.flat] at hf
  | .iptr _, _, hf, _ => by simp [AVal.flat] at hf
  | .slice _ _, _, hf, _ => by simp [AVal.flat] at hf
  | .osl _ _ _ _, _, hf, _ => by simp [AVal.flat] at hf
  | .fn _ _ _, _, hf, _ => by simp [AVal.flat] at hf
  | .iface _ _, _, hf, _ => by simp [AVal.flat] at hf
  | .usl _ _, _, _, h => h
  | .uptr _, _, _, h => h
theorem CRels.ofFlat : ∀ (vs : List AVal) (xs : List Value), flats vs = true → CRels S w vs xs → CRels S2 w vs xs
  | [], _, _, h => h
  | v :: vs, _, hf, ⟨y, ys, hx, h1, h2⟩ => by
    simp only [flats, Bool.and_eq_true] at hf
    exact ⟨y, ys, hx, CRel.ofFlat v y hf.1 h1, CRels.ofFlat vs ys hf.2 h2⟩
end
theorem CCells.ofFlat : ∀ (vs : List AVal) (b off : Nat), flats vs = true → CCells S w b off vs → CCells S2 w b off vs
  | [], _, _, _, _ => trivial
  | v :: vs, b, off, hf, ⟨⟨x, hx, h1⟩, h2⟩ => by
    simp only [flats, Bool.and_eq_true] at hf
    exact ⟨⟨x, hx, CRel.ofFlat v x hf.1 h1⟩, CCells.ofFlat vs b (off + 1) hf.2 h2⟩
theorem CRows.ofFlat : ∀ (es : List (List AVal)) (b off st : Nat), flatss es = true → CRows S w b off st es → CRows S2 w b off st es
  | [], _, _, _, _, _ => trivial
  | r :: rs, b, off, st, hf, ⟨h0, h1, h2⟩ => by
    simp only [flatss, Bool.and_eq_true] at hf
    exact ⟨h0, CCells.ofFlat r b off hf.1 h1, CRows.ofFlat rs b (off + st) st hf.2 h2⟩
mutual
theorem ORel.ofFlat : ∀ (v : AVal) (x : Value) (U : List Nat), v.flat = true → (∀ b ∈ U, ¬ S2 b) → ORel S w v x U → ORel S2 w v x U
  | .bool _, _, _, _, _, h => h
  | .int _ _, _, _, _, _, h => h
  | .str _, _, _, _, _, h => h
  | .sc _, _, _, _, _, h => h
  | .junk, _, _, _, _, h => h
  | .agg cs, _, U, hf, hU, ⟨xs, hx, h⟩ => ⟨xs, hx, ORels.ofFlat cs _ U hf hU h⟩
  | .tup cs, _, U, hf, hU, ⟨xs, hx, h⟩ => ⟨xs, hx, ORels.ofFlat cs _ U hf hU h⟩
  | .ptr _ _ _ _, _, _, hf, _, _ => by simp [AVal.flat] at hf
  | .iptr _, _, _, hf, _, _ => by simp [AVal.flat] at hf
  | .slice _ _, _, _, hf, _, _ => by simp [AVal.flat] at hf
  | .osl _ _ _ _, _, _, hf, _, _ => by simp [AVal.flat] at hf
  | .fn _ _ _, _, _, hf, _, _ => by simp [AVal.flat] at hf
  | .iface _ _, _, _, hf, _, _ => by simp [AVal.flat] at hf
  | .usl st es, _, U, hf, hU, ⟨a, cap, hx, hl, h⟩ => ⟨a, cap, hx, hl, by
      rcases h with h | ⟨h0, b, off, ha, hb, hS, hroom, hrows⟩
      · exact .inl h
      · exact .inr ⟨h0, b, off, ha, hb, hU b (by rw [hb]; simp), hroom, CRows.ofFlat es b off st hf hrows⟩⟩
  | .uptr cs, _, U, hf, hU, ⟨b, off, U', hx, hb, hS, hroom, hc⟩ => ⟨b, off, U', hx, hb, hU b (by rw [hb]; simp), hroom, OCells.ofFlat cs b off U' hf (fun q hq => hU q (by rw [hb]; exact List.mem_cons_of_mem _ hq)) hc⟩
theorem ORels.ofFlat : ∀ (vs : List AVal) (xs : List Value) (U : List Nat), flats vs = true → (∀ b ∈ U, ¬ S2 b) → ORels S w vs xs U → ORels S2 w vs xs U
  | [], _, _, _, _, h => h
  | v :: vs, _, U, hf, hU, ⟨y, ys, U1, U2, hx, hu, h1, h2⟩ => by
    simp only [flats, Bool.and_eq_true] at hf
    exact ⟨y, ys, U1, U2, hx, hu, ORel.ofFlat v y U1 hf.1 (fun b hb => hU b (by rw [hu]; exact List.mem_append_left _ hb)) h1, ORels.ofFlat vs ys U2 hf.2 (fun b hb => hU b (by rw [hu]; exact List.mem_append_right _ hb)) h2⟩
theorem OCells.ofFlat : ∀ (vs : List AVal) (b off : Nat) (U : List Nat), flats vs = true → (∀ q ∈ U, ¬ S2 q) → OCells S w b off vs U → OCells S2 w b off vs U
  | [], _, _, _, _, _, h => h
  | v :: vs, b, off, U, hf, hU, ⟨x, U1, U2, hx, hu, h1, h2⟩ => by
    simp only [flats, Bool.and_eq_true] at hf
    exact ⟨x, U1, U2, hx, hu, ORel.ofFlat v x U1 hf.1 (fun q hq => hU q (by rw [hu]; exact List.mem_append_left _ hq)) h1, OCells.ofFlat vs b (off + 1) U2 hf.2 (fun q hq => hU q (by rw [hu]; exact List.mem_append_right _ hq)) h2⟩
end
end
theorem opn_length (H : Heap) : ∀ (vs : List AVal) (id k : Nat), (opnVs H id k vs).length = vs.length
  | [], _, _ => rfl
  | _ :: vs, id, k => by simp [opnVs, opn_length H vs id (k + 1)]
def lents : List AVal → List AVal → List Nat
  | .ptr o _ _ _ :: vs, .uptr _ :: ds => o :: lents vs ds
  | _ :: vs, _ :: ds => lents vs ds
  | _, _ => []
def callObj (H : Heap) (u lent : List Nat) (o : Nat) : Obj :=
  if o ∈ lent then { H o with rows := [List.replicate (H o).st .junk] }
  else if o ∈ u then ⟨(H o).gen + 1, .dead, (H o).st, [], false⟩
  else { H o with mode := if (H o).mode = .live then .froz else (H o).mode }
def callUp (H : Heap) (u lent b : List Nat) : List (Nat × Obj) := (u ++ b).map fun o => (o, callObj H u lent o)
def lentUp (H : Heap) : List Nat → List AVal → List (Nat × Obj)
  | o :: os, .uptr cs :: ls => opnUs H o 0 cs ++ ((o, { H o with rows := [opnVs H o 0 cs], exact := false }) :: lentUp H os ls)
  | _, _ => []
theorem setAll_map (H : Heap) (F : Nat → Obj) : ∀ (l : List Nat) (H' : Heap) (k : Nat), (H'.setAll (l.map fun o => (o, F o))) k = if k ∈ l then F k else H' k
  | [], _, _ => by simp [Heap.setAll]
  | o :: l, H', k => by
    simp only [List.map_cons, Heap.setAll]
    rw [setAll_map H F l _ k]
    by_cases h1 : k ∈ l
    · simp [h1]
    · by_cases h2 : k = o
      · subst h2; simp [h1]
      · simp [h1, h2, Heap.set_ne _ _ h2]
section
variable {S0 U0 : Nat → Prop} {w0 : World} {c : Ctx}
theorem lents_mem {H : Heap} : ∀ {vs ds : List AVal} {u b : List Nat}, Pks H vs ds u b → ∀ o ∈ lents vs ds, o ∈ u ∧ (H o).mode = .live ∧ ∃ r, (H o).rows = [r]
  | _, _, _, _, .nil, o, ho => by simp [lents] at ho
  | _, _, _, _, .cons (v := v) (d := d) (u1 := u1) h1 hs, o, ho => by
    have rest : o ∈ lents _ _ → _ := fun ho => by
      obtain ⟨a, b⟩ := lents_mem hs o ho
      exact (⟨List.mem_append_right u1 a, b⟩ : o ∈ u1 ++ _ ∧ _)
    cases h1 with
    | ownP hy hm hr h =>
      simp only [lents, List.mem_cons] at ho
      rcases ho with rfl | ho
      · obtain ⟨_, _, e⟩ := AVal.obj_spec hy
        exact ⟨by simp, by rw [e]; exact hm, _, by rw [e]; exact hr⟩
      · exact rest ho
    | _ => exact rest (by simpa [lents] using ho)
theorem Room.stay {w w' : World} {b n st : Nat} {l : Prop} (h : Room w b n st l) {U : Nat → Prop} (k : Keep U w w') : Room w' b n st l := by
  obtain ⟨cs, e, fz, a1, a2, a3⟩ := h
  obtain ⟨cs', b1, b2⟩ := k.stay _ _ _ _ a1
  exact ⟨cs', e, fz, b1, by omega, fun hl => by rw [b2]; exact a3 hl⟩
theorem callUp_get {H : Heap} {u lent b : List Nat} (k : Nat) : (H.setAll (callUp H u lent b)) k = if k ∈ u ∨ k ∈ b then callObj H u lent k else H k := by
  unfold callUp
  rw [setAll_map H (callObj H u lent)]
  simp [List.mem_append]
theorem call_switch (h : HeapOk S0 U0 w0 c) {u lent b bz : List Nat} (hul : ∀ o ∈ u, (c.H o).mode = .live) (hub : ∀ o ∈ u, o ∉ b) (hbm : ∀ o ∈ b, (c.H o).mode ≠ .dead)
    (hlent : ∀ o ∈ lent, o ∈ u ∧ ∃ r, (c.H o).rows = [r]) {w' : World} {U' : List Nat} (hkeep : Keep (· ∈ blks c u) c.w w') (hU' : ∀ q ∈ U', q ∈ blks c u ∨ c.w.heap.size ≤ q)
    (hlm : ∀ o ∈ lent, (c.φ o).b ∈ U') {Sx : Nat → Prop} (hSx : (Sx = Look c b ∧ bz = b) ∨ (Sx = c.S ∧ bz = [])) :
    CtxLe c ⟨After Sx (blks c u) c.w U' w', w', c.φ, c.H.setAll (callUp c.H u lent bz)⟩ ∧
    HeapOk S0 U0 w0 ⟨After Sx (blks c u) c.w U' w', w', c.φ, c.H.setAll (callUp c.H u lent bz)⟩ ∧
    (∀ o, ((c.H.setAll (callUp c.H u lent bz)) o).mode = .live → (c.φ o).cap ≠ 0 → (c.φ o).b ∈ U' → o ∈ lent) := by
  have hbz : ∀ o, o ∈ bz → o ∈ b := fun o ho => by
    rcases hSx with ⟨_, rfl⟩ | ⟨_, rfl⟩
    · exact ho
    · simp at ho
  have hSxl : ∀ q, Sx q → Look c b q := fun q hq => by
    rcases hSx with ⟨rfl, _⟩ | ⟨rfl, _⟩
    · exact hq
    · exact .inl hq
  have hcS : ∀ q, c.S q → Sx q := fun q hq => by
    rcases hSx with ⟨rfl, _⟩ | ⟨rfl, _⟩
    · exact .inl hq
    · exact hq
  have hlt : ∀ o, (c.H o).mode ≠ .dead → (c.φ o).cap ≠ 0 → (c.φ o).b < c.w.heap.size := fun o hm hc => ((h.objs o hm).room hc).lt
  
  have hfar : ∀ o, (c.H o).mode = .live → (c.φ o).cap ≠ 0 → o ∉ u → (c.φ o).b ∉ blks c u := fun o hm hc hu hb => by
    obtain ⟨o', ho', hc', e⟩ := mem_blks.1 hb
    exact h.inj o' o (fun e => hu (by rw [← e]; exact ho')) (hul o' ho') hm hc' hc e
  have hSblk : ∀ q, c.S q → q ∉ blks c u := fun q hq hb => by
    obtain ⟨o', ho', hc', e⟩ := mem_blks.1 hb
    exact ((h.objs o' (by rw [hul o' ho']; simp)).own hc').1 (hul o' ho') (by rw [e]; exact hq)
  have hfar' : ∀ o, (c.H o).mode = .live → (c.φ o).cap ≠ 0 → o ∉ u → (c.φ o).b ∉ U' := fun o hm hc hu hb => by
    rcases hU' _ hb with h1 | h1
    · exact hfar o hm hc hu h1
    · have := hlt o (by rw [hm]; simp) hc; omega
  have hSU' : ∀ q, c.S q → q ∉ U' := fun q hq hb => by
    rcases hU' _ hb with h1 | h1
    · exact hSblk q hq h1
    · have := h.stab q hq; omega
  
  have hrec : ∀ o, (c.H.setAll (callUp c.H u lent bz)) o = if o ∈ u ∨ o ∈ bz then callObj c.H u lent o else c.H o := callUp_get
  have hrl : ∀ o ∈ lent, (c.H.setAll (callUp c.H u lent bz)) o = { c.H o with rows := [List.replicate (c.H o).st .junk] } := fun o ho => by
    rw [hrec, if_pos (.inl (hlent o ho).1)]; simp [callObj, ho]
  have hru : ∀ o ∈ u, o ∉ lent → (c.H.setAll (callUp c.H u lent bz)) o = ⟨(c.H o).gen + 1, .dead, (c.H o).st, [], false⟩ := fun o ho hl => by
    rw [hrec, if_pos (.inl ho)]; simp [callObj, ho, hl]
  have hrb : ∀ o ∈ bz, (c.H.setAll (callUp c.H u lent bz)) o = { c.H o with mode := if (c.H o).mode = .live then .froz else (c.H o).mode } := fun o ho => by
    have h1 : o ∉ u := fun hu => hub o hu (hbz o ho)
    have h2 : o ∉ lent := fun hl => h1 (hlent o hl).1
    rw [hrec, if_pos (.inr ho)]; simp [callObj, h1, h2]
  have hro : ∀ o, o ∉ u → o ∉ bz → (c.H.setAll (callUp c.H u lent bz)) o = c.H o := fun o h1 h2 => by
    rw [hrec, if_neg (by simp [h1, h2])]
  have hle : CtxLe c ⟨After Sx (blks c u) c.w U' w', w', c.φ, c.H.setAll (callUp c.H u lent bz)⟩ := by
    refine ⟨fun q hq => ⟨Nat.lt_of_lt_of_le (h.stab q hq) hkeep.size, hSU' q hq, .inl (hcS q hq)⟩, fun q hq => hkeep.block q (h.stab q hq) (hSblk q hq), fun o => ?_⟩
    by_cases h1 : o ∈ lent
    · refine ⟨by simp [hrl o h1], fun _ _ => ⟨by rw [hul o (hlent o h1).1]; simp, rfl, by simp [hrl o h1], ?_⟩⟩
      obtain ⟨r, hr⟩ := (hlent o h1).2
      simp [hrl o h1, hr]
    · by_cases h2 : o ∈ u
      · exact ⟨by simp [hru o h2 h1], fun hg => by simp [hru o h2 h1] at hg⟩
      · by_cases h3 : o ∈ bz
        · refine ⟨by simp [hrb o h3], fun _ hm => ⟨hbm o (hbz o h3), rfl, by simp [hrb o h3], by simp [hrb o h3]⟩⟩
        · exact ⟨by simp [hro o h2 h3], fun _ hm => ⟨by simpa [hro o h2 h3] using hm, rfl, by simp [hro o h2 h3], by simp [hro o h2 h3]⟩⟩
  
  have hlive : ∀ o, ((c.H.setAll (callUp c.H u lent bz)) o).mode = .live → (c.H o).mode = .live ∧ (o ∈ lent ∨ (o ∉ u ∧ o ∉ bz)) := fun o hm => by
    by_cases h1 : o ∈ lent
    · exact ⟨hul o (hlent o h1).1, .inl h1⟩
    · by_cases h2 : o ∈ u
      · simp [hru o h2 h1] at hm
      · by_cases h3 : o ∈ bz
        · rw [hrb o h3] at hm
          simp only at hm
          split at hm
          · cases hm
          · rename_i hn; exact absurd hm hn
        · exact ⟨by simpa [hro o h2 h3] using hm, .inr ⟨h2, h3⟩⟩
  refine ⟨hle, ⟨fun q hq => hq.1, fun q hq => ?_, fun o hm => ?_, fun o o' hoo hm hm' hc hc' => ?_, fun o hm hc => h.own o (hlive o hm).1 hc, ?_⟩, fun o hm hc hb => ?_⟩
  · rcases hq.2.2 with h1 | h1 | h1
    · rcases hSxl q h1 with h2 | ⟨o, _, h2, h3, rfl⟩
      · exact h.orig q h2
      · rcases h.own o h2 h3 with h4 | h4
        · exact .inr (.inl h4)
        · exact .inr (.inr h4)
    · exact .inr (.inr (Nat.le_trans h.keep.size h1))
    · obtain ⟨o, ho, hc, rfl⟩ := mem_blks.1 h1
      rcases h.own o (hul o ho) hc with h4 | h4
      · exact .inr (.inl h4)
      · exact .inr (.inr h4)
  · 
    by_cases h1 : o ∈ lent
    · have hou := (hlent o h1).1
      have hml := hul o hou
      have hob := h.objs o (by rw [hml]; simp)
      obtain ⟨r, hr⟩ := (hlent o h1).2
      have hc1 : 1 ≤ (c.φ o).cap := by have := hob.le; rw [hr] at this; simpa using this
      have hc0 : (c.φ o).cap ≠ 0 := by omega
      have hroom := (hob.room hc0).stay hkeep
      refine ⟨by simpa [hrl o h1] using hc1, fun _ => ⟨fun _ hs => hs.2.1 (hlm o h1), fun hf => by simp [hrl o h1, hml] at hf⟩, fun i r' hi => ?_, fun _ => ?_, fun e => by have := hob.ex (by simpa [hrl o h1] using e); rw [hr] at this; simpa [hrl o h1] using this⟩
      · simp only [hrl o h1] at hi ⊢
        have hi0 : i = 0 := by
          have := (List.getElem?_eq_some_iff.1 hi).1; simp at this; exact this
        subst hi0
        simp only [List.getElem?_cons_zero, Option.some.injEq] at hi
        subst hi
        refine ⟨by simp, fun j v hj => ?_⟩
        have hjl : j < (c.H o).st := by have := (List.getElem?_eq_some_iff.1 hj).1; simpa using this
        have hv : v = .junk := by
          obtain ⟨_, e⟩ := List.getElem?_eq_some_iff.1 hj
          rw [List.getElem_replicate] at e; exact e.symm
        subst hv
        have hle1 : 1 * (c.H o).st ≤ (c.φ o).cap * (c.H o).st := Nat.mul_le_mul_right _ hc1
        obtain ⟨x, hx⟩ := Option.isSome_iff_exists.1 (hroom.cell (off := (c.φ o).base + 0 * (c.H o).st + j) (by omega))
        exact ⟨x, hx, trivial⟩
      · simp only [hrl o h1]
        obtain ⟨cs, e, fz, a1, a2, a3⟩ := hroom
        exact ⟨cs, e, fz, a1, a2, fun _ => a3 hml⟩
    · by_cases h2 : o ∈ u
      · exact absurd (by simp [hru o h2 h1]) hm
      · have hmo : (c.H o).mode ≠ .dead := by
          by_cases h3 : o ∈ bz
          · exact hbm o (hbz o h3)
          · simpa [hro o h2 h3] using hm
        have hob := h.objs o hmo
        have hst : ((c.H.setAll (callUp c.H u lent bz)) o).st = (c.H o).st ∧ ((c.H.setAll (callUp c.H u lent bz)) o).rows = (c.H o).rows := by
          by_cases h3 : o ∈ bz
          · simp [hrb o h3]
          · simp [hro o h2 h3]
        have hexx : ((c.H.setAll (callUp c.H u lent bz)) o).exact = (c.H o).exact := by
          by_cases h3 : o ∈ bz
          · simp [hrb o h3]
          · simp [hro o h2 h3]
        by_cases hc : (c.φ o).cap = 0
        · have hr0 : (c.H o).rows = [] := List.eq_nil_of_length_eq_zero (by have := hob.le; omega)
          exact ⟨by simp only [hst.2]; exact hob.le, fun hn => absurd hc hn, fun i r hi => by simp only [hst.2, hr0] at hi; simp at hi, fun hn => absurd hc hn, by simp only [hexx, hst.2]; exact hob.ex⟩
        · have hnb : (c.φ o).b ∉ blks c u := by
            cases hmm : (c.H o).mode with
            | dead => exact absurd hmm hmo
            | live => exact hfar o hmm hc h2
            | froz => exact hSblk _ ((hob.own hc).2 hmm)
          have hblk : w'.heap[(c.φ o).b]? = c.w.heap[(c.φ o).b]? := hkeep.block _ (hlt o hmo hc) hnb
          refine ⟨by simp only [hst.2]; exact hob.le, fun _ => ⟨fun hl => ?_, fun hf => ?_⟩, ?_, fun hn => ?_, by simp only [hexx, hst.2]; exact hob.ex⟩
          · obtain ⟨q1, q2⟩ := hlive o hl
            rcases q2 with q2 | ⟨_, q3⟩
            · exact absurd q2 h1
            · rintro ⟨_, _, s1 | s1 | s1⟩
              · rcases hSx with ⟨rfl, rfl⟩ | ⟨rfl, _⟩
                · rcases s1 with s1 | ⟨o', m1, m2, m3, m4⟩
                  · exact (hob.own hc).1 q1 s1
                  · exact h.inj o' o (fun e => q3 (by rw [← e]; exact m1)) m2 q1 m3 hc m4
                · exact (hob.own hc).1 q1 s1
              · exact absurd s1 (Nat.not_le_of_lt (hlt o hmo hc))
              · exact hnb s1
          · 
            by_cases h3 : o ∈ bz
            · have hsx : Sx (c.φ o).b := by
                rcases hSx with ⟨rfl, rfl⟩ | ⟨_, rfl⟩
                · exact Look.of h h3 hmo hc
                · simp at h3
              refine ⟨Nat.lt_of_lt_of_le (hlt o hmo hc) hkeep.size, fun hb => ?_, .inl hsx⟩
              rcases hU' _ hb with h5 | h5
              · exact hnb h5
              · exact absurd h5 (Nat.not_le_of_lt (hlt o hmo hc))
            · have hmf : (c.H o).mode = .froz := by simpa [hro o h2 h3] using hf
              exact hle.S _ ((hob.own hc).2 hmf)
          · simp only [hst.1, hst.2]
            exact hob.rows.mono hle hblk
          · simp only [hst.1]
            obtain ⟨cs, e, fz, a1, a2, a3⟩ := hob.room hc
            exact ⟨cs, e, fz, by rw [hblk]; exact a1, a2, fun hl => a3 (hlive o hl).1⟩
  · exact h.inj o o' hoo (hlive o hm).1 (hlive o' hm').1 hc hc'
  · refine ⟨hkeep.os.trans h.keep.os, hkeep.tape.trans h.keep.tape, hkeep.output.trans h.keep.output, Nat.le_trans h.keep.size hkeep.size, fun q hq hu => ?_, fun k cs e fz hk => ?_⟩
    · rw [hkeep.block q (Nat.lt_of_lt_of_le hq h.keep.size) ?_]
      · exact h.keep.block q hq hu
      · intro hb
        obtain ⟨o, ho, hc, rfl⟩ := mem_blks.1 hb
        rcases h.own o (hul o ho) hc with h4 | h4
        · exact hu h4
        · omega
    · obtain ⟨cs1, h1, h2⟩ := h.keep.stay k cs e fz hk
      obtain ⟨cs2, h3, h4⟩ := hkeep.stay k cs1 e fz h1
      exact ⟨cs2, h3, h4.trans h2⟩
  · obtain ⟨q1, q2⟩ := hlive o hm
    rcases q2 with q2 | ⟨q2, _⟩
    · exact q2
    · exact absurd hb (hfar' o q1 hc q2)
theorem mem_lentUp (H : Heap) : ∀ (os : List Nat) (ls : List AVal), os.length = ls.length → (∀ (k : Nat) (o : Nat) (l : AVal), os[k]? = some o → ls[k]? = some l → ∃ cs, l = .uptr cs ∧ cs.length = (H o).st) → ∀ k ∈ os, k ∈ (lentUp H os ls).map (·.1)
  | [], _, _, _, k, hk => by simp at hk
  | _ :: _, [], hl, _, _, _ => by simp at hl
  | o :: os, l :: ls, hl, hls, k, hk => by
    obtain ⟨cs, rfl, _⟩ := hls 0 o l rfl rfl
    simp only [lentUp, List.map_append, List.map_cons, List.mem_append, List.mem_cons]
    rcases List.mem_cons.1 hk with rfl | hk
    · exact .inr (.inl rfl)
    · exact .inr (.inr (mem_lentUp H os ls (by simpa using hl) (fun k o l h1 h2 => hls (k + 1) o l (by simpa using h1) (by simpa using h2)) k hk))
theorem lent_block {S : Nat → Prop} {w : World} (b base : Nat) : ∀ (ls : List AVal) (ys : List Value) (U2 : List Nat), ORels S w ls ys U2 → ∀ (i : Nat) (cs' : List AVal), ls[i]? = some (.uptr cs') → ys[i]? = some (.pointer (some ⟨b, base, none⟩)) → b ∈ U2
  | [], _, _, _, i, _, hi, _ => by simp at hi
  | l :: ls, _, _, hr, i, cs', hi, hy => by
    obtain ⟨y, ys', V1, V2, rfl, rfl, r1, r2⟩ := hr
    cases i with
    | zero =>
      simp only [List.getElem?_cons_zero, Option.some.injEq] at hi hy
      subst hi; subst hy
      obtain ⟨b', off, V', he, rfl, _⟩ := r1
      simp only [Value.pointer.injEq, Option.some.injEq, Addr.mk.injEq, and_true] at he
      rw [he.1]; simp
    | succ i => exact List.mem_append_right _ (lent_block b base ls ys' V2 r2 i cs' (by simpa using hi) (by simpa using hy))
theorem lent_sound : ∀ (os : List Nat) (ls : List AVal) (H : Heap) (c : Ctx) (xs : List Value) (U : List Nat), HeapOk S0 U0 w0 c → ORels c.S c.w ls xs U →
    (∀ (k : Nat) (o : Nat), os[k]? = some o → (c.H o).mode = .live ∧ c.H o = { H o with rows := [List.replicate (H o).st .junk] } ∧ (H o).mode = .live ∧ xs[k]? = some (.pointer (some ⟨(c.φ o).b, (c.φ o).base, none⟩))) → os.length = ls.length →
    (∀ (k : Nat) (o : Nat) (l : AVal), os[k]? = some o → ls[k]? = some l → ∃ cs, l = .uptr cs ∧ cs.length = (H o).st) →
    U.Nodup → (∀ q ∈ U, ¬ c.S q) → (∀ q ∈ U, U0 q ∨ w0.heap.size ≤ q) → (∀ q ∈ U, ∀ o, (c.H o).mode = .live → (c.φ o).cap ≠ 0 → (c.φ o).b = q → o ∈ os) →
    ((lentUp H os ls).map (·.1)).Nodup → (∀ k ∈ (lentUp H os ls).map (·.1), k ∉ os → c.H k = H k) →
    ∃ c', CtxLe c c' ∧ HeapOk S0 U0 w0 c' ∧ c'.H = c.H.setAll (lentUp H os ls) ∧ c'.S = c.S ∧ c'.w = c.w
  | [], [], H, c, xs, U, h, _, _, _, _, _, _, _, _, _, _ => ⟨c, CtxLe.refl c, h, rfl, rfl, rfl⟩
  | [], _ :: _, _, _, _, _, _, _, _, hl, _, _, _, _, _, _, _ => by simp at hl
  | _ :: _, [], _, _, _, _, _, _, _, hl, _, _, _, _, _, _, _ => by simp at hl
  | o :: os, l :: ls, H, c, xs, U, h, hr, hos, hlen, hls, hnd, hnS, hown, hfree, hup, hH => by
    obtain ⟨y, ys, U1, U2, rfl, rfl, h1, h2⟩ := hr
    obtain ⟨cs, rfl, hcs⟩ := hls 0 o l rfl rfl
    obtain ⟨hm, hHo, hmH, hx⟩ := hos 0 o rfl
    simp only [List.getElem?_cons_zero, Option.some.injEq] at hx
    subst hx
    obtain ⟨b, off, U', he, rfl, hS, hroom, hcells⟩ := h1
    simp only [Value.pointer.injEq, Option.some.injEq, Addr.mk.injEq, and_true] at he
    obtain ⟨rfl, rfl⟩ := he
    simp only [lentUp, List.map_append, List.map_cons] at hup hH
    have hup' := List.nodup_append.1 hup
    have hup2 := List.nodup_cons.1 hup'.2.1
    have hnd1 := List.nodup_append.1 hnd
    have hnd2 := List.nodup_cons.1 hnd1.1
    have hob := h.objs o (by rw [hm]; simp)
    have hst : (c.H o).st = (H o).st := by rw [hHo]
    have hrows1 : (c.H o).rows.length = 1 := by rw [hHo]; rfl
    have hc0 : (c.φ o).cap ≠ 0 := by have := hob.le; omega
    
    have hmine : Mine S0 U0 w0 c U' := by
      refine ⟨hnd2.2, fun q hq => hnS q (by simp [hq]), fun q hq k hk hkc e => ?_, fun q hq => hown q (by simp [hq])⟩
      have hk' := hfree q (by simp [hq]) k hk hkc e.symm
      rcases List.mem_cons.1 hk' with rfl | hk'
      · exact hnd2.1 (by rw [← e]; exact hq)
      · 
        obtain ⟨i, hi⟩ := List.getElem?_of_mem hk'
        obtain ⟨_, _, _, hxk⟩ := hos (i + 1) k (by simpa using hi)
        have hil : i < ls.length := by
          have := (List.getElem?_eq_some_iff.1 hi).1
          simp at hlen; omega
        obtain ⟨cs', hl', _⟩ := hls (i + 1) k ls[i] (by simpa using hi) (by simp [List.getElem?_eq_getElem hil])
        have hmem : (c.φ k).b ∈ U2 := lent_block _ _ ls ys U2 h2 i cs' (by rw [List.getElem?_eq_getElem hil, hl']) (by simpa using hxk)
        exact hnd1.2.2 q (List.mem_cons_of_mem _ hq) (c.φ k).b hmem e
    have hidn : o ∉ (opnUs H o 0 cs).map (·.1) := fun hk => hup'.2.2 o hk o (by simp) rfl
    have hosin : ∀ k ∈ os, k ∈ (lentUp H os ls).map (·.1) := mem_lentUp H os ls (by simpa using hlen) (fun k o l q1 q2 => hls (k + 1) o l (by simpa using q1) (by simpa using q2))
    have hosn : ∀ k ∈ os, k ∉ (opnUs H o 0 cs).map (·.1) := fun k hk hk' => hup'.2.2 k hk' k (List.mem_cons_of_mem _ (hosin k hk)) rfl
    have hoson : ∀ k ∈ os, k ≠ o := fun k hk e => hup2.1 (by rw [← e]; exact hosin k hk)
    obtain ⟨c1, o1, o2⟩ := opnCells_sound H cs o 0 c (c.φ o).b (c.φ o).base U' h hcells hmine hup'.1 (fun k hk => hH k (List.mem_append_left _ hk) (fun hk' => by
      rcases List.mem_cons.1 hk' with rfl | hk'
      · exact hidn hk
      · exact hosn k hk' hk))
    have hHo1 : c1.H o = c.H o := by rw [o1.H, setAll_not hidn]
    have hφ1 : c1.φ o = c.φ o := o1.φ o hidn
    have hob1 := o1.ok.objs o (by rw [hHo1, hm]; simp)
    
    have hupd := o1.ok.update (c' := ⟨c1.S, c1.w, c1.φ, c1.H.set o { H o with rows := [opnVs H o 0 cs], exact := false }⟩) o { H o with rows := [opnVs H o 0 cs], exact := false } (c1.φ o) rfl rfl (by funext k; split <;> simp_all) (Keep.refl _ _)
      (by rw [hHo1, hHo]; exact Nat.le_refl _) (fun _ _ => ⟨by rw [hHo1, hm]; simp, rfl, by rw [hHo1, hHo], by rw [hHo1, hHo]; exact Nat.le_refl _⟩) (fun hle _ => ?_) (fun _ hc => .inr ⟨by rw [hHo1]; exact hm, hc, rfl⟩)
    · 
      have hsame : ∀ k ∈ os, ((c1.H.set o { H o with rows := [opnVs H o 0 cs], exact := false }) k = c.H k) ∧ c1.φ k = c.φ k := fun k hk => ⟨by rw [Heap.set_ne _ _ (hoson k hk), o1.H, setAll_not (hosn k hk)], o1.φ k (hosn k hk)⟩
      obtain ⟨c2, p1, p2, p3, p4, p5⟩ := lent_sound os ls H ⟨c1.S, c1.w, c1.φ, c1.H.set o { H o with rows := [opnVs H o 0 cs], exact := false }⟩ ys U2 hupd.2 (by show ORels c1.S c1.w ls ys U2; rw [o1.S, o1.w]; exact h2)
        (fun k o' hk => by
          obtain ⟨q1, q2⟩ := hsame o' (List.mem_of_getElem? hk)
          obtain ⟨r1, r2, r3, r4⟩ := hos (k + 1) o' (by simpa using hk)
          exact ⟨(congrArg Obj.mode q1).trans r1, q1.trans r2, r3, by show ys[k]? = some (.pointer (some ⟨(c1.φ o').b, (c1.φ o').base, none⟩)); rw [q2]; simpa using r4⟩)
        (by simpa using hlen) (fun k o l q1 q2 => hls (k + 1) o l (by simpa using q1) (by simpa using q2)) hnd1.2.1 (fun q hq => by show ¬ c1.S q; rw [o1.S]; exact hnS q (List.mem_append_right _ hq)) (fun q hq => hown q (List.mem_append_right _ hq))
        (fun q hq k hk hkc e => by
          have hkm : (c1.H k).mode = .live := by
            by_cases hko : k = o
            · subst hko; rw [hHo1]; exact hm
            · have hk2 : ((c1.H.set o { H o with rows := [opnVs H o 0 cs], exact := false }) k).mode = .live := hk
              rw [Heap.set_ne _ _ hko] at hk2; exact hk2
          rcases o1.live k hkm hkc with ⟨r1, r2, r3⟩ | r
          · have := hfree q (List.mem_append_right _ hq) k r1 r2 (r3.trans e)
            rcases List.mem_cons.1 this with rfl | this
            · exact absurd (r3.trans e) (fun e' => hnd1.2.2 _ (List.mem_cons_self ..) q hq e')
            · exact this
          · exact absurd e (fun e' => hnd1.2.2 _ (List.mem_cons_of_mem _ r) q hq e'))
        hup2.2 (fun k hk hko => by
          have hne : k ≠ o := fun e => hup2.1 (by rw [← e]; exact hk)
          have hnc : k ∉ (opnUs H o 0 cs).map (·.1) := fun hk' => hup'.2.2 k hk' k (List.mem_cons_of_mem _ hk) rfl
          show (c1.H.set o { H o with rows := [opnVs H o 0 cs], exact := false }) k = H k
          rw [Heap.set_ne _ _ hne, o1.H, setAll_not hnc]
          exact hH k (List.mem_append_right _ (List.mem_cons_of_mem _ hk)) (fun h' => by
            rcases List.mem_cons.1 h' with h' | h'
            · exact hne h'
            · exact hko h'))
      refine ⟨c2, (o1.le.trans hupd.1).trans p1, p2, ?_, p4.trans o1.S, p5.trans o1.w⟩
      rw [p3]
      simp only [lentUp]
      rw [setAll_append, ← o1.H]
      rfl
    · have hlen' : (opnVs H o 0 cs).length = (H o).st := by rw [opn_length]; exact hcs
      refine ⟨by simp only [Heap.set_same]; rw [hφ1]; simp; omega, fun hc => ⟨fun _ => by simpa using (hob1.own hc).1 (by rw [hHo1]; exact hm), fun hf => by simp [hmH] at hf⟩, fun i r hi => ?_, fun hc => ?_, fun e => by simp at e⟩
      · simp only [Heap.set_same] at hi ⊢
        have hi0 : i = 0 := by
          have := (List.getElem?_eq_some_iff.1 hi).1; simp at this; exact this
        subst hi0
        simp only [List.getElem?_cons_zero, Option.some.injEq] at hi
        subst hi
        refine ⟨hlen', ?_⟩
        have := o2.mono hle rfl
        show CellsAt _ (c1.φ o).b _ _
        rw [hφ1]
        simpa using this
      · simp only [Heap.set_same]
        obtain ⟨cs', e, fz, a1, a2, a3⟩ := hob1.room hc
        refine ⟨cs', e, fz, a1, ?_, fun _ => by have := a3 (by rw [hHo1]; exact hm); rw [hHo1, hst] at this; exact this⟩
        rw [hHo1, hst] at a2
        exact a2
theorem GlobOk.mono {Γ : Nat → Option (List AVal)} {S S' : Nat → Prop} {w w' : World} (h : GlobOk Γ S w) (hS : ∀ b, S b → S' b) (hw : ∀ b, S b → w'.heap[b]? = w.heap[b]?) : GlobOk Γ S' w' := fun g cs hg =>
  ⟨hS g (h g cs hg).1, CCells.mono hS hw g (hw g (h g cs hg).1) cs 0 (h g cs hg).2.1, by rw [hw g (h g cs hg).1]; exact (h g cs hg).2.2⟩
theorem lents_ptr : ∀ {vs ds : List AVal} {u b : List Nat} {xs : List Value}, Pks c.H vs ds u b → VRels c vs xs → ∀ (k o : Nat), (lents vs ds)[k]? = some o → (lentOf ds xs)[k]? = some (.pointer (some ⟨(c.φ o).b, (c.φ o).base, none⟩))
  | _, _, _, _, _, .nil, _, k, o, hk => by simp [lents] at hk
  | _, _, _, _, _, .cons (v := v) (d := d) h1 hs, ⟨y, ys, hx, hv, hvs⟩, k, o, hk => by
    subst hx
    cases h1 with
    | ownP hy hm hr h =>
      simp only [lents] at hk
      cases k with
      | zero =>
        simp only [List.getElem?_cons_zero, Option.some.injEq] at hk
        subst hk
        obtain ⟨z1, z2, _⟩ := AVal.obj_spec hy
        obtain ⟨a, rfl, _, hl⟩ := hv
        obtain rfl := hl z1.symm z2
        simp [lentOf]
      | succ k =>
        simp only [lentOf]
        simpa using lents_ptr hs hvs k o (by simpa using hk)
    | plain hp =>
      cases v <;> simp [AVal.plain] at hp <;> exact lents_ptr hs hvs k o (by simpa [lents] using hk)
    | nilS => exact lents_ptr hs hvs k o (by simpa [lents] using hk)
    | nilU => exact lents_ptr hs hvs k o (by simpa [lents] using hk)
    | agg _ => exact lents_ptr hs hvs k o (by simpa [lents] using hk)
    | tup _ => exact lents_ptr hs hvs k o (by simpa [lents] using hk)
    | fn _ _ => exact lents_ptr hs hvs k o (by simpa [lents] using hk)
    | borS _ _ _ => exact lents_ptr hs hvs k o (by simpa [lents] using hk)
    | borP _ _ _ => exact lents_ptr hs hvs k o (by simpa [lents] using hk)
    | ownS _ _ _ _ => exact lents_ptr hs hvs k o (by simpa [lents] using hk)
mutual
theorem PkC.alive {H : Heap} : ∀ {v d : AVal} {b : List Nat}, PkC H v d b → ∀ o ∈ b, (H o).mode ≠ .dead
  | _, _, _, .plain _, o, ho => by simp at ho
  | _, _, _, .nilS, o, ho => by simp at ho
  | _, _, _, .agg hs, o, ho => PkCs.alive hs o ho
  | _, _, _, .tup hs, o, ho => PkCs.alive hs o ho
  | _, _, _, .fn h1 h2, o, ho => by
    rcases List.mem_append.1 ho with ho | ho
    · exact PkCs.alive h1 o ho
    · exact PkCs.alive h2 o ho
  | _, _, _, .borS hy _ hs, o, ho => by
    rcases List.mem_cons.1 ho with rfl | ho
    · exact (AVal.obj_spec hy).2.1
    · exact PkRs.alive hs o ho
  | _, _, _, .borP hy _ hs, o, ho => by
    rcases List.mem_cons.1 ho with rfl | ho
    · exact (AVal.obj_spec hy).2.1
    · exact PkCs.alive hs o ho
theorem PkCs.alive {H : Heap} : ∀ {vs ds : List AVal} {b : List Nat}, PkCs H vs ds b → ∀ o ∈ b, (H o).mode ≠ .dead
  | _, _, _, .nil, o, ho => by simp at ho
  | _, _, _, .cons h1 hs, o, ho => by
    rcases List.mem_append.1 ho with ho | ho
    · exact PkC.alive h1 o ho
    · exact PkCs.alive hs o ho
theorem PkRs.alive {H : Heap} : ∀ {vs ds : List (List AVal)} {b : List Nat}, PkRs H vs ds b → ∀ o ∈ b, (H o).mode ≠ .dead
  | _, _, _, .nil, o, ho => by simp at ho
  | _, _, _, .cons h1 hs, o, ho => by
    rcases List.mem_append.1 ho with ho | ho
    · exact PkCs.alive h1 o ho
    · exact PkRs.alive hs o ho
end
mutual
theorem Pk.alive {H : Heap} : ∀ {v d : AVal} {u b : List Nat}, Pk H v d u b → ∀ o ∈ b, (H o).mode ≠ .dead
  | _, _, _, _, .plain _, o, ho => by simp at ho
  | _, _, _, _, .nilS, o, ho => by simp at ho
  | _, _, _, _, .nilU, o, ho => by simp at ho
  | _, _, _, _, .agg hs, o, ho => Pks.alive hs o ho
  | _, _, _, _, .tup hs, o, ho => Pks.alive hs o ho
  | _, _, _, _, .fn (f := f) h1 h2, o, ho => PkC.alive (.fn (f := f) h1 h2) o ho
  | _, _, _, _, .borS hy hle hs, o, ho => PkC.alive (.borS hy hle hs) o ho
  | _, _, _, _, .borP hy hr hs, o, ho => PkC.alive (.borP hy hr hs) o ho
  | _, _, _, _, .ownS _ _ _ hs, o, ho => PkRs.alive hs o ho
  | _, _, _, _, .ownP _ _ _ hs, o, ho => Pks.alive hs o ho
theorem Pks.alive {H : Heap} : ∀ {vs ds : List AVal} {u b : List Nat}, Pks H vs ds u b → ∀ o ∈ b, (H o).mode ≠ .dead
  | _, _, _, _, .nil, o, ho => by simp at ho
  | _, _, _, _, .cons h1 hs, o, ho => by
    rcases List.mem_append.1 ho with ho | ho
    · exact Pk.alive h1 o ho
    · exact Pks.alive hs o ho
end
def callH (H : Heap) (u os bz : List Nat) : Heap := H.setAll (callUp H u os bz)
theorem ExV.sound (h : HeapOk S0 U0 w0 c) {u : List Nat} (hul : ∀ o ∈ u, (c.H o).mode = .live) {vals : List AVal} {xs : List Value} {ex : List Nat} (hx : ExV c.H u vals ex) (hv : VRels c vals xs) : Exact ex xs := fun k hk a n cap he => by
  rcases hx k hk with h1 | ⟨o, g, m, h1, h2, h3, h4, h5⟩
  · obtain ⟨y, hy1, hy2⟩ := hv.get k _ h1
    rw [he] at hy1
    injection hy1 with hy1
    subst hy1
    simp only [VRel] at hy2
    injection hy2 with e1 e2 e3
    omega
  obtain ⟨y, hy1, hy2⟩ := hv.get k _ h1
  rw [he] at hy1
  injection hy1 with hy1
  subst hy1
  obtain ⟨a', m', cap', e1, e2, e3⟩ := hy2
  injection e1 with e1 e4 e5
  subst e1; subst e4; subst e5
  have hm : (c.H o).mode ≠ .dead := by rw [hul o h2]; simp
  obtain ⟨rfl, _, q2, _⟩ := e3 h3.symm hm
  have := (h.objs o hm).ex h4
  omega
theorem call_sound {E : Env} (h : HeapOk S0 U0 w0 c) (hG : GlobOk E.Γ c.S c.w) {f : FuncId} {vals ds ls : List AVal} {xs : List Value} {r : AVal} {u b bz : List Nat} (s : Nat) (hv : VRels c vals xs) (hpk : Pks c.H vals ds u b) (hun : u.Nodup) (hub : ∀ o ∈ u, o ∉ b)
    (hspecX : ∃ ex, SpecX E ex f ds r ls ∧ ExV c.H u vals ex) (hfr : bz = b ∨ (bz = [] ∧ r.flat = true ∧ flats ls = true)) (hlen : (lents vals ds).length = ls.length) (hls : ∀ (k : Nat) (o : Nat) (l : AVal), (lents vals ds)[k]? = some o → ls[k]? = some l → ∃ cs, l = .uptr cs ∧ cs.length = (c.H o).st)
    (hids : ((opnU (callH c.H u (lents vals ds) bz) s r ++ lentUp (callH c.H u (lents vals ds) bz) (lents vals ds) ls).map (·.1)).Nodup) :
    Calls E.P f xs.toArray c.w fun e w' => ∃ x c', e = .returned x ∧ c'.w = w' ∧ CtxLe c c' ∧ HeapOk S0 U0 w0 c' ∧
      c'.H = c.H.setAll (callUp c.H u (lents vals ds) bz ++ (opnU (callH c.H u (lents vals ds) bz) s r ++ lentUp (callH c.H u (lents vals ds) bz) (lents vals ds) ls)) ∧ VRel c' (opnV (callH c.H u (lents vals ds) bz) s r) x := by
  have hul := Pks.live hpk
  have hbm := Pks.alive hpk
  obtain ⟨ex, hspec, hex⟩ := hspecX
  refine (hspec (Look c b) c.w xs (blks c u) (hex.sound h hul hv) (hG.mono (fun _ hb => .inl hb) (fun _ _ => rfl)) (fun q hq => ?_) (Pks.sound h hpk (fun _ ho => ho) hub hv) (blks_nodup h hun hul) (fun q hq => ?_)).mono ?_
  · rcases hq with hq | ⟨o, _, h2, h3, rfl⟩
    · exact h.stab q hq
    · exact ((h.objs o (by rw [h2]; simp)).room h3).lt
  · obtain ⟨o, ho, hc, rfl⟩ := mem_blks.1 hq
    exact ⟨((h.objs o (by rw [hul o ho]; simp)).room hc).lt, notLook h (hub o ho) (hul o ho) hc⟩
  rintro e w' ⟨x, U', rfl, hkeep, hor, hUn, hUb⟩
  have hlent : ∀ o ∈ lents vals ds, o ∈ u ∧ ∃ r, (c.H o).rows = [r] := fun o ho => let ⟨h1, _, h2⟩ := lents_mem hpk o ho; ⟨h1, h2⟩
  
  obtain ⟨Sx, hSx, hor2⟩ : ∃ Sx : Nat → Prop, ((Sx = Look c b ∧ bz = b) ∨ (Sx = c.S ∧ bz = [])) ∧ ORels (After Sx (blks c u) c.w U' w') w' (r :: ls) (x :: lentOf ds xs) U' := by
    rcases hfr with rfl | ⟨rfl, f1, f2⟩
    · exact ⟨Look c bz, .inl ⟨rfl, rfl⟩, hor⟩
    · exact ⟨c.S, .inr ⟨rfl, rfl⟩, ORels.ofFlat _ _ _ (by simp [flats, f1, f2]) (fun q hq hn => hn.2.1 hq) hor⟩
  obtain ⟨y, ys, U1, U2, hxy, rfl, hr1, hr2⟩ := hor2
  simp only [List.cons.injEq] at hxy
  obtain ⟨rfl, rfl⟩ := hxy
  have hlp := lents_ptr hpk hv
  have hlm : ∀ o ∈ lents vals ds, (c.φ o).b ∈ U1 ++ U2 := fun o ho => by
    obtain ⟨k, hk⟩ := List.getElem?_of_mem ho
    have hkl : k < ls.length := by rw [← hlen]; exact (List.getElem?_eq_some_iff.1 hk).1
    obtain ⟨cs, hl, _⟩ := hls k o ls[k] hk (List.getElem?_eq_getElem hkl)
    exact List.mem_append_right _ (lent_block _ _ ls _ U2 hr2 k cs (by rw [List.getElem?_eq_getElem hkl, hl]) (hlp k o hk))
  have hlm2 : ∀ o ∈ lents vals ds, (c.φ o).b ∈ U2 := fun o ho => by
    obtain ⟨k, hk⟩ := List.getElem?_of_mem ho
    have hkl : k < ls.length := by rw [← hlen]; exact (List.getElem?_eq_some_iff.1 hk).1
    obtain ⟨cs, hl, _⟩ := hls k o ls[k] hk (List.getElem?_eq_getElem hkl)
    exact lent_block _ _ ls _ U2 hr2 k cs (by rw [List.getElem?_eq_getElem hkl, hl]) (hlp k o hk)
  obtain ⟨s1, s2, s3⟩ := call_switch (bz := bz) h hul hub hbm hlent hkeep (fun q hq => (hUb q hq).2) hlm hSx
  have hUn' := List.nodup_append.1 hUn
  have hownU : ∀ q ∈ U1 ++ U2, U0 q ∨ w0.heap.size ≤ q := fun q hq => by
    rcases (hUb q hq).2 with h1 | h1
    · obtain ⟨o, ho, hc, rfl⟩ := mem_blks.1 h1
      exact h.own o (hul o ho) hc
    · exact .inr (Nat.le_trans h.keep.size h1)
  have hmine : Mine S0 U0 w0 ⟨After Sx (blks c u) c.w (U1 ++ U2) w', w', c.φ, c.H.setAll (callUp c.H u (lents vals ds) bz)⟩ U1 :=
    ⟨hUn'.1, fun q hq hs => hs.2.1 (List.mem_append_left _ hq), fun q hq o hm hc e => by
      have ho := s3 o hm hc (List.mem_append_left _ (by rw [← e]; exact hq))
      exact hUn'.2.2 q hq _ (hlm2 o ho) e, fun q hq => hownU q (List.mem_append_left _ hq)⟩
  rw [List.map_append] at hids
  have hids' := List.nodup_append.1 hids
  obtain ⟨c2, p1, p2⟩ := opnV_sound (callH c.H u (lents vals ds) bz) r s ⟨After Sx (blks c u) c.w (U1 ++ U2) w', w', c.φ, c.H.setAll (callUp c.H u (lents vals ds) bz)⟩ x U1 s2 hr1 hmine hids'.1 (fun _ _ => rfl)
  have hst : ∀ o, (callH c.H u (lents vals ds) bz o).st = (c.H o).st := fun o => by
    unfold callH
    rw [callUp_get]
    split
    · unfold callObj; split
      · rfl
      · split <;> rfl
    · rfl
  have hls' : ∀ (k : Nat) (o : Nat) (l : AVal), (lents vals ds)[k]? = some o → ls[k]? = some l → ∃ cs, l = .uptr cs ∧ cs.length = (callH c.H u (lents vals ds) bz o).st := fun k o l h1 h2 => by
    rw [hst]; exact hls k o l h1 h2
  have hosin := mem_lentUp (callH c.H u (lents vals ds) bz) _ ls hlen hls'
  have hosn : ∀ o ∈ lents vals ds, o ∉ (opnU (callH c.H u (lents vals ds) bz) s r).map (·.1) := fun o ho hk => hids'.2.2 o hk o (hosin o ho) rfl
  have hlrec : ∀ o ∈ lents vals ds, callH c.H u (lents vals ds) bz o = { c.H o with rows := [List.replicate (c.H o).st .junk] } := fun o ho => by
    unfold callH
    rw [callUp_get, if_pos (.inl (hlent o ho).1)]
    simp [callObj, ho]
  obtain ⟨c3, q1, q2, q3, q4, q5⟩ := lent_sound (lents vals ds) ls (callH c.H u (lents vals ds) bz) c2 (lentOf ds xs) U2 p1.ok (by rw [p1.S, p1.w]; exact hr2)
    (fun k o hk => by
      have ho := List.mem_of_getElem? hk
      have e1 : c2.H o = callH c.H u (lents vals ds) bz o := by rw [p1.H]; exact setAll_not (hosn o ho)
      have e2 : c2.φ o = c.φ o := p1.φ o (hosn o ho)
      have hm := hul o (hlent o ho).1
      refine ⟨by rw [e1, hlrec o ho]; exact hm, by rw [e1, hlrec o ho], by rw [hlrec o ho]; exact hm, by rw [e2]; exact hlp k o hk⟩)
    hlen hls' hUn'.2.1 (fun q hq => by rw [p1.S]; exact fun hs => hs.2.1 (List.mem_append_right _ hq)) (fun q hq => hownU q (List.mem_append_right _ hq))
    (fun q hq o hm hc e => by
      rcases p1.live o hm hc with ⟨r1, r2, r3⟩ | r1
      · exact s3 o r1 r2 (List.mem_append_right _ (by
          have : (c.φ o).b = q := r3.trans e
          rw [this]; exact hq))
      · exact absurd e (hUn'.2.2 _ r1 q hq))
    hids'.2.1 (fun k hk _ => by rw [p1.H]; exact setAll_not (fun hk' => hids'.2.2 k hk' k hk rfl))
  refine ⟨x, c3, rfl, by rw [q5, p1.w], (s1.trans p1.le).trans q1, q2, ?_, VRel.mono q1 _ _ p2⟩
  rw [q3, p1.H, setAll_append, setAll_append]
end
end Go.Am
