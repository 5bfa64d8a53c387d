import Derived.Test.YtnpkhdjgedeppaaDoorTCopspec
namespace Go.Proofs.YtnpkhdjgedeppaaDoor
open Go.Am
set_option linter.unusedSimpArgs false
set_option linter.unusedVariables false
set_option maxRecDepth 100000
/-! Layer 29: more, in the heap of who calls: a job that has asked nobody yet. -/
def AskB (H : Heap) (A : AVal) (l : List (List UInt8)) : Prop := ∃ g, A = .osl 80167 g 0 l.length ∧ H 80167 = ⟨g, .live, 1, l.map strRow, false⟩

set_option maxHeartbeats 16000000 in
theorem il_moreN (g : Int) (n : Nd) (id : Int) (i c : Nat) (j0 : Jb) (hi : i < n.jobs.length) (hj0 : n.jobs[i] = j0) (hcop : copR n.jobs id = (i : Int)) (h : n.mid 100000) (ha0 : j0.asked = []) (hk0 : j0.acks = 0) (hw0 : j0.waits = 0) (H : Heap) (hM : MoreS H n i c j0 (.sc (.slice none 0 0)) (.sc (.slice none 0 0)))
    (K : AVal × Heap → Option Res) (R : Option Res) (q : Jb × List Ac) (hq : askR id n.list j0 = q)
    (ka : ∀ H' A X, MoreS H' n i c q.1 A X → AskB H' A q.1.asked → ActS H' X q.2 → (∀ o, o < 40000 → H' o = H o) → 0 < q.1.waits → K (.tup [], H') = R)
    (kb : ∀ H', WorkAt 40106 (moreFin n i q).1 (moreFin n i q).2 H' → (∀ o, o < 40000 → H' o = H o) → ¬ 0 < q.1.waits → K (.tup [], H') = R) :
    @kB _ _ (il (C1 g) 64 [.ptr 40106 1 0 0, .int .i64 id] H) ⟨K⟩ = R := by
  obtain ⟨W1, W2, W3, W4, W5⟩ := hM
  have jl := h.jl
  have ll := h.ll
  have pl := placeN n (.sc (.slice none 0 0)) i hi (by rw [hj0, ha0]) id hcop (by omega)
  rw [hj0] at pl
  have row := rowsG_at (R := [.int .i64 j0.id, .int .i64 j0.kind, .int .i64 j0.phase, .int .i64 j0.hops, .int .i64 j0.tries, .int .i64 j0.til, .str j0.key, .str j0.val, .str j0.owner.name, .int .u64 (j0.owner.id : Int), .int .i64 j0.owner.fr, .int .i64 j0.owner.un, .int .i64 j0.owner.ix, .str j0.owner.tag, .str j0.item.k, .str j0.item.v, .int .i64 j0.item.n, .bool j0.item.g, .int .i64 j0.acks, .int .i64 j0.waits, .sc (.slice none 0 0), .str j0.back.name, .int .u64 (j0.back.id : Int), .int .i64 j0.back.fr, .int .i64 j0.back.un, .int .i64 j0.back.ix, .str j0.back.tag, .int .i64 j0.backRid, .int .i64 j0.backJob]) hi
  rw [il_text (C := C1 g) Tryd.func64 rfl Tryd.results64 (show (C1 g).M.loc 64 = _ from fq64.1) (by kernel_rfl)]
  simp -implicitDefEqProofs -dsimp +contextual (maxSteps := 9999999) (disch := first | omega | simp only [go_sem] <;> omega | refine ib ?_; kernel_rfl) only [go_sem, seval, ↓reduceIte, W1, W2, W3, W4, W5, pl, k_rowsG, hi, row, Nat.not_lt_zero]
  clear pl row
  refine kLoop_out (.exit 0) (fun f H' => f 0 = .ptr 40106 1 0 0 ∧ f 1 = .int .i64 id ∧ f 4 = .int .i64 (i : Nat) ∧ f 5 = .ptr 60130 c i 0 ∧ q.1.asked.length ≤ 200000 ∧ q.2.length ≤ 100000 ∧ (∀ o, o < 40000 → H' o = H o) ∧ ∃ A X, MoreS H' n i c q.1 A X ∧ ((q = (j0, []) ∧ A = .sc (.slice none 0 0) ∧ X = .sc (.slice none 0 0)) ∨ (AskB H' A q.1.asked ∧ ActS H' X q.2))) ?_ ?_
  · intro Q hQ
    refine kLoop_rec (fun (a : Nat × Jb × List Ac) f H' => a.1 ≤ n.list.length ∧ AskI id (n.list.drop a.1) a.2.1 a.2.2 q ∧ a.2.1.asked.length ≤ 100000 + a.1 ∧ a.2.2.length ≤ a.1 ∧ f 0 = .ptr 40106 1 0 0 ∧ f 1 = .int .i64 id ∧ f 4 = .int .i64 (i : Nat) ∧ f 5 = .ptr 60130 c i 0 ∧ f 25 = .slice 8 (n.list.map Pr.cs) ∧ f 26 = .int .i64 (n.list.length : Nat) ∧ f 27 = .int .i64 (a.1 : Nat) ∧
      (∀ o, o < 40000 → H' o = H o) ∧ ∃ A X, MoreS H' n i c a.2.1 A X ∧ ((a = (0, j0, []) ∧ A = .sc (.slice none 0 0) ∧ X = .sc (.slice none 0 0)) ∨ (AskB H' A a.2.1.asked ∧ ActS H' X a.2.2))) (fun a => n.list.length - a.1) (fun _ => R) ?_ (0, j0, []) _ _ (by exact ⟨Nat.zero_le _, ⟨by rw [List.drop_zero, hq], by rw [List.drop_zero, hq]; rfl⟩, by rw [ha0]; exact Nat.zero_le _, Nat.le_refl _, rfl, rfl, rfl, rfl, rfl, rfl, rfl, fun o ho => rfl, _, _, ⟨W1, W2, W3, W4, W5⟩, .inl ⟨rfl, rfl, rfl⟩⟩)
    clear W1 W2 W3 W4 W5
    rintro ⟨k, j, acts⟩ f H' ⟨hk, hI, hal2, hac, f0, f1, f4, f5, f25, f26, f27, hfr, A, X, ⟨W1, W2, W3, W4, W5⟩, hAX⟩ ih
    simp only at hk hI hal2 hac f27 W1 W4 hAX ih
    have row := fun R => rowsG_at (R := R) hi
    by_cases hl : k < n.list.length
    · rcases hAX with ⟨he, rfl, rfl⟩ | ⟨⟨ga, rfl, ha⟩, hX⟩
      · have prow := pr_row n.list k hl
        obtain ⟨rfl, rfl, rfl⟩ : k = 0 ∧ j = j0 ∧ acts = [] := by simpa using he
        rw [List.drop_eq_getElem_cons hl] at hI
        have hfu : ¬ 2 ≤ fewR j.acks + fewR j.waits := by rw [hk0, hw0]; decide
        have b1 := fewR_b j.acks
        have b2 := fewR_b j.waits
        have hI' := hI.go hfu (by rw [ha0]; simp)
        have nm := e71 [] n.list[0].e.name (by simp)
        rw [decide_eq_false (by simp)] at nm
        simp only [List.map_nil] at nm
        have ih' := ih (0 + 1, { j with waits := fewR j.waits + 1, asked := j.asked ++ [n.list[0].e.name] }, [] ++ [copyA n.list[0].e j.item id])
        simp only at ih'
        clear ih
        simp -implicitDefEqProofs -dsimp +contextual (maxSteps := 9999999) (disch := first | omega | simp only [go_sem] <;> omega | refine ib ?_; kernel_rfl) only [go_sem, seval, ↓reduceIte, f0, f1, f4, f5, f25, f26, f27, hl, prow, W1, W2, W3, W4, W5, row, hfu, nm]
        refine ih' _ _ ?_ (by omega)
        refine ⟨hl, hI', by simp [ha0], by simp, f0, f1, f4, f5, f25, f26, rfl, fun o ho => by repeat (first | exact hfr o ho | rw [Heap.set_ne _ _ (by omega)]), _, _, ⟨rfl, W2, W3, rfl, W5⟩, .inr ⟨⟨(H' 80167).gen + 1, by rw [ha0]; rfl, by rw [ha0]; rfl⟩, .inr ⟨(H' 80189).gen + 1, rfl, rfl⟩⟩⟩
      have prow := pr_row n.list k hl
      rw [List.drop_eq_getElem_cons hl] at hI
      have b1 := fewR_b j.acks
      have b2 := fewR_b j.waits
      by_cases hfu : 2 ≤ fewR j.acks + fewR j.waits
      · obtain rfl := hI.full (l' := []) hfu
        clear ih
        simp -implicitDefEqProofs -dsimp +contextual (maxSteps := 9999999) (disch := first | omega | simp only [go_sem] <;> omega | refine ib ?_; kernel_rfl) only [go_sem, seval, ↓reduceIte, f0, f1, f4, f5, f25, f26, f27, hl, prow, W1, W2, W3, W4, W5, ha, row, hfu]
        exact hQ _ _ ⟨f0, f1, f4, f5, by simp only; omega, by simp only; omega, fun o ho => by repeat (first | exact hfr o ho | rw [Heap.set_ne _ _ (by omega)]), _, _, ⟨W1, W2, W3, W4, W5⟩, .inr ⟨⟨ga, rfl, ha⟩, hX⟩⟩
      · by_cases hm : n.list[k].e.name ∈ j.asked
        · have hI' := hI.skip hfu hm
          have nm := e71 j.asked n.list[k].e.name (by omega)
          rw [decide_eq_true hm] at nm
          have ih' := ih (k + 1, j, acts)
          simp only at ih'
          clear ih
          simp -implicitDefEqProofs -dsimp +contextual (maxSteps := 9999999) (disch := first | omega | simp only [go_sem] <;> omega | refine ib ?_; kernel_rfl) only [go_sem, seval, ↓reduceIte, f0, f1, f4, f5, f25, f26, f27, hl, prow, W1, W2, W3, W4, W5, ha, row, hfu, nm]
          refine ih' _ _ ?_ (by omega)
          exact ⟨hl, hI', by omega, by omega, f0, f1, f4, f5, f25, f26, rfl, fun o ho => by repeat (first | exact hfr o ho | rw [Heap.set_ne _ _ (by omega)]), _, _, ⟨W1, W2, W3, W4, W5⟩, .inr ⟨⟨ga, rfl, ha⟩, hX⟩⟩
        · have hI' := hI.go hfu hm
          have nm := e71 j.asked n.list[k].e.name (by omega)
          rw [decide_eq_false hm] at nm
          have ih' := ih (k + 1, { j with waits := fewR j.waits + 1, asked := j.asked ++ [n.list[k].e.name] }, acts ++ [copyA n.list[k].e j.item id])
          simp only at ih'
          clear ih
          rcases hX with ⟨rfl, rfl⟩ | ⟨gx, rfl, hX⟩
          · simp -implicitDefEqProofs -dsimp +contextual (maxSteps := 9999999) (disch := first | omega | simp only [go_sem] <;> omega | refine ib ?_; kernel_rfl) only [go_sem, seval, ↓reduceIte, f0, f1, f4, f5, f25, f26, f27, hl, prow, W1, W2, W3, W4, W5, ha, row, hfu, nm, hal2]
            refine ih' _ _ ?_ (by omega)
            refine ⟨hl, hI', by simp; omega, by simp, f0, f1, f4, f5, f25, f26, rfl, fun o ho => by repeat (first | exact hfr o ho | rw [Heap.set_ne _ _ (by omega)]), _, _, ⟨rfl, W2, W3, rfl, W5⟩, .inr ⟨⟨ga + 1, by simp, by rw [List.map_append]; rfl⟩, .inr ⟨(H' 80189).gen + 1, rfl, rfl⟩⟩⟩
          · simp -implicitDefEqProofs -dsimp +contextual (maxSteps := 9999999) (disch := first | omega | simp only [go_sem] <;> omega | refine ib ?_; kernel_rfl) only [go_sem, seval, ↓reduceIte, f0, f1, f4, f5, f25, f26, f27, hl, prow, W1, W2, W3, W4, W5, ha, hX, row, hfu, nm, hal2]
            refine ih' _ _ ?_ (by omega)
            refine ⟨hl, hI', by simp; omega, by simp; omega, f0, f1, f4, f5, f25, f26, rfl, fun o ho => by repeat (first | exact hfr o ho | rw [Heap.set_ne _ _ (by omega)]), _, _, ⟨rfl, W2, W3, rfl, W5⟩, .inr ⟨⟨ga + 1, by simp, by rw [List.map_append]; rfl⟩, .inr ⟨gx + 1, by simp, by rw [List.map_append]; rfl⟩⟩⟩
    · obtain rfl : k = n.list.length := by omega
      rw [List.drop_length] at hI
      obtain rfl := hI.done
      clear ih
      rcases hAX with ⟨he, rfl, rfl⟩ | ⟨⟨ga, rfl, ha⟩, hX⟩
      · obtain ⟨h0, rfl, rfl⟩ : n.list.length = 0 ∧ j = j0 ∧ acts = [] := by simpa using he
        simp -implicitDefEqProofs -dsimp +contextual (maxSteps := 9999999) (disch := first | omega | simp only [go_sem] <;> omega | refine ib ?_; kernel_rfl) only [go_sem, seval, ↓reduceIte, f0, f1, f4, f5, f25, f26, f27, W1, W2, W3, W4, W5, row]
        exact hQ _ _ ⟨f0, f1, f4, f5, by simp only; omega, by simp only; omega, hfr, _, _, ⟨W1, W2, W3, W4, W5⟩, .inl ⟨rfl, rfl, rfl⟩⟩
      · simp -implicitDefEqProofs -dsimp +contextual (maxSteps := 9999999) (disch := first | omega | simp only [go_sem] <;> omega | refine ib ?_; kernel_rfl) only [go_sem, seval, ↓reduceIte, f0, f1, f4, f5, f25, f26, f27, W1, W2, W3, W4, W5, ha, row]
        exact hQ _ _ ⟨f0, f1, f4, f5, by simp only; omega, by simp only; omega, hfr, _, _, ⟨W1, W2, W3, W4, W5⟩, .inr ⟨⟨ga, rfl, ha⟩, hX⟩⟩
  · clear W1 W2 W3 W4 W5
    obtain ⟨j, acts⟩ := q
    rintro f H' ⟨f0, f1, f4, f5, hjl, hql, hfr, A, X, ⟨W1, W2, W3, W4, W5⟩, hAX⟩
    simp only at W4 hAX ka kb hjl hql
    have row := fun R => rowsG_at (R := R) hi
    rcases hAX with ⟨he, rfl, rfl⟩ | ⟨⟨ga, rfl, ha⟩, hX⟩
    · obtain ⟨rfl, rfl⟩ : j = j0 ∧ acts = [] := by simpa using he
      have hw : ¬ 0 < j.waits := by omega
      have hw' : j.waits ≤ 0 := by omega
      have hmf : moreFin n i (j, []) = ((tellR { n with jobs := n.jobs.eraseIdx i } j.back j.backRid j.backJob j.item (!j.item.g) 0).1, [] ++ (tellR { n with jobs := n.jobs.eraseIdx i } j.back j.backRid j.backJob j.item (!j.item.g) 0).2) := by unfold moreFin; rw [if_neg hw]
      rw [hmf, List.nil_append] at kb
      clear hmf ka
      have hm' := mid_erase i h
      have drp := dropN n i hi (by rw [hj0, ha0]) (h.le (by omega))
      rw [hj0] at drp
      simp only [ha0, List.map_nil] at drp
      by_cases hj : j.backJob = 0
      · rw [tellR, if_pos hj] at kb
        have en := endW0 { n with jobs := n.jobs.eraseIdx i } _ _ .nil j hj (hm'.le (by omega)) (by simp)
        simp only [ha0, List.map_nil] at en
        simp -implicitDefEqProofs -dsimp +contextual (maxSteps := 9999999) (disch := first | omega | simp only [go_sem] <;> omega | refine ib ?_; kernel_rfl) only [go_sem, seval, ↓reduceIte, f0, f1, f4, f5, W1, W2, W3, W4, W5, row, hw', k_rowsG, hi, drp, en]
        exact kb _ ⟨_, _, _, _, _, _, rfl, rfl, rfl, rfl, rfl, .inr ⟨rfl, rfl⟩⟩ (fun o ho => by repeat (first | exact hfr o ho | rw [Heap.set_ne _ _ (by omega)])) hw
      · rw [tellR, if_neg hj] at kb
        obtain ⟨js, rs, hs⟩ := settle_eta { n with jobs := n.jobs.eraseIdx i } j.backJob j.item (!j.item.g) 0
        have en := endW1 { n with jobs := n.jobs.eraseIdx i } _ _ .nil j hj (hm'.le (by omega))
        simp only [ha0, List.map_nil] at en
        rw [hs] at en kb
        simp only at en kb
        simp -implicitDefEqProofs -dsimp +contextual (maxSteps := 9999999) (disch := first | omega | simp only [go_sem] <;> omega | refine ib ?_; kernel_rfl) only [go_sem, seval, ↓reduceIte, f0, f1, f4, f5, W1, W2, W3, W4, W5, row, hw', k_rowsG, hi, drp, en]
        exact kb _ ⟨0, _, _, _, _, _, rfl, rfl, rfl, rfl, rfl, .inl ⟨rfl, rfl⟩⟩ (fun o ho => by repeat (first | exact hfr o ho | rw [Heap.set_ne _ _ (by omega)])) hw
    by_cases hw : 0 < j.waits
    · have hw' : ¬ j.waits ≤ 0 := by omega
      simp -implicitDefEqProofs -dsimp +contextual (maxSteps := 9999999) (disch := first | omega | simp only [go_sem] <;> omega | refine ib ?_; kernel_rfl) only [go_sem, seval, ↓reduceIte, f0, f1, f4, f5, W1, W2, W3, W4, W5, ha, row, hw']
      exact ka H' _ _ ⟨W1, W2, W3, W4, W5⟩ ⟨ga, rfl, ha⟩ hX hfr hw
    · have hw' : j.waits ≤ 0 := by omega
      have hmf : moreFin n i (j, acts) = ((tellR { n with jobs := n.jobs.eraseIdx i } j.back j.backRid j.backJob j.item (!j.item.g) 0).1, acts ++ (tellR { n with jobs := n.jobs.eraseIdx i } j.back j.backRid j.backJob j.item (!j.item.g) 0).2) := by unfold moreFin; rw [if_neg hw]
      rw [hmf] at kb
      clear hmf ka
      have hm' := mid_erase i h
      have hms : ({ n with jobs := n.jobs.set i j } : Nd).mid 1000001 := mid_set i j (h.le (by omega)) (by omega)
      by_cases hj : j.backJob = 0
      · rw [tellR, if_pos hj] at kb
        rcases hX with ⟨rfl, rfl⟩ | ⟨gx, rfl, hX⟩
        · have drp := dropW { n with jobs := n.jobs.set i j } _ _ .nil i (by simpa using hi) hms
          simp only [List.getElem_set_self, erase_set] at drp
          have en := endW0 { n with jobs := n.jobs.eraseIdx i } _ _ .nil j hj (hm'.le (by omega)) (by simp)
          simp only at en
          simp -implicitDefEqProofs -dsimp +contextual (maxSteps := 9999999) (disch := first | omega | simp only [go_sem] <;> omega | refine ib ?_; kernel_rfl) only [go_sem, seval, ↓reduceIte, f0, f1, f4, f5, W1, W2, W3, W4, W5, ha, row, hw', k_rowsG, hi, drp, en]
          exact kb _ ⟨_, _, _, _, _, _, rfl, rfl, rfl, rfl, rfl, .inr ⟨rfl, rfl⟩⟩ (fun o ho => by repeat (first | exact hfr o ho | rw [Heap.set_ne _ _ (by omega)])) hw
        · have drp := dropW { n with jobs := n.jobs.set i j } _ _ (.us acts) i (by simpa using hi) hms
          simp only [List.getElem_set_self, erase_set] at drp
          have en := endW0 { n with jobs := n.jobs.eraseIdx i } _ _ (.us acts) j hj (hm'.le (by omega)) (by omega)
          simp only at en
          simp -implicitDefEqProofs -dsimp +contextual (maxSteps := 9999999) (disch := first | omega | simp only [go_sem] <;> omega | refine ib ?_; kernel_rfl) only [go_sem, seval, ↓reduceIte, f0, f1, f4, f5, W1, W2, W3, W4, W5, ha, row, hw', k_rowsG, hi, drp, en, hX]
          exact kb _ ⟨_, _, _, _, _, _, rfl, rfl, rfl, rfl, rfl, .inr ⟨by simp, rfl⟩⟩ (fun o ho => by repeat (first | exact hfr o ho | rw [Heap.set_ne _ _ (by omega)])) hw
      · rw [tellR, if_neg hj] at kb
        obtain ⟨js, rs, hs⟩ := settle_eta { n with jobs := n.jobs.eraseIdx i } j.backJob j.item (!j.item.g) 0
        rcases hX with ⟨rfl, rfl⟩ | ⟨gx, rfl, hX⟩
        · have drp := dropW { n with jobs := n.jobs.set i j } _ _ .nil i (by simpa using hi) hms
          simp only [List.getElem_set_self, erase_set] at drp
          have en := endW1 { n with jobs := n.jobs.eraseIdx i } _ _ .nil j hj (hm'.le (by omega))
          simp only at en
          rw [hs] at en kb
          simp only at en kb
          simp -implicitDefEqProofs -dsimp +contextual (maxSteps := 9999999) (disch := first | omega | simp only [go_sem] <;> omega | refine ib ?_; kernel_rfl) only [go_sem, seval, ↓reduceIte, f0, f1, f4, f5, W1, W2, W3, W4, W5, ha, row, hw', k_rowsG, hi, drp, en]
          exact kb _ ⟨0, _, _, _, _, _, rfl, rfl, rfl, rfl, rfl, .inl ⟨rfl, rfl⟩⟩ (fun o ho => by repeat (first | exact hfr o ho | rw [Heap.set_ne _ _ (by omega)])) hw
        · have drp := dropW { n with jobs := n.jobs.set i j } _ _ (.us acts) i (by simpa using hi) hms
          simp only [List.getElem_set_self, erase_set] at drp
          have en := endW1 { n with jobs := n.jobs.eraseIdx i } _ _ (.us acts) j hj (hm'.le (by omega))
          simp only at en
          rw [hs] at en kb
          simp only at en kb
          rw [List.append_nil] at kb
          simp -implicitDefEqProofs -dsimp +contextual (maxSteps := 9999999) (disch := first | omega | simp only [go_sem] <;> omega | refine ib ?_; kernel_rfl) only [go_sem, seval, ↓reduceIte, f0, f1, f4, f5, W1, W2, W3, W4, W5, ha, row, hw', k_rowsG, hi, drp, en, hX]
          exact kb _ ⟨_, _, _, _, _, _, rfl, rfl, rfl, rfl, rfl, .inr ⟨rfl, rfl⟩⟩ (fun o ho => by repeat (first | exact hfr o ho | rw [Heap.set_ne _ _ (by omega)])) hw

end Go.Proofs.YtnpkhdjgedeppaaDoor
namespace Go.Proofs.YtnpkhdjgedeppaaDoor
open Go.Am
set_option linter.unusedSimpArgs false
set_option linter.unusedVariables false
set_option maxRecDepth 100000
/-! (No variable of done is nil as an object.) -/
@[go_sem] theorem nlDone : M.nl 62 = [] := Eq.trans rfl rfl

end Go.Proofs.YtnpkhdjgedeppaaDoor
namespace Go.Proofs.YtnpkhdjgedeppaaDoor
open Go.Am
set_option linter.unusedSimpArgs false
set_option linter.unusedVariables false
set_option maxRecDepth 100000
/-! Layer 29: More, came. -/

def ndRes (q : Nd × List Ac) : Option Res := some (.tup [.agg q.1.ocs, .usl 20 (q.2.map Ac.cs)], [])

theorem copR_cases (l : List Jb) (id : Int) : (∃ i : Nat, i < l.length ∧ copR l id = (i : Int)) ∨ copR l id = -1 := by
  rcases findR_cases l id with ⟨i, hi, hid, _, hf⟩ | ⟨_, hf⟩
  · by_cases hk : l[i].kind = 4
    · exact .inl ⟨i, hi, copR_at hi hf hk⟩
    · exact .inr (copR_kind hi hf hk)
  · exact .inr (copR_none hf)

theorem moreR_none {n : Nd} {id : Int} (h : copR n.jobs id = -1) : moreR n id = (n, []) := by
  unfold moreR; rw [h, if_neg (by omega)]

theorem moreR_at {n : Nd} {id : Int} {i : Nat} (hi : i < n.jobs.length) (h : copR n.jobs id = (i : Int)) : moreR n id = moreFin n i (askR id n.list n.jobs[i]) := by
  unfold moreR moreAt; rw [h, if_pos (by omega), Int.toNat_natCast, jobG_at hi]

set_option maxHeartbeats 4000000 in
theorem il_more_none (g : Int) (n : Nd) (id : Int) (c : Nat) (hcop : copR n.jobs id = -1) (h : n.mid 100000) (H : Heap)
    (W1 : H 40106 = ⟨1, .live, 23, [[.str n.me.name, .int .u64 (n.me.id : Int), .int .i64 n.me.fr, .int .i64 n.me.un, .int .i64 n.me.ix, .str n.me.tag, .int .i64 n.clock, .str n.psk, .int .i64 n.gateI, .str n.gateK, .bool n.ready, .slice 8 (n.pred.map Pr.cs), .slice 8 (n.list.map Pr.cs), .slice 9 (n.fingers.map Fg.cs), .osl 60118 1 0 n.sessions.length, .osl 60121 1 0 n.pends.length, .slice 4 (n.items.map It.cs), .osl 60130 c 0 n.jobs.length, .int .i64 n.rid, .int .i64 n.jobId, .slice 1 (n.draws.map u64Row), .osl 60136 1 0 n.results.length, .sc (.slice none 0 0)]], false⟩)
    (W2 : H 60118 = ⟨1, .live, 20, n.sessions.map Se.cs, false⟩) (W3 : H 60121 = ⟨1, .live, 23, n.pends.map Pd.cs, false⟩) (W4 : H 60130 = ⟨c, .live, 29, n.jobs.map Jb.cs, false⟩) (W5 : H 60136 = ⟨1, .live, 8, n.results.map Rs.cs, false⟩)
    (K : AVal × Heap → Option Res) (R : Option Res) (k : K (.tup [], H) = R) : @kB _ _ (il (C1 g) 64 [.ptr 40106 1 0 0, .int .i64 id] H) ⟨K⟩ = R := by
  have jl := h.jl
  have pl := placeI n (.sc (.slice none 0 0)) id (by omega)
  rw [hcop] at pl
  rw [il_text (C := C1 g) Tryd.func64 rfl Tryd.results64 (show (C1 g).M.loc 64 = _ from fq64.1) (by kernel_rfl)]
  simp -implicitDefEqProofs -dsimp +contextual (maxSteps := 9999999) (disch := first | omega | simp only [go_sem] <;> omega | refine ib ?_; kernel_rfl) only [go_sem, seval, ↓reduceIte, W1, W2, W3, W4, W5, pl]
  exact k

end Go.Proofs.YtnpkhdjgedeppaaDoor
namespace Go.Proofs.YtnpkhdjgedeppaaDoor
open Go.Am
set_option linter.unusedSimpArgs false
set_option linter.unusedVariables false
set_option maxRecDepth 100000
/-! Layer 29: Begin. -/

theorem Jb_app (n : Nd) (x : It) (back : En) (rid job : Int) : n.jobs.map Jb.cs ++ [[.int .i64 (nextI n.jobId), .int .i64 4, .int .i64 0, .int .i64 0, .int .i64 0, .int .i64 (n.clock + 192), .str [], .str [], .str [], .int .u64 0, .int .i64 0, .int .i64 0, .int .i64 0, .str [], .str x.k, .str x.v, .int .i64 x.n, .bool x.g, .int .i64 0, .int .i64 0, .slice 1 [], .str back.name, .int .u64 (back.id : Int), .int .i64 back.fr, .int .i64 back.un, .int .i64 back.ix, .str back.tag, .int .i64 rid, .int .i64 job]] = (n.jobs ++ [copyJ n x back rid job]).map Jb.cs := by rw [List.map_append]; rfl

theorem Jb_appN (n : Nd) (x : It) (back : En) (rid job : Int) : n.jobs.map Jb.cs ++ [[.int .i64 (nextI n.jobId), .int .i64 4, .int .i64 0, .int .i64 0, .int .i64 0, .int .i64 (n.clock + 192), .str [], .str [], .str [], .int .u64 0, .int .i64 0, .int .i64 0, .int .i64 0, .str [], .str x.k, .str x.v, .int .i64 x.n, .bool x.g, .int .i64 0, .int .i64 0, .sc (.slice none 0 0), .str back.name, .int .u64 (back.id : Int), .int .i64 back.fr, .int .i64 back.un, .int .i64 back.ix, .str back.tag, .int .i64 rid, .int .i64 job]] = rowsG (n.jobs ++ [copyJ n x back rid job]) n.jobs.length [.int .i64 (nextI n.jobId), .int .i64 4, .int .i64 0, .int .i64 0, .int .i64 0, .int .i64 (n.clock + 192), .str [], .str [], .str [], .int .u64 0, .int .i64 0, .int .i64 0, .int .i64 0, .str [], .str x.k, .str x.v, .int .i64 x.n, .bool x.g, .int .i64 0, .int .i64 0, .sc (.slice none 0 0), .str back.name, .int .u64 (back.id : Int), .int .i64 back.fr, .int .i64 back.un, .int .i64 back.ix, .str back.tag, .int .i64 rid, .int .i64 job] := by
  unfold rowsG
  rw [List.map_append, List.set_append_right _ _ (by simp)]
  simp [copyJ, jbZ, enZ]

theorem rowsG_app (n : Nd) (i : Nat) (hi : i < n.jobs.length) (R : List AVal) (x : It) (back : En) (rid job : Int) : rowsG n.jobs i R ++ [[.int .i64 (nextI n.jobId), .int .i64 4, .int .i64 0, .int .i64 0, .int .i64 0, .int .i64 (n.clock + 192), .str [], .str [], .str [], .int .u64 0, .int .i64 0, .int .i64 0, .int .i64 0, .str [], .str x.k, .str x.v, .int .i64 x.n, .bool x.g, .int .i64 0, .int .i64 0, .slice 1 [], .str back.name, .int .u64 (back.id : Int), .int .i64 back.fr, .int .i64 back.un, .int .i64 back.ix, .str back.tag, .int .i64 rid, .int .i64 job]] = rowsG (n.jobs ++ [copyJ n x back rid job]) i R := by
  unfold rowsG
  rw [List.map_append, List.set_append_left _ _ (by simpa using hi)]
  rfl

@[go_sem] theorem nlBg : M.nl 54 = [] := Eq.trans rfl rfl

set_option maxHeartbeats 8000000 in
theorem eBeginE0 (n : Nd) (key val : List UInt8) (gone : Bool) (back : En) (rid job : Int) (h : n.mid 90000) (hk : key.length ≤ 9223372036854775807) (hc : 0 ≤ n.clock ∧ n.clock ≤ 1099511627776) (he : ¬ beginE n key val gone = 0) (hj : job = 0) :
    fn (C1 (-1)) 54 [] [.agg [.str n.me.name, .int .u64 (n.me.id : Int), .int .i64 n.me.fr, .int .i64 n.me.un, .int .i64 n.me.ix, .str n.me.tag, .int .i64 n.clock, .str n.psk, .int .i64 n.gateI, .str n.gateK, .bool n.ready, .slice 8 (n.pred.map Pr.cs), .slice 8 (n.list.map Pr.cs), .slice 9 (n.fingers.map Fg.cs), .slice 20 (n.sessions.map Se.cs), .slice 23 (n.pends.map Pd.cs), .slice 4 (n.items.map It.cs), .slice 29 (n.jobs.map Jb.cs), .int .i64 n.rid, .int .i64 n.jobId, .slice 1 (n.draws.map u64Row), .slice 8 (n.results.map Rs.cs)], .str key, .str val, .bool gone, .agg [.str back.name, .int .u64 (back.id : Int), .int .i64 back.fr, .int .i64 back.un, .int .i64 back.ix, .str back.tag], .int .i64 rid, .int .i64 job] = ndRes (n, [doneA back rid zeroIt (beginE n key val gone)]) := by
  obtain ⟨g, hg⟩ : ∃ g : Int, g = -1 := ⟨_, rfl⟩
  rw [← hg]
  have nl := nlB_B g (by omega)
  have il := h.il
  have jl := h.jl
  have pu := e60 n.items key val gone (by omega) hk
  have tw := fun e => tellW0 n _ _ .nil back rid zeroIt false e (h.le (by omega)) (by simp)
  simp only [zeroIt_k, zeroIt_v, zeroIt_n, zeroIt_g] at tw
  subst hj
  rw [fn_textN (C := C1 g) Tryd.func54 rfl rfl Tryd.results54 (show (C1 g).M.loc 54 = _ from fq54.1) rfl rfl (by kernel_rfl)]
  simp -implicitDefEqProofs -dsimp +contextual (maxSteps := 9999999) (disch := first | omega | simp only [go_sem] <;> omega | refine ib ?_; kernel_rfl) only [go_sem, seval, ↓reduceIte, nl]
  refine il_on0 n (h.le (by omega)) g (by omega) _ ?_ _ _ fun H' W hfr => ?_
  · intro o ho; repeat (first | rfl | rw [Heap.set_ne _ _ (by omega)])
  obtain ⟨W1, W2, W3, W4, W5⟩ := W
  have g4 : (H' 114).gen = 1 := by rw [hfr 114 (by omega)]; rfl
  have m4 : (H' 114).mode = .live := by rw [hfr 114 (by omega)]; rfl
  obtain ⟨r, hr, H4r⟩ : ∃ r : List AVal, r.length = 22 ∧ (H' 114).rows = [r] := by rw [hfr 114 (by omega)]; exact ⟨_, rfl, rfl⟩
  have h11 : H' 111 = ⟨1, .live, 6, [[.str back.name, .int .u64 (back.id : Int), .int .i64 back.fr, .int .i64 back.un, .int .i64 back.ix, .str back.tag]], false⟩ := by rw [hfr 111 (by omega)]; rfl
  have h18 : H' 118 = ⟨0, .dead, 0, [], false⟩ := by rw [hfr 118 (by omega)]; rfl
  by_cases h8 : 8 ≤ n.jobs.length
  · have hb : beginE n key val gone = 41 := by unfold beginE; rw [if_pos h8]
    rw [hb] at he ⊢
    clear hb
    have tw := tw 41
    simp -implicitDefEqProofs -dsimp +contextual (maxSteps := 9999999) (disch := first | omega | simp only [go_sem] <;> omega | refine ib ?_; kernel_rfl) only [go_sem, seval, ↓reduceIte, nl, W1, W2, W3, W4, W5, pu, h11, h18, g4, m4, hr, H4r, h8, tw]
    rw [il_text (C := C1 g) Tryd.func62 rfl Tryd.results62 (show (C1 g).M.loc 62 = _ from fq62.1) (by kernel_rfl)]
    simp -implicitDefEqProofs -dsimp +contextual (maxSteps := 9999999) (disch := first | omega | simp only [go_sem] <;> omega | refine ib ?_; kernel_rfl) only [go_sem, seval, ↓reduceIte, nl, W1, W2, W3, W4, W5, g4, m4, hr, H4r]
    rfl
  · have hb : beginE n key val gone = (putR n.items key val gone).2.2 := by unfold beginE; rw [if_neg h8]
    rw [hb] at he ⊢
    clear hb
    have tw := tw (putR n.items key val gone).2.2
    generalize putR n.items key val gone = p at *
    obtain ⟨p1, p2, p3⟩ := p
    simp only at he tw pu ⊢
    simp -implicitDefEqProofs -dsimp +contextual (maxSteps := 9999999) (disch := first | omega | simp only [go_sem] <;> omega | refine ib ?_; kernel_rfl) only [go_sem, seval, ↓reduceIte, nl, W1, W2, W3, W4, W5, pu, h11, h18, g4, m4, hr, H4r, h8, tw, he]
    rw [il_text (C := C1 g) Tryd.func62 rfl Tryd.results62 (show (C1 g).M.loc 62 = _ from fq62.1) (by kernel_rfl)]
    simp -implicitDefEqProofs -dsimp +contextual (maxSteps := 9999999) (disch := first | omega | simp only [go_sem] <;> omega | refine ib ?_; kernel_rfl) only [go_sem, seval, ↓reduceIte, nl, W1, W2, W3, W4, W5, g4, m4, hr, H4r]
    rfl

set_option maxHeartbeats 8000000 in
theorem eBeginE1 (n : Nd) (key val : List UInt8) (gone : Bool) (back : En) (rid job : Int) (h : n.mid 90000) (hk : key.length ≤ 9223372036854775807) (hc : 0 ≤ n.clock ∧ n.clock ≤ 1099511627776) (he : ¬ beginE n key val gone = 0) (hj : ¬ job = 0) :
    fn (C1 (-1)) 54 [] [.agg [.str n.me.name, .int .u64 (n.me.id : Int), .int .i64 n.me.fr, .int .i64 n.me.un, .int .i64 n.me.ix, .str n.me.tag, .int .i64 n.clock, .str n.psk, .int .i64 n.gateI, .str n.gateK, .bool n.ready, .slice 8 (n.pred.map Pr.cs), .slice 8 (n.list.map Pr.cs), .slice 9 (n.fingers.map Fg.cs), .slice 20 (n.sessions.map Se.cs), .slice 23 (n.pends.map Pd.cs), .slice 4 (n.items.map It.cs), .slice 29 (n.jobs.map Jb.cs), .int .i64 n.rid, .int .i64 n.jobId, .slice 1 (n.draws.map u64Row), .slice 8 (n.results.map Rs.cs)], .str key, .str val, .bool gone, .agg [.str back.name, .int .u64 (back.id : Int), .int .i64 back.fr, .int .i64 back.un, .int .i64 back.ix, .str back.tag], .int .i64 rid, .int .i64 job] = ndRes (settleR n job zeroIt false (beginE n key val gone), []) := by
  obtain ⟨g, hg⟩ : ∃ g : Int, g = -1 := ⟨_, rfl⟩
  rw [← hg]
  have nl := nlB_B g (by omega)
  have il := h.il
  have jl := h.jl
  have pu := e60 n.items key val gone (by omega) hk
  have tw := fun e => tellW1 n _ _ .nil back rid job zeroIt false e hj (h.le (by omega))
  simp only [zeroIt_k, zeroIt_v, zeroIt_n, zeroIt_g] at tw
  rw [fn_textN (C := C1 g) Tryd.func54 rfl rfl Tryd.results54 (show (C1 g).M.loc 54 = _ from fq54.1) rfl rfl (by kernel_rfl)]
  simp -implicitDefEqProofs -dsimp +contextual (maxSteps := 9999999) (disch := first | omega | simp only [go_sem] <;> omega | refine ib ?_; kernel_rfl) only [go_sem, seval, ↓reduceIte, nl]
  refine il_on0 n (h.le (by omega)) g (by omega) _ ?_ _ _ fun H' W hfr => ?_
  · intro o ho; repeat (first | rfl | rw [Heap.set_ne _ _ (by omega)])
  obtain ⟨W1, W2, W3, W4, W5⟩ := W
  have g4 : (H' 114).gen = 1 := by rw [hfr 114 (by omega)]; rfl
  have m4 : (H' 114).mode = .live := by rw [hfr 114 (by omega)]; rfl
  obtain ⟨r, hr, H4r⟩ : ∃ r : List AVal, r.length = 22 ∧ (H' 114).rows = [r] := by rw [hfr 114 (by omega)]; exact ⟨_, rfl, rfl⟩
  have h11 : H' 111 = ⟨1, .live, 6, [[.str back.name, .int .u64 (back.id : Int), .int .i64 back.fr, .int .i64 back.un, .int .i64 back.ix, .str back.tag]], false⟩ := by rw [hfr 111 (by omega)]; rfl
  have h18 : H' 118 = ⟨0, .dead, 0, [], false⟩ := by rw [hfr 118 (by omega)]; rfl
  by_cases h8 : 8 ≤ n.jobs.length
  · have hb : beginE n key val gone = 41 := by unfold beginE; rw [if_pos h8]
    rw [hb] at he ⊢
    clear hb
    have tw := tw 41
    obtain ⟨js, rs, hs⟩ := settle_eta n job zeroIt false 41
    rw [hs] at tw ⊢
    simp only at tw
    simp -implicitDefEqProofs -dsimp +contextual (maxSteps := 9999999) (disch := first | omega | simp only [go_sem] <;> omega | refine ib ?_; kernel_rfl) only [go_sem, seval, ↓reduceIte, nl, W1, W2, W3, W4, W5, pu, h11, h18, g4, m4, hr, H4r, h8, tw]
    rw [il_text (C := C1 g) Tryd.func62 rfl Tryd.results62 (show (C1 g).M.loc 62 = _ from fq62.1) (by kernel_rfl)]
    simp -implicitDefEqProofs -dsimp +contextual (maxSteps := 9999999) (disch := first | omega | simp only [go_sem] <;> omega | refine ib ?_; kernel_rfl) only [go_sem, seval, ↓reduceIte, nl, W1, W2, W3, W4, W5, g4, m4, hr, H4r]
    rfl
  · have hb : beginE n key val gone = (putR n.items key val gone).2.2 := by unfold beginE; rw [if_neg h8]
    rw [hb] at he ⊢
    clear hb
    have tw := tw (putR n.items key val gone).2.2
    generalize putR n.items key val gone = p at *
    obtain ⟨p1, p2, p3⟩ := p
    simp only at he tw pu ⊢
    obtain ⟨js, rs, hs⟩ := settle_eta n job zeroIt false p3
    rw [hs] at tw ⊢
    simp only at tw
    simp -implicitDefEqProofs -dsimp +contextual (maxSteps := 9999999) (disch := first | omega | simp only [go_sem] <;> omega | refine ib ?_; kernel_rfl) only [go_sem, seval, ↓reduceIte, nl, W1, W2, W3, W4, W5, pu, h11, h18, g4, m4, hr, H4r, h8, tw, he]
    rw [il_text (C := C1 g) Tryd.func62 rfl Tryd.results62 (show (C1 g).M.loc 62 = _ from fq62.1) (by kernel_rfl)]
    simp -implicitDefEqProofs -dsimp +contextual (maxSteps := 9999999) (disch := first | omega | simp only [go_sem] <;> omega | refine ib ?_; kernel_rfl) only [go_sem, seval, ↓reduceIte, nl, W1, W2, W3, W4, W5, g4, m4, hr, H4r]
    rfl

set_option maxHeartbeats 8000000 in
theorem eBeginN (n : Nd) (key val : List UInt8) (gone : Bool) (back : En) (rid job : Int) (h : n.mid 90000) (hk : key.length ≤ 9223372036854775807) (hc : 0 ≤ n.clock ∧ n.clock ≤ 1099511627776) (he : beginE n key val gone = 0) (hcop : copR (begunR n key val gone back rid job).jobs (nextI n.jobId) = -1) :
    fn (C1 (-1)) 54 [] [.agg [.str n.me.name, .int .u64 (n.me.id : Int), .int .i64 n.me.fr, .int .i64 n.me.un, .int .i64 n.me.ix, .str n.me.tag, .int .i64 n.clock, .str n.psk, .int .i64 n.gateI, .str n.gateK, .bool n.ready, .slice 8 (n.pred.map Pr.cs), .slice 8 (n.list.map Pr.cs), .slice 9 (n.fingers.map Fg.cs), .slice 20 (n.sessions.map Se.cs), .slice 23 (n.pends.map Pd.cs), .slice 4 (n.items.map It.cs), .slice 29 (n.jobs.map Jb.cs), .int .i64 n.rid, .int .i64 n.jobId, .slice 1 (n.draws.map u64Row), .slice 8 (n.results.map Rs.cs)], .str key, .str val, .bool gone, .agg [.str back.name, .int .u64 (back.id : Int), .int .i64 back.fr, .int .i64 back.un, .int .i64 back.ix, .str back.tag], .int .i64 rid, .int .i64 job] = ndRes (begunR n key val gone back rid job, []) := by
  obtain ⟨g, hg⟩ : ∃ g : Int, g = -1 := ⟨_, rfl⟩
  rw [← hg]
  have nl := nlB_B g (by omega)
  have il := h.il
  have jl := h.jl
  have pu := e60 n.items key val gone (by omega) hk
  have hb : beginE n key val gone = (putR n.items key val gone).2.2 := by
    unfold beginE at he ⊢
    split at he
    · omega
    · rw [if_neg (by assumption)]
  have h8 : ¬ 8 ≤ n.jobs.length := by
    intro h8; unfold beginE at he; rw [if_pos h8] at he; omega
  rw [hb] at he
  clear hb
  have hmid : (begunR n key val gone back rid job).mid 100000 := (mid_begun key val gone back rid job hk h).le (by omega)
  rw [fn_textN (C := C1 g) Tryd.func54 rfl rfl Tryd.results54 (show (C1 g).M.loc 54 = _ from fq54.1) rfl rfl (by kernel_rfl)]
  simp -implicitDefEqProofs -dsimp +contextual (maxSteps := 9999999) (disch := first | omega | simp only [go_sem] <;> omega | refine ib ?_; kernel_rfl) only [go_sem, seval, ↓reduceIte, nl]
  refine il_on0 n (h.le (by omega)) g (by omega) _ ?_ _ _ fun H' W hfr => ?_
  · intro o ho; repeat (first | rfl | rw [Heap.set_ne _ _ (by omega)])
  obtain ⟨W1, W2, W3, W4, W5⟩ := W
  have g4 : (H' 114).gen = 1 := by rw [hfr 114 (by omega)]; rfl
  have m4 : (H' 114).mode = .live := by rw [hfr 114 (by omega)]; rfl
  obtain ⟨r, hr, H4r⟩ : ∃ r : List AVal, r.length = 22 ∧ (H' 114).rows = [r] := by rw [hfr 114 (by omega)]; exact ⟨_, rfl, rfl⟩
  have h11 : H' 111 = ⟨1, .live, 6, [[.str back.name, .int .u64 (back.id : Int), .int .i64 back.fr, .int .i64 back.un, .int .i64 back.ix, .str back.tag]], false⟩ := by rw [hfr 111 (by omega)]; rfl
  have h18 : H' 118 = ⟨0, .dead, 0, [], false⟩ := by rw [hfr 118 (by omega)]; rfl
  have hx := Jb_app n (putR n.items key val gone).2.1 back rid job
  simp -implicitDefEqProofs -dsimp +contextual (maxSteps := 9999999) (disch := first | omega | simp only [go_sem] <;> omega | refine ib ?_; kernel_rfl) only [go_sem, seval, ↓reduceIte, nl, W1, W2, W3, W4, W5, pu, h11, h18, g4, m4, hr, H4r, h8, he, hx]
  refine il_more_none g (begunR n key val gone back rid job) (nextI n.jobId) 2 hcop hmid _ ?_ ?_ ?_ ?_ ?_ _ _ ?_
  · rw [begunR]; simp -implicitDefEqProofs -dsimp +contextual (maxSteps := 9999999) (disch := first | omega | simp only [go_sem] <;> omega | refine ib ?_; kernel_rfl) only [go_sem, seval, ↓reduceIte, List.length_append, List.length_singleton]
  · exact W2
  · exact W3
  · rfl
  · exact W5
  rw [begunR]
  simp -implicitDefEqProofs -dsimp +contextual (maxSteps := 9999999) (disch := first | omega | simp only [go_sem] <;> omega | refine ib ?_; kernel_rfl) only [go_sem, seval, ↓reduceIte]
  rw [il_text (C := C1 g) Tryd.func62 rfl Tryd.results62 (show (C1 g).M.loc 62 = _ from fq62.1) (by kernel_rfl)]
  simp -implicitDefEqProofs -dsimp +contextual (maxSteps := 9999999) (disch := first | omega | simp only [go_sem] <;> omega | refine ib ?_; kernel_rfl) only [go_sem, seval, ↓reduceIte, nl, W1, W2, W3, W4, W5, g4, m4, hr, H4r, List.length_append, List.length_singleton]
  rfl

end Go.Proofs.YtnpkhdjgedeppaaDoor
namespace Go.Proofs.YtnpkhdjgedeppaaDoor
open Go.Am
set_option linter.unusedSimpArgs false
set_option linter.unusedVariables false
set_option maxRecDepth 100000
/-! Layer 29: Begin, where a job of that number is there already. -/

set_option maxHeartbeats 16000000 in
theorem eBeginB (n : Nd) (key val : List UInt8) (gone : Bool) (back : En) (rid job : Int) (h : n.mid 90000) (hk : key.length ≤ 9223372036854775807) (hc : 0 ≤ n.clock ∧ n.clock ≤ 1099511627776) (he : beginE n key val gone = 0) (i : Nat) (hi : i < n.jobs.length) (hcop : copR (begunR n key val gone back rid job).jobs (nextI n.jobId) = (i : Int)) :
    fn (C1 (i : Int)) 54 [] [.agg [.str n.me.name, .int .u64 (n.me.id : Int), .int .i64 n.me.fr, .int .i64 n.me.un, .int .i64 n.me.ix, .str n.me.tag, .int .i64 n.clock, .str n.psk, .int .i64 n.gateI, .str n.gateK, .bool n.ready, .slice 8 (n.pred.map Pr.cs), .slice 8 (n.list.map Pr.cs), .slice 9 (n.fingers.map Fg.cs), .slice 20 (n.sessions.map Se.cs), .slice 23 (n.pends.map Pd.cs), .slice 4 (n.items.map It.cs), .slice 29 (n.jobs.map Jb.cs), .int .i64 n.rid, .int .i64 n.jobId, .slice 1 (n.draws.map u64Row), .slice 8 (n.results.map Rs.cs)], .str key, .str val, .bool gone, .agg [.str back.name, .int .u64 (back.id : Int), .int .i64 back.fr, .int .i64 back.un, .int .i64 back.ix, .str back.tag], .int .i64 rid, .int .i64 job] = ndRes (moreFin (begunR n key val gone back rid job) i (askR (nextI n.jobId) (begunR n key val gone back rid job).list n.jobs[i])) := by
  obtain ⟨g, hg⟩ : ∃ g : Int, g = (i : Int) := ⟨_, rfl⟩
  have on := il_on1 n (h.le (by omega)) i hi
  rw [← hg] at on ⊢
  have nl := nlB_B g (by omega)
  have il := h.il
  have jl := h.jl
  have pu := e60 n.items key val gone (by omega) hk
  have hb : beginE n key val gone = (putR n.items key val gone).2.2 := by
    unfold beginE at he ⊢
    split at he
    · omega
    · rw [if_neg (by assumption)]
  have h8 : ¬ 8 ≤ n.jobs.length := by
    intro h8; unfold beginE at he; rw [if_pos h8] at he; omega
  rw [hb] at he
  clear hb
  have hmid : (begunR n key val gone back rid job).mid 100000 := (mid_begun key val gone back rid job hk h).le (by omega)
  rw [fn_textN (C := C1 g) Tryd.func54 rfl rfl Tryd.results54 (show (C1 g).M.loc 54 = _ from fq54.1) rfl rfl (by kernel_rfl)]
  simp -implicitDefEqProofs -dsimp +contextual (maxSteps := 9999999) (disch := first | omega | simp only [go_sem] <;> omega | refine ib ?_; kernel_rfl) only [go_sem, seval, ↓reduceIte, nl]
  refine on _ ?_ _ _ fun H' W W6 hfr => ?_
  · intro o ho; repeat (first | rfl | rw [Heap.set_ne _ _ (by omega)])
  obtain ⟨W1, W2, W3, W4, W5⟩ := W
  have g4 : (H' 114).gen = 1 := by rw [hfr 114 (by omega)]; rfl
  have m4 : (H' 114).mode = .live := by rw [hfr 114 (by omega)]; rfl
  obtain ⟨r, hr, H4r⟩ : ∃ r : List AVal, r.length = 22 ∧ (H' 114).rows = [r] := by rw [hfr 114 (by omega)]; exact ⟨_, rfl, rfl⟩
  have h11 : H' 111 = ⟨1, .live, 6, [[.str back.name, .int .u64 (back.id : Int), .int .i64 back.fr, .int .i64 back.un, .int .i64 back.ix, .str back.tag]], false⟩ := by rw [hfr 111 (by omega)]; rfl
  have h18 : H' 118 = ⟨0, .dead, 0, [], false⟩ := by rw [hfr 118 (by omega)]; rfl
  have hx := rowsG_app n i hi [.int .i64 n.jobs[i].id, .int .i64 n.jobs[i].kind, .int .i64 n.jobs[i].phase, .int .i64 n.jobs[i].hops, .int .i64 n.jobs[i].tries, .int .i64 n.jobs[i].til, .str n.jobs[i].key, .str n.jobs[i].val, .str n.jobs[i].owner.name, .int .u64 (n.jobs[i].owner.id : Int), .int .i64 n.jobs[i].owner.fr, .int .i64 n.jobs[i].owner.un, .int .i64 n.jobs[i].owner.ix, .str n.jobs[i].owner.tag, .str n.jobs[i].item.k, .str n.jobs[i].item.v, .int .i64 n.jobs[i].item.n, .bool n.jobs[i].item.g, .int .i64 n.jobs[i].acks, .int .i64 n.jobs[i].waits, .osl 60155 1 0 n.jobs[i].asked.length, .str n.jobs[i].back.name, .int .u64 (n.jobs[i].back.id : Int), .int .i64 n.jobs[i].back.fr, .int .i64 n.jobs[i].back.un, .int .i64 n.jobs[i].back.ix, .str n.jobs[i].back.tag, .int .i64 n.jobs[i].backRid, .int .i64 n.jobs[i].backJob] (putR n.items key val gone).2.1 back rid job
  simp -implicitDefEqProofs -dsimp +contextual (maxSteps := 9999999) (disch := first | omega | simp only [go_sem] <;> omega | refine ib ?_; kernel_rfl) only [go_sem, seval, ↓reduceIte, nl, W1, W2, W3, W4, W5, pu, h11, h18, g4, m4, hr, H4r, h8, he, hx]
  clear hx
  have him : i < (begunR n key val gone back rid job).jobs.length := by simp [begunR]; omega
  have hmj : (begunR n key val gone back rid job).jobs[i] = n.jobs[i] := List.getElem_append_left hi
  refine il_moreA g (begunR n key val gone back rid job) (nextI n.jobId) i 2 n.jobs[i] (.osl 60155 1 0 n.jobs[i].asked.length) him (by rw [← hmj, List.set_getElem_self]; exact hcop) hmid (Nat.le_trans (h.ja _ (List.getElem_mem hi)) (by omega)) _ ?_ ?_ _ _ _ rfl ?_ ?_
  · refine ⟨?_, W2, W3, rfl, W5⟩
    rw [begunR]; simp -implicitDefEqProofs -dsimp +contextual (maxSteps := 9999999) (disch := first | omega | simp only [go_sem] <;> omega | refine ib ?_; kernel_rfl) only [go_sem, seval, ↓reduceIte, List.length_append, List.length_singleton]
  · exact ⟨1, rfl, W6⟩
  · intro H2 A X M2 A2 X2 hf2 hw
    obtain ⟨Y1, Y2, Y3, Y4, Y5⟩ := M2
    have k4 : (H2 114).gen = 1 := by rw [hf2 114 (by omega)]; exact g4
    have n4 : (H2 114).mode = .live := by rw [hf2 114 (by omega)]; exact m4
    have r4 : (H2 114).rows = [r] := by rw [hf2 114 (by omega)]; exact H4r
    generalize askR (nextI n.jobId) (begunR n key val gone back rid job).list n.jobs[i] = q at *
    obtain ⟨j, acts⟩ := q
    have hmf : moreFin (begunR n key val gone back rid job) i (j, acts) = ({ begunR n key val gone back rid job with jobs := (begunR n key val gone back rid job).jobs.set i j }, acts) := by unfold moreFin; rw [if_pos hw]
    rw [hmf]
    clear hmf hw on
    generalize begunR n key val gone back rid job = m at *
    obtain ⟨ga, rfl, ha⟩ := A2
    simp only at Y1 Y4 ha X2
    rcases X2 with ⟨rfl, rfl⟩ | ⟨gx, rfl, hX⟩
    · simp -implicitDefEqProofs -dsimp +contextual (maxSteps := 9999999) (disch := first | omega | simp only [go_sem] <;> omega | refine ib ?_; kernel_rfl) only [go_sem, seval, ↓reduceIte]
      rw [il_text (C := C1 g) Tryd.func62 rfl Tryd.results62 (show (C1 g).M.loc 62 = _ from fq62.1) (by kernel_rfl)]
      simp -implicitDefEqProofs -dsimp +contextual (maxSteps := 9999999) (disch := first | omega | simp only [go_sem] <;> omega | refine ib ?_; kernel_rfl) only [go_sem, seval, ↓reduceIte, nl, Y1, Y2, Y3, Y4, Y5, k4, n4, hr, r4, ha, k_rowsG, him]
      rfl
    · simp -implicitDefEqProofs -dsimp +contextual (maxSteps := 9999999) (disch := first | omega | simp only [go_sem] <;> omega | refine ib ?_; kernel_rfl) only [go_sem, seval, ↓reduceIte]
      rw [il_text (C := C1 g) Tryd.func62 rfl Tryd.results62 (show (C1 g).M.loc 62 = _ from fq62.1) (by kernel_rfl)]
      simp -implicitDefEqProofs -dsimp +contextual (maxSteps := 9999999) (disch := first | omega | simp only [go_sem] <;> omega | refine ib ?_; kernel_rfl) only [go_sem, seval, ↓reduceIte, nl, Y1, Y2, Y3, Y4, Y5, k4, n4, hr, r4, ha, hX, k_rowsG, him]
      rfl
  · intro H2 M2 hf2 hw
    have k4 : (H2 114).gen = 1 := by rw [hf2 114 (by omega)]; exact g4
    have n4 : (H2 114).mode = .live := by rw [hf2 114 (by omega)]; exact m4
    have r4 : (H2 114).rows = [r] := by rw [hf2 114 (by omega)]; exact H4r
    clear hw on
    generalize moreFin (begunR n key val gone back rid job) i (askR (nextI n.jobId) (begunR n key val gone back rid job).list n.jobs[i]) = q at *
    obtain ⟨m, acts⟩ := q
    unfold WorkAt at M2
    simp only [Nat.reduceMul, Nat.reduceAdd] at M2
    obtain ⟨A, a, b, c, d, X, Y1, Y2, Y3, Y4, Y5, hX⟩ := M2
    rcases hX with ⟨rfl, rfl⟩ | ⟨rfl, hX⟩
    · simp -implicitDefEqProofs -dsimp +contextual (maxSteps := 9999999) (disch := first | omega | simp only [go_sem] <;> omega | refine ib ?_; kernel_rfl) only [go_sem, seval, ↓reduceIte]
      rw [il_text (C := C1 g) Tryd.func62 rfl Tryd.results62 (show (C1 g).M.loc 62 = _ from fq62.1) (by kernel_rfl)]
      simp -implicitDefEqProofs -dsimp +contextual (maxSteps := 9999999) (disch := first | omega | simp only [go_sem] <;> omega | refine ib ?_; kernel_rfl) only [go_sem, seval, ↓reduceIte, nl, Y1, Y2, Y3, Y4, Y5, k4, n4, hr, r4]
      rfl
    · simp -implicitDefEqProofs -dsimp +contextual (maxSteps := 9999999) (disch := first | omega | simp only [go_sem] <;> omega | refine ib ?_; kernel_rfl) only [go_sem, seval, ↓reduceIte]
      rw [il_text (C := C1 g) Tryd.func62 rfl Tryd.results62 (show (C1 g).M.loc 62 = _ from fq62.1) (by kernel_rfl)]
      simp -implicitDefEqProofs -dsimp +contextual (maxSteps := 9999999) (disch := first | omega | simp only [go_sem] <;> omega | refine ib ?_; kernel_rfl) only [go_sem, seval, ↓reduceIte, nl, Y1, Y2, Y3, Y4, Y5, k4, n4, hr, r4, hX]
      rfl

end Go.Proofs.YtnpkhdjgedeppaaDoor
namespace Go.Proofs.YtnpkhdjgedeppaaDoor
open Go.Am
set_option linter.unusedSimpArgs false
set_option linter.unusedVariables false
set_option maxRecDepth 100000
/-! Layer 29: Begin, where the new job goes on. -/

set_option maxHeartbeats 16000000 in
theorem eBeginA (n : Nd) (key val : List UInt8) (gone : Bool) (back : En) (rid job : Int) (h : n.mid 90000) (hk : key.length ≤ 9223372036854775807) (hc : 0 ≤ n.clock ∧ n.clock ≤ 1099511627776) (he : beginE n key val gone = 0) (hcop : copR (begunR n key val gone back rid job).jobs (nextI n.jobId) = (n.jobs.length : Int)) :
    fn (C1 (-2)) 54 [] [.agg [.str n.me.name, .int .u64 (n.me.id : Int), .int .i64 n.me.fr, .int .i64 n.me.un, .int .i64 n.me.ix, .str n.me.tag, .int .i64 n.clock, .str n.psk, .int .i64 n.gateI, .str n.gateK, .bool n.ready, .slice 8 (n.pred.map Pr.cs), .slice 8 (n.list.map Pr.cs), .slice 9 (n.fingers.map Fg.cs), .slice 20 (n.sessions.map Se.cs), .slice 23 (n.pends.map Pd.cs), .slice 4 (n.items.map It.cs), .slice 29 (n.jobs.map Jb.cs), .int .i64 n.rid, .int .i64 n.jobId, .slice 1 (n.draws.map u64Row), .slice 8 (n.results.map Rs.cs)], .str key, .str val, .bool gone, .agg [.str back.name, .int .u64 (back.id : Int), .int .i64 back.fr, .int .i64 back.un, .int .i64 back.ix, .str back.tag], .int .i64 rid, .int .i64 job] = ndRes (moreFin (begunR n key val gone back rid job) n.jobs.length (askR (nextI n.jobId) (begunR n key val gone back rid job).list (copyJ n (putR n.items key val gone).2.1 back rid job))) := by
  obtain ⟨g, hg⟩ : ∃ g : Int, g = -2 := ⟨_, rfl⟩
  have nl := nlB_A
  rw [← hg] at nl ⊢
  have on : True := trivial
  have il := h.il
  have jl := h.jl
  have pu := e60 n.items key val gone (by omega) hk
  have hb : beginE n key val gone = (putR n.items key val gone).2.2 := by
    unfold beginE at he ⊢
    split at he
    · omega
    · rw [if_neg (by assumption)]
  have h8 : ¬ 8 ≤ n.jobs.length := by
    intro h8; unfold beginE at he; rw [if_pos h8] at he; omega
  rw [hb] at he
  clear hb
  have hmid : (begunR n key val gone back rid job).mid 100000 := (mid_begun key val gone back rid job hk h).le (by omega)
  rw [fn_textN (C := C1 g) Tryd.func54 rfl rfl Tryd.results54 (show (C1 g).M.loc 54 = _ from fq54.1) rfl rfl (by kernel_rfl)]
  simp -implicitDefEqProofs -dsimp +contextual (maxSteps := 9999999) (disch := first | omega | simp only [go_sem] <;> omega | refine ib ?_; kernel_rfl) only [go_sem, seval, ↓reduceIte, nl]
  refine il_on0 n (h.le (by omega)) g (by omega) _ ?_ _ _ fun H' W hfr => ?_
  · intro o ho; repeat (first | rfl | rw [Heap.set_ne _ _ (by omega)])
  obtain ⟨W1, W2, W3, W4, W5⟩ := W
  have g4 : (H' 114).gen = 1 := by rw [hfr 114 (by omega)]; rfl
  have m4 : (H' 114).mode = .live := by rw [hfr 114 (by omega)]; rfl
  obtain ⟨r, hr, H4r⟩ : ∃ r : List AVal, r.length = 22 ∧ (H' 114).rows = [r] := by rw [hfr 114 (by omega)]; exact ⟨_, rfl, rfl⟩
  have h11 : H' 111 = ⟨1, .live, 6, [[.str back.name, .int .u64 (back.id : Int), .int .i64 back.fr, .int .i64 back.un, .int .i64 back.ix, .str back.tag]], false⟩ := by rw [hfr 111 (by omega)]; rfl
  have h18 : H' 118 = ⟨0, .dead, 0, [], false⟩ := by rw [hfr 118 (by omega)]; rfl
  have hx := Jb_appN n (putR n.items key val gone).2.1 back rid job
  simp -implicitDefEqProofs -dsimp +contextual (maxSteps := 9999999) (disch := first | omega | simp only [go_sem] <;> omega | refine ib ?_; kernel_rfl) only [go_sem, seval, ↓reduceIte, nl, W1, W2, W3, W4, W5, pu, h11, h18, g4, m4, hr, H4r, h8, he, hx]
  clear hx
  have him : n.jobs.length < (begunR n key val gone back rid job).jobs.length := by simp [begunR]
  have hmj : (begunR n key val gone back rid job).jobs[n.jobs.length] = copyJ n (putR n.items key val gone).2.1 back rid job := by simp [begunR]
  refine il_moreN g (begunR n key val gone back rid job) (nextI n.jobId) n.jobs.length 2 (copyJ n (putR n.items key val gone).2.1 back rid job) him hmj hcop hmid rfl rfl rfl _ ?_ _ _ _ rfl ?_ ?_
  · refine ⟨?_, W2, W3, rfl, W5⟩
    rw [begunR]; simp -implicitDefEqProofs -dsimp +contextual (maxSteps := 9999999) (disch := first | omega | simp only [go_sem] <;> omega | refine ib ?_; kernel_rfl) only [go_sem, seval, ↓reduceIte, List.length_append, List.length_singleton]
  · intro H2 A X M2 A2 X2 hf2 hw
    obtain ⟨Y1, Y2, Y3, Y4, Y5⟩ := M2
    have k4 : (H2 114).gen = 1 := by rw [hf2 114 (by omega)]; exact g4
    have n4 : (H2 114).mode = .live := by rw [hf2 114 (by omega)]; exact m4
    have r4 : (H2 114).rows = [r] := by rw [hf2 114 (by omega)]; exact H4r
    generalize askR (nextI n.jobId) (begunR n key val gone back rid job).list (copyJ n (putR n.items key val gone).2.1 back rid job) = q at *
    obtain ⟨j, acts⟩ := q
    have hmf : moreFin (begunR n key val gone back rid job) n.jobs.length (j, acts) = ({ begunR n key val gone back rid job with jobs := (begunR n key val gone back rid job).jobs.set n.jobs.length j }, acts) := by unfold moreFin; rw [if_pos hw]
    rw [hmf]
    clear hmf hw on
    generalize begunR n key val gone back rid job = m at *
    obtain ⟨ga, rfl, ha⟩ := A2
    simp only at Y1 Y4 ha X2
    rcases X2 with ⟨rfl, rfl⟩ | ⟨gx, rfl, hX⟩
    · simp -implicitDefEqProofs -dsimp +contextual (maxSteps := 9999999) (disch := first | omega | simp only [go_sem] <;> omega | refine ib ?_; kernel_rfl) only [go_sem, seval, ↓reduceIte]
      rw [il_text (C := C1 g) Tryd.func62 rfl Tryd.results62 (show (C1 g).M.loc 62 = _ from fq62.1) (by kernel_rfl)]
      simp -implicitDefEqProofs -dsimp +contextual (maxSteps := 9999999) (disch := first | omega | simp only [go_sem] <;> omega | refine ib ?_; kernel_rfl) only [go_sem, seval, ↓reduceIte, nl, Y1, Y2, Y3, Y4, Y5, k4, n4, hr, r4, ha, k_rowsG, him]
      rfl
    · simp -implicitDefEqProofs -dsimp +contextual (maxSteps := 9999999) (disch := first | omega | simp only [go_sem] <;> omega | refine ib ?_; kernel_rfl) only [go_sem, seval, ↓reduceIte]
      rw [il_text (C := C1 g) Tryd.func62 rfl Tryd.results62 (show (C1 g).M.loc 62 = _ from fq62.1) (by kernel_rfl)]
      simp -implicitDefEqProofs -dsimp +contextual (maxSteps := 9999999) (disch := first | omega | simp only [go_sem] <;> omega | refine ib ?_; kernel_rfl) only [go_sem, seval, ↓reduceIte, nl, Y1, Y2, Y3, Y4, Y5, k4, n4, hr, r4, ha, hX, k_rowsG, him]
      rfl
  · intro H2 M2 hf2 hw
    have k4 : (H2 114).gen = 1 := by rw [hf2 114 (by omega)]; exact g4
    have n4 : (H2 114).mode = .live := by rw [hf2 114 (by omega)]; exact m4
    have r4 : (H2 114).rows = [r] := by rw [hf2 114 (by omega)]; exact H4r
    clear hw on
    generalize moreFin (begunR n key val gone back rid job) n.jobs.length (askR (nextI n.jobId) (begunR n key val gone back rid job).list (copyJ n (putR n.items key val gone).2.1 back rid job)) = q at *
    obtain ⟨m, acts⟩ := q
    unfold WorkAt at M2
    simp only [Nat.reduceMul, Nat.reduceAdd] at M2
    obtain ⟨A, a, b, c, d, X, Y1, Y2, Y3, Y4, Y5, hX⟩ := M2
    rcases hX with ⟨rfl, rfl⟩ | ⟨rfl, hX⟩
    · simp -implicitDefEqProofs -dsimp +contextual (maxSteps := 9999999) (disch := first | omega | simp only [go_sem] <;> omega | refine ib ?_; kernel_rfl) only [go_sem, seval, ↓reduceIte]
      rw [il_text (C := C1 g) Tryd.func62 rfl Tryd.results62 (show (C1 g).M.loc 62 = _ from fq62.1) (by kernel_rfl)]
      simp -implicitDefEqProofs -dsimp +contextual (maxSteps := 9999999) (disch := first | omega | simp only [go_sem] <;> omega | refine ib ?_; kernel_rfl) only [go_sem, seval, ↓reduceIte, nl, Y1, Y2, Y3, Y4, Y5, k4, n4, hr, r4]
      rfl
    · simp -implicitDefEqProofs -dsimp +contextual (maxSteps := 9999999) (disch := first | omega | simp only [go_sem] <;> omega | refine ib ?_; kernel_rfl) only [go_sem, seval, ↓reduceIte]
      rw [il_text (C := C1 g) Tryd.func62 rfl Tryd.results62 (show (C1 g).M.loc 62 = _ from fq62.1) (by kernel_rfl)]
      simp -implicitDefEqProofs -dsimp +contextual (maxSteps := 9999999) (disch := first | omega | simp only [go_sem] <;> omega | refine ib ?_; kernel_rfl) only [go_sem, seval, ↓reduceIte, nl, Y1, Y2, Y3, Y4, Y5, k4, n4, hr, r4, hX]
      rfl

end Go.Proofs.YtnpkhdjgedeppaaDoor
namespace Go.Proofs.YtnpkhdjgedeppaaDoor
open Go.Am
set_option linter.unusedSimpArgs false
set_option linter.unusedVariables false
set_option maxRecDepth 100000
/-! Layer 29: the configuration of the statements. -/
def jId (j : Jb) : Jb := { jbZ with id := j.id, kind := j.kind }

def jRow (r : List AVal) : Jb := match r with | .int _ a :: .int _ b :: _ => { jbZ with id := a, kind := b } | _ => jbZ

def itRow (r : List AVal) : It := match r with | [.str k, .str v, .int _ n, .bool g] => ⟨k, v, n, g⟩ | _ => zeroIt

def rowsA (v : AVal) (i : Nat) : List (List AVal) := match v with | .agg cs => (match cs[i]? with | some (.slice _ rows) => rows | _ => []) | _ => []

def intA (v : AVal) (i : Nat) : Int := match v with | .agg cs => (match cs[i]? with | some (.int _ n) => n | _ => 0) | _ => 0

def ndZ : Nd := ⟨enZ, 0, [], 0, [], false, [], [], [], [], [], [], [], 0, 0, [], []⟩

def ndA (v : AVal) : Nd := { ndZ with items := (rowsA v 16).map itRow, jobs := (rowsA v 17).map jRow, jobId := intA v 19 }

def gmM (ds : List AVal) : Int := match ds with | v :: .int _ id :: _ => copR (ndA v).jobs id | _ => -1

def gmB (ds : List AVal) : Int := match ds with
  | v :: .str k :: .str x :: .bool g :: _ => if beginE (ndA v) k x g = 0 then
      (if copR (begunR (ndA v) k x g enZ 0 0).jobs (nextI (ndA v).jobId) = ((ndA v).jobs.length : Int) then -2 else copR (begunR (ndA v) k x g enZ 0 0).jobs (nextI (ndA v).jobId)) else -1
  | _ => -1

/-- Where a job is hangs on its number and kind. -/
theorem placeG_map {α β : Type} (f : α → β) (q : β → Bool) (l : List α) : placeG q (l.map f) = placeG (fun a => q (f a)) l := by
  unfold placeG
  rw [List.findIdx_map, List.length_map]
  rfl

theorem copR_map (f : Jb → Jb) (h1 : ∀ j, (f j).id = j.id) (h2 : ∀ j, (f j).kind = j.kind) (l : List Jb) (id : Int) : copR (l.map f) id = copR l id := by
  have e : findR (l.map f) id = findR l id := by
    unfold findR
    rw [placeG_map]
    congr 1
    funext j
    simp [jobAt, h1]
  unfold copR
  rw [e]
  rcases findR_cases l id with ⟨i, hi, _, _, hf⟩ | ⟨_, hf⟩
  · have e2 : (jobG (l.map f) (findR l id).toNat).kind = (jobG l (findR l id).toNat).kind := by
      rw [hf, Int.toNat_natCast, jobG_at hi, jobG_at (by simpa using hi), List.getElem_map, h2]
    rw [e2]
  · rw [hf]; simp

theorem jRow_map (l : List Jb) : (l.map Jb.cs).map jRow = l.map jId := by
  rw [List.map_map]; rfl

theorem itRow_map (l : List It) : (l.map It.cs).map itRow = l := by
  rw [List.map_map]
  exact List.map_id l

theorem gmB_eq (n : Nd) (k x : List UInt8) (g : Bool) (back : En) (rid job : Int) (rest : List AVal) : gmB ((.agg [.str n.me.name, .int .u64 (n.me.id : Int), .int .i64 n.me.fr, .int .i64 n.me.un, .int .i64 n.me.ix, .str n.me.tag, .int .i64 n.clock, .str n.psk, .int .i64 n.gateI, .str n.gateK, .bool n.ready, .slice 8 (n.pred.map Pr.cs), .slice 8 (n.list.map Pr.cs), .slice 9 (n.fingers.map Fg.cs), .slice 20 (n.sessions.map Se.cs), .slice 23 (n.pends.map Pd.cs), .slice 4 (n.items.map It.cs), .slice 29 (n.jobs.map Jb.cs), .int .i64 n.rid, .int .i64 n.jobId, .slice 1 (n.draws.map u64Row), .slice 8 (n.results.map Rs.cs)]) :: .str k :: .str x :: .bool g :: rest) =
    if beginE n k x g = 0 then (if copR (begunR n k x g back rid job).jobs (nextI n.jobId) = (n.jobs.length : Int) then -2 else copR (begunR n k x g back rid job).jobs (nextI n.jobId)) else -1 := by
  have e0 : ndA (.agg [.str n.me.name, .int .u64 (n.me.id : Int), .int .i64 n.me.fr, .int .i64 n.me.un, .int .i64 n.me.ix, .str n.me.tag, .int .i64 n.clock, .str n.psk, .int .i64 n.gateI, .str n.gateK, .bool n.ready, .slice 8 (n.pred.map Pr.cs), .slice 8 (n.list.map Pr.cs), .slice 9 (n.fingers.map Fg.cs), .slice 20 (n.sessions.map Se.cs), .slice 23 (n.pends.map Pd.cs), .slice 4 (n.items.map It.cs), .slice 29 (n.jobs.map Jb.cs), .int .i64 n.rid, .int .i64 n.jobId, .slice 1 (n.draws.map u64Row), .slice 8 (n.results.map Rs.cs)]) = { ndZ with items := n.items, jobs := n.jobs.map jId, jobId := n.jobId } := by
    show ({ ndZ with items := (n.items.map It.cs).map itRow, jobs := (n.jobs.map Jb.cs).map jRow, jobId := n.jobId } : Nd) = _
    rw [itRow_map, jRow_map]
  show (if beginE (ndA (.agg [.str n.me.name, .int .u64 (n.me.id : Int), .int .i64 n.me.fr, .int .i64 n.me.un, .int .i64 n.me.ix, .str n.me.tag, .int .i64 n.clock, .str n.psk, .int .i64 n.gateI, .str n.gateK, .bool n.ready, .slice 8 (n.pred.map Pr.cs), .slice 8 (n.list.map Pr.cs), .slice 9 (n.fingers.map Fg.cs), .slice 20 (n.sessions.map Se.cs), .slice 23 (n.pends.map Pd.cs), .slice 4 (n.items.map It.cs), .slice 29 (n.jobs.map Jb.cs), .int .i64 n.rid, .int .i64 n.jobId, .slice 1 (n.draws.map u64Row), .slice 8 (n.results.map Rs.cs)])) k x g = 0 then _ else _) = _
  rw [e0]
  have e1 : beginE { ndZ with items := n.items, jobs := n.jobs.map jId, jobId := n.jobId } k x g = beginE n k x g := by
    unfold beginE; simp
  rw [e1]
  have e2 : copR (begunR { ndZ with items := n.items, jobs := n.jobs.map jId, jobId := n.jobId } k x g enZ 0 0).jobs (nextI n.jobId) = copR (begunR n k x g back rid job).jobs (nextI n.jobId) := by
    rw [← copR_map jId (fun _ => rfl) (fun _ => rfl), ← copR_map jId (fun _ => rfl) (fun _ => rfl) (begunR n k x g back rid job).jobs]
    congr 1
    simp [begunR, copyJ, jId, jbZ]
  simp only [e2, List.length_map]

noncomputable def own2 : Own := fun f => if f = 54 then some (fun ex ds => fn (C1 (gmB ds)) f ex ds) else if f = 999999 then some (fun ex ds => fn (C1 (gmM ds)) f ex ds) else if f = 999998 then some (fun ex ds => fn (C1 (gmM ds)) f ex ds)
  else if f ∈ [999999, 999999, 999999, 999999, 999999, 999999, 999999] then none else some (fun ex ds => fn C f ex ds)

theorem own2_ok : OwnOk E own2 := by
  intro f g ex ds q hf hg
  unfold own2 at hf
  split at hf
  · simp only [Option.some.injEq] at hf
    subst hf
    exact fnE_sound mixed own1_ok hg
  · split at hf
    · simp only [Option.some.injEq] at hf
      subst hf
      exact fnE_sound mixed own1_ok hg
    · split at hf
      · simp only [Option.some.injEq] at hf
        subst hf
        exact fnE_sound mixed own1_ok hg
      · split at hf
        · cases hf
        · simp only [Option.some.injEq] at hf
          subst hf
          exact fnE_sound mixed own_ok hg

noncomputable def C2 : Cf := ⟨E, M, own2⟩

@[go_sem] theorem C2_E : C2.E = E := rfl

@[go_sem] theorem C2_M : C2.M = M := rfl

theorem c2_fn (f : FuncId) (h1 : f ≠ 54) (h2 : f ≠ 999999) (h3 : f ≠ 999998) (h4 : f ∉ [999999, 999999, 999999, 999999, 999999, 999999, 999999]) (ex ds) : fn C2 f ex ds = fn C f ex ds :=
  fn_own (g := fun ex ds => fn C f ex ds) (by show own2 f = _; unfold own2; rw [if_neg h1, if_neg h2, if_neg h3, if_neg h4]) ex ds

/-- What a node that begins, goes on, hears of an answer becomes. -/
theorem eBegin (n : Nd) (key val : List UInt8) (gone : Bool) (back : En) (rid job : Int) (h : n.mid 90000) (hk : key.length ≤ 9223372036854775807) (hc : 0 ≤ n.clock ∧ n.clock ≤ 1099511627776) :
    fn C2 54 [] [.agg [.str n.me.name, .int .u64 (n.me.id : Int), .int .i64 n.me.fr, .int .i64 n.me.un, .int .i64 n.me.ix, .str n.me.tag, .int .i64 n.clock, .str n.psk, .int .i64 n.gateI, .str n.gateK, .bool n.ready, .slice 8 (n.pred.map Pr.cs), .slice 8 (n.list.map Pr.cs), .slice 9 (n.fingers.map Fg.cs), .slice 20 (n.sessions.map Se.cs), .slice 23 (n.pends.map Pd.cs), .slice 4 (n.items.map It.cs), .slice 29 (n.jobs.map Jb.cs), .int .i64 n.rid, .int .i64 n.jobId, .slice 1 (n.draws.map u64Row), .slice 8 (n.results.map Rs.cs)], .str key, .str val, .bool gone, .agg [.str back.name, .int .u64 (back.id : Int), .int .i64 back.fr, .int .i64 back.un, .int .i64 back.ix, .str back.tag], .int .i64 rid, .int .i64 job] = ndRes (beginR n key val gone back rid job) := by
  rw [fn_own (g := fun ex ds => fn (C1 (gmB ds)) 54 ex ds) (by show own2 54 = _; unfold own2; rw [if_pos rfl])]
  rw [gmB_eq n key val gone back rid job]
  unfold beginR
  by_cases he : beginE n key val gone = 0
  · rw [if_pos he, if_pos he]
    have hlen : (begunR n key val gone back rid job).jobs.length = n.jobs.length + 1 := by simp [begunR]
    rcases copR_cases (begunR n key val gone back rid job).jobs (nextI n.jobId) with ⟨i, hi, hc1⟩ | hc1
    · rw [moreR_at hi hc1, hc1]
      by_cases hl : i = n.jobs.length
      · subst hl
        rw [if_pos rfl, eBeginA n key val gone back rid job h hk hc he hc1]
        have e : (begunR n key val gone back rid job).jobs[n.jobs.length] = copyJ n (putR n.items key val gone).2.1 back rid job := by simp [begunR]
        rw [e]
      · have hi' : i < n.jobs.length := by omega
        rw [if_neg (by omega), eBeginB n key val gone back rid job h hk hc he i hi' hc1]
        have e : (begunR n key val gone back rid job).jobs[i] = n.jobs[i] := List.getElem_append_left hi'
        rw [e]
    · rw [moreR_none hc1, hc1, if_neg (by omega)]
      exact eBeginN n key val gone back rid job h hk hc he hc1
  · rw [if_neg he, if_neg he]
    unfold tellR
    split
    · rename_i hj; subst hj; exact eBeginE0 n key val gone back rid 0 h hk hc he rfl
    · rename_i hj; exact eBeginE1 n key val gone back rid job h hk hc he hj
end Go.Proofs.YtnpkhdjgedeppaaDoor
namespace Go.Proofs.YtnpkhdjgedeppaaDoor
open Go.Am
set_option linter.unusedSimpArgs false
set_option linter.unusedVariables false
set_option maxRecDepth 100000
/-! What the configuration of layer 29 leaves as it is. -/
def okC2 (f : FuncId) : Bool := decide (f ≠ 54) && decide (f ≠ 999999) && decide (f ≠ 999998) && decide (f ∉ [999999, 999999, 999999, 999999, 999999, 999999, 999999])

theorem C2_C (f : FuncId) (h : okC2 f = true) (ex ds) : fn C2 f ex ds = fn C f ex ds := by
  simp only [okC2, Bool.and_eq_true, decide_eq_true_eq] at h
  exact c2_fn f h.1.1.1 h.1.1.2 h.1.2 h.2 ex ds

end Go.Proofs.YtnpkhdjgedeppaaDoor
namespace Go.Proofs.YtnpkhdjgedeppaaDoor
open Go.Am
set_option linter.unusedSimpArgs false
set_option linter.unusedVariables false
set_option maxRecDepth 100000
/-! Layers 9, 24: distances; peers: owners, lists of entries. -/
def zeroPr : Pr := ⟨⟨[], 0, 0, 0, 0, []⟩, 0, 0⟩

def insideR (a x b : Nat) : Bool := !decide (x = a) && (decide (a = b) || decide (distR a x < distR a b))

@[go_sem] theorem distR_le (a b : Nat) : distR a b ≤ 18446744073709551615 := by unfold distR; omega

end Go.Proofs.YtnpkhdjgedeppaaDoor
namespace Go.Proofs.YtnpkhdjgedeppaaDoor
open Go.Am
set_option linter.unusedSimpArgs false
set_option linter.unusedVariables false
set_option maxRecDepth 100000
/-! Layer 24: owners. -/
attribute [local irreducible] distR

def bestS (key : Nat) (b : En) (p : Pr) : En := if distR key p.e.id < distR key b.id then p.e else b

def ownerR (me : En) (l : List Pr) (key : Nat) : En := l.foldl (bestS key) me

theorem ownerR_eq (me : En) (l : List Pr) (key : Nat) : ownerR me l key = l.foldl (bestS key) me := rfl

theorem foldl_take_succ {α β : Type} (f : β → α → β) (b : β) (l : List α) (i : Nat) (h : i < l.length) : (l.take (i + 1)).foldl f b = f ((l.take i).foldl f b) l[i] := by
  rw [List.take_succ_eq_append_getElem h, List.foldl_append]; rfl

theorem best_succ (me : En) (l : List Pr) (key i : Nat) (h : i < l.length) : (l.take (i + 1)).foldl (bestS key) me = bestS key ((l.take i).foldl (bestS key) me) l[i] := foldl_take_succ (bestS key) me l i h

theorem best_id (key : Nat) (l : List Pr) (hp : ∀ p ∈ l, p.e.id ≤ 18446744073709551615) (me : En) (hm : me.id ≤ 18446744073709551615) : (l.foldl (bestS key) me).id ≤ 18446744073709551615 := by
  induction l generalizing me with
  | nil => exact hm
  | cons p l ih =>
    refine ih (fun q hq => hp q (List.mem_cons_of_mem _ hq)) _ ?_
    unfold bestS
    split
    · exact hp p (List.mem_cons_self ..)
    · exact hm

set_option maxHeartbeats 4000000 in
@[go_sem] theorem e50 (me : En) (l : List Pr) (key : Nat) (hk : key ≤ 18446744073709551615) (hm : me.id ≤ 18446744073709551615) (hl : l.length ≤ 9223372036854775807) (hp : ∀ p ∈ l, p.e.id ≤ 18446744073709551615) : fn C 50 [] [.agg [.str me.name, .int .u64 (me.id : Int), .int .i64 me.fr, .int .i64 me.un, .int .i64 me.ix, .str me.tag], .slice 8 (l.map Pr.cs), .int .u64 (key : Int)] = some (.agg [.str (ownerR me l key).name, .int .u64 ((ownerR me l key).id : Int), .int .i64 (ownerR me l key).fr, .int .i64 (ownerR me l key).un, .int .i64 (ownerR me l key).ix, .str (ownerR me l key).tag], []) := by
  rw [fn_text Tryd.func50 rfl rfl Tryd.results50 fq50.1 rfl rfl (by kernel_rfl)]
  rw [ownerR_eq]
  simp -implicitDefEqProofs -dsimp +contextual (maxSteps := 9999999) (disch := first | omega | simp only [go_sem] <;> omega | refine ib ?_; kernel_rfl) only [go_sem, seval, ↓reduceIte]
  refine kFor l.length (fun i f H => f 2 = .int .u64 (key : Int) ∧ f 6 = .ptr 106 1 0 0 ∧ f 7 = .ptr 107 1 0 0 ∧ f 11 = .slice 8 (l.map Pr.cs) ∧ f 12 = .int .i64 l.length ∧ f 13 = .int .i64 (i : Nat) ∧ H 107 = ⟨1, .live, 6, [((l.take i).foldl (bestS key) me).cs], false⟩ ∧ (H 106).gen = 1 ∧ (H 106).mode = .live ∧ (∃ r : List AVal, r.length = 6 ∧ (H 106).rows = [r])) ?_ ?_ (by exact ⟨rfl, rfl, rfl, rfl, rfl, rfl, rfl, rfl, rfl, ⟨_, rfl, rfl⟩⟩)
  · rintro i f H hi ⟨f2, f6, f7, f11, f12, f13, H7, H6g, H6m, H6⟩ ih
    have row := pr_row l i hi
    have hb := best_succ me l key i hi
    have h1 := hp _ (List.getElem_mem hi)
    have h2 := best_id key (l.take i) (fun q hq => hp q (List.mem_of_mem_take hq)) me hm
    generalize (l.take i).foldl (bestS key) me = b at *
    simp -implicitDefEqProofs -dsimp +contextual (maxSteps := 9999999) (disch := first | omega | simp only [go_sem] <;> omega | refine ib ?_; kernel_rfl) only [go_sem, seval, ↓reduceIte, f2, f6, f7, f11, f12, f13, H7, hi, row, h1, h2]
    (repeat' (refine kD_intro (fun _ => ?_) (fun _ => ?_)))
    · rename_i hd
      refine ih _ _ ⟨f2, f6, f7, f11, f12, rfl, ?_, by simpa [Heap.set] using H6g, by simpa [Heap.set] using H6m, by simpa [Heap.set] using H6⟩
      rw [hb, bestS, if_pos hd]; rfl
    · rename_i hd
      refine ih _ _ ⟨f2, f6, f7, f11, f12, rfl, ?_, by simpa [Heap.set] using H6g, by simpa [Heap.set] using H6m, by simpa [Heap.set] using H6⟩
      rw [hb, bestS, if_neg hd]; simp [Heap.set, H7]
  · rintro f H ⟨f2, f6, f7, f11, f12, f13, H7, H6g, H6m, r, hr, H6⟩
    rw [List.take_length] at H7
    simp -implicitDefEqProofs -dsimp +contextual (maxSteps := 9999999) (disch := first | omega | simp only [go_sem] <;> omega | refine ib ?_; kernel_rfl) only [go_sem, seval, ↓reduceIte, f2, f6, f7, f11, f12, f13, H7, H6g, H6m, H6, hr]

end Go.Proofs.YtnpkhdjgedeppaaDoor
namespace Go.Proofs.YtnpkhdjgedeppaaDoor
open Go.Am
set_option linter.unusedSimpArgs false
set_option linter.unusedVariables false
set_option maxRecDepth 100000
/-! A key's place. (Plain.) -/
def keyI (k : List UInt8) : Nat := idB (keyS ++ k)

end Go.Proofs.YtnpkhdjgedeppaaDoor
namespace Go.Proofs.YtnpkhdjgedeppaaDoor
open Go.Am
set_option linter.unusedSimpArgs false
set_option linter.unusedVariables false
set_option maxRecDepth 100000
/-! Layers 26 and 31: what a client's job does. (Plain.) -/
def mineJ (j : Jb) : Bool := decide (j.kind = 1) || decide (j.kind = 2) || decide (j.kind = 3)

def cliP (l : List Jb) (id : Int) : Int := if 0 ≤ findR l id ∧ mineJ (jobG l (findR l id).toNat) = true then findR l id else -1

def findM (k : List UInt8) : Ms := { msZ with kind := 6, id := keyI k }

def actM (j : Jb) : Ms := if j.kind = 3 then { msZ with kind := 10, key := j.key } else { msZ with kind := 8, key := j.key, val := j.val, gone := decide (j.kind = 2) }

def askC (n : Nd) (i : Nat) (j : Jb) (to : En) (id : Int) : Nd × List Ac := ({ n with jobs := n.jobs.set i { j with phase := 1, owner := to } }, [⟨false, to, findM j.key, 5, id⟩])

def seekC (n : Nd) (i : Nat) (id : Int) : Nd × List Ac :=
  if ownerR n.me n.list (keyI (jobG n.jobs i).key) = n.me then
    if (jobG n.jobs i).kind = 3 then (settleR n id (getR n.items (jobG n.jobs i).key).1 ((getR n.items (jobG n.jobs i).key).2 && !(getR n.items (jobG n.jobs i).key).1.g) 0, [])
    else beginR { n with jobs := n.jobs.set i { jobG n.jobs i with phase := 2 } } (jobG n.jobs i).key (jobG n.jobs i).val (decide ((jobG n.jobs i).kind = 2)) enZ 0 id
  else askC n i (jobG n.jobs i) (ownerR n.me n.list (keyI (jobG n.jobs i).key)) id

def seekR (n : Nd) (id : Int) : Nd × List Ac := if 0 ≤ cliP n.jobs id then seekC n (cliP n.jobs id).toNat id else (n, [])

def newC (n : Nd) (kind : Int) (key val : List UInt8) : Jb := { jbZ with id := nextI n.jobId, kind := kind, key := key, val := if kind = 1 then val else [], til := n.clock + 480 }

def addC (n : Nd) (kind : Int) (key val : List UInt8) : Nd := { n with jobId := nextI n.jobId, jobs := n.jobs ++ [newC n kind key val] }

def begE (n : Nd) (kind : Int) (key val : List UInt8) : Int :=
  if kind < 1 ∨ 3 < kind ∨ keyR key = false ∨ 32 < val.length then 2 else if n.ready = false ∨ 8 ≤ n.jobs.length ∨ n.jobs.any mineJ = true then 41 else 0

def begC (n : Nd) (kind : Int) (key val : List UInt8) : Nd × List Ac := if begE n kind key val = 0 then seekR (addC n kind key val) (nextI n.jobId) else (n, [])

def failC (n : Nd) (id e : Int) : Nd × List Ac := (settleR n id zeroIt false e, [])

def againC (n : Nd) (i : Nat) (id why : Int) : Nd × List Ac :=
  if 3 ≤ (jobG n.jobs i).tries then failC n id why else seekC { n with jobs := n.jobs.set i { jobG n.jobs i with tries := (jobG n.jobs i).tries + 1 } } i id

def failedC (n : Nd) (id : Int) : Nd × List Ac := if 0 ≤ cliP n.jobs id then againC n (cliP n.jobs id).toNat id 43 else (n, [])

def lateK (clock : Int) (j : Jb) : Bool := mineJ j && decide (j.til < clock)

def lateC (n : Nd) : Nd := { n with jobs := n.jobs.filter fun j => !lateK n.clock j, results := (n.jobs.filter (lateK n.clock)).foldl (fun rs j => lastR (rs ++ [resR j.id j zeroIt false 43])) n.results }

end Go.Proofs.YtnpkhdjgedeppaaDoor
namespace Go.Proofs.YtnpkhdjgedeppaaDoor
open Go.Am
set_option linter.unusedSimpArgs false
set_option linter.unusedVariables false
set_option maxRecDepth 100000
/-! Layer 31: where a client's job is. (Plain.) -/
attribute [local irreducible] distR idB sumB

theorem cliP_cases (l : List Jb) (id : Int) : (∃ i : Nat, ∃ h : i < l.length, l[i].id = id ∧ mineJ l[i] = true ∧ findR l id = (i : Int) ∧ cliP l id = (i : Int)) ∨ (cliP l id = -1 ∧ ((findR l id = -1) ∨ ∃ i : Nat, ∃ h : i < l.length, findR l id = (i : Int) ∧ mineJ l[i] = false)) := by
  unfold cliP
  rcases findR_cases l id with ⟨i, hi, hid, _, hf⟩ | ⟨_, hf⟩
  · cases hm : mineJ l[i] with
    | true => left; exact ⟨i, hi, hid, hm, hf, by rw [hf, Int.toNat_natCast, jobG_at hi, if_pos ⟨by omega, hm⟩]⟩
    | false => right; exact ⟨by rw [hf, Int.toNat_natCast, jobG_at hi, if_neg (by simp [hm])], .inr ⟨i, hi, hf, hm⟩⟩
  · right; exact ⟨by rw [hf, if_neg (by omega)], .inl hf⟩

theorem mineJ_iff (j : Jb) : mineJ j = true ↔ j.kind = 1 ∨ j.kind = 2 ∨ j.kind = 3 := by
  unfold mineJ; simp [or_assoc]

theorem seekR_at {n : Nd} {id : Int} {i : Nat} (h : cliP n.jobs id = (i : Int)) : seekR n id = seekC n i id := by
  rw [seekR, h, if_pos (by omega), Int.toNat_natCast]

theorem seekR_none {n : Nd} {id : Int} (h : cliP n.jobs id = -1) : seekR n id = (n, []) := by
  rw [seekR, h, if_neg (by omega)]

theorem failedC_at {n : Nd} {id : Int} {i : Nat} (h : cliP n.jobs id = (i : Int)) : failedC n id = againC n i id 43 := by
  rw [failedC, h, if_pos (by omega), Int.toNat_natCast]

theorem nextI_pos (a : Int) : 1 ≤ nextI a := by unfold nextI; split <;> omega

theorem nextI_ne (a : Int) : nextI (nextI a) ≠ nextI a := by
  have := nextI_pos a
  generalize nextI a = b at *
  unfold nextI; split <;> omega

theorem findR_one {j : Jb} {id : Int} (h : j.id = id) : findR [j] id = ((0 : Nat) : Int) := placeG_at (i := 0) (by simp) (by simp) (by simp [jobAt, h])
/-! ### A node that knows nobody -/
def aloneN (n : Nd) (its : List It) (jid : Int) (rs : List Rs) : Nd := { n with list := [], jobs := [], ready := true, items := its, jobId := jid, results := rs }

def doneN (n : Nd) (k : Int) (key val : List UInt8) (x : It) (has : Bool) : List Rs := lastR (n.results ++ [resR (nextI n.jobId) (newC n k key val) x has 0])

theorem settle_one {n : Nd} {id : Int} {j : Jb} (hj : n.jobs = [j]) (h : j.id = id) (x : It) (has : Bool) (e : Int) : settleR n id x has e = { n with jobs := [], results := lastR (n.results ++ [resR id j x has e]) } := by
  unfold settleR
  rw [hj, findR_one h, if_pos (by omega)]
  rfl

theorem begC_ok {n : Nd} {k : Int} {key val : List UInt8} (hj : n.jobs = []) (hr : n.ready = true) (hk : 1 ≤ k ∧ k ≤ 3) (h1 : keyR key = true) (h2 : val.length ≤ 32) : begC n k key val = seekC (addC n k key val) 0 (nextI n.jobId) := by
  have e : begE n k key val = 0 := by
    unfold begE
    rw [if_neg (by rw [h1]; simp; omega), if_neg (by rw [hj, hr]; simp)]
  rw [begC, if_pos e]
  refine seekR_at ?_
  have hm : mineJ (newC n k key val) = true := (mineJ_iff _).2 (by show k = 1 ∨ k = 2 ∨ k = 3; omega)
  have ej : (addC n k key val).jobs = [newC n k key val] := by unfold addC; simp [hj]
  have hf : findR [newC n k key val] (nextI n.jobId) = ((0 : Nat) : Int) := findR_one rfl
  rw [ej]
  unfold cliP
  rw [hf, if_pos ⟨by omega, hm⟩]

theorem alone_get {n : Nd} {key : List UInt8} (hl : n.list = []) (hj : n.jobs = []) (hr : n.ready = true) (h1 : keyR key = true) :
    begC n 3 key [] = ({ n with jobId := nextI n.jobId, results := doneN n 3 key [] (getR n.items key).1 ((getR n.items key).2 && !(getR n.items key).1.g) }, []) := by
  rw [begC_ok hj hr (by omega) h1 (by simp)]
  have ej : (addC n 3 key []).jobs = [newC n 3 key []] := by unfold addC; simp [hj]
  unfold seekC
  rw [ej]
  have eg : jobG [newC n 3 key []] 0 = newC n 3 key [] := rfl
  have el : (addC n 3 key []).list = [] := hl
  have eo : ownerR (addC n 3 key []).me (addC n 3 key []).list (keyI (newC n 3 key []).key) = (addC n 3 key []).me := by rw [el]; rfl
  rw [eg, if_pos eo, if_pos (show (newC n 3 key []).kind = 3 from rfl), settle_one (id := nextI n.jobId) ej (show (newC n 3 key []).id = nextI n.jobId from rfl)]
  show (_, _) = (_, _)
  congr 1
  unfold addC doneN
  rw [hj]
  rfl

theorem alone_put {n : Nd} {k : Int} {key val : List UInt8} (hl : n.list = []) (hj : n.jobs = []) (hr : n.ready = true) (hk : k = 1 ∨ k = 2) (h1 : keyR key = true) (h2 : val.length ≤ 32)
    (hp : (putR n.items key (if k = 1 then val else []) (decide (k = 2))).2.2 = 0) :
    begC n k key val = ({ n with items := (putR n.items key (if k = 1 then val else []) (decide (k = 2))).1, jobId := nextI (nextI n.jobId), results := doneN n k key val (putR n.items key (if k = 1 then val else []) (decide (k = 2))).2.1 (!(putR n.items key (if k = 1 then val else []) (decide (k = 2))).2.1.g) }, []) := by
  rw [begC_ok hj hr (by omega) h1 h2]
  have ej : (addC n k key val).jobs = [newC n k key val] := by unfold addC; simp [hj]
  unfold seekC
  rw [ej]
  have eg : jobG [newC n k key val] 0 = newC n k key val := rfl
  have el : (addC n k key val).list = [] := hl
  have ek : ¬ (newC n k key val).kind = 3 := by show ¬ k = 3; omega
  have eo : ownerR (addC n k key val).me (addC n k key val).list (keyI (newC n k key val).key) = (addC n k key val).me := by rw [el]; rfl
  rw [eg, if_pos eo, if_neg ek]
  obtain ⟨J, hJ⟩ : ∃ J : Jb, J = { newC n k key val with phase := 2 } := ⟨_, rfl⟩
  have hJi : J.id = nextI n.jobId := by rw [hJ]; rfl
  have hJk : (newC n k key val).key = key := rfl
  have hJv : (newC n k key val).val = if k = 1 then val else [] := rfl
  have hJd : (newC n k key val).kind = k := rfl
  have hset : [newC n k key val].set 0 { newC n k key val with phase := 2 } = [J] := by rw [hJ]; rfl
  rw [hset, hJk, hJv, hJd]
  generalize hw : (if k = 1 then val else []) = w at *
  generalize decide (k = 2) = g at *
  have he : beginE { addC n k key val with jobs := [J] } key w g = 0 := by
    unfold beginE
    rw [if_neg (by simp)]
    exact hp
  rw [beginR, if_pos he]
  obtain ⟨cj, hcj⟩ : ∃ cj : Jb, cj = copyJ { addC n k key val with jobs := [J] } (putR n.items key w g).2.1 enZ 0 (nextI n.jobId) := ⟨_, rfl⟩
  have hb : begunR { addC n k key val with jobs := [J] } key w g enZ 0 (nextI n.jobId) = { n with items := (putR n.items key w g).1, jobId := nextI (nextI n.jobId), jobs := [J, cj] } := by
    rw [hcj]; rfl
  rw [hb]
  have hcid : cj.id = nextI (nextI n.jobId) := by rw [hcj]; rfl
  have hck : cj.kind = 4 := by rw [hcj]; rfl
  have hcop : copR [J, cj] (nextI (nextI n.jobId)) = ((1 : Nat) : Int) := by
    refine copR_at (i := 1) (by simp) (placeG_at (i := 1) (by simp) ?_ (by simp [jobAt, hcid])) hck
    have := nextI_ne n.jobId
    simp [jobAt, hJi, this.symm]
  show moreR _ (nextI (nextI n.jobId)) = _
  rw [moreR_at (i := 1) (by simp) hcop]
  have ha : askR (nextI (nextI n.jobId)) n.list cj = (cj, []) := by rw [hl]; rfl
  show moreFin _ 1 (askR _ n.list cj) = _
  rw [ha]
  have hw0 : ¬ 0 < cj.waits := by rw [hcj]; exact Int.lt_irrefl 0
  unfold moreFin
  rw [if_neg hw0]
  have hbj : cj.backJob = nextI n.jobId := by rw [hcj]; rfl
  have hit : cj.item = (putR n.items key w g).2.1 := by rw [hcj]; rfl
  have hne : ¬ nextI n.jobId = 0 := by have := nextI_pos n.jobId; omega
  have hpos : ¬ cj.backJob = 0 := by rw [hbj]; exact hne
  simp only [tellR, hbj, if_neg hne, List.append_nil, hit]
  rw [settle_one (j := J) (by rfl) hJi]
  show (_, _) = (_, _)
  congr 1
  unfold doneN resR
  rw [hJ, hj]

end Go.Proofs.YtnpkhdjgedeppaaDoor
namespace Go.Proofs.YtnpkhdjgedeppaaDoor
open Go.Am
set_option linter.unusedSimpArgs false
set_option linter.unusedVariables false
set_option maxRecDepth 100000
/-! Layer 29: what was put is got. (Plain.) -/
theorem setR_get (l : List It) (x : It) : getR (setR l x) x.k = (x, true) := by
  unfold setR placeR
  by_cases h : l.findIdx (fun y => decide (y.k = x.k)) < l.length
  · rw [if_pos h, if_pos (by omega), Int.toNat_natCast]
    refine (get_at (i := l.findIdx (fun y => decide (y.k = x.k))) (by simpa using h) ?_ (by simp)).trans (by simp)
    rw [List.take_set_of_le (Nat.le_refl _)]
    refine List.all_eq_true.2 fun y hy => ?_
    obtain ⟨j, hj, rfl⟩ := List.mem_take_iff_getElem.1 hy
    have := List.not_of_lt_findIdx (p := fun y : It => decide (y.k = x.k)) (xs := l) (i := j) (by omega)
    simpa using this
  · rw [if_neg h, if_neg (by omega)]
    have hn : ∀ z ∈ l, z.k ≠ x.k := fun z hz e => h (List.findIdx_lt_length_of_exists ⟨z, hz, by simpa using e⟩)
    have hs : (l.take (insAt l x.k)).find? (fun y => decide (y.k = x.k)) = none := by
      rw [List.find?_eq_none]; intro z hz; simpa using hn z (List.mem_of_mem_take hz)
    unfold getR
    rw [List.find?_append, hs]
    simp

end Go.Proofs.YtnpkhdjgedeppaaDoor
namespace Go.Proofs.YtnpkhdjgedeppaaDoor
open Go.Am
set_option linter.unusedSimpArgs false
set_option linter.unusedVariables false
set_option maxRecDepth 100000
/-! Stores: what a put, a merge come to. -/

theorem bl_trans : ∀ (a b c : List UInt8), Op.bytesLess a b = true → Op.bytesLess b c = true → Op.bytesLess a c = true
  | _, [], _, h, _ => by simp [Op.bytesLess] at h
  | _, _ :: _, [], _, h => by simp [Op.bytesLess] at h
  | [], _ :: _, _ :: _, _, _ => rfl
  | x :: a, y :: b, z :: c, h, k => by
    simp only [Op.bytesLess, Bool.or_eq_true, Bool.and_eq_true, decide_eq_true_eq, beq_iff_eq] at h k ⊢
    rcases h with h | ⟨rfl, h⟩
    · rcases k with k | ⟨rfl, k⟩
      · left; rw [UInt8.lt_iff_toNat_lt] at *; omega
      · left; exact h
    · rcases k with k | ⟨rfl, k⟩
      · left; exact k
      · right; exact ⟨rfl, bl_trans a b c h k⟩

def BL (a b : It) : Prop := Op.bytesLess a.k b.k = true

/-- Items by rising keys. -/
def Srt (l : List It) : Prop := l.Pairwise BL

theorem chain_iff (l : List It) : ∀ p : Option It, chainR p l = true ↔ ((∀ x ∈ l, itemR x = true) ∧ Srt l ∧ ∀ y, p = some y → ∀ x ∈ l, BL y x) := by
  induction l with
  | nil => intro p; simp [chainR, Srt]
  | cons x l ih =>
    intro p
    simp only [chainR, Bool.and_eq_true, ih, Srt, List.pairwise_cons, List.mem_cons, forall_eq_or_imp, Option.some.injEq, forall_eq']
    constructor
    · rintro ⟨⟨h1, h2⟩, h3, h4, h5⟩
      refine ⟨⟨h1, h3⟩, ⟨h5, h4⟩, ?_⟩
      rintro y rfl
      exact ⟨h2, fun z hz => bl_trans _ _ _ h2 (h5 z hz)⟩
    · rintro ⟨⟨h1, h3⟩, ⟨h5, h4⟩, h6⟩
      refine ⟨⟨h1, ?_⟩, h3, h4, h5⟩
      cases p with
      | none => rfl
      | some y => exact (h6 y rfl).1

theorem right_iff (l : List It) : rightR l = true ↔ ((∀ x ∈ l, itemR x = true) ∧ Srt l ∧ l.length ≤ 16) := by
  simp only [rightR, Bool.and_eq_true, chain_iff, decide_eq_true_eq, reduceCtorEq, false_implies, implies_true, and_true]
  exact and_assoc

theorem getR_eq (l : List It) (k : List UInt8) : getR l k = match l.find? (fun x => decide (x.k = k)) with | some x => (x, true) | none => (zeroIt, false) := rfl

theorem getR_skip (a : List It) (b : List It) (k : List UInt8) (h : ∀ z ∈ a, z.k ≠ k) : getR (a ++ b) k = getR b k := by
  have : a.find? (fun x => decide (x.k = k)) = none := by simpa using h
  rw [getR_eq, getR_eq, List.find?_append, this]; rfl

theorem getR_here (x : It) (b : List It) : getR (x :: b) x.k = (x, true) := by simp [getR_eq]

theorem getR_no (l : List It) (k : List UInt8) : (getR l k).2 = false ↔ ∀ z ∈ l, z.k ≠ k := by
  rw [getR_eq]
  split
  · rename_i x h
    simp only [reduceCtorEq, Bool.true_eq_false, false_iff]
    intro hn
    have h1 := List.find?_some h
    exact hn x (List.mem_of_find?_eq_some h) (by simpa using h1)
  · rename_i h; simpa using h

theorem getR_yes (l : List It) (k : List UInt8) (h : (getR l k).2 = true) : (getR l k).1 ∈ l ∧ (getR l k).1.k = k := by
  rw [getR_eq] at h ⊢
  split at h
  · rename_i x hx
    have h1 := List.find?_some hx
    exact ⟨List.mem_of_find?_eq_some hx, by simpa using h1⟩
  · cases h

end Go.Proofs.YtnpkhdjgedeppaaDoor
namespace Go.Proofs.YtnpkhdjgedeppaaDoor
open Go.Am
set_option linter.unusedSimpArgs false
set_option linter.unusedVariables false
set_option maxRecDepth 100000
/-! Layer 31: put, get, delete, get: at a node that knows nobody. (Plain.) -/
attribute [local irreducible] distR idB sumB

theorem lastR_app (l : List Rs) (r : Rs) : lastR (l ++ [r]) = l.drop (l.length + 1 - 16) ++ [r] := by
  unfold lastR
  rw [List.length_append, List.length_singleton, List.drop_append_of_le_length (by omega)]

theorem putR_ok {l : List It} {k v : List UInt8} (g : Bool) (hk : keyR k = true) (hv : v.length ≤ 32) (hroom : (getR l k).2 = true ∨ l.length < 16) (h0 : 0 ≤ (getR l k).1.n) (h1 : (getR l k).1.n ≤ 2000) :
    putR l k v g = (setR l ⟨k, if g = true then [] else v, (getR l k).1.n + 1, g⟩, ⟨k, if g = true then [] else v, (getR l k).1.n + 1, g⟩, 0) := by
  have e : putV (getR l k).1.n = (getR l k).1.n + 1 := by unfold putV; rw [if_neg (by omega)]
  unfold putR
  have hn : ¬ ((getR l k).2 = false ∧ 16 ≤ l.length) := by
    rintro ⟨h1, h2⟩
    rcases hroom with h | h
    · rw [h1] at h; cases h
    · omega
  rw [if_pos ⟨hk, hv⟩, if_neg hn, if_neg (by omega), e]

def xA (n : Nd) (key val : List UInt8) : It := ⟨key, val, (getR n.items key).1.n + 1, false⟩

def xB (n : Nd) (key : List UInt8) : It := ⟨key, [], (getR n.items key).1.n + 1 + 1, true⟩

def nA (n : Nd) (key val : List UInt8) : Nd := { n with items := setR n.items (xA n key val), jobId := nextI (nextI n.jobId), results := doneN n 1 key val (xA n key val) true }

def nB (n : Nd) (key val : List UInt8) : Nd := { nA n key val with jobId := nextI (nA n key val).jobId, results := doneN (nA n key val) 3 key [] (xA n key val) true }

def nC (n : Nd) (key val : List UInt8) : Nd := { nB n key val with items := setR (nB n key val).items (xB n key), jobId := nextI (nextI (nB n key val).jobId), results := doneN (nB n key val) 2 key [] (xB n key) false }

def nD (n : Nd) (key val : List UInt8) : Nd := { nC n key val with jobId := nextI (nC n key val).jobId, results := doneN (nC n key val) 3 key [] (xB n key) false }

structure AloneOk (n : Nd) (key val : List UInt8) : Prop where
  l : n.list = []
  j : n.jobs = []
  r : n.ready = true
  k : keyR key = true
  v : val.length ≤ 32
  room : (getR n.items key).2 = true ∨ n.items.length < 16
  n0 : 0 ≤ (getR n.items key).1.n
  n1 : (getR n.items key).1.n ≤ 1000

theorem aloneA {n : Nd} {key val : List UInt8} (h : AloneOk n key val) : begC n 1 key val = (nA n key val, []) := by
  have p := putR_ok (v := val) false h.k h.v h.room h.n0 (by have := h.n1; omega)
  have hp : (putR n.items key (if (1 : Int) = 1 then val else []) (decide ((1 : Int) = 2))).2.2 = 0 := by
    rw [if_pos rfl, decide_eq_false (by decide), p]
  rw [alone_put h.l h.j h.r (.inl rfl) h.k h.v hp]
  rw [if_pos rfl, decide_eq_false (by decide), p]
  rfl

theorem nA_get (n : Nd) (key val : List UInt8) : getR (nA n key val).items key = (xA n key val, true) := setR_get n.items (xA n key val)

theorem aloneB {n : Nd} {key val : List UInt8} (h : AloneOk n key val) : begC (nA n key val) 3 key [] = (nB n key val, []) := by
  rw [alone_get (n := nA n key val) h.l h.j h.r h.k, nA_get]
  rfl

theorem nB_get (n : Nd) (key val : List UInt8) : getR (nB n key val).items key = (xA n key val, true) := nA_get n key val

theorem aloneC {n : Nd} {key val : List UInt8} (h : AloneOk n key val) : begC (nB n key val) 2 key [] = (nC n key val, []) := by
  have e := nB_get n key val
  have p := putR_ok (l := (nB n key val).items) (k := key) (v := []) true h.k (by simp) (.inl (by rw [e])) (by rw [e]; have := h.n0; show 0 ≤ _ + 1; omega) (by rw [e]; have := h.n1; show _ + 1 ≤ _; omega)
  rw [e] at p
  have hp : (putR (nB n key val).items key (if (2 : Int) = 1 then [] else []) (decide ((2 : Int) = 2))).2.2 = 0 := by
    rw [if_neg (by decide), decide_eq_true rfl, p]
  rw [alone_put (n := nB n key val) h.l h.j h.r (.inr rfl) h.k (by simp) hp]
  rw [if_neg (by decide), decide_eq_true rfl, p]
  rfl

theorem nC_get (n : Nd) (key val : List UInt8) : getR (nC n key val).items key = (xB n key, true) := setR_get (nB n key val).items (xB n key)

theorem aloneD {n : Nd} {key val : List UInt8} (h : AloneOk n key val) : begC (nC n key val) 3 key [] = (nD n key val, []) := by
  rw [alone_get (n := nC n key val) h.l h.j h.r h.k, nC_get]
  rfl

end Go.Proofs.YtnpkhdjgedeppaaDoor
namespace Go.Proofs.YtnpkhdjgedeppaaDoor
open Go.Am
set_option linter.unusedSimpArgs false
set_option linter.unusedVariables false
set_option maxRecDepth 100000
/-! Layer 31: a job that fails four times. (Plain.) -/
attribute [local irreducible] distR idB sumB

/-- The job is gone, with a result. -/
def GoneR (n : Nd) (id : Int) : Prop := findR n.jobs id = -1 ∧ ∃ (l : List Rs) (r : Rs), n.results = l ++ [r] ∧ r.job = id

/-- The job goes on at the node itself. -/
def HereR (n : Nd) (id : Int) : Prop := ∃ (i : Nat) (h : i < n.jobs.length), findR n.jobs id = (i : Int) ∧ n.jobs[i].phase = 2

/-- One job alone has the number. -/
def Solo (l : List Jb) (id : Int) (j : Jb) : Prop := l.filter (jobAt id) = [j]

theorem filter_at {α : Type} (f : α → Bool) (l : List α) (p : Nat) (h : p < l.length) : l.filter f = (l.take p).filter f ++ ((if f l[p] = true then [l[p]] else []) ++ (l.drop (p + 1)).filter f) := by
  have e : l = l.take p ++ l[p] :: l.drop (p + 1) := by rw [← List.drop_eq_getElem_cons h, List.take_append_drop]
  have e2 := congrArg (List.filter f) e
  rw [List.filter_append, List.filter_cons] at e2
  rw [e2]
  split <;> rfl

theorem filter_set {α : Type} (f : α → Bool) (l : List α) (p : Nat) (x : α) (h : p < l.length) : (l.set p x).filter f = (l.take p).filter f ++ ((if f x = true then [x] else []) ++ (l.drop (p + 1)).filter f) := by
  rw [List.set_eq_take_append_cons_drop, if_pos h, List.filter_append, List.filter_cons]
  split <;> rfl

theorem filter_erase {α : Type} (f : α → Bool) (l : List α) (p : Nat) : (l.eraseIdx p).filter f = (l.take p).filter f ++ (l.drop (p + 1)).filter f := by
  rw [List.eraseIdx_eq_take_drop_succ, List.filter_append]

theorem solo_find {l : List Jb} {id : Int} {j : Jb} (h : Solo l id j) : ∃ (i : Nat) (hi : i < l.length), findR l id = (i : Int) ∧ l[i] = j ∧ j.id = id ∧ (l.take i).filter (jobAt id) = [] ∧ (l.drop (i + 1)).filter (jobAt id) = [] := by
  unfold Solo at h
  rcases findR_cases l id with ⟨i, hi, hid, ht, hf⟩ | ⟨hn, _⟩
  · have e := filter_at (jobAt id) l i hi
    have e1 : (l.take i).filter (jobAt id) = [] := List.filter_eq_nil_iff.2 fun x hx => by
      have := List.any_eq_false.1 ht x hx; simpa using this
    have e2 : jobAt id l[i] = true := by simp [jobAt, hid]
    rw [h, e1, if_pos e2, List.nil_append, List.singleton_append, List.cons.injEq] at e
    exact ⟨i, hi, hf, e.1.symm, by rw [e.1]; exact hid, e1, e.2.symm⟩
  · have : l.filter (jobAt id) = [] := List.filter_eq_nil_iff.2 fun x hx => by
      have := List.any_eq_false.1 hn x hx; simpa using this
    rw [this] at h; cases h

theorem solo_of {l : List Jb} {id : Int} {i : Nat} (hi : i < l.length) (hid : l[i].id = id) (hu : ∀ (k : Nat) (hk : k < l.length), k ≠ i → l[k].id ≠ id) : Solo l id l[i] := by
  have e1 : (l.take i).filter (jobAt id) = [] := List.filter_eq_nil_iff.2 fun x hx => by
    obtain ⟨k, hk, rfl⟩ := List.mem_take_iff_getElem.1 hx
    have := hu k (by omega) (by omega)
    simpa [jobAt] using this
  have e2 : (l.drop (i + 1)).filter (jobAt id) = [] := List.filter_eq_nil_iff.2 fun x hx => by
    obtain ⟨k, hk, rfl⟩ := List.getElem_of_mem hx
    rw [List.length_drop] at hk
    have := hu (i + 1 + k) (by omega) (by omega)
    simpa [jobAt] using this
  have e3 : jobAt id l[i] = true := by simp [jobAt, hid]
  unfold Solo
  rw [filter_at (jobAt id) l i hi, e1, e2, if_pos e3]
  rfl

theorem solo_set {l : List Jb} {id : Int} {j : Jb} (h : Solo l id j) {p : Nat} (hp : p < l.length) (h1 : l[p].id ≠ id) {q : Jb} (h2 : q.id ≠ id) : Solo (l.set p q) id j := by
  unfold Solo at h ⊢
  rw [filter_at (jobAt id) l p hp, if_neg (by simpa [jobAt] using h1)] at h
  rw [filter_set (jobAt id) l p q hp, if_neg (by simpa [jobAt] using h2)]
  exact h

theorem solo_erase {l : List Jb} {id : Int} {j : Jb} (h : Solo l id j) {p : Nat} (hp : p < l.length) (h1 : l[p].id ≠ id) : Solo (l.eraseIdx p) id j := by
  unfold Solo at h ⊢
  rw [filter_at (jobAt id) l p hp, if_neg (by simpa [jobAt] using h1)] at h
  rw [filter_erase]
  exact h

theorem solo_app {l : List Jb} {id : Int} {j : Jb} (h : Solo l id j) {q : Jb} (h2 : q.id ≠ id) : Solo (l ++ [q]) id j := by
  unfold Solo at h ⊢
  rw [List.filter_append, h, List.filter_cons, if_neg (by simpa [jobAt] using h2)]
  rfl

theorem solo_put {l : List Jb} {id : Int} {j q : Jb} (h : Solo l id j) {i : Nat} (hf : findR l id = (i : Int)) (hq : q.id = id) : Solo (l.set i q) id q := by
  obtain ⟨k, hk, hk2, _, _, e1, e2⟩ := solo_find h
  obtain rfl : k = i := by omega
  unfold Solo
  rw [filter_set (jobAt id) l k q hk, if_pos (by simp [jobAt, hq]), e1, e2]
  rfl

theorem findR_set {l : List Jb} {id : Int} {j q : Jb} (h : Solo l id j) {i : Nat} (hf : findR l id = (i : Int)) (hq : q.id = id) : findR (l.set i q) id = (i : Int) := by
  obtain ⟨k, hk, hk2, _, _, e1, e2⟩ := solo_find h
  obtain rfl : k = i := by omega
  refine placeG_at (by simpa using hk) ?_ (by rw [List.getElem_set_self]; simp [jobAt, hq])
  rw [List.take_set_of_le (Nat.le_refl _)]
  exact List.any_eq_false.2 fun x hx => by have := List.filter_eq_nil_iff.1 e1 x hx; simpa using this

theorem solo_here {n : Nd} {id : Int} {j : Jb} (h : Solo n.jobs id j) (hp : j.phase = 2) : HereR n id := by
  obtain ⟨i, hi, hf, e, _⟩ := solo_find h
  exact ⟨i, hi, hf, by rw [e]; exact hp⟩

theorem findR_nil {l : List Jb} {id : Int} (h : l.filter (jobAt id) = []) : findR l id = -1 := placeG_none (List.any_eq_false.2 fun x hx => by
  have := List.filter_eq_nil_iff.1 h x hx; simpa using this)

theorem settle_at {n : Nd} {id : Int} {i : Nat} (hi : i < n.jobs.length) (hf : findR n.jobs id = (i : Int)) (x : It) (has : Bool) (e : Int) :
    settleR n id x has e = { n with jobs := n.jobs.eraseIdx i, results := lastR (n.results ++ [resR id n.jobs[i] x has e]) } := by
  unfold settleR
  rw [hf, if_pos (by omega), Int.toNat_natCast, jobG_at hi]

/-- What settles the job. -/
theorem settle_gone {n : Nd} {id : Int} {j : Jb} (h : Solo n.jobs id j) (x : It) (has : Bool) (e : Int) : GoneR (settleR n id x has e) id := by
  obtain ⟨i, hi, hf, _, _, e1, e2⟩ := solo_find h
  rw [settle_at hi hf]
  refine ⟨findR_nil (by show (n.jobs.eraseIdx i).filter _ = []; rw [filter_erase, e1, e2]; rfl), ?_⟩
  exact ⟨_, _, by rw [lastR, List.length_append, List.length_singleton, List.drop_append_of_le_length (by omega)], rfl⟩

/-- What settles any job. -/
theorem settle_any {n : Nd} {id : Int} {j : Jb} (h : Solo n.jobs id j) (hp : j.phase = 2) (b : Int) (x : It) (has : Bool) (e : Int) : HereR (settleR n b x has e) id ∨ GoneR (settleR n b x has e) id := by
  by_cases hb : b = id
  · subst hb; exact .inr (settle_gone h x has e)
  · left
    rcases findR_cases n.jobs b with ⟨r, hr, hrid, _, hf⟩ | ⟨_, hf⟩
    · rw [settle_at hr hf]
      exact solo_here (n := { n with jobs := _, results := _ }) (solo_erase h hr (by rw [hrid]; exact hb)) hp
    · have : settleR n b x has e = n := by unfold settleR; rw [hf, if_neg (by omega)]
      rw [this]
      exact solo_here h hp

theorem tell_any {n : Nd} {id : Int} {j : Jb} (h : Solo n.jobs id j) (hp : j.phase = 2) (back : En) (rid b : Int) (x : It) (has : Bool) (e : Int) : HereR (tellR n back rid b x has e).1 id ∨ GoneR (tellR n back rid b x has e).1 id := by
  unfold tellR
  split
  · exact .inl (solo_here h hp)
  · exact settle_any h hp b x has e

theorem askR_id (id : Int) : ∀ (l : List Pr) (j : Jb), (askR id l j).1.id = j.id
  | [], _ => rfl
  | p :: l, j => by
    unfold askR
    split
    · rfl
    · split
      · exact askR_id id l j
      · exact askR_id id l _

theorem more_any {n : Nd} {id : Int} {j : Jb} (h : Solo n.jobs id j) (hp : j.phase = 2) (hm : mineJ j = true) (mid : Int) (hne : mid ≠ id) : HereR (moreR n mid).1 id ∨ GoneR (moreR n mid).1 id := by
  rcases copR_cases n.jobs mid with ⟨p, hpl, hc⟩ | hc
  · have hpid : n.jobs[p].id ≠ id := by
      have hf : findR n.jobs mid = (p : Int) := by
        unfold copR at hc; split at hc
        · exact hc
        · omega
      rcases findR_cases n.jobs mid with ⟨k, hk, hid, _, hf'⟩ | ⟨_, hf'⟩
      · obtain rfl : k = p := by omega
        rw [hid]; exact hne
      · omega
    rw [moreR_at hpl hc]
    have hq := askR_id mid n.list n.jobs[p]
    generalize askR mid n.list n.jobs[p] = q at *
    unfold moreFin
    split
    · exact .inl (solo_here (n := { n with jobs := _ }) (solo_set h hpl hpid (by rw [hq]; exact hpid)) hp)
    · exact tell_any (n := { n with jobs := n.jobs.eraseIdx p }) (solo_erase h hpl hpid) hp _ _ _ _ _ _
  · rw [moreR_none hc]
    exact .inl (solo_here h hp)

theorem begin_any {n : Nd} {id : Int} {j : Jb} (h : Solo n.jobs id j) (hp : j.phase = 2) (hm : mineJ j = true) (key val : List UInt8) (gone : Bool) (back : En) (rid : Int) : HereR (beginR n key val gone back rid id).1 id ∨ GoneR (beginR n key val gone back rid id).1 id := by
  unfold beginR
  split
  · by_cases hne : nextI n.jobId = id
    · -- the new job has the number: the old one stands ahead of it
      left
      obtain ⟨i, hi, hf, e, hid, e1, e2⟩ := solo_find h
      have hjs : (begunR n key val gone back rid id).jobs = n.jobs ++ [copyJ n (putR n.items key val gone).2.1 back rid id] := rfl
      have hi2 : i < (begunR n key val gone back rid id).jobs.length := by rw [hjs, List.length_append]; omega
      have hg : (begunR n key val gone back rid id).jobs[i] = j := by simp only [hjs]; rw [List.getElem_append_left hi]; exact e
      have hf2 : findR (begunR n key val gone back rid id).jobs id = (i : Int) := by
        refine placeG_at hi2 ?_ (by rw [hg]; simp [jobAt, hid])
        rw [hjs, List.take_append_of_le_length (by omega)]
        exact List.any_eq_false.2 fun x hx => by have := List.filter_eq_nil_iff.1 e1 x hx; simpa using this
      have hc : copR (begunR n key val gone back rid id).jobs (nextI n.jobId) = -1 := by
        rw [hne]
        unfold copR
        rw [hf2, Int.toNat_natCast, jobG_at hi2, hg, if_neg]
        intro hh
        have := (mineJ_iff j).1 hm
        omega
      rw [moreR_none hc]
      exact ⟨i, hi2, hf2, by rw [hg]; exact hp⟩
    · exact more_any (n := begunR n key val gone back rid id) (solo_app h hne) hp hm (nextI n.jobId) hne
  · exact tell_any h hp _ _ _ _ _ _

/-- What a job that waits becomes by failing once more. -/
structure WaitR (n : Nd) (id t : Int) : Prop where
  w : ∃ j, Solo n.jobs id j ∧ mineJ j = true ∧ t ≤ j.tries

theorem fails_once {n : Nd} {id t : Int} (h : WaitR n id t) : HereR (failedC n id).1 id ∨ GoneR (failedC n id).1 id ∨ (t < 3 ∧ WaitR (failedC n id).1 id (t + 1)) := by
  obtain ⟨j, hs, hm, ht⟩ := h.w
  obtain ⟨i, hi, hf, e, hid, e1, e2⟩ := solo_find hs
  have hcp : cliP n.jobs id = (i : Int) := by
    unfold cliP
    rw [hf, Int.toNat_natCast, jobG_at hi, e, if_pos ⟨by omega, hm⟩]
  rw [failedC_at hcp]
  unfold againC
  rw [jobG_at hi, e]
  split
  · exact .inr (.inl (settle_gone hs _ _ _))
  · rename_i htr
    obtain ⟨J, hJ⟩ : ∃ J : Jb, J = { j with tries := j.tries + 1 } := ⟨_, rfl⟩
    have hJid : J.id = id := by rw [hJ]; exact hid
    have hJm : mineJ J = true := by rw [hJ]; exact hm
    have hs2 : Solo (n.jobs.set i J) id J := solo_put hs hf hJid
    rw [← hJ]
    unfold seekC
    have hg : jobG (n.jobs.set i J) i = J := by rw [jobG_at (by simpa using hi), List.getElem_set_self]
    show HereR (if _ then _ else _ : Nd × List Ac).1 id ∨ GoneR (if _ then _ else _ : Nd × List Ac).1 id ∨ _
    simp only [hg]
    split
    · split
      · exact .inr (.inl (settle_gone (n := { n with jobs := n.jobs.set i J }) hs2 _ _ _))
      · have hs3 : Solo ((n.jobs.set i J).set i { J with phase := 2 }) id { J with phase := 2 } := by
          exact solo_put hs2 (findR_set hs hf hJid) hJid
        rcases begin_any (n := { n with jobs := (n.jobs.set i J).set i { J with phase := 2 } }) hs3 rfl hJm J.key J.val (decide (J.kind = 2)) enZ 0 with h | h
        · exact .inl h
        · exact .inr (.inl h)
    · refine .inr (.inr ⟨by omega, ⟨{ J with phase := 1, owner := ownerR n.me n.list (keyI J.key) }, solo_put hs2 (findR_set hs hf hJid) hJid, hJm, ?_⟩⟩)
      show t + 1 ≤ J.tries
      rw [hJ]
      show t + 1 ≤ j.tries + 1
      omega

end Go.Proofs.YtnpkhdjgedeppaaDoor
namespace Go.Proofs.YtnpkhdjgedeppaaDoor
open Go.Am
set_option linter.unusedSimpArgs false
set_option linter.unusedVariables false
set_option maxRecDepth 100000
/-! Layer 31: the configuration of a client's work. -/
noncomputable def own4 : Own := fun f => if f ∈ [12, 27, 15, 999999, 999999, 999999, 5, 3, 4, 999999, 999999] then none else some (fun ex ds => fn C2 f ex ds)
theorem own4_ok : OwnOk E own4 := by
  intro f g ex ds q hf hg
  unfold own4 at hf
  split at hf
  · cases hf
  · simp only [Option.some.injEq] at hf
    subst hf
    exact fnE_sound mixed own2_ok hg
noncomputable def M4 : Mds := { M with inls := [(30, 60000), (46, 80000), (45, 100000), (32, 120000), (53, 140000), (47, 160000), (52, 200000), (999999, 220000), (999999, 240000), (31, 260000), (999999, 280000)] }
noncomputable def C4 : Cf := ⟨E, M4, own4⟩
@[go_sem] theorem C4_E : C4.E = E := rfl
@[go_sem] theorem C4_M : C4.M = M4 := rfl
@[go_sem] theorem M4_par : M4.par = M.par := Eq.trans rfl rfl
@[go_sem] theorem M4_res : M4.res = M.res := Eq.trans rfl rfl
@[go_sem] theorem M4_loc : M4.loc = M.loc := Eq.trans rfl rfl
@[go_sem] theorem M4_nl : M4.nl = M.nl := Eq.trans rfl rfl
@[go_sem] theorem M4_cur : M4.cur = [] := Eq.trans rfl rfl
@[go_sem] theorem M4_base : M4.base = 0 := Eq.trans rfl rfl
@[go_sem] theorem M4_gh : M4.gh = none := Eq.trans rfl rfl
@[go_sem] theorem M4_inls : M4.inls = [(30, 60000), (46, 80000), (45, 100000), (32, 120000), (53, 140000), (47, 160000), (52, 200000), (999999, 220000), (999999, 240000), (31, 260000), (999999, 280000)] := Eq.trans rfl rfl
theorem c4_c2 (f : FuncId) (h : f ∉ [12, 27, 15, 999999, 999999, 999999, 5, 3, 4, 999999, 999999]) (ex ds) : fn C4 f ex ds = fn C2 f ex ds :=
  fn_own (g := fun ex ds => fn C2 f ex ds) (by show own4 f = _; unfold own4; rw [if_neg h]) ex ds
def okC4 (f : FuncId) : Bool := decide (f ∉ [12, 27, 15, 999999, 999999, 999999, 5, 3, 4, 999999, 999999]) && okC2 f
theorem c4_c (f : FuncId) (h : okC4 f = true) (ex ds) : fn C4 f ex ds = fn C f ex ds := by
  simp only [okC4, Bool.and_eq_true, decide_eq_true_eq] at h
  exact (c4_c2 f h.1 ex ds).trans (C2_C f h.2 ex ds)
@[go_sem] theorem c4_copies_Copy (ex ds) : fn C4 25 ex ds = fn C 25 ex ds := c4_c _ (by decide) ex ds
@[go_sem] theorem c4_copies_Find (ex ds) : fn C4 14 ex ds = fn C 14 ex ds := c4_c _ (by decide) ex ds
@[go_sem] theorem c4_copies_Settle (ex ds) : fn C4 58 ex ds = fn C 58 ex ds := c4_c _ (by decide) ex ds
@[go_sem] theorem c4_client_mine (ex ds) : fn C4 24 ex ds = fn C 24 ex ds := c4_c _ (by decide) ex ds
@[go_sem] theorem c4_label_Key (ex ds) : fn C4 8 ex ds = fn C 8 ex ds := c4_c _ (by decide) ex ds
@[go_sem] theorem c4_label_Val (ex ds) : fn C4 9 ex ds = fn C 9 ex ds := c4_c _ (by decide) ex ds
@[go_sem] theorem c4_peers_Owner (ex ds) : fn C4 50 ex ds = fn C 50 ex ds := c4_c _ (by decide) ex ds
@[go_sem] theorem c4_store_Get (ex ds) : fn C4 11 ex ds = fn C 11 ex ds := c4_c _ (by decide) ex ds
@[go_sem] theorem c4_Contains (ex ds) : fn C4 26 ex ds = fn C 26 ex ds := c4_c _ (by decide) ex ds

@[go_sem] theorem nl_on : M.nl 30 = [] := Eq.trans rfl rfl
@[go_sem] theorem nl_send : M.nl 46 = [] := Eq.trans rfl rfl
@[go_sem] theorem nl_seek : M.nl 45 = [] := Eq.trans rfl rfl
@[go_sem] theorem nl_done : M.nl 32 = [] := Eq.trans rfl rfl
@[go_sem] theorem nl_settle : M.nl 53 = [] := Eq.trans rfl rfl
@[go_sem] theorem nl_fail : M.nl 47 = [] := Eq.trans rfl rfl
@[go_sem] theorem c4_place (ex ds) : fn C4 51 ex ds = fn C 51 ex ds := c4_c _ (by decide) ex ds
@[go_sem] theorem nl_again : M.nl 31 = [] := Eq.trans rfl rfl

@[go_sem] theorem e24 (j : Jb) : fn C 24 [] [.agg [.int .i64 j.id, .int .i64 j.kind, .int .i64 j.phase, .int .i64 j.hops, .int .i64 j.tries, .int .i64 j.til, .str j.key, .str j.val, .str j.owner.name, .int .u64 (j.owner.id : Int), .int .i64 j.owner.fr, .int .i64 j.owner.un, .int .i64 j.owner.ix, .str j.owner.tag, .str j.item.k, .str j.item.v, .int .i64 j.item.n, .bool j.item.g, .int .i64 j.acks, .int .i64 j.waits, .slice 1 (j.asked.map strRow), .str j.back.name, .int .u64 (j.back.id : Int), .int .i64 j.back.fr, .int .i64 j.back.un, .int .i64 j.back.ix, .str j.back.tag, .int .i64 j.backRid, .int .i64 j.backJob]] = some (.bool (mineJ j), []) := by
  rw [fn_text Tryd.func24 rfl rfl Tryd.results24 fq24.1 rfl rfl (by kernel_rfl)]
  simp -implicitDefEqProofs -dsimp +contextual (maxSteps := 9999999) (disch := first | omega | simp only [go_sem] <;> omega | refine ib ?_; kernel_rfl) only [go_sem, seval, ↓reduceIte]
  (repeat' (refine kD_intro (fun _ => ?_) (fun _ => ?_))) <;> exact Res_bool (by unfold mineJ; simp [*])

/-- Where a key lies. -/
theorem ePlace (c0 c1 c2 c3 c4 c5 c6 c7 c8 c9 c10 c11 c12 c13 c14 c15 c16 c17 c18 c19 c20 c21 r0 r1 r2 r3 r4 r5 r7 r8 r9 r10 r11 r12 r13 r14 r15 r16 r17 r18 r19 r20 r21 r22 r23 r24 r25 r26 r27 r28 X F : AVal) (key : List UInt8) (hk : key.length ≤ 10000) : fn C 51 [] [.iptr [c0, c1, c2, c3, c4, c5, c6, c7, c8, c9, c10, c11, c12, c13, c14, c15, c16, c17, c18, c19, c20, c21, .iptr [r0, r1, r2, r3, r4, r5, .str key, r7, r8, r9, r10, r11, r12, r13, r14, r15, r16, r17, r18, r19, r20, r21, r22, r23, r24, r25, r26, r27, r28], X, F]] = some (.int .u64 (keyI key : Int), []) := by
  have li := e57 key hk
  rw [keyI]
  rw [fn_text Tryd.func51 rfl rfl Tryd.results51 fq51.1 rfl rfl (by kernel_rfl)]
  simp -implicitDefEqProofs -dsimp +contextual (maxSteps := 9999999) (disch := first | omega | simp only [go_sem] <;> omega | refine ib ?_; kernel_rfl) only [go_sem, seval, ↓reduceIte, li]

end Go.Proofs.YtnpkhdjgedeppaaDoor
namespace Go.Proofs.YtnpkhdjgedeppaaDoor
open Go.Am
set_option linter.unusedSimpArgs false
set_option linter.unusedVariables false
set_option maxRecDepth 100000
/-! Layer 31: a copy to work on. -/
/-- Places that the work has not used yet. -/
def FreshC (H : Heap) : Prop := ∀ o, 80000 ≤ o → (o < 60000000 ∨ 61000000 ≤ o) → H o = ⟨0, .dead, 0, [], false⟩
def FreR (H : Heap) (lo : Nat) : Prop := ∀ o, (lo ≤ o ∧ o < lo + 20000) ∨ (lo * 1000 ≤ o ∧ o < (lo + 20000) * 1000) → H o = ⟨0, .dead, 0, [], false⟩
structure WorkC (H : Heap) (n : Nd) (id : Int) (J : AVal) : Prop where
  w : H 60111 = ⟨1, .live, 25, [[.str n.me.name, .int .u64 (n.me.id : Int), .int .i64 n.me.fr, .int .i64 n.me.un, .int .i64 n.me.ix, .str n.me.tag, .int .i64 n.clock, .str n.psk, .int .i64 n.gateI, .str n.gateK, .bool n.ready, .slice 8 (n.pred.map Pr.cs), .slice 8 (n.list.map Pr.cs), .slice 9 (n.fingers.map Fg.cs), .osl 60109015 1 0 n.sessions.length, .osl 60109016 1 0 n.pends.length, .slice 4 (n.items.map It.cs), .osl 60109018 1 0 n.jobs.length, .int .i64 n.rid, .int .i64 n.jobId, .slice 1 (n.draws.map u64Row), .osl 60109022 1 0 n.results.length, J, .sc (.slice none 0 0), .fn (.func 46) [] [.ptr 60106 1 0 0, .ptr 60103 1 0 0]]], false⟩
  v : H 60106 = ⟨1, .live, 1, [[.ptr 60111 1 0 0]], false⟩
  d : H 60103 = ⟨1, .live, 1, [[.int .i64 id]], false⟩
  s : H 60109015 = ⟨1, .live, 20, n.sessions.map Se.cs, false⟩
  p : H 60109016 = ⟨1, .live, 23, n.pends.map Pd.cs, false⟩
  j : H 60109018 = ⟨1, .live, 29, n.jobs.map Jb.cs, false⟩
  r : H 60109022 = ⟨1, .live, 8, n.results.map Rs.cs, false⟩
/-- What came of the work. -/
def EndC (q : Nd × List Ac) (H : Heap) : Prop := ∃ (a b c d ga gb gc gd : Nat) (J X F : AVal), 1000000 ≤ a ∧ 1000000 ≤ b ∧ 1000000 ≤ c ∧ 1000000 ≤ d ∧
  H 60111 = ⟨1, .live, 25, [[.str q.1.me.name, .int .u64 (q.1.me.id : Int), .int .i64 q.1.me.fr, .int .i64 q.1.me.un, .int .i64 q.1.me.ix, .str q.1.me.tag, .int .i64 q.1.clock, .str q.1.psk, .int .i64 q.1.gateI, .str q.1.gateK, .bool q.1.ready, .slice 8 (q.1.pred.map Pr.cs), .slice 8 (q.1.list.map Pr.cs), .slice 9 (q.1.fingers.map Fg.cs), .osl a ga 0 q.1.sessions.length, .osl b gb 0 q.1.pends.length, .slice 4 (q.1.items.map It.cs), .osl c gc 0 q.1.jobs.length, .int .i64 q.1.rid, .int .i64 q.1.jobId, .slice 1 (q.1.draws.map u64Row), .osl d gd 0 q.1.results.length, J, X, F]], false⟩ ∧
  H a = ⟨ga, .live, 20, q.1.sessions.map Se.cs, false⟩ ∧ H b = ⟨gb, .live, 23, q.1.pends.map Pd.cs, false⟩ ∧ H c = ⟨gc, .live, 29, q.1.jobs.map Jb.cs, false⟩ ∧ H d = ⟨gd, .live, 8, q.1.results.map Rs.cs, false⟩ ∧
  ((X = .sc (.slice none 0 0) ∧ q.2 = []) ∨ (∃ x gx : Nat, X = .osl x gx 0 q.2.length ∧ 80000 ≤ x ∧ ¬ x = 120102 ∧ H x = ⟨gx, .live, 20, q.2.map Ac.cs, false⟩))
theorem WorkC.far {H H' : Heap} {n : Nd} {id : Int} {J : AVal} (h : WorkC H n id J) (hf : ∀ o, (60000 ≤ o ∧ o < 80000) ∨ (60000000 ≤ o ∧ o < 61000000) → H' o = H o) : WorkC H' n id J :=
  ⟨(hf _ (by omega)).trans h.w, (hf _ (by omega)).trans h.v, (hf _ (by omega)).trans h.d, (hf _ (by omega)).trans h.s, (hf _ (by omega)).trans h.p, (hf _ (by omega)).trans h.j, (hf _ (by omega)).trans h.r⟩
theorem FreshC.fre {H : Heap} (h : FreshC H) (lo : Nat) (hl : 80000 ≤ lo) (hl2 : lo ≤ 1000000) : FreR H lo := fun o ho => h o (by omega) (by omega)
theorem WorkC.fin {H : Heap} {n : Nd} {id : Int} {J : AVal} (h : WorkC H n id J) : EndC (n, []) H :=
  ⟨_, _, _, _, _, _, _, _, _, _, _, by omega, by omega, by omega, by omega, h.w, h.s, h.p, h.j, h.r, .inl ⟨rfl, rfl⟩⟩
set_option maxHeartbeats 4000000 in
theorem il_onC (n : Nd) (id : Int) (h : n.mid 1000000) (H : Heap) (hH : ∀ o, 60000 ≤ o → H o = ⟨0, .dead, 0, [], false⟩) (K : AVal × Heap → Option Res) (R : Option Res)
    (k1 : ∀ i H', i < n.jobs.length → cliP n.jobs id = (i : Int) → WorkC H' n id (.ptr 60109018 1 i 0) → FreshC H' → (∀ o, o < 60000 → H' o = H o) → K (.tup [.ptr 60111 1 0 0, .bool true], H') = R)
    (k0 : ∀ H', cliP n.jobs id = -1 → WorkC H' n id (.sc (.pointer none)) → FreshC H' → (∀ o, o < 60000 → H' o = H o) → K (.tup [.ptr 60111 1 0 0, .bool false], H') = R) : @kB _ _ (il C4 30 [.agg [.str n.me.name, .int .u64 (n.me.id : Int), .int .i64 n.me.fr, .int .i64 n.me.un, .int .i64 n.me.ix, .str n.me.tag, .int .i64 n.clock, .str n.psk, .int .i64 n.gateI, .str n.gateK, .bool n.ready, .slice 8 (n.pred.map Pr.cs), .slice 8 (n.list.map Pr.cs), .slice 9 (n.fingers.map Fg.cs), .slice 20 (n.sessions.map Se.cs), .slice 23 (n.pends.map Pd.cs), .slice 4 (n.items.map It.cs), .slice 29 (n.jobs.map Jb.cs), .int .i64 n.rid, .int .i64 n.jobId, .slice 1 (n.draws.map u64Row), .slice 8 (n.results.map Rs.cs)], .int .i64 id] H) ⟨K⟩ = R := by
  have jl := h.jl
  have g1 := hH 60102 (by omega); have g2 := hH 60103 (by omega); have g3 := hH 60106 (by omega); have g4 := hH 60111 (by omega); have g5 := hH 60109015 (by omega); have g6 := hH 60109016 (by omega); have g7 := hH 60109018 (by omega); have g8 := hH 60109022 (by omega)
  have cp := e25 n h
  rcases cliP_cases n.jobs id with ⟨i, hi, hid, hm, hf, hc⟩ | ⟨hc, hf | ⟨i, hi, hf, hm⟩⟩
  · have row := jb_row n.jobs i hi
    have mi := e24 n.jobs[i]
    rw [hm] at mi
    rw [il_text (C := C4) Tryd.func30 rfl Tryd.results30 (show (C4).M.loc 30 = _ from fq30.1) (by kernel_rfl)]
    simp -implicitDefEqProofs -dsimp +contextual (maxSteps := 9999999) (disch := first | omega | simp only [go_sem] <;> omega | refine ib ?_; kernel_rfl) only [go_sem, seval, ↓reduceIte, g1, g2, g3, g4, g5, g6, g7, g8, cp, hf, row, mi, Nat.not_lt_zero]
    exact k1 i _ hi hc ⟨rfl, rfl, rfl, rfl, rfl, rfl, rfl⟩ (fun o h1 h2 => by repeat (first | exact hH o (by omega) | rw [Heap.set_ne _ _ (by omega)])) (fun o ho => by repeat (first | rfl | rw [Heap.set_ne _ _ (by omega)]))
  · rw [il_text (C := C4) Tryd.func30 rfl Tryd.results30 (show (C4).M.loc 30 = _ from fq30.1) (by kernel_rfl)]
    simp -implicitDefEqProofs -dsimp +contextual (maxSteps := 9999999) (disch := first | omega | simp only [go_sem] <;> omega | refine ib ?_; kernel_rfl) only [go_sem, seval, ↓reduceIte, g1, g2, g3, g4, g5, g6, g7, g8, cp, hf]
    exact k0 _ hc ⟨rfl, rfl, rfl, rfl, rfl, rfl, rfl⟩ (fun o h1 h2 => by repeat (first | exact hH o (by omega) | rw [Heap.set_ne _ _ (by omega)])) (fun o ho => by repeat (first | rfl | rw [Heap.set_ne _ _ (by omega)]))
  · have row := jb_row n.jobs i hi
    have mi := e24 n.jobs[i]
    rw [hm] at mi
    rw [il_text (C := C4) Tryd.func30 rfl Tryd.results30 (show (C4).M.loc 30 = _ from fq30.1) (by kernel_rfl)]
    simp -implicitDefEqProofs -dsimp +contextual (maxSteps := 9999999) (disch := first | omega | simp only [go_sem] <;> omega | refine ib ?_; kernel_rfl) only [go_sem, seval, ↓reduceIte, g1, g2, g3, g4, g5, g6, g7, g8, cp, hf, row, mi, Nat.not_lt_zero]
    exact k0 _ hc ⟨rfl, rfl, rfl, rfl, rfl, rfl, rfl⟩ (fun o h1 h2 => by repeat (first | exact hH o (by omega) | rw [Heap.set_ne _ _ (by omega)])) (fun o ho => by repeat (first | rfl | rw [Heap.set_ne _ _ (by omega)]))
set_option maxHeartbeats 4000000 in
theorem il_settleC (n : Nd) (id : Int) (i : Nat) (hi : i < n.jobs.length) (hid : n.jobs[i].id = id) (h : n.mid 1000000) (x : It) (has : Bool) (e : Int) (H : Heap) (hW : WorkC H n id (.ptr 60109018 1 i 0)) (hF : FreR H 140000) (K : AVal × Heap → Option Res) (R : Option Res)
    (k : ∀ H', EndC (settleR n id x has e, []) H' → (∀ o, o < 60000 → H' o = H o) → K (.tup [], H') = R) : @kB _ _ (il C4 53 [.ptr 60111 1 0 0, .agg [.str x.k, .str x.v, .int .i64 x.n, .bool x.g], .bool has, .int .i64 e] H) ⟨K⟩ = R := by
  obtain ⟨W1, W2, W3, W4, W5, W6, W7⟩ := hW
  have row := jb_row n.jobs i hi
  have se := e58 n id x has e h
  obtain ⟨js, rs, hs⟩ := settle_eta n id x has e
  rw [hs] at se k
  rw [Nd.ocs_eq] at se
  have g1 := hF 140105 (by omega)
  have g2 := hF 140123015 (by omega); have g3 := hF 140123016 (by omega); have g4 := hF 140123018 (by omega); have g5 := hF 140123022 (by omega)
  rw [il_text (C := C4) Tryd.func53 rfl Tryd.results53 (show (C4).M.loc 53 = _ from fq53.1) (by kernel_rfl)]
  simp -implicitDefEqProofs -dsimp +contextual (maxSteps := 9999999) (disch := first | omega | simp only [go_sem] <;> omega | refine ib ?_; kernel_rfl) only [go_sem, seval, ↓reduceIte, W1, W2, W3, W4, W5, W6, W7, row, hid, se, g1, g2, g3, g4, g5]
  exact k _ ⟨140123015, 140123016, 140123018, 140123022, 1, 1, 1, 1, _, _, _, by omega, by omega, by omega, by omega, rfl, rfl, rfl, rfl, rfl, .inl ⟨rfl, rfl⟩⟩ (fun o ho => by repeat (first | rfl | rw [Heap.set_ne _ _ (by omega)]))

end Go.Proofs.YtnpkhdjgedeppaaDoor
namespace Go.Proofs.YtnpkhdjgedeppaaDoor
open Go.Am
set_option linter.unusedSimpArgs false
set_option linter.unusedVariables false
set_option maxRecDepth 100000
/-! Layer 31: asking, acting, failing. -/
attribute [local irreducible] distR idB sumB
theorem enEq (x y : En) : (x.name = y.name ∧ x.id = y.id ∧ x.fr = y.fr ∧ x.un = y.un ∧ x.ix = y.ix ∧ x.tag = y.tag) = (x = y) := propext (En.eq_iff x y).symm
structure CliK (n : Nd) : Prop where
  md : n.mid 80000
  me : n.me.id ≤ 18446744073709551615
  li : ∀ p ∈ n.list, p.e.id ≤ 18446744073709551615
  clock : 0 ≤ n.clock ∧ n.clock ≤ 1099511627776
  jk : ∀ j ∈ n.jobs, j.key.length ≤ 10000 ∧ j.val.length ≤ 10000
  ji : ∀ j ∈ n.jobs, -9223372036854775808 ≤ j.tries ∧ -9223372036854775808 ≤ j.hops
theorem mid_setj {n : Nd} {k : Nat} (i : Nat) (j j' : Jb) (h : n.mid k) (hj : j ∈ n.jobs) (ha : j'.asked = j.asked) : ({ n with jobs := n.jobs.set i j' } : Nd).mid k :=
  mid_set i j' h (by rw [ha]; exact h.ja j hj)
theorem set_at (l : List Jb) (i : Nat) (J : Jb) (h : i < l.length) : ((l.set i J).map Jb.cs)[i]? = some [.int .i64 J.id, .int .i64 J.kind, .int .i64 J.phase, .int .i64 J.hops, .int .i64 J.tries, .int .i64 J.til, .str J.key, .str J.val, .str J.owner.name, .int .u64 (J.owner.id : Int), .int .i64 J.owner.fr, .int .i64 J.owner.un, .int .i64 J.owner.ix, .str J.owner.tag, .str J.item.k, .str J.item.v, .int .i64 J.item.n, .bool J.item.g, .int .i64 J.acks, .int .i64 J.waits, .slice 1 (J.asked.map strRow), .str J.back.name, .int .u64 (J.back.id : Int), .int .i64 J.back.fr, .int .i64 J.back.un, .int .i64 J.back.ix, .str J.back.tag, .int .i64 J.backRid, .int .i64 J.backJob] := by
  rw [List.getElem?_map, List.getElem?_set_self h]; rfl
theorem set_cs (l : List Jb) (i : Nat) (j : Jb) : (l.map Jb.cs).set i [.int .i64 j.id, .int .i64 j.kind, .int .i64 j.phase, .int .i64 j.hops, .int .i64 j.tries, .int .i64 j.til, .str j.key, .str j.val, .str j.owner.name, .int .u64 (j.owner.id : Int), .int .i64 j.owner.fr, .int .i64 j.owner.un, .int .i64 j.owner.ix, .str j.owner.tag, .str j.item.k, .str j.item.v, .int .i64 j.item.n, .bool j.item.g, .int .i64 j.acks, .int .i64 j.waits, .slice 1 (j.asked.map strRow), .str j.back.name, .int .u64 (j.back.id : Int), .int .i64 j.back.fr, .int .i64 j.back.un, .int .i64 j.back.ix, .str j.back.tag, .int .i64 j.backRid, .int .i64 j.backJob] = (l.set i j).map Jb.cs := by rw [List.map_set]; rfl
set_option maxHeartbeats 8000000 in
theorem il_failC (n : Nd) (id : Int) (i : Nat) (hi : i < n.jobs.length) (hid : n.jobs[i].id = id) (h : n.mid 1000000) (e : Int) (H : Heap) (hW : WorkC H n id (.ptr 60109018 1 i 0)) (hF : FreR H 140000) (K : AVal × Heap → Option Res) (R : Option Res)
    (k : ∀ H', EndC (failC n id e) H' → (∀ o, o < 60000 → H' o = H o) → K (.tup [], H') = R) : @kB _ _ (il C4 47 [.ptr 60111 1 0 0, .int .i64 e] H) ⟨K⟩ = R := by
  rw [il_text (C := C4) Tryd.func47 rfl Tryd.results47 (show (C4).M.loc 47 = _ from fq47.1) (by kernel_rfl)]
  simp -implicitDefEqProofs -dsimp +contextual (maxSteps := 9999999) (disch := first | omega | simp only [go_sem] <;> omega | refine ib ?_; kernel_rfl) only [go_sem, seval, ↓reduceIte]
  refine il_settleC n id i hi hid h zeroIt false e _ hW hF _ _ fun H' hE hfr => ?_
  simp -implicitDefEqProofs -dsimp +contextual (maxSteps := 9999999) (disch := first | omega | simp only [go_sem] <;> omega | refine ib ?_; kernel_rfl) only [go_sem, seval, ↓reduceIte]
  exact k _ hE hfr
set_option maxHeartbeats 8000000 in
theorem il_askC (n : Nd) (id : Int) (i : Nat) (hi : i < n.jobs.length) (hid : n.jobs[i].id = id) (h : n.mid 1000000) (hk : n.jobs[i].key.length ≤ 10000) (to : En) (H : Heap) (hW : WorkC H n id (.ptr 60109018 1 i 0)) (hF : FreR H 200000) (hG : FreR H 80000) (K : AVal × Heap → Option Res) (R : Option Res)
    (k : ∀ H', EndC (askC n i n.jobs[i] to id) H' → (∀ o, o < 60000 → H' o = H o) → K (.tup [], H') = R) : @kB _ _ (il C4 52 [.ptr 60111 1 0 0, .agg [.str to.name, .int .u64 (to.id : Int), .int .i64 to.fr, .int .i64 to.un, .int .i64 to.ix, .str to.tag]] H) ⟨K⟩ = R := by
  obtain ⟨W1, W2, W3, W4, W5, W6, W7⟩ := hW
  have jl := h.jl
  have row := jb_row n.jobs i hi
  have hrow := fun J => set_at n.jobs i J hi
  have g1 := hF 200103 (by omega)
  have g2 := hG 80105 (by omega); have g3 := hG 80106 (by omega); have g4 := hG 80118 (by omega); have g5 := hG 80119 (by omega)
  generalize hj : n.jobs[i] = j at *
  rw [il_text (C := C4) Tryd.func52 rfl Tryd.results52 (show (C4).M.loc 52 = _ from fq52.1) (by kernel_rfl)]
  simp -implicitDefEqProofs -dsimp +contextual (maxSteps := 9999999) (disch := first | omega | simp only [go_sem] <;> omega | refine ib ?_; kernel_rfl) only [go_sem, seval, ↓reduceIte, W1, W2, W3, W4, W5, W6, W7, row, hi, g1, rowsG_start, hrow, List.set_set, ePlace]
  rw [il_text (C := C4) Tryd.func46 rfl Tryd.results46 (show (C4).M.loc 46 = _ from fq46.1) (by kernel_rfl)]
  simp -implicitDefEqProofs -dsimp +contextual (maxSteps := 9999999) (disch := first | omega | simp only [go_sem] <;> omega | refine ib ?_; kernel_rfl) only [go_sem, seval, ↓reduceIte, W1, W2, W3, W4, W5, W6, W7, g2, g3, g4, g5]
  have jn : (askC n i j to id).1.jobs.length = n.jobs.length := by simp [askC]
  refine k _ ⟨60109015, 60109016, 60109018, 60109022, 1, 1, 1, 1, .ptr 60109018 1 i 0, .osl 80119 1 0 1, .fn (.func 46) [] [.ptr 60106 1 0 0, .ptr 60103 1 0 0], by omega, by omega, by omega, by omega, ?_, W4, W5, rfl, W7, .inr ⟨80119, 1, rfl, by omega, by omega, rfl⟩⟩ (fun o ho => by repeat (first | rfl | rw [Heap.set_ne _ _ (by omega)]))
  simp only [jn]
  rfl

end Go.Proofs.YtnpkhdjgedeppaaDoor
namespace Go.Proofs.YtnpkhdjgedeppaaDoor
open Go.Am
set_option linter.unusedSimpArgs false
set_option linter.unusedVariables false
set_option maxRecDepth 100000
/-! Layer 31: seeking the owner. -/
attribute [local irreducible] distR idB sumB
theorem askR_len (id : Int) : ∀ (l : List Pr) (j : Jb), (askR id l j).2.length ≤ l.length
  | [], _ => Nat.le_refl _
  | p :: l, j => by
    unfold askR
    split
    · exact Nat.zero_le _
    · split
      · exact Nat.le_succ_of_le (askR_len id l j)
      · exact Nat.succ_le_succ (askR_len id l _)
theorem tell_len (n : Nd) (back : En) (rid job : Int) (x : It) (has : Bool) (e : Int) : (tellR n back rid job x has e).2.length ≤ 1 := by
  unfold tellR; split <;> simp
theorem begin_len (n : Nd) (key val : List UInt8) (gone : Bool) (back : En) (rid job : Int) : (beginR n key val gone back rid job).2.length ≤ n.list.length + 1 := by
  unfold beginR
  split
  · rcases copR_cases (begunR n key val gone back rid job).jobs (nextI n.jobId) with ⟨i, hi, hc⟩ | hc
    · rw [moreR_at hi hc]
      have h1 := askR_len (nextI n.jobId) (begunR n key val gone back rid job).list (begunR n key val gone back rid job).jobs[i]
      have h2 : (begunR n key val gone back rid job).list = n.list := rfl
      rw [h2] at h1 ⊢
      unfold moreFin
      split
      · exact Nat.le_succ_of_le h1
      · rw [List.length_append]
        exact Nat.add_le_add h1 (tell_len _ _ _ _ _ _ _)
    · rw [moreR_none hc]; exact Nat.zero_le _
  · exact Nat.le_trans (tell_len _ _ _ _ _ _ _) (by omega)
theorem WorkC.set {H H' : Heap} {n : Nd} {id : Int} {J : AVal} (h : WorkC H n id J) (i : Nat) (j' : Jb) (hj : H' 60109018 = ⟨1, .live, 29, (n.jobs.set i j').map Jb.cs, false⟩) (hf : ∀ o, o ≠ 60109018 → H' o = H o) : WorkC H' { n with jobs := n.jobs.set i j' } id J :=
  ⟨by rw [hf _ (by omega), h.w]; simp only [List.length_set], (hf _ (by omega)).trans h.v, (hf _ (by omega)).trans h.d, (hf _ (by omega)).trans h.s, (hf _ (by omega)).trans h.p, hj, (hf _ (by omega)).trans h.r⟩
theorem clik_set {n : Nd} (h : CliK n) (i : Nat) (j j' : Jb) (hj : j ∈ n.jobs) (ha : j'.asked = j.asked) (hk : j'.key = j.key) (hv : j'.val = j.val) (hi : -9223372036854775808 ≤ j'.tries ∧ -9223372036854775808 ≤ j'.hops) : CliK { n with jobs := n.jobs.set i j' } :=
  ⟨mid_setj i j j' h.md hj ha, h.me, h.li, h.clock, fun x hx => by
    rcases List.mem_or_eq_of_mem_set hx with hx | rfl
    · exact h.jk x hx
    · rw [hk, hv]; exact h.jk j hj, fun x hx => by
    rcases List.mem_or_eq_of_mem_set hx with hx | rfl
    · exact h.ji x hx
    · exact hi⟩
set_option maxHeartbeats 8000000 in
theorem il_seekC (n : Nd) (id : Int) (i : Nat) (hi : i < n.jobs.length) (hid : n.jobs[i].id = id) (h : CliK n) (H : Heap) (hW : WorkC H n id (.ptr 60109018 1 i 0)) (hF : FreshC H) (K : AVal × Heap → Option Res) (R : Option Res)
    (k : ∀ H', EndC (seekC n i id) H' → (∀ o, o < 60000 → H' o = H o) → K (.tup [], H') = R) : @kB _ _ (il C4 45 [.ptr 60111 1 0 0] H) ⟨K⟩ = R := by
  have hW' := hW
  obtain ⟨W1, W2, W3, W4, W5, W6, W7⟩ := hW'
  have jl := h.md.jl
  have il := h.md.il
  obtain ⟨k1, k2⟩ := h.jk _ (List.getElem_mem hi)
  have row := jb_row n.jobs i hi
  have hrow := fun J => set_at n.jobs i J hi
  have ow := e50 n.me n.list (keyI n.jobs[i].key) (idB_lt _) h.me (Nat.le_trans h.md.ll (by decide)) h.li
  have e3 := enEq (ownerR n.me n.list (keyI n.jobs[i].key)) n.me
  have ge := e11 n.items n.jobs[i].key (by omega)
  have g1 := hF 100102 (by omega) (by omega); have g2 := hF 100103 (by omega) (by omega); have g3 := hF 100105 (by omega) (by omega); have g4 := hF 100106 (by omega) (by omega)
  have be := (c4_c2 54 (by decide) [] _).trans (eBegin { n with jobs := n.jobs.set i { n.jobs[i] with phase := 2 } } n.jobs[i].key n.jobs[i].val (decide (n.jobs[i].kind = 2)) enZ 0 id ((mid_setj i n.jobs[i] { n.jobs[i] with phase := 2 } h.md (List.getElem_mem hi) rfl).le (show 80000 ≤ 90000 by omega)) (Nat.le_trans k1 (by decide)) h.clock)
  simp only at be
  unfold seekC at k
  rw [jobG_at hi] at k
  by_cases ho : ownerR n.me n.list (keyI n.jobs[i].key) = n.me
  · rw [if_pos ho] at k
    have ho' := eq_true ho
    by_cases k3 : n.jobs[i].kind = 3
    · rw [if_pos k3] at k
      have hs := il_settleC n id i hi hid (h.md.le (by omega)) (getR n.items n.jobs[i].key).1 ((getR n.items n.jobs[i].key).2 && !(getR n.items n.jobs[i].key).1.g) 0
      generalize hj : n.jobs[i] = j at *
      generalize getR n.items j.key = q at *
      obtain ⟨x, b⟩ := q
      cases b
      all_goals
        simp only [Bool.true_and, Bool.false_and] at hs k
        rw [il_text (C := C4) Tryd.func45 rfl Tryd.results45 (show (C4).M.loc 45 = _ from fq45.1) (by kernel_rfl)]
        simp -implicitDefEqProofs -dsimp +contextual (maxSteps := 9999999) (disch := first | omega | simp only [go_sem] <;> omega | refine ib ?_; kernel_rfl) only [go_sem, seval, ↓reduceIte, W1, W2, W3, W4, W5, W6, W7, hi, row, ePlace, ow, e3, ho', k3, ge, g1, g2]
        refine hs _ (hW.far ?_) ?_ _ _ fun H' hE hfr => ?_
        · intro o ho; repeat (first | rfl | rw [Heap.set_ne _ _ (by omega)])
        · intro o ho; repeat (first | exact hF o (by omega) (by omega) | rw [Heap.set_ne _ _ (by omega)])
        simp -implicitDefEqProofs -dsimp +contextual (maxSteps := 9999999) (disch := first | omega | simp only [go_sem] <;> omega | refine ib ?_; kernel_rfl) only [go_sem, seval, ↓reduceIte]
        exact k _ hE (fun o ho => (hfr o ho).trans (by repeat (first | rfl | rw [Heap.set_ne _ _ (by omega)])))
    · rw [if_neg k3] at k
      have bl := begin_len { n with jobs := n.jobs.set i { n.jobs[i] with phase := 2 } } n.jobs[i].key n.jobs[i].val (decide (n.jobs[i].kind = 2)) enZ 0 id
      have ll := h.md.ll
      subst hid
      have k3' := eq_false k3
      generalize beginR _ _ _ _ _ _ _ = q at *
      obtain ⟨d, acts⟩ := q
      simp only at bl
      simp only [enZ, Int.cast_ofNat_Int] at be
      unfold ndRes at be
      rw [Nd.ocs_eq] at be
      generalize hj : n.jobs[i] = j at *
      rw [il_text (C := C4) Tryd.func45 rfl Tryd.results45 (show (C4).M.loc 45 = _ from fq45.1) (by kernel_rfl)]
      simp -implicitDefEqProofs -dsimp +contextual (maxSteps := 9999999) (disch := first | omega | simp only [go_sem] <;> omega | refine ib ?_; kernel_rfl) only [go_sem, seval, ↓reduceIte, W1, W2, W3, W4, W5, W6, W7, row, hi, ePlace, ow, e3, ho', k3', g1, g2, g3, g4, rowsG_start, hrow, List.set_set, be]
      exact k _ ⟨100148001015, 100148001016, 100148001018, 100148001022, _, _, _, _, _, _, _, by omega, by omega, by omega, by omega, rfl, rfl, rfl, rfl, rfl, .inr ⟨100159, _, rfl, by omega, by omega, rfl⟩⟩ (fun o ho => by repeat (first | rfl | rw [Heap.set_ne _ _ (by omega)]))
  · rw [if_neg ho] at k
    have ho' := eq_false ho
    have ha := il_askC n id i hi hid (h.md.le (by omega)) k1 (ownerR n.me n.list (keyI n.jobs[i].key))
    generalize hj : n.jobs[i] = j at *
    generalize ownerR n.me n.list (keyI j.key) = o at *
    rw [il_text (C := C4) Tryd.func45 rfl Tryd.results45 (show (C4).M.loc 45 = _ from fq45.1) (by kernel_rfl)]
    simp -implicitDefEqProofs -dsimp +contextual (maxSteps := 9999999) (disch := first | omega | simp only [go_sem] <;> omega | refine ib ?_; kernel_rfl) only [go_sem, seval, ↓reduceIte, W1, W2, W3, W4, W5, W6, W7, row, hi, ePlace, ow, e3, ho', g1]
    refine ha _ (hW.far ?_) ?_ ?_ _ _ fun H' hE hfr => ?_
    · intro o ho; repeat (first | rfl | rw [Heap.set_ne _ _ (by omega)])
    · intro o ho; repeat (first | exact hF o (by omega) (by omega) | rw [Heap.set_ne _ _ (by omega)])
    · intro o ho; repeat (first | exact hF o (by omega) (by omega) | rw [Heap.set_ne _ _ (by omega)])
    simp -implicitDefEqProofs -dsimp +contextual (maxSteps := 9999999) (disch := first | omega | simp only [go_sem] <;> omega | refine ib ?_; kernel_rfl) only [go_sem, seval, ↓reduceIte]
    exact k _ hE (fun o ho => (hfr o ho).trans (by repeat (first | rfl | rw [Heap.set_ne _ _ (by omega)])))
set_option maxHeartbeats 8000000 in
theorem il_againC (n : Nd) (id why : Int) (i : Nat) (hi : i < n.jobs.length) (hid : n.jobs[i].id = id) (h : CliK n) (H : Heap) (hW : WorkC H n id (.ptr 60109018 1 i 0)) (hF : FreshC H) (K : AVal × Heap → Option Res) (R : Option Res)
    (k : ∀ H', EndC (againC n i id why) H' → (∀ o, o < 60000 → H' o = H o) → K (.tup [], H') = R) : @kB _ _ (il C4 31 [.ptr 60111 1 0 0, .int .i64 why] H) ⟨K⟩ = R := by
  have hW' := hW
  obtain ⟨W1, W2, W3, W4, W5, W6, W7⟩ := hW'
  have jl := h.md.jl
  have row := jb_row n.jobs i hi
  have hrow := fun J => set_at n.jobs i J hi
  have hf := il_failC n id i hi hid (h.md.le (by omega)) why
  have hs := fun H => il_seekC { n with jobs := n.jobs.set i { n.jobs[i] with tries := n.jobs[i].tries + 1 } } id i (by simpa using hi) (by simpa using hid) (clik_set h i n.jobs[i] _ (List.getElem_mem hi) rfl rfl rfl ⟨by show _ ≤ n.jobs[i].tries + 1; have := (h.ji _ (List.getElem_mem hi)).1; omega, (h.ji _ (List.getElem_mem hi)).2⟩) H
  have hji := h.ji _ (List.getElem_mem hi)
  unfold againC at k
  rw [jobG_at hi] at k
  by_cases ht : 3 ≤ n.jobs[i].tries
  · rw [if_pos ht] at k
    have ht' := eq_true ht
    generalize hj : n.jobs[i] = j at *
    rw [il_text (C := C4) Tryd.func31 rfl Tryd.results31 (show (C4).M.loc 31 = _ from fq31.1) (by kernel_rfl)]
    simp -implicitDefEqProofs -dsimp +contextual (maxSteps := 9999999) (disch := first | omega | simp only [go_sem] <;> omega | refine ib ?_; kernel_rfl) only [go_sem, seval, ↓reduceIte, W1, W2, W3, W4, W5, W6, W7, row, hi, ht']
    refine hf _ hW (hF.fre _ (by omega) (by omega)) _ _ fun H' hE hfr => ?_
    simp -implicitDefEqProofs -dsimp +contextual (maxSteps := 9999999) (disch := first | omega | simp only [go_sem] <;> omega | refine ib ?_; kernel_rfl) only [go_sem, seval, ↓reduceIte]
    exact k _ hE hfr
  · rw [if_neg ht] at k
    have ht' := eq_false ht
    generalize hj : n.jobs[i] = j at *
    rw [il_text (C := C4) Tryd.func31 rfl Tryd.results31 (show (C4).M.loc 31 = _ from fq31.1) (by kernel_rfl)]
    simp -implicitDefEqProofs -dsimp +contextual (maxSteps := 9999999) (disch := first | omega | simp only [go_sem] <;> omega | refine ib ?_; kernel_rfl) only [go_sem, seval, ↓reduceIte, W1, W2, W3, W4, W5, W6, W7, row, hi, ht', rowsG_start, hrow]
    refine hs _ (hW.set i _ ?_ ?_) ?_ _ _ fun H' hE hfr => ?_
    · rfl
    · intro o ho; exact Heap.set_ne _ _ ho
    · intro o h1 h2; rw [Heap.set_ne _ _ (by omega)]; exact hF o h1 h2
    simp -implicitDefEqProofs -dsimp +contextual (maxSteps := 9999999) (disch := first | omega | simp only [go_sem] <;> omega | refine ib ?_; kernel_rfl) only [go_sem, seval, ↓reduceIte]
    exact k _ hE (fun o ho => (hfr o ho).trans (Heap.set_ne _ _ (by omega)))

end Go.Proofs.YtnpkhdjgedeppaaDoor
