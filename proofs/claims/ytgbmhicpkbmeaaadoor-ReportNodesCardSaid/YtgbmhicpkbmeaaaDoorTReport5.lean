import Derived.Test.YtgbmhicpkbmeaaaDoorTOwng3
namespace Go.Proofs.YtgbmhicpkbmeaaaDoor
open Go.Am
set_option linter.unusedSimpArgs false
set_option linter.unusedVariables false
set_option maxRecDepth 100000
/-! Layer 44: nodes as lines. -/
theorem tabS_len (n : Nd) : (tabS n).length = n.pred.length + n.list.length + n.fingers.length := by simp [tabS]; omega
theorem workS_len (n : Nd) : (workS n).length = n.sessions.length + n.pends.length + n.jobs.length + n.results.length := by simp [workS]; omega
theorem strRow_app (a b : List (List UInt8)) : a.map strRow ++ b.map strRow = (a ++ b).map strRow := by simp
set_option maxHeartbeats 4000000 in
@[go_sem] theorem e11 (n : Nd) (h : n.ok) (s : n.small) : fn C 11 [] [.agg [.str n.me.name, .int .u64 (n.me.id : Int), .int .i64 n.me.fr, .int .i64 n.me.un, .int .i64 n.me.ix, .str n.me.tag, .int .i64 n.clock, .str n.psk, .int .i64 n.gateI, .str n.gateK, .bool n.ready, .slice 8 (n.pred.map Pr.cs), .slice 8 (n.list.map Pr.cs), .slice 9 (n.fingers.map Fg.cs), .slice 20 (n.sessions.map Se.cs), .slice 23 (n.pends.map Pd.cs), .slice 4 (n.items.map It.cs), .slice 29 (n.jobs.map Jb.cs), .int .i64 n.rid, .int .i64 n.jobId, .slice 1 (n.draws.map u64Row), .slice 8 (n.results.map Rs.cs)]] = some (.slice 1 ((nodeS n).map strRow), []) := by
  rw [fn_text Tryd.func11 rfl rfl Tryd.results11 fq11.1 rfl rfl (by kernel_rfl)]
  have q0 := s.il
  have q1 := s.pl; have q2 := s.ll; have q3 := s.fl; have q4 := s.sl; have q5 := s.dl; have q6 := s.jl; have q7 := s.rl
  have h1 := entS_le n.me h.me
  have h2 := s.me.n
  have h3 := itoa_le n.clock h.clock.1 h.clock.2
  have h4 := itoa_le n.gateI h.gate.1 h.gate.2
  have h5 := h.me; have h6 := h.clock; have h7 := h.gate
  have ht := tabS_len n; have hw := workS_len n
  have hme : ∀ st, st = (if n.ready = true then [114, 101, 97, 100, 121] else [105, 100, 108, 101]) → [.str ([109, 101] ++ [32] ++ entS n.me ++ [32] ++ [99, 108, 111, 99, 107] ++ [32] ++ Lib.itoa n.clock ++ [32] ++ [103, 97, 116, 101] ++ [32] ++ Lib.itoa n.gateI ++ [32] ++ st)] = strRow (meS n) := by
    intro st hs; subst hs; unfold meS strRow; split <;> simp
  have t1 := e39 n h s
  have t2 := e41 n h s
  cases hr : n.ready
  all_goals
    have hm := hme _ rfl
    simp only [hr, if_true, if_false, Bool.false_eq_true] at hm t1 t2
    simp only [List.cons_append, List.nil_append, List.append_assoc] at hm
    simp -implicitDefEqProofs -dsimp +contextual (maxSteps := 9999999) (disch := first | omega | simp only [go_sem] <;> omega | refine ib ?_; kernel_rfl) only [go_sem, seval, ↓reduceIte, hr, h, s, hm, ht, t1]
    refine kFor n.items.length (fun i f H => f 1 = .ptr 101 1 0 0 ∧ H 101 = ⟨1, .live, 22, [n.cs], false⟩ ∧ f 29 = .slice 4 (n.items.map It.cs) ∧ f 30 = .int .i64 n.items.length ∧ f 31 = .int .i64 (i : Nat) ∧ Acc f H 4 123 ([meS n] ++ tabS n ++ (n.items.take i).map itS)) ?_ ?_ ?_
    · rintro i f H hi ⟨f1, hH, f12, f13, f14, g, f3, hA⟩ ih
      have k1 := (h.items _ (List.getElem_mem hi)).n
      have k2 := (s.i _ (List.getElem_mem hi)).k
      have k3 := (s.i _ (List.getElem_mem hi)).v
      have k4 := itoa_le _ k1.1 k1.2
      have k5 := bytesR_le n.items[i].v
      have hm := more_row ([meS n] ++ tabS n) itS n.items i hi
      have hl : ([meS n] ++ tabS n ++ (n.items.take i).map itS).length ≤ 1000 := by simp; omega
      generalize [meS n] ++ tabS n ++ (n.items.take i).map itS = r at *
      simp -implicitDefEqProofs -dsimp +contextual (maxSteps := 9999999) (disch := first | omega | simp only [go_sem] <;> omega | refine ib ?_; kernel_rfl) only [go_sem, seval, ↓reduceIte, f1, f3, f12, f13, f14, hH, hA, hi]
      (repeat' (refine kD_intro (fun _ => ?_) (fun _ => ?_)))
      · rename_i hc
        refine ih _ _ ⟨f1, ?_, f12, f13, rfl, ?_⟩
        · simp [Heap.set, hH]
        · rw [hm]; exact ⟨_, by rw [List.length_append]; rfl, by rw [List.map_append]; simp [Heap.set, hA, itS, hc]; rfl⟩
      · rename_i hc
        refine ih _ _ ⟨f1, ?_, f12, f13, rfl, ?_⟩
        · simp [Heap.set, hH]
        · rw [hm]; exact ⟨_, by rw [List.length_append]; rfl, by rw [List.map_append]; simp [Heap.set, hA, itS, hc]; rfl⟩
    · rintro f H ⟨f1, hH, f12, f13, f14, g, f3, hA⟩
      rw [List.take_length] at f3 hA
      have hl : ([meS n] ++ tabS n ++ n.items.map itS).length ≤ 1000 := by simp; omega
      have e : ([meS n] ++ tabS n ++ n.items.map itS) ++ workS n = nodeS n := by simp [nodeS]
      generalize [meS n] ++ tabS n ++ n.items.map itS = r at *
      simp -implicitDefEqProofs -dsimp +contextual (maxSteps := 9999999) (disch := first | omega | simp only [go_sem] <;> omega | refine ib ?_; kernel_rfl) only [go_sem, seval, ↓reduceIte, f1, f3, f12, f13, f14, hH, hA, Nd.cs, hr, t2, hw]
      rw [e]
    · refine ⟨rfl, ?_, rfl, rfl, rfl, 2, ?_, ?_⟩
      · simp [Heap.set, Nd.cs, hr]
      · simp [upd, ht]; omega
      · simp [Heap.set, ← hm]

end Go.Proofs.YtgbmhicpkbmeaaaDoor
namespace Go.Proofs.YtgbmhicpkbmeaaaDoor
open Go.Am
set_option linter.unusedSimpArgs false
set_option linter.unusedVariables false
set_option maxRecDepth 100000
/-! Layer 44, by the document: nodes as lines. -/
set_option maxHeartbeats 8000000 in
@[go_sem] theorem e12 (n : Nd) (h : n.ok) (s : n.small) : fn C 12 [] [.agg [.str n.me.name, .int .u64 (n.me.id : Int), .int .i64 n.me.fr, .int .i64 n.me.un, .int .i64 n.me.ix, .str n.me.tag, .int .i64 n.clock, .str n.psk, .int .i64 n.gateI, .str n.gateK, .bool n.ready, .slice 8 (n.pred.map Pr.cs), .slice 8 (n.list.map Pr.cs), .slice 9 (n.fingers.map Fg.cs), .slice 20 (n.sessions.map Se.cs), .slice 23 (n.pends.map Pd.cs), .slice 4 (n.items.map It.cs), .slice 29 (n.jobs.map Jb.cs), .int .i64 n.rid, .int .i64 n.jobId, .slice 1 (n.draws.map u64Row), .slice 8 (n.results.map Rs.cs)]] = some (.slice 1 ((nodeS n).map strRow), []) := by
  rw [fn_text Tryd.func12 rfl rfl Tryd.results12 fq12.1 rfl rfl (by kernel_rfl)]
  have q0 := s.il
  have q1 := s.pl; have q2 := s.ll; have q3 := s.fl; have q4 := s.sl; have q5 := s.dl; have q6 := s.jl; have q7 := s.rl
  have h1 := entS_le n.me h.me
  have h2 := s.me.n
  have h3 := itoa_le n.clock h.clock.1 h.clock.2
  have h4 := itoa_le n.gateI h.gate.1 h.gate.2
  have h5 := h.me; have h6 := h.clock; have h7 := h.gate
  cases hr : n.ready
  all_goals
    simp -implicitDefEqProofs -dsimp +contextual (maxSteps := 9999999) (disch := first | omega | simp only [go_sem] <;> omega | refine ib ?_; kernel_rfl) only [go_sem, seval, ↓reduceIte, hr]
    refine kFor n.pred.length (fun i f H => f 1 = .ptr 101 1 0 0 ∧ H 101 = ⟨1, .live, 22, [n.cs], false⟩ ∧ f 5 = .int .i64 (i : Nat) ∧ Acc f H 4 138 ([meS n] ++ (n.pred.take i).map (prS [112, 114, 101, 100]))) ?_ ?_ (by refine ⟨rfl, by simp [Heap.set, Nd.cs, hr], rfl, 1, by simp [upd], by simp [Heap.set, meS, hr, strRow]⟩)
    · rintro i f H hi ⟨f1, hH, f14, g, f3, hA⟩ ih
      have k1 := h.pred _ (List.getElem_mem hi)
      have k2 := (s.p _ (List.getElem_mem hi)).n
      have b0 := entS_le _ k1.e
      have b1 := itoa_le _ k1.s1 k1.s2
      obtain ⟨o1, o2, o3, o4, o5⟩ := k1
      have hm := more_row ([meS n]) (prS [112, 114, 101, 100]) n.pred i hi
      have hl : ([meS n] ++ (n.pred.take i).map (prS [112, 114, 101, 100])).length ≤ 1000 := by simp; omega
      generalize [meS n] ++ (n.pred.take i).map (prS [112, 114, 101, 100]) = r at *
      simp -implicitDefEqProofs -dsimp +contextual (maxSteps := 9999999) (disch := first | omega | simp only [go_sem] <;> omega | refine ib ?_; kernel_rfl) only [go_sem, seval, ↓reduceIte, f1, f3, f14, hH, hA, hi, Nd.cs]
      refine ih _ _ ⟨f1, ?_, rfl, ?_⟩
      · simp [Heap.set, hH, Nd.cs]
      · rw [hm]; exact ⟨_, by rw [List.length_append]; rfl, by rw [List.map_append]; simp [Heap.set, hA, prS]; rfl⟩
    rintro f H ⟨f1, hH, f14, g, f3, hA⟩
    rw [List.take_length] at f3 hA
    simp -implicitDefEqProofs -dsimp +contextual (maxSteps := 9999999) (disch := first | omega | simp only [go_sem] <;> omega | refine ib ?_; kernel_rfl) only [go_sem, seval, ↓reduceIte, f1, f3, f14, hH, hA, Nd.cs]
    refine kFor n.list.length (fun i f H => f 1 = .ptr 101 1 0 0 ∧ H 101 = ⟨1, .live, 22, [n.cs], false⟩ ∧ f 6 = .int .i64 (i : Nat) ∧ Acc f H 4 138 ([meS n] ++ n.pred.map (prS [112, 114, 101, 100]) ++ (n.list.take i).map (prS [112, 101, 101, 114]))) ?_ ?_ (by refine ⟨f1, hH, rfl, ?_⟩; rw [List.take_zero, List.map_nil, List.append_nil]; exact ⟨g, f3, hA⟩)
    · rintro i f H hi ⟨f1, hH, f14, g, f3, hA⟩ ih
      have k1 := h.list _ (List.getElem_mem hi)
      have k2 := (s.l _ (List.getElem_mem hi)).n
      have b0 := entS_le _ k1.e
      have b1 := itoa_le _ k1.s1 k1.s2
      obtain ⟨o1, o2, o3, o4, o5⟩ := k1
      have hm := more_row ([meS n] ++ n.pred.map (prS [112, 114, 101, 100])) (prS [112, 101, 101, 114]) n.list i hi
      have hl : ([meS n] ++ n.pred.map (prS [112, 114, 101, 100]) ++ (n.list.take i).map (prS [112, 101, 101, 114])).length ≤ 1000 := by simp; omega
      generalize [meS n] ++ n.pred.map (prS [112, 114, 101, 100]) ++ (n.list.take i).map (prS [112, 101, 101, 114]) = r at *
      simp -implicitDefEqProofs -dsimp +contextual (maxSteps := 9999999) (disch := first | omega | simp only [go_sem] <;> omega | refine ib ?_; kernel_rfl) only [go_sem, seval, ↓reduceIte, f1, f3, f14, hH, hA, hi, Nd.cs]
      refine ih _ _ ⟨f1, ?_, rfl, ?_⟩
      · simp [Heap.set, hH, Nd.cs]
      · rw [hm]; exact ⟨_, by rw [List.length_append]; rfl, by rw [List.map_append]; simp [Heap.set, hA, prS]; rfl⟩
    rintro f H ⟨f1, hH, f14, g, f3, hA⟩
    rw [List.take_length] at f3 hA
    simp -implicitDefEqProofs -dsimp +contextual (maxSteps := 9999999) (disch := first | omega | simp only [go_sem] <;> omega | refine ib ?_; kernel_rfl) only [go_sem, seval, ↓reduceIte, f1, f3, f14, hH, hA, Nd.cs]
    refine kFor n.fingers.length (fun i f H => f 1 = .ptr 101 1 0 0 ∧ H 101 = ⟨1, .live, 22, [n.cs], false⟩ ∧ f 7 = .int .i64 (i : Nat) ∧ Acc f H 4 138 ([meS n] ++ n.pred.map (prS [112, 114, 101, 100]) ++ n.list.map (prS [112, 101, 101, 114]) ++ (n.fingers.take i).map fgS)) ?_ ?_ (by refine ⟨f1, hH, rfl, ?_⟩; rw [List.take_zero, List.map_nil, List.append_nil]; exact ⟨g, f3, hA⟩)
    · rintro i f H hi ⟨f1, hH, f14, g, f3, hA⟩ ih
      have k1 := (h.fingers _ (List.getElem_mem hi)).b
      have k2 := (s.f _ (List.getElem_mem hi)).n
      have b1 := itoa_le _ k1.1 k1.2
      have hz := zeroPr_iff n.fingers[i].p
      have hm := more_row ([meS n] ++ n.pred.map (prS [112, 114, 101, 100]) ++ n.list.map (prS [112, 101, 101, 114])) fgS n.fingers i hi
      have hl : ([meS n] ++ n.pred.map (prS [112, 114, 101, 100]) ++ n.list.map (prS [112, 101, 101, 114]) ++ (n.fingers.take i).map fgS).length ≤ 1000 := by simp; omega
      generalize [meS n] ++ n.pred.map (prS [112, 114, 101, 100]) ++ n.list.map (prS [112, 101, 101, 114]) ++ (n.fingers.take i).map fgS = r at *
      simp -implicitDefEqProofs -dsimp +contextual (maxSteps := 9999999) (disch := first | omega | simp only [go_sem] <;> omega | refine ib ?_; kernel_rfl) only [go_sem, seval, ↓reduceIte, f1, f3, f14, hH, hA, hi, Nd.cs]
      (repeat' (refine kD_intro (fun _ => ?_) (fun _ => ?_)))
      · rename_i hc
        have hc' := hz.2 hc
        refine ih _ _ ⟨f1, ?_, rfl, ?_⟩
        · simp [Heap.set, hH, Nd.cs]
        · rw [hm]; exact ⟨_, by rw [List.length_append]; rfl, by rw [List.map_append]; simp [Heap.set, hA, fgS, hc']; rfl⟩
      · rename_i hc
        have hc' : ¬ n.fingers[i].p = zeroPr := fun e => hc (hz.1 e)
        refine ih _ _ ⟨f1, ?_, rfl, ?_⟩
        · simp [Heap.set, hH, Nd.cs]
        · rw [hm]; exact ⟨_, by rw [List.length_append]; rfl, by rw [List.map_append]; simp [Heap.set, hA, fgS, hc']; rfl⟩
    rintro f H ⟨f1, hH, f14, g, f3, hA⟩
    rw [List.take_length] at f3 hA
    simp -implicitDefEqProofs -dsimp +contextual (maxSteps := 9999999) (disch := first | omega | simp only [go_sem] <;> omega | refine ib ?_; kernel_rfl) only [go_sem, seval, ↓reduceIte, f1, f3, f14, hH, hA, Nd.cs]
    refine kFor n.items.length (fun i f H => f 1 = .ptr 101 1 0 0 ∧ H 101 = ⟨1, .live, 22, [n.cs], false⟩ ∧ f 9 = .int .i64 (i : Nat) ∧ Acc f H 4 138 ([meS n] ++ n.pred.map (prS [112, 114, 101, 100]) ++ n.list.map (prS [112, 101, 101, 114]) ++ n.fingers.map fgS ++ (n.items.take i).map itS)) ?_ ?_ (by refine ⟨f1, hH, rfl, ?_⟩; rw [List.take_zero, List.map_nil, List.append_nil]; exact ⟨g, f3, hA⟩)
    · rintro i f H hi ⟨f1, hH, f14, g, f3, hA⟩ ih
      have k1 := (h.items _ (List.getElem_mem hi)).n
      have k2 := (s.i _ (List.getElem_mem hi)).k
      have k3 := (s.i _ (List.getElem_mem hi)).v
      have k4 := itoa_le _ k1.1 k1.2
      have k5 := bytesR_le n.items[i].v
      have hm := more_row ([meS n] ++ n.pred.map (prS [112, 114, 101, 100]) ++ n.list.map (prS [112, 101, 101, 114]) ++ n.fingers.map fgS) itS n.items i hi
      have hl : ([meS n] ++ n.pred.map (prS [112, 114, 101, 100]) ++ n.list.map (prS [112, 101, 101, 114]) ++ n.fingers.map fgS ++ (n.items.take i).map itS).length ≤ 1000 := by simp; omega
      generalize [meS n] ++ n.pred.map (prS [112, 114, 101, 100]) ++ n.list.map (prS [112, 101, 101, 114]) ++ n.fingers.map fgS ++ (n.items.take i).map itS = r at *
      simp -implicitDefEqProofs -dsimp +contextual (maxSteps := 9999999) (disch := first | omega | simp only [go_sem] <;> omega | refine ib ?_; kernel_rfl) only [go_sem, seval, ↓reduceIte, f1, f3, f14, hH, hA, hi, Nd.cs]
      (repeat' (refine kD_intro (fun _ => ?_) (fun _ => ?_)))
      · rename_i hc
        refine ih _ _ ⟨f1, ?_, rfl, ?_⟩
        · simp [Heap.set, hH, Nd.cs]
        · rw [hm]; exact ⟨_, by rw [List.length_append]; rfl, by rw [List.map_append]; simp [Heap.set, hA, itS, hc]; rfl⟩
      · rename_i hc
        refine ih _ _ ⟨f1, ?_, rfl, ?_⟩
        · simp [Heap.set, hH, Nd.cs]
        · rw [hm]; exact ⟨_, by rw [List.length_append]; rfl, by rw [List.map_append]; simp [Heap.set, hA, itS, hc]; rfl⟩
    rintro f H ⟨f1, hH, f14, g, f3, hA⟩
    rw [List.take_length] at f3 hA
    simp -implicitDefEqProofs -dsimp +contextual (maxSteps := 9999999) (disch := first | omega | simp only [go_sem] <;> omega | refine ib ?_; kernel_rfl) only [go_sem, seval, ↓reduceIte, f1, f3, f14, hH, hA, Nd.cs]
    refine kFor n.sessions.length (fun i f H => f 1 = .ptr 101 1 0 0 ∧ H 101 = ⟨1, .live, 22, [n.cs], false⟩ ∧ f 11 = .int .i64 (i : Nat) ∧ Acc f H 4 138 ([meS n] ++ n.pred.map (prS [112, 114, 101, 100]) ++ n.list.map (prS [112, 101, 101, 114]) ++ n.fingers.map fgS ++ n.items.map itS ++ (n.sessions.take i).map seS)) ?_ ?_ (by refine ⟨f1, hH, rfl, ?_⟩; rw [List.take_zero, List.map_nil, List.append_nil]; exact ⟨g, f3, hA⟩)
    · rintro i f H hi ⟨f1, hH, f14, g, f3, hA⟩ ih
      have k1 := h.sessions _ (List.getElem_mem hi)
      have k2 := (s.s _ (List.getElem_mem hi)).p.n
      have b1 := itoa_le _ k1.role.1 k1.role.2
      have b2 := itoa_le _ k1.state.1 k1.state.2
      have b3 := itoa_le _ k1.epoch.1 k1.epoch.2
      have b4 := itoa_le _ k1.seq.1 k1.seq.2
      have b5 := itoa_le _ k1.top.1 k1.top.2
      have b6 := hexR_len n.sessions[i].id
      obtain ⟨o1, o2, o3, o4, o5, o6, o7, o8, o9, o10, o11, o12, o13⟩ := k1
      have hm := more_row ([meS n] ++ n.pred.map (prS [112, 114, 101, 100]) ++ n.list.map (prS [112, 101, 101, 114]) ++ n.fingers.map fgS ++ n.items.map itS) seS n.sessions i hi
      have hl : ([meS n] ++ n.pred.map (prS [112, 114, 101, 100]) ++ n.list.map (prS [112, 101, 101, 114]) ++ n.fingers.map fgS ++ n.items.map itS ++ (n.sessions.take i).map seS).length ≤ 1000 := by simp; omega
      generalize [meS n] ++ n.pred.map (prS [112, 114, 101, 100]) ++ n.list.map (prS [112, 101, 101, 114]) ++ n.fingers.map fgS ++ n.items.map itS ++ (n.sessions.take i).map seS = r at *
      simp -implicitDefEqProofs -dsimp +contextual (maxSteps := 9999999) (disch := first | omega | simp only [go_sem] <;> omega | refine ib ?_; kernel_rfl) only [go_sem, seval, ↓reduceIte, f1, f3, f14, hH, hA, hi, Nd.cs]
      refine ih _ _ ⟨f1, ?_, rfl, ?_⟩
      · simp [Heap.set, hH, Nd.cs]
      · rw [hm]; exact ⟨_, by rw [List.length_append]; rfl, by rw [List.map_append]; simp [Heap.set, hA, seS]; rfl⟩
    rintro f H ⟨f1, hH, f14, g, f3, hA⟩
    rw [List.take_length] at f3 hA
    simp -implicitDefEqProofs -dsimp +contextual (maxSteps := 9999999) (disch := first | omega | simp only [go_sem] <;> omega | refine ib ?_; kernel_rfl) only [go_sem, seval, ↓reduceIte, f1, f3, f14, hH, hA, Nd.cs]
    refine kFor n.pends.length (fun i f H => f 1 = .ptr 101 1 0 0 ∧ H 101 = ⟨1, .live, 22, [n.cs], false⟩ ∧ f 13 = .int .i64 (i : Nat) ∧ Acc f H 4 138 ([meS n] ++ n.pred.map (prS [112, 114, 101, 100]) ++ n.list.map (prS [112, 101, 101, 114]) ++ n.fingers.map fgS ++ n.items.map itS ++ n.sessions.map seS ++ (n.pends.take i).map pdS)) ?_ ?_ (by refine ⟨f1, hH, rfl, ?_⟩; rw [List.take_zero, List.map_nil, List.append_nil]; exact ⟨g, f3, hA⟩)
    · rintro i f H hi ⟨f1, hH, f14, g, f3, hA⟩ ih
      have k1 := h.pends _ (List.getElem_mem hi)
      have k2 := (s.d _ (List.getElem_mem hi)).t.n
      have b1 := itoa_le _ k1.rid.1 k1.rid.2
      have b2 := itoa_le _ k1.why.1 k1.why.2
      obtain ⟨o1, o2, o3, o4, o5, o6, o7, o8⟩ := k1
      have hm := more_row ([meS n] ++ n.pred.map (prS [112, 114, 101, 100]) ++ n.list.map (prS [112, 101, 101, 114]) ++ n.fingers.map fgS ++ n.items.map itS ++ n.sessions.map seS) pdS n.pends i hi
      have hl : ([meS n] ++ n.pred.map (prS [112, 114, 101, 100]) ++ n.list.map (prS [112, 101, 101, 114]) ++ n.fingers.map fgS ++ n.items.map itS ++ n.sessions.map seS ++ (n.pends.take i).map pdS).length ≤ 1000 := by simp; omega
      generalize [meS n] ++ n.pred.map (prS [112, 114, 101, 100]) ++ n.list.map (prS [112, 101, 101, 114]) ++ n.fingers.map fgS ++ n.items.map itS ++ n.sessions.map seS ++ (n.pends.take i).map pdS = r at *
      simp -implicitDefEqProofs -dsimp +contextual (maxSteps := 9999999) (disch := first | omega | simp only [go_sem] <;> omega | refine ib ?_; kernel_rfl) only [go_sem, seval, ↓reduceIte, f1, f3, f14, hH, hA, hi, Nd.cs]
      refine ih _ _ ⟨f1, ?_, rfl, ?_⟩
      · simp [Heap.set, hH, Nd.cs]
      · rw [hm]; exact ⟨_, by rw [List.length_append]; rfl, by rw [List.map_append]; simp [Heap.set, hA, pdS]; rfl⟩
    rintro f H ⟨f1, hH, f14, g, f3, hA⟩
    rw [List.take_length] at f3 hA
    simp -implicitDefEqProofs -dsimp +contextual (maxSteps := 9999999) (disch := first | omega | simp only [go_sem] <;> omega | refine ib ?_; kernel_rfl) only [go_sem, seval, ↓reduceIte, f1, f3, f14, hH, hA, Nd.cs]
    refine kFor n.jobs.length (fun i f H => f 1 = .ptr 101 1 0 0 ∧ H 101 = ⟨1, .live, 22, [n.cs], false⟩ ∧ f 14 = .int .i64 (i : Nat) ∧ Acc f H 4 138 ([meS n] ++ n.pred.map (prS [112, 114, 101, 100]) ++ n.list.map (prS [112, 101, 101, 114]) ++ n.fingers.map fgS ++ n.items.map itS ++ n.sessions.map seS ++ n.pends.map pdS ++ (n.jobs.take i).map jbS)) ?_ ?_ (by refine ⟨f1, hH, rfl, ?_⟩; rw [List.take_zero, List.map_nil, List.append_nil]; exact ⟨g, f3, hA⟩)
    · rintro i f H hi ⟨f1, hH, f14, g, f3, hA⟩ ih
      have k1 := h.jobs _ (List.getElem_mem hi)
      have k2 := (s.j _ (List.getElem_mem hi)).k
      have b1 := itoa_le _ k1.id.1 k1.id.2
      have b2 := itoa_le _ k1.kind.1 k1.kind.2
      obtain ⟨o1, o2, o3, o4, o5, o6, o7, o8, o9, o10, o11, o12, o13⟩ := k1
      have hm := more_row ([meS n] ++ n.pred.map (prS [112, 114, 101, 100]) ++ n.list.map (prS [112, 101, 101, 114]) ++ n.fingers.map fgS ++ n.items.map itS ++ n.sessions.map seS ++ n.pends.map pdS) jbS n.jobs i hi
      have hl : ([meS n] ++ n.pred.map (prS [112, 114, 101, 100]) ++ n.list.map (prS [112, 101, 101, 114]) ++ n.fingers.map fgS ++ n.items.map itS ++ n.sessions.map seS ++ n.pends.map pdS ++ (n.jobs.take i).map jbS).length ≤ 1000 := by simp; omega
      generalize [meS n] ++ n.pred.map (prS [112, 114, 101, 100]) ++ n.list.map (prS [112, 101, 101, 114]) ++ n.fingers.map fgS ++ n.items.map itS ++ n.sessions.map seS ++ n.pends.map pdS ++ (n.jobs.take i).map jbS = r at *
      simp -implicitDefEqProofs -dsimp +contextual (maxSteps := 9999999) (disch := first | omega | simp only [go_sem] <;> omega | refine ib ?_; kernel_rfl) only [go_sem, seval, ↓reduceIte, f1, f3, f14, hH, hA, hi, Nd.cs]
      refine ih _ _ ⟨f1, ?_, rfl, ?_⟩
      · simp [Heap.set, hH, Nd.cs]
      · rw [hm]; exact ⟨_, by rw [List.length_append]; rfl, by rw [List.map_append]; simp [Heap.set, hA, jbS]; rfl⟩
    rintro f H ⟨f1, hH, f14, g, f3, hA⟩
    rw [List.take_length] at f3 hA
    simp -implicitDefEqProofs -dsimp +contextual (maxSteps := 9999999) (disch := first | omega | simp only [go_sem] <;> omega | refine ib ?_; kernel_rfl) only [go_sem, seval, ↓reduceIte, f1, f3, f14, hH, hA, Nd.cs]
    refine kFor n.results.length (fun i f H => f 1 = .ptr 101 1 0 0 ∧ H 101 = ⟨1, .live, 22, [n.cs], false⟩ ∧ f 15 = .int .i64 (i : Nat) ∧ Acc f H 4 138 ([meS n] ++ n.pred.map (prS [112, 114, 101, 100]) ++ n.list.map (prS [112, 101, 101, 114]) ++ n.fingers.map fgS ++ n.items.map itS ++ n.sessions.map seS ++ n.pends.map pdS ++ n.jobs.map jbS ++ (n.results.take i).map resS)) ?_ ?_ (by refine ⟨f1, hH, rfl, ?_⟩; rw [List.take_zero, List.map_nil, List.append_nil]; exact ⟨g, f3, hA⟩)
    · rintro i f H hi ⟨f1, hH, f14, g, f3, hA⟩ ih
      have k1 := h.results _ (List.getElem_mem hi)
      have k2 := (s.r _ (List.getElem_mem hi)).k
      have k3 := (s.r _ (List.getElem_mem hi)).v
      have hm := more_row ([meS n] ++ n.pred.map (prS [112, 114, 101, 100]) ++ n.list.map (prS [112, 101, 101, 114]) ++ n.fingers.map fgS ++ n.items.map itS ++ n.sessions.map seS ++ n.pends.map pdS ++ n.jobs.map jbS) resS n.results i hi
      have hl : ([meS n] ++ n.pred.map (prS [112, 114, 101, 100]) ++ n.list.map (prS [112, 101, 101, 114]) ++ n.fingers.map fgS ++ n.items.map itS ++ n.sessions.map seS ++ n.pends.map pdS ++ n.jobs.map jbS ++ (n.results.take i).map resS).length ≤ 1000 := by simp; omega
      generalize [meS n] ++ n.pred.map (prS [112, 114, 101, 100]) ++ n.list.map (prS [112, 101, 101, 114]) ++ n.fingers.map fgS ++ n.items.map itS ++ n.sessions.map seS ++ n.pends.map pdS ++ n.jobs.map jbS ++ (n.results.take i).map resS = r at *
      simp -implicitDefEqProofs -dsimp +contextual (maxSteps := 9999999) (disch := first | omega | simp only [go_sem] <;> omega | refine ib ?_; kernel_rfl) only [go_sem, seval, ↓reduceIte, f1, f3, f14, hH, hA, hi, Nd.cs, k1]
      refine ih _ _ ⟨f1, ?_, rfl, ?_⟩
      · simp [Heap.set, hH, Nd.cs]
      · rw [hm]; exact ⟨_, by rw [List.length_append]; rfl, by rw [List.map_append]; rfl⟩
    rintro f H ⟨f1, hH, f14, g, f3, hA⟩
    rw [List.take_length] at f3 hA
    simp -implicitDefEqProofs -dsimp +contextual (maxSteps := 9999999) (disch := first | omega | simp only [go_sem] <;> omega | refine ib ?_; kernel_rfl) only [go_sem, seval, ↓reduceIte, f1, f3, f14, hH, hA, Nd.cs]
    simp [nodeS, tabS, workS]; rfl

end Go.Proofs.YtgbmhicpkbmeaaaDoor
namespace Go.Proofs.YtgbmhicpkbmeaaaDoor
open Go.Am
set_option linter.unusedSimpArgs false
set_option linter.unusedVariables false
set_option maxRecDepth 100000
/-! Layer 44: the statements. -/
theorem take_eq_step {α : Type} {a b : List α} {i : Nat} (ha : i < a.length) (hb : i < b.length) (ht : a.take i = b.take i) (he : a[i] = b[i]) : a.take (i + 1) = b.take (i + 1) := by
  rw [List.take_succ_eq_append_getElem ha, List.take_succ_eq_append_getElem hb, ht, he]
theorem take_eq_end {α : Type} {a b : List α} (hl : a.length = b.length) (ht : a.take a.length = b.take a.length) : a = b := by
  rwa [List.take_length, hl, List.take_length] at ht
theorem take_ne {α : Type} {a b : List α} {i : Nat} (ha : i < a.length) (hb : i < b.length) (he : ¬ a[i] = b[i]) : ¬ a = b := fun e => he (by subst e; rfl)
@[go_sem] theorem e10 (a b : List (List UInt8)) (hl : a.length ≤ 9223372036854775807) : fn C 10 [] [.slice 1 (a.map strRow), .slice 1 (b.map strRow)] = some (.bool (decide (a = b)), []) := by
  rw [fn_text Tryd.func10 rfl rfl Tryd.results10 fq10.1 rfl rfl (by kernel_rfl)]
  by_cases h1 : a.length = b.length
  · simp -implicitDefEqProofs -dsimp +contextual (maxSteps := 9999999) (disch := first | omega | simp only [go_sem] <;> omega | refine ib ?_; kernel_rfl) only [go_sem, seval, ↓reduceIte, h1]
    refine kFor a.length (fun i f H => f 0 = .slice 1 (a.map strRow) ∧ f 1 = .slice 1 (b.map strRow) ∧ f 5 = .int .i64 (i : Nat) ∧ H = Heap.nil ∧ a.take i = b.take i) ?_ ?_ (by exact ⟨rfl, rfl, rfl, rfl, rfl⟩)
    · rintro i f _ hi ⟨f0, f1, f5, rfl, ht⟩ ih
      have hi2 : i < b.length := by omega
      simp -implicitDefEqProofs -dsimp +contextual (maxSteps := 9999999) (disch := first | omega | simp only [go_sem] <;> omega | refine ib ?_; kernel_rfl) only [go_sem, seval, ↓reduceIte, f0, f1, f5, hi, hi2]
      (repeat' (refine kD_intro (fun _ => ?_) (fun _ => ?_)))
      · rename_i he; exact ih _ _ ⟨f0, f1, rfl, rfl, take_eq_step hi hi2 ht he⟩
      · rename_i he; exact Res_bool (by simp [take_ne hi hi2 he])
    · rintro f _ ⟨f0, f1, f5, rfl, ht⟩
      simp -implicitDefEqProofs -dsimp +contextual (maxSteps := 9999999) (disch := first | omega | simp only [go_sem] <;> omega | refine ib ?_; kernel_rfl) only [go_sem, seval, ↓reduceIte, f0, f1, f5, h1]
      exact Res_bool (by simp [take_eq_end h1 ht])
  · simp -implicitDefEqProofs -dsimp +contextual (maxSteps := 9999999) (disch := first | omega | simp only [go_sem] <;> omega | refine ib ?_; kernel_rfl) only [go_sem, seval, ↓reduceIte, h1]
    exact Res_bool (by simp; intro e; exact h1 (by rw [e]))

def workN : Nd := ⟨⟨[97], 5, 0, 0, 0, []⟩, 0, [], 0, [], false, [], [], [], [], [], [], [], 0, 0, [], []⟩
theorem workN_ok : workN.ok := ⟨⟨by decide, by decide, by decide, by decide, by decide, by decide, by decide⟩, by decide, by decide, by simp [workN], by simp [workN], by simp [workN], by simp [workN], by simp [workN], by simp [workN], by simp [workN], by decide, by decide, by simp [workN], by simp [workN]⟩
theorem workN_small : workN.small := greatN_no rfl
theorem itoa0 : Lib.itoa 0 = [48] := by rw [Lib.itoa, if_neg (by decide), show (0 : Int).toNat = 0 from rfl, Lib.decDigits_one (by decide)]; rfl
theorem itoa37 : Lib.itoa 37 = [51, 55] := by rw [Lib.itoa, if_neg (by decide), show (37 : Int).toNat = 37 from rfl, Lib.decDigits_two (by decide) (by decide)]; rfl
theorem workN_S : nodeS workN = [[109, 101, 32, 97, 32, 48, 48, 48, 48, 48, 48, 48, 48, 48, 48, 48, 48, 48, 48, 48, 53, 32, 48, 32, 48, 32, 48, 32, 99, 108, 111, 99, 107, 32, 48, 32, 103, 97, 116, 101, 32, 48, 32, 105, 100, 108, 101]] := by
  simp only [nodeS, meS, tabS, workS, workN, entS, itoa0]
  rfl
set_option maxHeartbeats 4000000 in
@[go_sem] theorem e13 : fn C 13 [] [] = some (.bool true, []) := by
  rw [fn_text Tryd.func13 rfl rfl Tryd.results13 fq13.1 rfl rfl (by kernel_rfl)]
  have h := e11 workN workN_ok workN_small
  rw [workN_S] at h
  simp only [workN, List.map_nil, Int.cast_ofNat_Int, List.map_cons, strRow] at h
  have h2 := e19 [97] [98] (3 :: List.replicate 36 0) (by decide) (by decide) (by decide)
  have h3 : packS [97] [98] (3 :: List.replicate 36 0) = [97, 32, 62, 32, 98, 32, 114, 101, 99, 111, 114, 100, 32, 51, 55] := by
    rw [packS, show (((3 :: List.replicate 36 0 : List UInt8).length : Nat) : Int) = 37 from rfl, itoa37]; rfl
  rw [h3] at h2
  simp only [List.map_cons, List.map_replicate, byteRow, List.replicate, List.map_nil, show ((UInt8.toNat 3 : Nat) : Int) = 3 from rfl, show ((UInt8.toNat 0 : Nat) : Int) = 0 from rfl] at h2
  simp -implicitDefEqProofs -dsimp +contextual (maxSteps := 9999999) (disch := first | omega | simp only [go_sem] <;> omega | refine ib ?_; kernel_rfl) only [go_sem, seval, ↓reduceIte, h, h2]

theorem nodeS_len (n : Nd) : (nodeS n).length = 1 + n.pred.length + n.list.length + n.fingers.length + n.items.length + n.sessions.length + n.pends.length + n.jobs.length + n.results.length := by
  simp [nodeS, tabS, workS]; omega
set_option maxHeartbeats 4000000 in
theorem e3 (n : Nd) (h : n.ok) (hf : n.fit) : fn C 3 [] [.agg [.str n.me.name, .int .u64 (n.me.id : Int), .int .i64 n.me.fr, .int .i64 n.me.un, .int .i64 n.me.ix, .str n.me.tag, .int .i64 n.clock, .str n.psk, .int .i64 n.gateI, .str n.gateK, .bool n.ready, .slice 8 (n.pred.map Pr.cs), .slice 8 (n.list.map Pr.cs), .slice 9 (n.fingers.map Fg.cs), .slice 20 (n.sessions.map Se.cs), .slice 23 (n.pends.map Pd.cs), .slice 4 (n.items.map It.cs), .slice 29 (n.jobs.map Jb.cs), .int .i64 n.rid, .int .i64 n.jobId, .slice 1 (n.draws.map u64Row), .slice 8 (n.results.map Rs.cs)]] = some (.bool true, []) := by
  rw [fn_text Tryd.func3 rfl rfl Tryd.results3 fq3.1 rfl rfl (by kernel_rfl)]
  rcases Bool.eq_false_or_eq_true (greatN n) with hg | hg
  · simp -implicitDefEqProofs -dsimp +contextual (maxSteps := 9999999) (disch := first | omega | simp only [go_sem] <;> omega | refine ib ?_; kernel_rfl) only [go_sem, seval, ↓reduceIte, hg, hf]
  · have s := greatN_no hg
    have hl := nodeS_len n
    have q0 := s.il
    have q1 := s.pl; have q2 := s.ll; have q3 := s.fl; have q4 := s.sl; have q5 := s.dl; have q6 := s.jl; have q7 := s.rl
    simp -implicitDefEqProofs -dsimp +contextual (maxSteps := 9999999) (disch := first | omega | simp only [go_sem] <;> omega | refine ib ?_; kernel_rfl) only [go_sem, seval, ↓reduceIte, hg, hf, h, s, hl]

set_option maxHeartbeats 4000000 in
theorem e5 (n : Nd) (h : n.ok) (hf : n.fit) : fn C 5 [] [.agg [.str n.me.name, .int .u64 (n.me.id : Int), .int .i64 n.me.fr, .int .i64 n.me.un, .int .i64 n.me.ix, .str n.me.tag, .int .i64 n.clock, .str n.psk, .int .i64 n.gateI, .str n.gateK, .bool n.ready, .slice 8 (n.pred.map Pr.cs), .slice 8 (n.list.map Pr.cs), .slice 9 (n.fingers.map Fg.cs), .slice 20 (n.sessions.map Se.cs), .slice 23 (n.pends.map Pd.cs), .slice 4 (n.items.map It.cs), .slice 29 (n.jobs.map Jb.cs), .int .i64 n.rid, .int .i64 n.jobId, .slice 1 (n.draws.map u64Row), .slice 8 (n.results.map Rs.cs)]] = some (.bool true, []) := by
  rw [fn_text Tryd.func5 rfl rfl Tryd.results5 fq5.1 rfl rfl (by kernel_rfl)]
  rcases Bool.eq_false_or_eq_true (greatN n) with hg | hg
  · simp -implicitDefEqProofs -dsimp +contextual (maxSteps := 9999999) (disch := first | omega | simp only [go_sem] <;> omega | refine ib ?_; kernel_rfl) only [go_sem, seval, ↓reduceIte, hg, hf]
  · have s := greatN_no hg
    have hl := nodeS_len n
    have q0 := s.il
    have q1 := s.pl; have q2 := s.ll; have q3 := s.fl; have q4 := s.sl; have q5 := s.dl; have q6 := s.jl; have q7 := s.rl
    simp -implicitDefEqProofs -dsimp +contextual (maxSteps := 9999999) (disch := first | omega | simp only [go_sem] <;> omega | refine ib ?_; kernel_rfl) only [go_sem, seval, ↓reduceIte, hg, hf, h, s, hl]

set_option maxHeartbeats 4000000 in
theorem e4 (e : En) (r : Rs) (fr to b : List UInt8) (h : e.ok) (hf : e.fit) (hr : r.ok) (hrf : r.fit) (h1 : fr.length ≤ 9223372036854775807) (h2 : to.length ≤ 9223372036854775807) (hb : b.length ≤ 9223372036854775807) : fn C 4 [] [.agg [.str e.name, .int .u64 (e.id : Int), .int .i64 e.fr, .int .i64 e.un, .int .i64 e.ix, .str e.tag], .agg [.int .i64 r.job, .int .i64 r.kind, .int .i64 r.ver, .str r.key, .str r.val, .bool r.has, .bool r.gone, .int .i64 r.err], .agg [.str fr, .str to, .slice 1 (b.map byteRow)]] = some (.bool true, []) := by
  rw [fn_text Tryd.func4 rfl rfl Tryd.results4 fq4.1 rfl rfl (by kernel_rfl)]
  have f1 := hf.n; have f2 := hf.t; have f3 := hrf.k; have f4 := hrf.v
  rcases Bool.eq_false_or_eq_true (greatE e) with hg | hg
  · simp -implicitDefEqProofs -dsimp +contextual (maxSteps := 9999999) (disch := first | omega | simp only [go_sem] <;> omega | refine ib ?_; kernel_rfl) only [go_sem, seval, ↓reduceIte, hg]
  have s1 := (greatE_no hg).n
  by_cases g1 : 1000 < r.key.length
  · simp -implicitDefEqProofs -dsimp +contextual (maxSteps := 9999999) (disch := first | omega | simp only [go_sem] <;> omega | refine ib ?_; kernel_rfl) only [go_sem, seval, ↓reduceIte, hg, g1]
  by_cases g2 : 1000 < r.val.length
  · simp -implicitDefEqProofs -dsimp +contextual (maxSteps := 9999999) (disch := first | omega | simp only [go_sem] <;> omega | refine ib ?_; kernel_rfl) only [go_sem, seval, ↓reduceIte, hg, g1, g2]
  by_cases g3 : 1000 < fr.length
  · simp -implicitDefEqProofs -dsimp +contextual (maxSteps := 9999999) (disch := first | omega | simp only [go_sem] <;> omega | refine ib ?_; kernel_rfl) only [go_sem, seval, ↓reduceIte, hg, g1, g2, g3]
  by_cases g4 : 1000 < to.length
  · simp -implicitDefEqProofs -dsimp +contextual (maxSteps := 9999999) (disch := first | omega | simp only [go_sem] <;> omega | refine ib ?_; kernel_rfl) only [go_sem, seval, ↓reduceIte, hg, g1, g2, g3, g4]
  simp -implicitDefEqProofs -dsimp +contextual (maxSteps := 9999999) (disch := first | omega | simp only [go_sem] <;> omega | refine ib ?_; kernel_rfl) only [go_sem, seval, ↓reduceIte, hg, g1, g2, g3, g4, h, hr]

end Go.Proofs.YtgbmhicpkbmeaaaDoor
