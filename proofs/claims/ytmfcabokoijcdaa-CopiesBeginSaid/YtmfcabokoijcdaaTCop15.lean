import Derived.Test.YtmfcabokoijcdaaTCop4
namespace Go.Proofs.Ytmfcabokoijcdaa
open Go.Am
set_option linter.unusedSimpArgs false
set_option linter.unusedVariables false
set_option maxRecDepth 100000
/-! Layer 29: a job that has asked nobody yet: its list is nil. -/
theorem Find1N (j : Jb) (ha : j.asked = []) (id : Int) : fn C 61 [] [.agg [.int .i64 j.id, .int .i64 j.kind, .int .i64 j.phase, .int .i64 j.hops, .int .i64 j.tries, .int .i64 j.til, .str j.key, .str j.val, .str j.owner.name, .int .u64 (j.owner.id : Int), .int .i64 j.owner.fr, .int .i64 j.owner.un, .int .i64 j.owner.ix, .str j.owner.tag, .str j.item.k, .str j.item.v, .int .i64 j.item.n, .bool j.item.g, .int .i64 j.acks, .int .i64 j.waits, .slice 1 [], .str j.back.name, .int .u64 (j.back.id : Int), .int .i64 j.back.fr, .int .i64 j.back.un, .int .i64 j.back.ix, .str j.back.tag, .int .i64 j.backRid, .int .i64 j.backJob], .iptr [.int .i64 id]] = some (.bool (decide (j.id = id)), []) := by
  have := e61 j id
  rw [ha] at this
  exact this

theorem eIdxFindN (l : List Jb) (i : Nat) (hi : i < l.length) (ha : l[i].asked = []) (id : Int) (hl : l.length ≤ 9223372036854775807) : fn C 60 [] [.slice 29 (rowsG l i [.int .i64 l[i].id, .int .i64 l[i].kind, .int .i64 l[i].phase, .int .i64 l[i].hops, .int .i64 l[i].tries, .int .i64 l[i].til, .str l[i].key, .str l[i].val, .str l[i].owner.name, .int .u64 (l[i].owner.id : Int), .int .i64 l[i].owner.fr, .int .i64 l[i].owner.un, .int .i64 l[i].owner.ix, .str l[i].owner.tag, .str l[i].item.k, .str l[i].item.v, .int .i64 l[i].item.n, .bool l[i].item.g, .int .i64 l[i].acks, .int .i64 l[i].waits, .sc (.slice none 0 0), .str l[i].back.name, .int .u64 (l[i].back.id : Int), .int .i64 l[i].back.fr, .int .i64 l[i].back.un, .int .i64 l[i].back.ix, .str l[i].back.tag, .int .i64 l[i].backRid, .int .i64 l[i].backJob]), .fn (.func 61) [] [.iptr [.int .i64 id]]] = some (.int .i64 (findR l id), []) := by
  rw [fn_text Try.func60 rfl rfl Try.results60 fq60.1 rfl rfl (by kernel_rfl)]
  simp -implicitDefEqProofs -dsimp +contextual (maxSteps := 9999999) (disch := first | omega | simp only [go_sem] <;> omega | refine ib ?_; kernel_rfl) only [go_sem, seval, ↓reduceIte]
  refine kFor l.length (fun k f H => f 0 = .slice 29 (rowsG l i [.int .i64 l[i].id, .int .i64 l[i].kind, .int .i64 l[i].phase, .int .i64 l[i].hops, .int .i64 l[i].tries, .int .i64 l[i].til, .str l[i].key, .str l[i].val, .str l[i].owner.name, .int .u64 (l[i].owner.id : Int), .int .i64 l[i].owner.fr, .int .i64 l[i].owner.un, .int .i64 l[i].owner.ix, .str l[i].owner.tag, .str l[i].item.k, .str l[i].item.v, .int .i64 l[i].item.n, .bool l[i].item.g, .int .i64 l[i].acks, .int .i64 l[i].waits, .sc (.slice none 0 0), .str l[i].back.name, .int .u64 (l[i].back.id : Int), .int .i64 l[i].back.fr, .int .i64 l[i].back.un, .int .i64 l[i].back.ix, .str l[i].back.tag, .int .i64 l[i].backRid, .int .i64 l[i].backJob]) ∧ f 1 = .fn (.func 61) [] [.iptr [.int .i64 id]] ∧ f 7 = .int .i64 l.length ∧ f 8 = .int .i64 (k : Nat) ∧ H = Heap.nil ∧ (l.take k).any (jobAt id) = false) ?_ ?_ (by exact ⟨rfl, rfl, rfl, rfl, rfl, rfl⟩)
  · rintro k f _ hk ⟨f0, f1, f7, f8, rfl, hb⟩ ih
    by_cases he : k = i
    · subst he
      have row := rowsG_at hk [.int .i64 l[k].id, .int .i64 l[k].kind, .int .i64 l[k].phase, .int .i64 l[k].hops, .int .i64 l[k].tries, .int .i64 l[k].til, .str l[k].key, .str l[k].val, .str l[k].owner.name, .int .u64 (l[k].owner.id : Int), .int .i64 l[k].owner.fr, .int .i64 l[k].owner.un, .int .i64 l[k].owner.ix, .str l[k].owner.tag, .str l[k].item.k, .str l[k].item.v, .int .i64 l[k].item.n, .bool l[k].item.g, .int .i64 l[k].acks, .int .i64 l[k].waits, .sc (.slice none 0 0), .str l[k].back.name, .int .u64 (l[k].back.id : Int), .int .i64 l[k].back.fr, .int .i64 l[k].back.un, .int .i64 l[k].back.ix, .str l[k].back.tag, .int .i64 l[k].backRid, .int .i64 l[k].backJob]
      have f1n := Find1N l[k] ha id
      simp -implicitDefEqProofs -dsimp +contextual (maxSteps := 9999999) (disch := first | omega | simp only [go_sem] <;> omega | refine ib ?_; kernel_rfl) only [go_sem, seval, ↓reduceIte, f0, f1, f7, f8, hk, row, f1n]
      (repeat' (refine kD_intro (fun _ => ?_) (fun _ => ?_)))
      · rename_i h; rw [findR, placeG_at hk hb (by simp [jobAt, h])]
      · rename_i h; exact ih _ _ ⟨f0, f1, f7, rfl, rfl, any_take hk hb (by simp [jobAt, h])⟩
    · have row := rowsG_mid hk he [.int .i64 l[i].id, .int .i64 l[i].kind, .int .i64 l[i].phase, .int .i64 l[i].hops, .int .i64 l[i].tries, .int .i64 l[i].til, .str l[i].key, .str l[i].val, .str l[i].owner.name, .int .u64 (l[i].owner.id : Int), .int .i64 l[i].owner.fr, .int .i64 l[i].owner.un, .int .i64 l[i].owner.ix, .str l[i].owner.tag, .str l[i].item.k, .str l[i].item.v, .int .i64 l[i].item.n, .bool l[i].item.g, .int .i64 l[i].acks, .int .i64 l[i].waits, .sc (.slice none 0 0), .str l[i].back.name, .int .u64 (l[i].back.id : Int), .int .i64 l[i].back.fr, .int .i64 l[i].back.un, .int .i64 l[i].back.ix, .str l[i].back.tag, .int .i64 l[i].backRid, .int .i64 l[i].backJob]
      rw [Jb.cs_eq] at row
      simp -implicitDefEqProofs -dsimp +contextual (maxSteps := 9999999) (disch := first | omega | simp only [go_sem] <;> omega | refine ib ?_; kernel_rfl) only [go_sem, seval, ↓reduceIte, f0, f1, f7, f8, hk, row]
      (repeat' (refine kD_intro (fun _ => ?_) (fun _ => ?_)))
      · rename_i h; rw [findR, placeG_at hk hb (by simp [jobAt, h])]
      · rename_i h; exact ih _ _ ⟨f0, f1, f7, rfl, rfl, any_take hk hb (by simp [jobAt, h])⟩
  · rintro f _ ⟨f0, f1, f7, f8, rfl, hb⟩
    simp -implicitDefEqProofs -dsimp +contextual (maxSteps := 9999999) (disch := first | omega | simp only [go_sem] <;> omega | refine ib ?_; kernel_rfl) only [go_sem, seval, ↓reduceIte, f0, f1, f7, f8]
    rw [findR, placeG_none (any_end hb)]

theorem eFindN (l : List Jb) (i : Nat) (hi : i < l.length) (ha : l[i].asked = []) (id : Int) (hl : l.length ≤ 9223372036854775807) : fn C 16 [] [.slice 29 (rowsG l i [.int .i64 l[i].id, .int .i64 l[i].kind, .int .i64 l[i].phase, .int .i64 l[i].hops, .int .i64 l[i].tries, .int .i64 l[i].til, .str l[i].key, .str l[i].val, .str l[i].owner.name, .int .u64 (l[i].owner.id : Int), .int .i64 l[i].owner.fr, .int .i64 l[i].owner.un, .int .i64 l[i].owner.ix, .str l[i].owner.tag, .str l[i].item.k, .str l[i].item.v, .int .i64 l[i].item.n, .bool l[i].item.g, .int .i64 l[i].acks, .int .i64 l[i].waits, .sc (.slice none 0 0), .str l[i].back.name, .int .u64 (l[i].back.id : Int), .int .i64 l[i].back.fr, .int .i64 l[i].back.un, .int .i64 l[i].back.ix, .str l[i].back.tag, .int .i64 l[i].backRid, .int .i64 l[i].backJob]), .int .i64 id] = some (.int .i64 (findR l id), []) := by
  have e := eIdxFindN l i hi ha id hl
  rw [fn_text Try.func16 rfl rfl Try.results16 fq16.1 rfl rfl (by kernel_rfl)]
  simp -implicitDefEqProofs -dsimp +contextual (maxSteps := 9999999) (disch := first | omega | simp only [go_sem] <;> omega | refine ib ?_; kernel_rfl) only [go_sem, seval, ↓reduceIte, e]

set_option maxHeartbeats 4000000 in
theorem placeN (n : Nd) (A : AVal) (i : Nat) (hi : i < n.jobs.length) (ha : n.jobs[i].asked = []) (id : Int) (hc : copR n.jobs id = (i : Int)) (h : n.jobs.length ≤ 1000000) : fn C 80 [] [.iptr [.str n.me.name, .int .u64 (n.me.id : Int), .int .i64 n.me.fr, .int .i64 n.me.un, .int .i64 n.me.ix, .str n.me.tag, .int .i64 n.clock, .str n.psk, .int .i64 n.gateI, .str n.gateK, .bool n.ready, .slice 8 (n.pred.map Pr.cs), .slice 8 (n.list.map Pr.cs), .slice 9 (n.fingers.map Fg.cs), .slice 20 (n.sessions.map Se.cs), .slice 23 (n.pends.map Pd.cs), .slice 4 (n.items.map It.cs), .slice 29 (rowsG n.jobs i [.int .i64 n.jobs[i].id, .int .i64 n.jobs[i].kind, .int .i64 n.jobs[i].phase, .int .i64 n.jobs[i].hops, .int .i64 n.jobs[i].tries, .int .i64 n.jobs[i].til, .str n.jobs[i].key, .str n.jobs[i].val, .str n.jobs[i].owner.name, .int .u64 (n.jobs[i].owner.id : Int), .int .i64 n.jobs[i].owner.fr, .int .i64 n.jobs[i].owner.un, .int .i64 n.jobs[i].owner.ix, .str n.jobs[i].owner.tag, .str n.jobs[i].item.k, .str n.jobs[i].item.v, .int .i64 n.jobs[i].item.n, .bool n.jobs[i].item.g, .int .i64 n.jobs[i].acks, .int .i64 n.jobs[i].waits, .sc (.slice none 0 0), .str n.jobs[i].back.name, .int .u64 (n.jobs[i].back.id : Int), .int .i64 n.jobs[i].back.fr, .int .i64 n.jobs[i].back.un, .int .i64 n.jobs[i].back.ix, .str n.jobs[i].back.tag, .int .i64 n.jobs[i].backRid, .int .i64 n.jobs[i].backJob]), .int .i64 n.rid, .int .i64 n.jobId, .slice 1 (n.draws.map u64Row), .slice 8 (n.results.map Rs.cs), A], .int .i64 id] = some (.int .i64 (i : Nat), []) := by
  have hf : findR n.jobs id = (i : Int) := by
    unfold copR at hc; split at hc
    · exact hc
    · omega
  have hk : n.jobs[i].kind = 4 := by
    unfold copR at hc; split at hc
    · rename_i hk; rw [hf, Int.toNat_natCast, jobG_at hi] at hk; exact hk.2
    · omega
  have row := rowsG_at hi [.int .i64 n.jobs[i].id, .int .i64 n.jobs[i].kind, .int .i64 n.jobs[i].phase, .int .i64 n.jobs[i].hops, .int .i64 n.jobs[i].tries, .int .i64 n.jobs[i].til, .str n.jobs[i].key, .str n.jobs[i].val, .str n.jobs[i].owner.name, .int .u64 (n.jobs[i].owner.id : Int), .int .i64 n.jobs[i].owner.fr, .int .i64 n.jobs[i].owner.un, .int .i64 n.jobs[i].owner.ix, .str n.jobs[i].owner.tag, .str n.jobs[i].item.k, .str n.jobs[i].item.v, .int .i64 n.jobs[i].item.n, .bool n.jobs[i].item.g, .int .i64 n.jobs[i].acks, .int .i64 n.jobs[i].waits, .sc (.slice none 0 0), .str n.jobs[i].back.name, .int .u64 (n.jobs[i].back.id : Int), .int .i64 n.jobs[i].back.fr, .int .i64 n.jobs[i].back.un, .int .i64 n.jobs[i].back.ix, .str n.jobs[i].back.tag, .int .i64 n.jobs[i].backRid, .int .i64 n.jobs[i].backJob]
  have e := eFindN n.jobs i hi ha id (by omega)
  rw [hf] at e
  generalize rowsG n.jobs i [.int .i64 n.jobs[i].id, .int .i64 n.jobs[i].kind, .int .i64 n.jobs[i].phase, .int .i64 n.jobs[i].hops, .int .i64 n.jobs[i].tries, .int .i64 n.jobs[i].til, .str n.jobs[i].key, .str n.jobs[i].val, .str n.jobs[i].owner.name, .int .u64 (n.jobs[i].owner.id : Int), .int .i64 n.jobs[i].owner.fr, .int .i64 n.jobs[i].owner.un, .int .i64 n.jobs[i].owner.ix, .str n.jobs[i].owner.tag, .str n.jobs[i].item.k, .str n.jobs[i].item.v, .int .i64 n.jobs[i].item.n, .bool n.jobs[i].item.g, .int .i64 n.jobs[i].acks, .int .i64 n.jobs[i].waits, .sc (.slice none 0 0), .str n.jobs[i].back.name, .int .u64 (n.jobs[i].back.id : Int), .int .i64 n.jobs[i].back.fr, .int .i64 n.jobs[i].back.un, .int .i64 n.jobs[i].back.ix, .str n.jobs[i].back.tag, .int .i64 n.jobs[i].backRid, .int .i64 n.jobs[i].backJob] = RR at *
  rw [fn_text Try.func80 rfl rfl Try.results80 fq80.1 rfl rfl (by kernel_rfl)]
  simp -implicitDefEqProofs -dsimp +contextual (maxSteps := 9999999) (disch := first | omega | simp only [go_sem] <;> omega | refine ib ?_; kernel_rfl) only [go_sem, seval, ↓reduceIte, e, row, hk, Nat.not_lt_zero]

theorem erase_set' {α : Type} (l : List α) (i : Nat) (x : α) : (l.set i x).eraseIdx i = l.eraseIdx i := by
  rw [← erase_take, ← erase_take, List.take_set, List.drop_set_of_lt (by omega), List.set_eq_of_length_le (by simp; omega)]
set_option maxHeartbeats 4000000 in
theorem dropN (n : Nd) (i : Nat) (hi : i < n.jobs.length) (ha : n.jobs[i].asked = []) (h : n.mid 1000001) : fn C 76 [] [.uptr [.str n.me.name, .int .u64 (n.me.id : Int), .int .i64 n.me.fr, .int .i64 n.me.un, .int .i64 n.me.ix, .str n.me.tag, .int .i64 n.clock, .str n.psk, .int .i64 n.gateI, .str n.gateK, .bool n.ready, .slice 8 (n.pred.map Pr.cs), .slice 8 (n.list.map Pr.cs), .slice 9 (n.fingers.map Fg.cs), .usl 20 (n.sessions.map Se.cs), .usl 23 (n.pends.map Pd.cs), .slice 4 (n.items.map It.cs), .usl 29 (rowsG n.jobs i [.int .i64 n.jobs[i].id, .int .i64 n.jobs[i].kind, .int .i64 n.jobs[i].phase, .int .i64 n.jobs[i].hops, .int .i64 n.jobs[i].tries, .int .i64 n.jobs[i].til, .str n.jobs[i].key, .str n.jobs[i].val, .str n.jobs[i].owner.name, .int .u64 (n.jobs[i].owner.id : Int), .int .i64 n.jobs[i].owner.fr, .int .i64 n.jobs[i].owner.un, .int .i64 n.jobs[i].owner.ix, .str n.jobs[i].owner.tag, .str n.jobs[i].item.k, .str n.jobs[i].item.v, .int .i64 n.jobs[i].item.n, .bool n.jobs[i].item.g, .int .i64 n.jobs[i].acks, .int .i64 n.jobs[i].waits, .sc (.slice none 0 0), .str n.jobs[i].back.name, .int .u64 (n.jobs[i].back.id : Int), .int .i64 n.jobs[i].back.fr, .int .i64 n.jobs[i].back.un, .int .i64 n.jobs[i].back.ix, .str n.jobs[i].back.tag, .int .i64 n.jobs[i].backRid, .int .i64 n.jobs[i].backJob]), .int .i64 n.rid, .int .i64 n.jobId, .slice 1 (n.draws.map u64Row), .usl 8 (n.results.map Rs.cs), .sc (.slice none 0 0)], .int .i64 (i : Nat)] = some (.agg [.int .i64 n.jobs[i].id, .int .i64 n.jobs[i].kind, .int .i64 n.jobs[i].phase, .int .i64 n.jobs[i].hops, .int .i64 n.jobs[i].tries, .int .i64 n.jobs[i].til, .str n.jobs[i].key, .str n.jobs[i].val, .str n.jobs[i].owner.name, .int .u64 (n.jobs[i].owner.id : Int), .int .i64 n.jobs[i].owner.fr, .int .i64 n.jobs[i].owner.un, .int .i64 n.jobs[i].owner.ix, .str n.jobs[i].owner.tag, .str n.jobs[i].item.k, .str n.jobs[i].item.v, .int .i64 n.jobs[i].item.n, .bool n.jobs[i].item.g, .int .i64 n.jobs[i].acks, .int .i64 n.jobs[i].waits, .slice 1 (n.jobs[i].asked.map strRow), .str n.jobs[i].back.name, .int .u64 (n.jobs[i].back.id : Int), .int .i64 n.jobs[i].back.fr, .int .i64 n.jobs[i].back.un, .int .i64 n.jobs[i].back.ix, .str n.jobs[i].back.tag, .int .i64 n.jobs[i].backRid, .int .i64 n.jobs[i].backJob], [.uptr [.str n.me.name, .int .u64 (n.me.id : Int), .int .i64 n.me.fr, .int .i64 n.me.un, .int .i64 n.me.ix, .str n.me.tag, .int .i64 n.clock, .str n.psk, .int .i64 n.gateI, .str n.gateK, .bool n.ready, .slice 8 (n.pred.map Pr.cs), .slice 8 (n.list.map Pr.cs), .slice 9 (n.fingers.map Fg.cs), .usl 20 (n.sessions.map Se.cs), .usl 23 (n.pends.map Pd.cs), .slice 4 (n.items.map It.cs), .usl 29 ((n.jobs.eraseIdx i).map Jb.cs), .int .i64 n.rid, .int .i64 n.jobId, .slice 1 (n.draws.map u64Row), .usl 8 (n.results.map Rs.cs), .sc (.slice none 0 0)]]) := by
  have row := rowsG_at hi [.int .i64 n.jobs[i].id, .int .i64 n.jobs[i].kind, .int .i64 n.jobs[i].phase, .int .i64 n.jobs[i].hops, .int .i64 n.jobs[i].tries, .int .i64 n.jobs[i].til, .str n.jobs[i].key, .str n.jobs[i].val, .str n.jobs[i].owner.name, .int .u64 (n.jobs[i].owner.id : Int), .int .i64 n.jobs[i].owner.fr, .int .i64 n.jobs[i].owner.un, .int .i64 n.jobs[i].owner.ix, .str n.jobs[i].owner.tag, .str n.jobs[i].item.k, .str n.jobs[i].item.v, .int .i64 n.jobs[i].item.n, .bool n.jobs[i].item.g, .int .i64 n.jobs[i].acks, .int .i64 n.jobs[i].waits, .sc (.slice none 0 0), .str n.jobs[i].back.name, .int .u64 (n.jobs[i].back.id : Int), .int .i64 n.jobs[i].back.fr, .int .i64 n.jobs[i].back.un, .int .i64 n.jobs[i].back.ix, .str n.jobs[i].back.tag, .int .i64 n.jobs[i].backRid, .int .i64 n.jobs[i].backJob]
  have jl := h.jl
  have cl : (rowsG n.jobs i [.int .i64 n.jobs[i].id, .int .i64 n.jobs[i].kind, .int .i64 n.jobs[i].phase, .int .i64 n.jobs[i].hops, .int .i64 n.jobs[i].tries, .int .i64 n.jobs[i].til, .str n.jobs[i].key, .str n.jobs[i].val, .str n.jobs[i].owner.name, .int .u64 (n.jobs[i].owner.id : Int), .int .i64 n.jobs[i].owner.fr, .int .i64 n.jobs[i].owner.un, .int .i64 n.jobs[i].owner.ix, .str n.jobs[i].owner.tag, .str n.jobs[i].item.k, .str n.jobs[i].item.v, .int .i64 n.jobs[i].item.n, .bool n.jobs[i].item.g, .int .i64 n.jobs[i].acks, .int .i64 n.jobs[i].waits, .sc (.slice none 0 0), .str n.jobs[i].back.name, .int .u64 (n.jobs[i].back.id : Int), .int .i64 n.jobs[i].back.fr, .int .i64 n.jobs[i].back.un, .int .i64 n.jobs[i].back.ix, .str n.jobs[i].back.tag, .int .i64 n.jobs[i].backRid, .int .i64 n.jobs[i].backJob]).all clos = true := List.all_eq_true.2 fun r hr => by
    rcases List.mem_or_eq_of_mem_set hr with h1 | rfl
    · exact List.all_eq_true.1 (Jb_clos n.jobs) r h1
    · rfl
  have on : ones (rowsG n.jobs i [.int .i64 n.jobs[i].id, .int .i64 n.jobs[i].kind, .int .i64 n.jobs[i].phase, .int .i64 n.jobs[i].hops, .int .i64 n.jobs[i].tries, .int .i64 n.jobs[i].til, .str n.jobs[i].key, .str n.jobs[i].val, .str n.jobs[i].owner.name, .int .u64 (n.jobs[i].owner.id : Int), .int .i64 n.jobs[i].owner.fr, .int .i64 n.jobs[i].owner.un, .int .i64 n.jobs[i].owner.ix, .str n.jobs[i].owner.tag, .str n.jobs[i].item.k, .str n.jobs[i].item.v, .int .i64 n.jobs[i].item.n, .bool n.jobs[i].item.g, .int .i64 n.jobs[i].acks, .int .i64 n.jobs[i].waits, .sc (.slice none 0 0), .str n.jobs[i].back.name, .int .u64 (n.jobs[i].back.id : Int), .int .i64 n.jobs[i].back.fr, .int .i64 n.jobs[i].back.un, .int .i64 n.jobs[i].back.ix, .str n.jobs[i].back.tag, .int .i64 n.jobs[i].backRid, .int .i64 n.jobs[i].backJob]) = true := List.all_eq_true.2 fun r hr => by
    rcases List.mem_or_eq_of_mem_set hr with h1 | rfl
    · exact List.all_eq_true.1 (Jb_ones n.jobs) r h1
    · rfl
  have del := eDelJob (rowsG n.jobs i [.int .i64 n.jobs[i].id, .int .i64 n.jobs[i].kind, .int .i64 n.jobs[i].phase, .int .i64 n.jobs[i].hops, .int .i64 n.jobs[i].tries, .int .i64 n.jobs[i].til, .str n.jobs[i].key, .str n.jobs[i].val, .str n.jobs[i].owner.name, .int .u64 (n.jobs[i].owner.id : Int), .int .i64 n.jobs[i].owner.fr, .int .i64 n.jobs[i].owner.un, .int .i64 n.jobs[i].owner.ix, .str n.jobs[i].owner.tag, .str n.jobs[i].item.k, .str n.jobs[i].item.v, .int .i64 n.jobs[i].item.n, .bool n.jobs[i].item.g, .int .i64 n.jobs[i].acks, .int .i64 n.jobs[i].waits, .sc (.slice none 0 0), .str n.jobs[i].back.name, .int .u64 (n.jobs[i].back.id : Int), .int .i64 n.jobs[i].back.fr, .int .i64 n.jobs[i].back.un, .int .i64 n.jobs[i].back.ix, .str n.jobs[i].back.tag, .int .i64 n.jobs[i].backRid, .int .i64 n.jobs[i].backJob]) i (by simp [rowsG]; exact hi) (by simp [rowsG]; omega) cl on
  rw [show (rowsG n.jobs i [.int .i64 n.jobs[i].id, .int .i64 n.jobs[i].kind, .int .i64 n.jobs[i].phase, .int .i64 n.jobs[i].hops, .int .i64 n.jobs[i].tries, .int .i64 n.jobs[i].til, .str n.jobs[i].key, .str n.jobs[i].val, .str n.jobs[i].owner.name, .int .u64 (n.jobs[i].owner.id : Int), .int .i64 n.jobs[i].owner.fr, .int .i64 n.jobs[i].owner.un, .int .i64 n.jobs[i].owner.ix, .str n.jobs[i].owner.tag, .str n.jobs[i].item.k, .str n.jobs[i].item.v, .int .i64 n.jobs[i].item.n, .bool n.jobs[i].item.g, .int .i64 n.jobs[i].acks, .int .i64 n.jobs[i].waits, .sc (.slice none 0 0), .str n.jobs[i].back.name, .int .u64 (n.jobs[i].back.id : Int), .int .i64 n.jobs[i].back.fr, .int .i64 n.jobs[i].back.un, .int .i64 n.jobs[i].back.ix, .str n.jobs[i].back.tag, .int .i64 n.jobs[i].backRid, .int .i64 n.jobs[i].backJob]).eraseIdx i = (n.jobs.eraseIdx i).map Jb.cs from by unfold rowsG; rw [erase_set', erase_map]] at del
  rw [fn_text Try.func76 rfl rfl Try.results76 fq76.1 rfl rfl (by kernel_rfl)]
  simp -implicitDefEqProofs -dsimp +contextual (maxSteps := 9999999) (disch := first | omega | simp only [go_sem] <;> omega | refine ib ?_; kernel_rfl) only [go_sem, seval, ↓reduceIte, row, del, hi, cl]
  rw [ha]
  rfl

end Go.Proofs.Ytmfcabokoijcdaa
namespace Go.Proofs.Ytmfcabokoijcdaa
open Go.Am
set_option linter.unusedSimpArgs false
set_option linter.unusedVariables false
set_option maxRecDepth 100000
/-! Layer 29: more, in the heap of who calls: a job that has asked nobody yet. -/
def AskB (H : Heap) (A : AVal) (l : List (List UInt8)) : Prop := ∃ g, A = .osl 80167 g 0 l.length ∧ H 80167 = ⟨g, .live, 1, l.map strRow, false⟩
set_option maxHeartbeats 16000000 in
theorem il_moreN (g : Int) (n : Nd) (id : Int) (i c : Nat) (j0 : Jb) (hi : i < n.jobs.length) (hj0 : n.jobs[i] = j0) (hcop : copR n.jobs id = (i : Int)) (h : n.mid 100000) (ha0 : j0.asked = []) (hk0 : j0.acks = 0) (hw0 : j0.waits = 0) (H : Heap) (hM : MoreS H n i c j0 (.sc (.slice none 0 0)) (.sc (.slice none 0 0)))
    (K : AVal × Heap → Option Res) (R : Option Res) (q : Jb × List Ac) (hq : askR id n.list j0 = q)
    (ka : ∀ H' A X, MoreS H' n i c q.1 A X → AskB H' A q.1.asked → ActS H' X q.2 → (∀ o, o < 40000 → H' o = H o) → 0 < q.1.waits → K (.tup [], H') = R)
    (kb : ∀ H', WorkAt 40106 (moreFin n i q).1 (moreFin n i q).2 H' → (∀ o, o < 40000 → H' o = H o) → ¬ 0 < q.1.waits → K (.tup [], H') = R) :
    @kB _ _ (il (C1 g) 48 [.ptr 40106 1 0 0, .int .i64 id] H) ⟨K⟩ = R := by
  obtain ⟨W1, W2, W3, W4, W5⟩ := hM
  have jl := h.jl
  have ll := h.ll
  have pl := placeN n (.sc (.slice none 0 0)) i hi (by rw [hj0, ha0]) id hcop (by omega)
  rw [hj0] at pl
  have row := rowsG_at (R := [.int .i64 j0.id, .int .i64 j0.kind, .int .i64 j0.phase, .int .i64 j0.hops, .int .i64 j0.tries, .int .i64 j0.til, .str j0.key, .str j0.val, .str j0.owner.name, .int .u64 (j0.owner.id : Int), .int .i64 j0.owner.fr, .int .i64 j0.owner.un, .int .i64 j0.owner.ix, .str j0.owner.tag, .str j0.item.k, .str j0.item.v, .int .i64 j0.item.n, .bool j0.item.g, .int .i64 j0.acks, .int .i64 j0.waits, .sc (.slice none 0 0), .str j0.back.name, .int .u64 (j0.back.id : Int), .int .i64 j0.back.fr, .int .i64 j0.back.un, .int .i64 j0.back.ix, .str j0.back.tag, .int .i64 j0.backRid, .int .i64 j0.backJob]) hi
  rw [il_text (C := C1 g) Try.func48 rfl Try.results48 (show (C1 g).M.loc 48 = _ from fq48.1) (by kernel_rfl)]
  simp -implicitDefEqProofs -dsimp +contextual (maxSteps := 9999999) (disch := first | omega | simp only [go_sem] <;> omega | refine ib ?_; kernel_rfl) only [go_sem, seval, ↓reduceIte, W1, W2, W3, W4, W5, pl, k_rowsG, hi, row, Nat.not_lt_zero]
  clear pl row
  refine kLoop_out (.exit 0) (fun f H' => f 0 = .ptr 40106 1 0 0 ∧ f 1 = .int .i64 id ∧ f 4 = .int .i64 (i : Nat) ∧ f 5 = .ptr 60130 c i 0 ∧ q.1.asked.length ≤ 200000 ∧ q.2.length ≤ 100000 ∧ (∀ o, o < 40000 → H' o = H o) ∧ ∃ A X, MoreS H' n i c q.1 A X ∧ ((q = (j0, []) ∧ A = .sc (.slice none 0 0) ∧ X = .sc (.slice none 0 0)) ∨ (AskB H' A q.1.asked ∧ ActS H' X q.2))) ?_ ?_
  · intro Q hQ
    refine kLoop_rec (fun (a : Nat × Jb × List Ac) f H' => a.1 ≤ n.list.length ∧ AskI id (n.list.drop a.1) a.2.1 a.2.2 q ∧ a.2.1.asked.length ≤ 100000 + a.1 ∧ a.2.2.length ≤ a.1 ∧ f 0 = .ptr 40106 1 0 0 ∧ f 1 = .int .i64 id ∧ f 4 = .int .i64 (i : Nat) ∧ f 5 = .ptr 60130 c i 0 ∧ f 25 = .slice 8 (n.list.map Pr.cs) ∧ f 26 = .int .i64 (n.list.length : Nat) ∧ f 27 = .int .i64 (a.1 : Nat) ∧
      (∀ o, o < 40000 → H' o = H o) ∧ ∃ A X, MoreS H' n i c a.2.1 A X ∧ ((a = (0, j0, []) ∧ A = .sc (.slice none 0 0) ∧ X = .sc (.slice none 0 0)) ∨ (AskB H' A a.2.1.asked ∧ ActS H' X a.2.2))) (fun a => n.list.length - a.1) (fun _ => R) ?_ (0, j0, []) _ _ (by exact ⟨Nat.zero_le _, ⟨by rw [List.drop_zero, hq], by rw [List.drop_zero, hq]; rfl⟩, by rw [ha0]; exact Nat.zero_le _, Nat.le_refl _, rfl, rfl, rfl, rfl, rfl, rfl, rfl, fun o ho => rfl, _, _, ⟨W1, W2, W3, W4, W5⟩, .inl ⟨rfl, rfl, rfl⟩⟩)
    clear W1 W2 W3 W4 W5
    rintro ⟨k, j, acts⟩ f H' ⟨hk, hI, hal2, hac, f0, f1, f4, f5, f25, f26, f27, hfr, A, X, ⟨W1, W2, W3, W4, W5⟩, hAX⟩ ih
    simp only at hk hI hal2 hac f27 W1 W4 hAX ih
    have row := fun R => rowsG_at (R := R) hi
    by_cases hl : k < n.list.length
    · rcases hAX with ⟨he, rfl, rfl⟩ | ⟨⟨ga, rfl, ha⟩, hX⟩
      · have prow := pr_row n.list k hl
        obtain ⟨rfl, rfl, rfl⟩ : k = 0 ∧ j = j0 ∧ acts = [] := by simpa using he
        rw [List.drop_eq_getElem_cons hl] at hI
        have hfu : ¬ 2 ≤ fewR j.acks + fewR j.waits := by rw [hk0, hw0]; decide
        have b1 := fewR_b j.acks
        have b2 := fewR_b j.waits
        have hI' := hI.go hfu (by rw [ha0]; simp)
        have nm := e82 [] n.list[0].e.name (by simp)
        rw [decide_eq_false (by simp)] at nm
        simp only [List.map_nil] at nm
        have ih' := ih (0 + 1, { j with waits := fewR j.waits + 1, asked := j.asked ++ [n.list[0].e.name] }, [] ++ [copyA n.list[0].e j.item id])
        simp only at ih'
        clear ih
        simp -implicitDefEqProofs -dsimp +contextual (maxSteps := 9999999) (disch := first | omega | simp only [go_sem] <;> omega | refine ib ?_; kernel_rfl) only [go_sem, seval, ↓reduceIte, f0, f1, f4, f5, f25, f26, f27, hl, prow, W1, W2, W3, W4, W5, row, hfu, nm]
        refine ih' _ _ ?_ (by omega)
        refine ⟨hl, hI', by simp [ha0], by simp, f0, f1, f4, f5, f25, f26, rfl, fun o ho => by repeat (first | exact hfr o ho | rw [Heap.set_ne _ _ (by omega)]), _, _, ⟨rfl, W2, W3, rfl, W5⟩, .inr ⟨⟨(H' 80167).gen + 1, by rw [ha0]; rfl, by rw [ha0]; rfl⟩, .inr ⟨(H' 80189).gen + 1, rfl, rfl⟩⟩⟩
      have prow := pr_row n.list k hl
      rw [List.drop_eq_getElem_cons hl] at hI
      have b1 := fewR_b j.acks
      have b2 := fewR_b j.waits
      by_cases hfu : 2 ≤ fewR j.acks + fewR j.waits
      · obtain rfl := hI.full (l' := []) hfu
        clear ih
        simp -implicitDefEqProofs -dsimp +contextual (maxSteps := 9999999) (disch := first | omega | simp only [go_sem] <;> omega | refine ib ?_; kernel_rfl) only [go_sem, seval, ↓reduceIte, f0, f1, f4, f5, f25, f26, f27, hl, prow, W1, W2, W3, W4, W5, ha, row, hfu]
        exact hQ _ _ ⟨f0, f1, f4, f5, by simp only; omega, by simp only; omega, fun o ho => by repeat (first | exact hfr o ho | rw [Heap.set_ne _ _ (by omega)]), _, _, ⟨W1, W2, W3, W4, W5⟩, .inr ⟨⟨ga, rfl, ha⟩, hX⟩⟩
      · by_cases hm : n.list[k].e.name ∈ j.asked
        · have hI' := hI.skip hfu hm
          have nm := e82 j.asked n.list[k].e.name (by omega)
          rw [decide_eq_true hm] at nm
          have ih' := ih (k + 1, j, acts)
          simp only at ih'
          clear ih
          simp -implicitDefEqProofs -dsimp +contextual (maxSteps := 9999999) (disch := first | omega | simp only [go_sem] <;> omega | refine ib ?_; kernel_rfl) only [go_sem, seval, ↓reduceIte, f0, f1, f4, f5, f25, f26, f27, hl, prow, W1, W2, W3, W4, W5, ha, row, hfu, nm]
          refine ih' _ _ ?_ (by omega)
          exact ⟨hl, hI', by omega, by omega, f0, f1, f4, f5, f25, f26, rfl, fun o ho => by repeat (first | exact hfr o ho | rw [Heap.set_ne _ _ (by omega)]), _, _, ⟨W1, W2, W3, W4, W5⟩, .inr ⟨⟨ga, rfl, ha⟩, hX⟩⟩
        · have hI' := hI.go hfu hm
          have nm := e82 j.asked n.list[k].e.name (by omega)
          rw [decide_eq_false hm] at nm
          have ih' := ih (k + 1, { j with waits := fewR j.waits + 1, asked := j.asked ++ [n.list[k].e.name] }, acts ++ [copyA n.list[k].e j.item id])
          simp only at ih'
          clear ih
          rcases hX with ⟨rfl, rfl⟩ | ⟨gx, rfl, hX⟩
          · simp -implicitDefEqProofs -dsimp +contextual (maxSteps := 9999999) (disch := first | omega | simp only [go_sem] <;> omega | refine ib ?_; kernel_rfl) only [go_sem, seval, ↓reduceIte, f0, f1, f4, f5, f25, f26, f27, hl, prow, W1, W2, W3, W4, W5, ha, row, hfu, nm, hal2]
            refine ih' _ _ ?_ (by omega)
            refine ⟨hl, hI', by simp; omega, by simp, f0, f1, f4, f5, f25, f26, rfl, fun o ho => by repeat (first | exact hfr o ho | rw [Heap.set_ne _ _ (by omega)]), _, _, ⟨rfl, W2, W3, rfl, W5⟩, .inr ⟨⟨ga + 1, by simp, by rw [List.map_append]; rfl⟩, .inr ⟨(H' 80189).gen + 1, rfl, rfl⟩⟩⟩
          · simp -implicitDefEqProofs -dsimp +contextual (maxSteps := 9999999) (disch := first | omega | simp only [go_sem] <;> omega | refine ib ?_; kernel_rfl) only [go_sem, seval, ↓reduceIte, f0, f1, f4, f5, f25, f26, f27, hl, prow, W1, W2, W3, W4, W5, ha, hX, row, hfu, nm, hal2]
            refine ih' _ _ ?_ (by omega)
            refine ⟨hl, hI', by simp; omega, by simp; omega, f0, f1, f4, f5, f25, f26, rfl, fun o ho => by repeat (first | exact hfr o ho | rw [Heap.set_ne _ _ (by omega)]), _, _, ⟨rfl, W2, W3, rfl, W5⟩, .inr ⟨⟨ga + 1, by simp, by rw [List.map_append]; rfl⟩, .inr ⟨gx + 1, by simp, by rw [List.map_append]; rfl⟩⟩⟩
    · obtain rfl : k = n.list.length := by omega
      rw [List.drop_length] at hI
      obtain rfl := hI.done
      clear ih
      rcases hAX with ⟨he, rfl, rfl⟩ | ⟨⟨ga, rfl, ha⟩, hX⟩
      · obtain ⟨h0, rfl, rfl⟩ : n.list.length = 0 ∧ j = j0 ∧ acts = [] := by simpa using he
        simp -implicitDefEqProofs -dsimp +contextual (maxSteps := 9999999) (disch := first | omega | simp only [go_sem] <;> omega | refine ib ?_; kernel_rfl) only [go_sem, seval, ↓reduceIte, f0, f1, f4, f5, f25, f26, f27, W1, W2, W3, W4, W5, row]
        exact hQ _ _ ⟨f0, f1, f4, f5, by simp only; omega, by simp only; omega, hfr, _, _, ⟨W1, W2, W3, W4, W5⟩, .inl ⟨rfl, rfl, rfl⟩⟩
      · simp -implicitDefEqProofs -dsimp +contextual (maxSteps := 9999999) (disch := first | omega | simp only [go_sem] <;> omega | refine ib ?_; kernel_rfl) only [go_sem, seval, ↓reduceIte, f0, f1, f4, f5, f25, f26, f27, W1, W2, W3, W4, W5, ha, row]
        exact hQ _ _ ⟨f0, f1, f4, f5, by simp only; omega, by simp only; omega, hfr, _, _, ⟨W1, W2, W3, W4, W5⟩, .inr ⟨⟨ga, rfl, ha⟩, hX⟩⟩
  · clear W1 W2 W3 W4 W5
    obtain ⟨j, acts⟩ := q
    rintro f H' ⟨f0, f1, f4, f5, hjl, hql, hfr, A, X, ⟨W1, W2, W3, W4, W5⟩, hAX⟩
    simp only at W4 hAX ka kb hjl hql
    have row := fun R => rowsG_at (R := R) hi
    rcases hAX with ⟨he, rfl, rfl⟩ | ⟨⟨ga, rfl, ha⟩, hX⟩
    · obtain ⟨rfl, rfl⟩ : j = j0 ∧ acts = [] := by simpa using he
      have hw : ¬ 0 < j.waits := by omega
      have hw' : j.waits ≤ 0 := by omega
      have hmf : moreFin n i (j, []) = ((tellR { n with jobs := n.jobs.eraseIdx i } j.back j.backRid j.backJob j.item (!j.item.g) 0).1, [] ++ (tellR { n with jobs := n.jobs.eraseIdx i } j.back j.backRid j.backJob j.item (!j.item.g) 0).2) := by unfold moreFin; rw [if_neg hw]
      rw [hmf, List.nil_append] at kb
      clear hmf ka
      have hm' := mid_erase i h
      have drp := dropN n i hi (by rw [hj0, ha0]) (h.le (by omega))
      rw [hj0] at drp
      simp only [ha0, List.map_nil] at drp
      by_cases hj : j.backJob = 0
      · rw [tellR, if_pos hj] at kb
        have en := endW0 { n with jobs := n.jobs.eraseIdx i } _ _ .nil j hj (hm'.le (by omega)) (by simp)
        simp only [ha0, List.map_nil] at en
        simp -implicitDefEqProofs -dsimp +contextual (maxSteps := 9999999) (disch := first | omega | simp only [go_sem] <;> omega | refine ib ?_; kernel_rfl) only [go_sem, seval, ↓reduceIte, f0, f1, f4, f5, W1, W2, W3, W4, W5, row, hw', k_rowsG, hi, drp, en]
        exact kb _ ⟨_, _, _, _, _, _, rfl, rfl, rfl, rfl, rfl, .inr ⟨rfl, rfl⟩⟩ (fun o ho => by repeat (first | exact hfr o ho | rw [Heap.set_ne _ _ (by omega)])) hw
      · rw [tellR, if_neg hj] at kb
        obtain ⟨js, rs, hs⟩ := settle_eta { n with jobs := n.jobs.eraseIdx i } j.backJob j.item (!j.item.g) 0
        have en := endW1 { n with jobs := n.jobs.eraseIdx i } _ _ .nil j hj (hm'.le (by omega))
        simp only [ha0, List.map_nil] at en
        rw [hs] at en kb
        simp only at en kb
        simp -implicitDefEqProofs -dsimp +contextual (maxSteps := 9999999) (disch := first | omega | simp only [go_sem] <;> omega | refine ib ?_; kernel_rfl) only [go_sem, seval, ↓reduceIte, f0, f1, f4, f5, W1, W2, W3, W4, W5, row, hw', k_rowsG, hi, drp, en]
        exact kb _ ⟨0, _, _, _, _, _, rfl, rfl, rfl, rfl, rfl, .inl ⟨rfl, rfl⟩⟩ (fun o ho => by repeat (first | exact hfr o ho | rw [Heap.set_ne _ _ (by omega)])) hw
    by_cases hw : 0 < j.waits
    · have hw' : ¬ j.waits ≤ 0 := by omega
      simp -implicitDefEqProofs -dsimp +contextual (maxSteps := 9999999) (disch := first | omega | simp only [go_sem] <;> omega | refine ib ?_; kernel_rfl) only [go_sem, seval, ↓reduceIte, f0, f1, f4, f5, W1, W2, W3, W4, W5, ha, row, hw']
      exact ka H' _ _ ⟨W1, W2, W3, W4, W5⟩ ⟨ga, rfl, ha⟩ hX hfr hw
    · have hw' : j.waits ≤ 0 := by omega
      have hmf : moreFin n i (j, acts) = ((tellR { n with jobs := n.jobs.eraseIdx i } j.back j.backRid j.backJob j.item (!j.item.g) 0).1, acts ++ (tellR { n with jobs := n.jobs.eraseIdx i } j.back j.backRid j.backJob j.item (!j.item.g) 0).2) := by unfold moreFin; rw [if_neg hw]
      rw [hmf] at kb
      clear hmf ka
      have hm' := mid_erase i h
      have hms : ({ n with jobs := n.jobs.set i j } : Nd).mid 1000001 := mid_set i j (h.le (by omega)) (by omega)
      by_cases hj : j.backJob = 0
      · rw [tellR, if_pos hj] at kb
        rcases hX with ⟨rfl, rfl⟩ | ⟨gx, rfl, hX⟩
        · have drp := dropW { n with jobs := n.jobs.set i j } _ _ .nil i (by simpa using hi) hms
          simp only [List.getElem_set_self, erase_set] at drp
          have en := endW0 { n with jobs := n.jobs.eraseIdx i } _ _ .nil j hj (hm'.le (by omega)) (by simp)
          simp only at en
          simp -implicitDefEqProofs -dsimp +contextual (maxSteps := 9999999) (disch := first | omega | simp only [go_sem] <;> omega | refine ib ?_; kernel_rfl) only [go_sem, seval, ↓reduceIte, f0, f1, f4, f5, W1, W2, W3, W4, W5, ha, row, hw', k_rowsG, hi, drp, en]
          exact kb _ ⟨_, _, _, _, _, _, rfl, rfl, rfl, rfl, rfl, .inr ⟨rfl, rfl⟩⟩ (fun o ho => by repeat (first | exact hfr o ho | rw [Heap.set_ne _ _ (by omega)])) hw
        · have drp := dropW { n with jobs := n.jobs.set i j } _ _ (.us acts) i (by simpa using hi) hms
          simp only [List.getElem_set_self, erase_set] at drp
          have en := endW0 { n with jobs := n.jobs.eraseIdx i } _ _ (.us acts) j hj (hm'.le (by omega)) (by omega)
          simp only at en
          simp -implicitDefEqProofs -dsimp +contextual (maxSteps := 9999999) (disch := first | omega | simp only [go_sem] <;> omega | refine ib ?_; kernel_rfl) only [go_sem, seval, ↓reduceIte, f0, f1, f4, f5, W1, W2, W3, W4, W5, ha, row, hw', k_rowsG, hi, drp, en, hX]
          exact kb _ ⟨_, _, _, _, _, _, rfl, rfl, rfl, rfl, rfl, .inr ⟨by simp, rfl⟩⟩ (fun o ho => by repeat (first | exact hfr o ho | rw [Heap.set_ne _ _ (by omega)])) hw
      · rw [tellR, if_neg hj] at kb
        obtain ⟨js, rs, hs⟩ := settle_eta { n with jobs := n.jobs.eraseIdx i } j.backJob j.item (!j.item.g) 0
        rcases hX with ⟨rfl, rfl⟩ | ⟨gx, rfl, hX⟩
        · have drp := dropW { n with jobs := n.jobs.set i j } _ _ .nil i (by simpa using hi) hms
          simp only [List.getElem_set_self, erase_set] at drp
          have en := endW1 { n with jobs := n.jobs.eraseIdx i } _ _ .nil j hj (hm'.le (by omega))
          simp only at en
          rw [hs] at en kb
          simp only at en kb
          simp -implicitDefEqProofs -dsimp +contextual (maxSteps := 9999999) (disch := first | omega | simp only [go_sem] <;> omega | refine ib ?_; kernel_rfl) only [go_sem, seval, ↓reduceIte, f0, f1, f4, f5, W1, W2, W3, W4, W5, ha, row, hw', k_rowsG, hi, drp, en]
          exact kb _ ⟨0, _, _, _, _, _, rfl, rfl, rfl, rfl, rfl, .inl ⟨rfl, rfl⟩⟩ (fun o ho => by repeat (first | exact hfr o ho | rw [Heap.set_ne _ _ (by omega)])) hw
        · have drp := dropW { n with jobs := n.jobs.set i j } _ _ (.us acts) i (by simpa using hi) hms
          simp only [List.getElem_set_self, erase_set] at drp
          have en := endW1 { n with jobs := n.jobs.eraseIdx i } _ _ (.us acts) j hj (hm'.le (by omega))
          simp only at en
          rw [hs] at en kb
          simp only at en kb
          rw [List.append_nil] at kb
          simp -implicitDefEqProofs -dsimp +contextual (maxSteps := 9999999) (disch := first | omega | simp only [go_sem] <;> omega | refine ib ?_; kernel_rfl) only [go_sem, seval, ↓reduceIte, f0, f1, f4, f5, W1, W2, W3, W4, W5, ha, row, hw', k_rowsG, hi, drp, en, hX]
          exact kb _ ⟨_, _, _, _, _, _, rfl, rfl, rfl, rfl, rfl, .inr ⟨rfl, rfl⟩⟩ (fun o ho => by repeat (first | exact hfr o ho | rw [Heap.set_ne _ _ (by omega)])) hw

end Go.Proofs.Ytmfcabokoijcdaa
namespace Go.Proofs.Ytmfcabokoijcdaa
open Go.Am
set_option linter.unusedSimpArgs false
set_option linter.unusedVariables false
set_option maxRecDepth 100000
/-! Layer 29: More, came. -/
@[go_sem] theorem nlMo : M.nl 23 = [] := Eq.trans rfl rfl
@[go_sem] theorem nlCame : M.nl 67 = [] := Eq.trans rfl rfl
def ndRes (q : Nd × List Ac) : Option Res := some (.tup [.agg q.1.ocs, .usl 20 (q.2.map Ac.cs)], [])
theorem copR_cases (l : List Jb) (id : Int) : (∃ i : Nat, i < l.length ∧ copR l id = (i : Int)) ∨ copR l id = -1 := by
  rcases findR_cases l id with ⟨i, hi, hid, _, hf⟩ | ⟨_, hf⟩
  · by_cases hk : l[i].kind = 4
    · exact .inl ⟨i, hi, copR_at hi hf hk⟩
    · exact .inr (copR_kind hi hf hk)
  · exact .inr (copR_none hf)
theorem moreFin_set (n : Nd) (i : Nat) (j : Jb) (q : Jb × List Ac) : moreFin { n with jobs := n.jobs.set i j } i q = moreFin n i q := by
  unfold moreFin
  rw [List.set_set, erase_set]
theorem moreR_none {n : Nd} {id : Int} (h : copR n.jobs id = -1) : moreR n id = (n, []) := by
  unfold moreR; rw [h, if_neg (by omega)]
theorem moreR_at {n : Nd} {id : Int} {i : Nat} (hi : i < n.jobs.length) (h : copR n.jobs id = (i : Int)) : moreR n id = moreFin n i (askR id n.list n.jobs[i]) := by
  unfold moreR moreAt; rw [h, if_pos (by omega), Int.toNat_natCast, jobG_at hi]
set_option maxHeartbeats 4000000 in
theorem il_more_none (g : Int) (n : Nd) (id : Int) (c : Nat) (hcop : copR n.jobs id = -1) (h : n.mid 100000) (H : Heap)
    (W1 : H 40106 = ⟨1, .live, 23, [[.str n.me.name, .int .u64 (n.me.id : Int), .int .i64 n.me.fr, .int .i64 n.me.un, .int .i64 n.me.ix, .str n.me.tag, .int .i64 n.clock, .str n.psk, .int .i64 n.gateI, .str n.gateK, .bool n.ready, .slice 8 (n.pred.map Pr.cs), .slice 8 (n.list.map Pr.cs), .slice 9 (n.fingers.map Fg.cs), .osl 60118 1 0 n.sessions.length, .osl 60121 1 0 n.pends.length, .slice 4 (n.items.map It.cs), .osl 60130 c 0 n.jobs.length, .int .i64 n.rid, .int .i64 n.jobId, .slice 1 (n.draws.map u64Row), .osl 60136 1 0 n.results.length, .sc (.slice none 0 0)]], false⟩)
    (W2 : H 60118 = ⟨1, .live, 20, n.sessions.map Se.cs, false⟩) (W3 : H 60121 = ⟨1, .live, 23, n.pends.map Pd.cs, false⟩) (W4 : H 60130 = ⟨c, .live, 29, n.jobs.map Jb.cs, false⟩) (W5 : H 60136 = ⟨1, .live, 8, n.results.map Rs.cs, false⟩)
    (K : AVal × Heap → Option Res) (R : Option Res) (k : K (.tup [], H) = R) : @kB _ _ (il (C1 g) 48 [.ptr 40106 1 0 0, .int .i64 id] H) ⟨K⟩ = R := by
  have jl := h.jl
  have pl := placeI n (.sc (.slice none 0 0)) id (by omega)
  rw [hcop] at pl
  rw [il_text (C := C1 g) Try.func48 rfl Try.results48 (show (C1 g).M.loc 48 = _ from fq48.1) (by kernel_rfl)]
  simp -implicitDefEqProofs -dsimp +contextual (maxSteps := 9999999) (disch := first | omega | simp only [go_sem] <;> omega | refine ib ?_; kernel_rfl) only [go_sem, seval, ↓reduceIte, W1, W2, W3, W4, W5, pl]
  exact k

set_option maxHeartbeats 4000000 in
theorem eMore0 (n : Nd) (id : Int) (hcop : copR n.jobs id = -1) (h : n.mid 100000) : fn (C1 (-1)) 23 [] [.agg [.str n.me.name, .int .u64 (n.me.id : Int), .int .i64 n.me.fr, .int .i64 n.me.un, .int .i64 n.me.ix, .str n.me.tag, .int .i64 n.clock, .str n.psk, .int .i64 n.gateI, .str n.gateK, .bool n.ready, .slice 8 (n.pred.map Pr.cs), .slice 8 (n.list.map Pr.cs), .slice 9 (n.fingers.map Fg.cs), .slice 20 (n.sessions.map Se.cs), .slice 23 (n.pends.map Pd.cs), .slice 4 (n.items.map It.cs), .slice 29 (n.jobs.map Jb.cs), .int .i64 n.rid, .int .i64 n.jobId, .slice 1 (n.draws.map u64Row), .slice 8 (n.results.map Rs.cs)], .int .i64 id] = ndRes (n, []) := by
  obtain ⟨g, hg⟩ : ∃ g : Int, g = -1 := ⟨_, rfl⟩
  rw [← hg]
  rw [fn_textN (C := C1 g) Try.func23 rfl rfl Try.results23 (show (C1 g).M.loc 23 = _ from fq23.1) rfl rfl (by kernel_rfl)]
  simp -implicitDefEqProofs -dsimp +contextual (maxSteps := 9999999) (disch := first | omega | simp only [go_sem] <;> omega | refine ib ?_; kernel_rfl) only [go_sem, seval, ↓reduceIte]
  refine il_on0 n (h.le (by omega)) g (by omega) _ ?_ _ _ fun H' W hfr => ?_
  · intro o ho; repeat (first | rfl | rw [Heap.set_ne _ _ (by omega)])
  obtain ⟨W1, W2, W3, W4, W5⟩ := W
  have g4 : (H' 104).gen = 1 := by rw [hfr 104 (by omega)]; rfl
  have m4 : (H' 104).mode = .live := by rw [hfr 104 (by omega)]; rfl
  obtain ⟨r, hr, H4r⟩ : ∃ r : List AVal, r.length = 22 ∧ (H' 104).rows = [r] := by rw [hfr 104 (by omega)]; exact ⟨_, rfl, rfl⟩
  simp -implicitDefEqProofs -dsimp +contextual (maxSteps := 9999999) (disch := first | omega | simp only [go_sem] <;> omega | refine ib ?_; kernel_rfl) only [go_sem, seval, ↓reduceIte, W1, g4]
  refine il_more_none g n id 1 hcop h _ W1 W2 W3 W4 W5 _ _ ?_
  simp -implicitDefEqProofs -dsimp +contextual (maxSteps := 9999999) (disch := first | omega | simp only [go_sem] <;> omega | refine ib ?_; kernel_rfl) only [go_sem, seval, ↓reduceIte]
  rw [il_text (C := C1 g) Try.func46 rfl Try.results46 (show (C1 g).M.loc 46 = _ from fq46.1) (by kernel_rfl)]
  simp -implicitDefEqProofs -dsimp +contextual (maxSteps := 9999999) (disch := first | omega | simp only [go_sem] <;> omega | refine ib ?_; kernel_rfl) only [go_sem, seval, ↓reduceIte, W1, W2, W3, W4, W5, g4, m4, hr, H4r]
  rfl
set_option maxHeartbeats 8000000 in
theorem eMore1 (n : Nd) (id : Int) (i : Nat) (hi : i < n.jobs.length) (hcop : copR n.jobs id = (i : Int)) (h : n.mid 100000) : fn (C1 (i : Int)) 23 [] [.agg [.str n.me.name, .int .u64 (n.me.id : Int), .int .i64 n.me.fr, .int .i64 n.me.un, .int .i64 n.me.ix, .str n.me.tag, .int .i64 n.clock, .str n.psk, .int .i64 n.gateI, .str n.gateK, .bool n.ready, .slice 8 (n.pred.map Pr.cs), .slice 8 (n.list.map Pr.cs), .slice 9 (n.fingers.map Fg.cs), .slice 20 (n.sessions.map Se.cs), .slice 23 (n.pends.map Pd.cs), .slice 4 (n.items.map It.cs), .slice 29 (n.jobs.map Jb.cs), .int .i64 n.rid, .int .i64 n.jobId, .slice 1 (n.draws.map u64Row), .slice 8 (n.results.map Rs.cs)], .int .i64 id] = ndRes (moreFin n i (askR id n.list n.jobs[i])) := by
  obtain ⟨g, hg⟩ : ∃ g : Int, g = (i : Int) := ⟨_, rfl⟩
  have on := il_on1 n (h.le (by omega)) i hi
  rw [← hg] at on ⊢
  rw [fn_textN (C := C1 g) Try.func23 rfl rfl Try.results23 (show (C1 g).M.loc 23 = _ from fq23.1) rfl rfl (by kernel_rfl)]
  simp -implicitDefEqProofs -dsimp +contextual (maxSteps := 9999999) (disch := first | omega | simp only [go_sem] <;> omega | refine ib ?_; kernel_rfl) only [go_sem, seval, ↓reduceIte]
  refine on _ ?_ _ _ fun H' W W6 hfr => ?_
  · intro o ho; repeat (first | rfl | rw [Heap.set_ne _ _ (by omega)])
  obtain ⟨W1, W2, W3, W4, W5⟩ := W
  have g4 : (H' 104).gen = 1 := by rw [hfr 104 (by omega)]; rfl
  have m4 : (H' 104).mode = .live := by rw [hfr 104 (by omega)]; rfl
  obtain ⟨r, hr, H4r⟩ : ∃ r : List AVal, r.length = 22 ∧ (H' 104).rows = [r] := by rw [hfr 104 (by omega)]; exact ⟨_, rfl, rfl⟩
  simp -implicitDefEqProofs -dsimp +contextual (maxSteps := 9999999) (disch := first | omega | simp only [go_sem] <;> omega | refine ib ?_; kernel_rfl) only [go_sem, seval, ↓reduceIte, W1, g4]
  refine il_moreA g n id i 1 n.jobs[i] _ hi (by rw [List.set_getElem_self]; exact hcop) h (h.ja _ (List.getElem_mem hi)) _ ⟨W1, W2, W3, W4, W5⟩ ⟨1, rfl, W6⟩ _ _ _ rfl ?_ ?_
  · intro H2 A X M2 A2 X2 hf2 hw
    obtain ⟨Y1, Y2, Y3, Y4, Y5⟩ := M2
    have k4 : (H2 104).gen = 1 := by rw [hf2 104 (by omega)]; exact g4
    have n4 : (H2 104).mode = .live := by rw [hf2 104 (by omega)]; exact m4
    have r4 : (H2 104).rows = [r] := by rw [hf2 104 (by omega)]; exact H4r
    generalize askR id n.list n.jobs[i] = q at *
    obtain ⟨j, acts⟩ := q
    have hmf : moreFin n i (j, acts) = ({ n with jobs := n.jobs.set i j }, acts) := by unfold moreFin; rw [if_pos hw]
    rw [hmf]
    obtain ⟨ga, rfl, ha⟩ := A2
    simp only at Y1 Y4 ha X2
    rcases X2 with ⟨rfl, rfl⟩ | ⟨gx, rfl, hX⟩
    · simp -implicitDefEqProofs -dsimp +contextual (maxSteps := 9999999) (disch := first | omega | simp only [go_sem] <;> omega | refine ib ?_; kernel_rfl) only [go_sem, seval, ↓reduceIte]
      rw [il_text (C := C1 g) Try.func46 rfl Try.results46 (show (C1 g).M.loc 46 = _ from fq46.1) (by kernel_rfl)]
      simp -implicitDefEqProofs -dsimp +contextual (maxSteps := 9999999) (disch := first | omega | simp only [go_sem] <;> omega | refine ib ?_; kernel_rfl) only [go_sem, seval, ↓reduceIte, Y1, Y2, Y3, Y4, Y5, k4, n4, hr, r4, ha, k_rowsG, hi]
      rfl
    · simp -implicitDefEqProofs -dsimp +contextual (maxSteps := 9999999) (disch := first | omega | simp only [go_sem] <;> omega | refine ib ?_; kernel_rfl) only [go_sem, seval, ↓reduceIte]
      rw [il_text (C := C1 g) Try.func46 rfl Try.results46 (show (C1 g).M.loc 46 = _ from fq46.1) (by kernel_rfl)]
      simp -implicitDefEqProofs -dsimp +contextual (maxSteps := 9999999) (disch := first | omega | simp only [go_sem] <;> omega | refine ib ?_; kernel_rfl) only [go_sem, seval, ↓reduceIte, Y1, Y2, Y3, Y4, Y5, k4, n4, hr, r4, ha, hX, k_rowsG, hi]
      rfl
  · intro H2 M2 hf2 hw
    have k4 : (H2 104).gen = 1 := by rw [hf2 104 (by omega)]; exact g4
    have n4 : (H2 104).mode = .live := by rw [hf2 104 (by omega)]; exact m4
    have r4 : (H2 104).rows = [r] := by rw [hf2 104 (by omega)]; exact H4r
    clear hw
    generalize moreFin n i (askR id n.list n.jobs[i]) = q at *
    obtain ⟨m, acts⟩ := q
    unfold WorkAt at M2
    simp only [Nat.reduceMul, Nat.reduceAdd] at M2
    obtain ⟨A, a, b, c, d, X, Y1, Y2, Y3, Y4, Y5, hX⟩ := M2
    rcases hX with ⟨rfl, rfl⟩ | ⟨rfl, hX⟩
    · simp -implicitDefEqProofs -dsimp +contextual (maxSteps := 9999999) (disch := first | omega | simp only [go_sem] <;> omega | refine ib ?_; kernel_rfl) only [go_sem, seval, ↓reduceIte]
      rw [il_text (C := C1 g) Try.func46 rfl Try.results46 (show (C1 g).M.loc 46 = _ from fq46.1) (by kernel_rfl)]
      simp -implicitDefEqProofs -dsimp +contextual (maxSteps := 9999999) (disch := first | omega | simp only [go_sem] <;> omega | refine ib ?_; kernel_rfl) only [go_sem, seval, ↓reduceIte, Y1, Y2, Y3, Y4, Y5, k4, n4, hr, r4]
      rfl
    · simp -implicitDefEqProofs -dsimp +contextual (maxSteps := 9999999) (disch := first | omega | simp only [go_sem] <;> omega | refine ib ?_; kernel_rfl) only [go_sem, seval, ↓reduceIte]
      rw [il_text (C := C1 g) Try.func46 rfl Try.results46 (show (C1 g).M.loc 46 = _ from fq46.1) (by kernel_rfl)]
      simp -implicitDefEqProofs -dsimp +contextual (maxSteps := 9999999) (disch := first | omega | simp only [go_sem] <;> omega | refine ib ?_; kernel_rfl) only [go_sem, seval, ↓reduceIte, Y1, Y2, Y3, Y4, Y5, k4, n4, hr, r4, hX]
      rfl

set_option maxHeartbeats 4000000 in
theorem eCame0 (n : Nd) (id : Int) (t : Bool) (hcop : copR n.jobs id = -1) (h : n.mid 100000) : fn (C1 (-1)) 67 [] [.agg [.str n.me.name, .int .u64 (n.me.id : Int), .int .i64 n.me.fr, .int .i64 n.me.un, .int .i64 n.me.ix, .str n.me.tag, .int .i64 n.clock, .str n.psk, .int .i64 n.gateI, .str n.gateK, .bool n.ready, .slice 8 (n.pred.map Pr.cs), .slice 8 (n.list.map Pr.cs), .slice 9 (n.fingers.map Fg.cs), .slice 20 (n.sessions.map Se.cs), .slice 23 (n.pends.map Pd.cs), .slice 4 (n.items.map It.cs), .slice 29 (n.jobs.map Jb.cs), .int .i64 n.rid, .int .i64 n.jobId, .slice 1 (n.draws.map u64Row), .slice 8 (n.results.map Rs.cs)], .int .i64 id, .bool t] = ndRes (n, []) := by
  obtain ⟨g, hg⟩ : ∃ g : Int, g = -1 := ⟨_, rfl⟩
  rw [← hg]
  have jl := h.jl
  have pl := placeI n (.sc (.slice none 0 0)) id (by omega)
  rw [hcop] at pl
  rw [fn_textN (C := C1 g) Try.func67 rfl rfl Try.results67 (show (C1 g).M.loc 67 = _ from fq67.1) rfl rfl (by kernel_rfl)]
  simp -implicitDefEqProofs -dsimp +contextual (maxSteps := 9999999) (disch := first | omega | simp only [go_sem] <;> omega | refine ib ?_; kernel_rfl) only [go_sem, seval, ↓reduceIte]
  refine il_on0 n (h.le (by omega)) g (by omega) _ ?_ _ _ fun H' W hfr => ?_
  · intro o ho; repeat (first | rfl | rw [Heap.set_ne _ _ (by omega)])
  obtain ⟨W1, W2, W3, W4, W5⟩ := W
  have g4 : (H' 106).gen = 1 := by rw [hfr 106 (by omega)]; rfl
  have m4 : (H' 106).mode = .live := by rw [hfr 106 (by omega)]; rfl
  obtain ⟨r, hr, H4r⟩ : ∃ r : List AVal, r.length = 22 ∧ (H' 106).rows = [r] := by rw [hfr 106 (by omega)]; exact ⟨_, rfl, rfl⟩
  simp -implicitDefEqProofs -dsimp +contextual (maxSteps := 9999999) (disch := first | omega | simp only [go_sem] <;> omega | refine ib ?_; kernel_rfl) only [go_sem, seval, ↓reduceIte, W1, W2, W3, W4, W5, pl]
  refine il_more_none g n id 1 hcop h _ W1 W2 W3 W4 W5 _ _ ?_
  simp -implicitDefEqProofs -dsimp +contextual (maxSteps := 9999999) (disch := first | omega | simp only [go_sem] <;> omega | refine ib ?_; kernel_rfl) only [go_sem, seval, ↓reduceIte]
  rw [il_text (C := C1 g) Try.func46 rfl Try.results46 (show (C1 g).M.loc 46 = _ from fq46.1) (by kernel_rfl)]
  simp -implicitDefEqProofs -dsimp +contextual (maxSteps := 9999999) (disch := first | omega | simp only [go_sem] <;> omega | refine ib ?_; kernel_rfl) only [go_sem, seval, ↓reduceIte, W1, W2, W3, W4, W5, g4, m4, hr, H4r]
  rfl

theorem cameJ_T (j : Jb) : cameJ true j = ⟨j.id, j.kind, j.phase, j.hops, j.tries, j.til, j.key, j.val, j.owner, j.item, fewR j.acks + 1, if fewR j.waits - 1 < 0 then 0 else fewR j.waits - 1, j.asked, j.back, j.backRid, j.backJob⟩ := rfl
theorem cameJ_F (j : Jb) : cameJ false j = ⟨j.id, j.kind, j.phase, j.hops, j.tries, j.til, j.key, j.val, j.owner, j.item, j.acks, if fewR j.waits - 1 < 0 then 0 else fewR j.waits - 1, j.asked, j.back, j.backRid, j.backJob⟩ := rfl
theorem cop_set {l : List Jb} {id : Int} {i : Nat} {j : Jb} (hi : i < l.length) (hc : copR l id = (i : Int)) (h1 : j.id = l[i].id) (h2 : j.kind = l[i].kind) : copR (l.set i j) id = (i : Int) := by
  have hf : findR l id = (i : Int) := by
    unfold copR at hc; split at hc
    · exact hc
    · omega
  have hk : l[i].kind = 4 := by
    unfold copR at hc; split at hc
    · rename_i hk; rw [hf, Int.toNat_natCast, jobG_at hi] at hk; exact hk.2
    · omega
  refine copR_at (by simpa using hi) ?_ (by simpa [h2] using hk)
  rcases findR_cases l id with ⟨k, hk', hid, ha, hf'⟩ | ⟨_, hf'⟩
  · obtain rfl : k = i := by omega
    refine placeG_at (by simpa using hi) ?_ (by simp [jobAt, h1, hid])
    rw [List.take_set_of_le (Nat.le_refl _)]
    exact ha
  · omega
set_option maxHeartbeats 8000000 in
theorem eCame1 (n : Nd) (id : Int) (t : Bool) (i : Nat) (hi : i < n.jobs.length) (hcop : copR n.jobs id = (i : Int)) (h : n.mid 100000) : fn (C1 (i : Int)) 67 [] [.agg [.str n.me.name, .int .u64 (n.me.id : Int), .int .i64 n.me.fr, .int .i64 n.me.un, .int .i64 n.me.ix, .str n.me.tag, .int .i64 n.clock, .str n.psk, .int .i64 n.gateI, .str n.gateK, .bool n.ready, .slice 8 (n.pred.map Pr.cs), .slice 8 (n.list.map Pr.cs), .slice 9 (n.fingers.map Fg.cs), .slice 20 (n.sessions.map Se.cs), .slice 23 (n.pends.map Pd.cs), .slice 4 (n.items.map It.cs), .slice 29 (n.jobs.map Jb.cs), .int .i64 n.rid, .int .i64 n.jobId, .slice 1 (n.draws.map u64Row), .slice 8 (n.results.map Rs.cs)], .int .i64 id, .bool t] = ndRes (moreFin n i (askR id n.list (cameJ t n.jobs[i]))) := by
  obtain ⟨g, hg⟩ : ∃ g : Int, g = (i : Int) := ⟨_, rfl⟩
  have jl := h.jl
  have on := il_on1 n (h.le (by omega)) i hi
  have pl := placeI n (.sc (.slice none 0 0)) id (by omega)
  rw [hcop] at pl
  rw [← hg] at on ⊢
  have row := fun R => rowsG_at (R := R) hi
  have b1 := fewR_b n.jobs[i].acks
  have b2 := fewR_b n.jobs[i].waits
  rw [fn_textN (C := C1 g) Try.func67 rfl rfl Try.results67 (show (C1 g).M.loc 67 = _ from fq67.1) rfl rfl (by kernel_rfl)]
  simp -implicitDefEqProofs -dsimp +contextual (maxSteps := 9999999) (disch := first | omega | simp only [go_sem] <;> omega | refine ib ?_; kernel_rfl) only [go_sem, seval, ↓reduceIte]
  refine on _ ?_ _ _ fun H' W W6 hfr => ?_
  · intro o ho; repeat (first | rfl | rw [Heap.set_ne _ _ (by omega)])
  obtain ⟨W1, W2, W3, W4, W5⟩ := W
  have g4 : (H' 106).gen = 1 := by rw [hfr 106 (by omega)]; rfl
  have m4 : (H' 106).mode = .live := by rw [hfr 106 (by omega)]; rfl
  obtain ⟨r, hr, H4r⟩ : ∃ r : List AVal, r.length = 22 ∧ (H' 106).rows = [r] := by rw [hfr 106 (by omega)]; exact ⟨_, rfl, rfl⟩
  have st : n.jobs.set i n.jobs[i] = n.jobs := List.set_getElem_self _
  simp -implicitDefEqProofs -dsimp +contextual (maxSteps := 9999999) (disch := first | omega | simp only [go_sem] <;> omega | refine ib ?_; kernel_rfl) only [go_sem, seval, ↓reduceIte, W1, W2, W3, W4, W5, W6, pl, k_rowsG, hi, row, st, Nat.not_lt_zero]
  cases t
  · simp -implicitDefEqProofs -dsimp +contextual (maxSteps := 9999999) (disch := first | omega | simp only [go_sem] <;> omega | refine ib ?_; kernel_rfl) only [go_sem, seval, ↓reduceIte]
    refine il_moreA g n id i 1 (cameJ false n.jobs[i]) (.osl 60155 1 0 n.jobs[i].asked.length) hi (cop_set hi hcop rfl rfl) h (show n.jobs[i].asked.length ≤ 100000 from h.ja _ (List.getElem_mem hi)) _ ?_ ?_ _ _ _ rfl ?_ ?_
    · exact ⟨W1, W2, W3, rfl, W5⟩
    · exact ⟨1, rfl, W6⟩
    · intro H2 A X M2 A2 X2 hf2 hw
      obtain ⟨Y1, Y2, Y3, Y4, Y5⟩ := M2
      have k4 : (H2 106).gen = 1 := by rw [hf2 106 (by omega)]; exact g4
      have n4 : (H2 106).mode = .live := by rw [hf2 106 (by omega)]; exact m4
      have r4 : (H2 106).rows = [r] := by rw [hf2 106 (by omega)]; exact H4r
      generalize askR id n.list (cameJ false n.jobs[i]) = q at *
      obtain ⟨j, acts⟩ := q
      have hmf : moreFin n i (j, acts) = ({ n with jobs := n.jobs.set i j }, acts) := by unfold moreFin; rw [if_pos hw]
      rw [hmf]
      obtain ⟨ga, rfl, ha⟩ := A2
      simp only at Y1 Y4 ha X2
      rcases X2 with ⟨rfl, rfl⟩ | ⟨gx, rfl, hX⟩
      · simp -implicitDefEqProofs -dsimp +contextual (maxSteps := 9999999) (disch := first | omega | simp only [go_sem] <;> omega | refine ib ?_; kernel_rfl) only [go_sem, seval, ↓reduceIte]
        rw [il_text (C := C1 g) Try.func46 rfl Try.results46 (show (C1 g).M.loc 46 = _ from fq46.1) (by kernel_rfl)]
        simp -implicitDefEqProofs -dsimp +contextual (maxSteps := 9999999) (disch := first | omega | simp only [go_sem] <;> omega | refine ib ?_; kernel_rfl) only [go_sem, seval, ↓reduceIte, Y1, Y2, Y3, Y4, Y5, k4, n4, hr, r4, ha, k_rowsG, hi]
        rfl
      · simp -implicitDefEqProofs -dsimp +contextual (maxSteps := 9999999) (disch := first | omega | simp only [go_sem] <;> omega | refine ib ?_; kernel_rfl) only [go_sem, seval, ↓reduceIte]
        rw [il_text (C := C1 g) Try.func46 rfl Try.results46 (show (C1 g).M.loc 46 = _ from fq46.1) (by kernel_rfl)]
        simp -implicitDefEqProofs -dsimp +contextual (maxSteps := 9999999) (disch := first | omega | simp only [go_sem] <;> omega | refine ib ?_; kernel_rfl) only [go_sem, seval, ↓reduceIte, Y1, Y2, Y3, Y4, Y5, k4, n4, hr, r4, ha, hX, k_rowsG, hi]
        rfl
    · intro H2 M2 hf2 hw
      have k4 : (H2 106).gen = 1 := by rw [hf2 106 (by omega)]; exact g4
      have n4 : (H2 106).mode = .live := by rw [hf2 106 (by omega)]; exact m4
      have r4 : (H2 106).rows = [r] := by rw [hf2 106 (by omega)]; exact H4r
      clear hw
      generalize moreFin n i (askR id n.list (cameJ false n.jobs[i])) = q at *
      obtain ⟨m, acts⟩ := q
      unfold WorkAt at M2
      simp only [Nat.reduceMul, Nat.reduceAdd] at M2
      obtain ⟨A, a, b, c, d, X, Y1, Y2, Y3, Y4, Y5, hX⟩ := M2
      rcases hX with ⟨rfl, rfl⟩ | ⟨rfl, hX⟩
      · simp -implicitDefEqProofs -dsimp +contextual (maxSteps := 9999999) (disch := first | omega | simp only [go_sem] <;> omega | refine ib ?_; kernel_rfl) only [go_sem, seval, ↓reduceIte]
        rw [il_text (C := C1 g) Try.func46 rfl Try.results46 (show (C1 g).M.loc 46 = _ from fq46.1) (by kernel_rfl)]
        simp -implicitDefEqProofs -dsimp +contextual (maxSteps := 9999999) (disch := first | omega | simp only [go_sem] <;> omega | refine ib ?_; kernel_rfl) only [go_sem, seval, ↓reduceIte, Y1, Y2, Y3, Y4, Y5, k4, n4, hr, r4]
        rfl
      · simp -implicitDefEqProofs -dsimp +contextual (maxSteps := 9999999) (disch := first | omega | simp only [go_sem] <;> omega | refine ib ?_; kernel_rfl) only [go_sem, seval, ↓reduceIte]
        rw [il_text (C := C1 g) Try.func46 rfl Try.results46 (show (C1 g).M.loc 46 = _ from fq46.1) (by kernel_rfl)]
        simp -implicitDefEqProofs -dsimp +contextual (maxSteps := 9999999) (disch := first | omega | simp only [go_sem] <;> omega | refine ib ?_; kernel_rfl) only [go_sem, seval, ↓reduceIte, Y1, Y2, Y3, Y4, Y5, k4, n4, hr, r4, hX]
        rfl
  · simp -implicitDefEqProofs -dsimp +contextual (maxSteps := 9999999) (disch := first | omega | simp only [go_sem] <;> omega | refine ib ?_; kernel_rfl) only [go_sem, seval, ↓reduceIte]
    refine il_moreA g n id i 1 (cameJ true n.jobs[i]) (.osl 60155 1 0 n.jobs[i].asked.length) hi (cop_set hi hcop rfl rfl) h (show n.jobs[i].asked.length ≤ 100000 from h.ja _ (List.getElem_mem hi)) _ ?_ ?_ _ _ _ rfl ?_ ?_
    · exact ⟨W1, W2, W3, rfl, W5⟩
    · exact ⟨1, rfl, W6⟩
    · intro H2 A X M2 A2 X2 hf2 hw
      obtain ⟨Y1, Y2, Y3, Y4, Y5⟩ := M2
      have k4 : (H2 106).gen = 1 := by rw [hf2 106 (by omega)]; exact g4
      have n4 : (H2 106).mode = .live := by rw [hf2 106 (by omega)]; exact m4
      have r4 : (H2 106).rows = [r] := by rw [hf2 106 (by omega)]; exact H4r
      generalize askR id n.list (cameJ true n.jobs[i]) = q at *
      obtain ⟨j, acts⟩ := q
      have hmf : moreFin n i (j, acts) = ({ n with jobs := n.jobs.set i j }, acts) := by unfold moreFin; rw [if_pos hw]
      rw [hmf]
      obtain ⟨ga, rfl, ha⟩ := A2
      simp only at Y1 Y4 ha X2
      rcases X2 with ⟨rfl, rfl⟩ | ⟨gx, rfl, hX⟩
      · simp -implicitDefEqProofs -dsimp +contextual (maxSteps := 9999999) (disch := first | omega | simp only [go_sem] <;> omega | refine ib ?_; kernel_rfl) only [go_sem, seval, ↓reduceIte]
        rw [il_text (C := C1 g) Try.func46 rfl Try.results46 (show (C1 g).M.loc 46 = _ from fq46.1) (by kernel_rfl)]
        simp -implicitDefEqProofs -dsimp +contextual (maxSteps := 9999999) (disch := first | omega | simp only [go_sem] <;> omega | refine ib ?_; kernel_rfl) only [go_sem, seval, ↓reduceIte, Y1, Y2, Y3, Y4, Y5, k4, n4, hr, r4, ha, k_rowsG, hi]
        rfl
      · simp -implicitDefEqProofs -dsimp +contextual (maxSteps := 9999999) (disch := first | omega | simp only [go_sem] <;> omega | refine ib ?_; kernel_rfl) only [go_sem, seval, ↓reduceIte]
        rw [il_text (C := C1 g) Try.func46 rfl Try.results46 (show (C1 g).M.loc 46 = _ from fq46.1) (by kernel_rfl)]
        simp -implicitDefEqProofs -dsimp +contextual (maxSteps := 9999999) (disch := first | omega | simp only [go_sem] <;> omega | refine ib ?_; kernel_rfl) only [go_sem, seval, ↓reduceIte, Y1, Y2, Y3, Y4, Y5, k4, n4, hr, r4, ha, hX, k_rowsG, hi]
        rfl
    · intro H2 M2 hf2 hw
      have k4 : (H2 106).gen = 1 := by rw [hf2 106 (by omega)]; exact g4
      have n4 : (H2 106).mode = .live := by rw [hf2 106 (by omega)]; exact m4
      have r4 : (H2 106).rows = [r] := by rw [hf2 106 (by omega)]; exact H4r
      clear hw
      generalize moreFin n i (askR id n.list (cameJ true n.jobs[i])) = q at *
      obtain ⟨m, acts⟩ := q
      unfold WorkAt at M2
      simp only [Nat.reduceMul, Nat.reduceAdd] at M2
      obtain ⟨A, a, b, c, d, X, Y1, Y2, Y3, Y4, Y5, hX⟩ := M2
      rcases hX with ⟨rfl, rfl⟩ | ⟨rfl, hX⟩
      · simp -implicitDefEqProofs -dsimp +contextual (maxSteps := 9999999) (disch := first | omega | simp only [go_sem] <;> omega | refine ib ?_; kernel_rfl) only [go_sem, seval, ↓reduceIte]
        rw [il_text (C := C1 g) Try.func46 rfl Try.results46 (show (C1 g).M.loc 46 = _ from fq46.1) (by kernel_rfl)]
        simp -implicitDefEqProofs -dsimp +contextual (maxSteps := 9999999) (disch := first | omega | simp only [go_sem] <;> omega | refine ib ?_; kernel_rfl) only [go_sem, seval, ↓reduceIte, Y1, Y2, Y3, Y4, Y5, k4, n4, hr, r4]
        rfl
      · simp -implicitDefEqProofs -dsimp +contextual (maxSteps := 9999999) (disch := first | omega | simp only [go_sem] <;> omega | refine ib ?_; kernel_rfl) only [go_sem, seval, ↓reduceIte]
        rw [il_text (C := C1 g) Try.func46 rfl Try.results46 (show (C1 g).M.loc 46 = _ from fq46.1) (by kernel_rfl)]
        simp -implicitDefEqProofs -dsimp +contextual (maxSteps := 9999999) (disch := first | omega | simp only [go_sem] <;> omega | refine ib ?_; kernel_rfl) only [go_sem, seval, ↓reduceIte, Y1, Y2, Y3, Y4, Y5, k4, n4, hr, r4, hX]
        rfl

end Go.Proofs.Ytmfcabokoijcdaa
namespace Go.Proofs.Ytmfcabokoijcdaa
open Go.Am
set_option linter.unusedSimpArgs false
set_option linter.unusedVariables false
set_option maxRecDepth 100000
/-! Layer 29: Begin. -/

theorem Jb_app (n : Nd) (x : It) (back : En) (rid job : Int) : n.jobs.map Jb.cs ++ [[.int .i64 (nextI n.jobId), .int .i64 4, .int .i64 0, .int .i64 0, .int .i64 0, .int .i64 (n.clock + 192), .str [], .str [], .str [], .int .u64 0, .int .i64 0, .int .i64 0, .int .i64 0, .str [], .str x.k, .str x.v, .int .i64 x.n, .bool x.g, .int .i64 0, .int .i64 0, .slice 1 [], .str back.name, .int .u64 (back.id : Int), .int .i64 back.fr, .int .i64 back.un, .int .i64 back.ix, .str back.tag, .int .i64 rid, .int .i64 job]] = (n.jobs ++ [copyJ n x back rid job]).map Jb.cs := by rw [List.map_append]; rfl
theorem Jb_appN (n : Nd) (x : It) (back : En) (rid job : Int) : n.jobs.map Jb.cs ++ [[.int .i64 (nextI n.jobId), .int .i64 4, .int .i64 0, .int .i64 0, .int .i64 0, .int .i64 (n.clock + 192), .str [], .str [], .str [], .int .u64 0, .int .i64 0, .int .i64 0, .int .i64 0, .str [], .str x.k, .str x.v, .int .i64 x.n, .bool x.g, .int .i64 0, .int .i64 0, .sc (.slice none 0 0), .str back.name, .int .u64 (back.id : Int), .int .i64 back.fr, .int .i64 back.un, .int .i64 back.ix, .str back.tag, .int .i64 rid, .int .i64 job]] = rowsG (n.jobs ++ [copyJ n x back rid job]) n.jobs.length [.int .i64 (nextI n.jobId), .int .i64 4, .int .i64 0, .int .i64 0, .int .i64 0, .int .i64 (n.clock + 192), .str [], .str [], .str [], .int .u64 0, .int .i64 0, .int .i64 0, .int .i64 0, .str [], .str x.k, .str x.v, .int .i64 x.n, .bool x.g, .int .i64 0, .int .i64 0, .sc (.slice none 0 0), .str back.name, .int .u64 (back.id : Int), .int .i64 back.fr, .int .i64 back.un, .int .i64 back.ix, .str back.tag, .int .i64 rid, .int .i64 job] := by
  unfold rowsG
  rw [List.map_append, List.set_append_right _ _ (by simp)]
  simp [copyJ, jbZ, enZ]
theorem rowsG_app (n : Nd) (i : Nat) (hi : i < n.jobs.length) (R : List AVal) (x : It) (back : En) (rid job : Int) : rowsG n.jobs i R ++ [[.int .i64 (nextI n.jobId), .int .i64 4, .int .i64 0, .int .i64 0, .int .i64 0, .int .i64 (n.clock + 192), .str [], .str [], .str [], .int .u64 0, .int .i64 0, .int .i64 0, .int .i64 0, .str [], .str x.k, .str x.v, .int .i64 x.n, .bool x.g, .int .i64 0, .int .i64 0, .slice 1 [], .str back.name, .int .u64 (back.id : Int), .int .i64 back.fr, .int .i64 back.un, .int .i64 back.ix, .str back.tag, .int .i64 rid, .int .i64 job]] = rowsG (n.jobs ++ [copyJ n x back rid job]) i R := by
  unfold rowsG
  rw [List.map_append, List.set_append_left _ _ (by simpa using hi)]
  rfl
@[go_sem] theorem nlBg : M.nl 12 = [] := Eq.trans rfl rfl

set_option maxHeartbeats 8000000 in
theorem eBeginE0 (n : Nd) (key val : List UInt8) (gone : Bool) (back : En) (rid job : Int) (h : n.mid 90000) (hk : key.length ≤ 9223372036854775807) (hc : 0 ≤ n.clock ∧ n.clock ≤ 1099511627776) (he : ¬ beginE n key val gone = 0) (hj : job = 0) :
    fn (C1 (-1)) 12 [] [.agg [.str n.me.name, .int .u64 (n.me.id : Int), .int .i64 n.me.fr, .int .i64 n.me.un, .int .i64 n.me.ix, .str n.me.tag, .int .i64 n.clock, .str n.psk, .int .i64 n.gateI, .str n.gateK, .bool n.ready, .slice 8 (n.pred.map Pr.cs), .slice 8 (n.list.map Pr.cs), .slice 9 (n.fingers.map Fg.cs), .slice 20 (n.sessions.map Se.cs), .slice 23 (n.pends.map Pd.cs), .slice 4 (n.items.map It.cs), .slice 29 (n.jobs.map Jb.cs), .int .i64 n.rid, .int .i64 n.jobId, .slice 1 (n.draws.map u64Row), .slice 8 (n.results.map Rs.cs)], .str key, .str val, .bool gone, .agg [.str back.name, .int .u64 (back.id : Int), .int .i64 back.fr, .int .i64 back.un, .int .i64 back.ix, .str back.tag], .int .i64 rid, .int .i64 job] = ndRes (n, [doneA back rid zeroIt (beginE n key val gone)]) := by
  obtain ⟨g, hg⟩ : ∃ g : Int, g = -1 := ⟨_, rfl⟩
  rw [← hg]
  have nl := nlB_B g (by omega)
  have il := h.il
  have jl := h.jl
  have pu := e18 n.items key val gone (by omega) hk
  have tw := fun e => tellW0 n _ _ .nil back rid zeroIt false e (h.le (by omega)) (by simp)
  simp only [zeroIt_k, zeroIt_v, zeroIt_n, zeroIt_g] at tw
  subst hj
  rw [fn_textN (C := C1 g) Try.func12 rfl rfl Try.results12 (show (C1 g).M.loc 12 = _ from fq12.1) rfl rfl (by kernel_rfl)]
  simp -implicitDefEqProofs -dsimp +contextual (maxSteps := 9999999) (disch := first | omega | simp only [go_sem] <;> omega | refine ib ?_; kernel_rfl) only [go_sem, seval, ↓reduceIte, nl]
  refine il_on0 n (h.le (by omega)) g (by omega) _ ?_ _ _ fun H' W hfr => ?_
  · intro o ho; repeat (first | rfl | rw [Heap.set_ne _ _ (by omega)])
  obtain ⟨W1, W2, W3, W4, W5⟩ := W
  have g4 : (H' 114).gen = 1 := by rw [hfr 114 (by omega)]; rfl
  have m4 : (H' 114).mode = .live := by rw [hfr 114 (by omega)]; rfl
  obtain ⟨r, hr, H4r⟩ : ∃ r : List AVal, r.length = 22 ∧ (H' 114).rows = [r] := by rw [hfr 114 (by omega)]; exact ⟨_, rfl, rfl⟩
  have h11 : H' 111 = ⟨1, .live, 6, [[.str back.name, .int .u64 (back.id : Int), .int .i64 back.fr, .int .i64 back.un, .int .i64 back.ix, .str back.tag]], false⟩ := by rw [hfr 111 (by omega)]; rfl
  have h18 : H' 118 = ⟨0, .dead, 0, [], false⟩ := by rw [hfr 118 (by omega)]; rfl
  by_cases h8 : 8 ≤ n.jobs.length
  · have hb : beginE n key val gone = 41 := by unfold beginE; rw [if_pos h8]
    rw [hb] at he ⊢
    clear hb
    have tw := tw 41
    simp -implicitDefEqProofs -dsimp +contextual (maxSteps := 9999999) (disch := first | omega | simp only [go_sem] <;> omega | refine ib ?_; kernel_rfl) only [go_sem, seval, ↓reduceIte, nl, W1, W2, W3, W4, W5, pu, h11, h18, g4, m4, hr, H4r, h8, tw]
    rw [il_text (C := C1 g) Try.func46 rfl Try.results46 (show (C1 g).M.loc 46 = _ from fq46.1) (by kernel_rfl)]
    simp -implicitDefEqProofs -dsimp +contextual (maxSteps := 9999999) (disch := first | omega | simp only [go_sem] <;> omega | refine ib ?_; kernel_rfl) only [go_sem, seval, ↓reduceIte, nl, W1, W2, W3, W4, W5, g4, m4, hr, H4r]
    rfl
  · have hb : beginE n key val gone = (putR n.items key val gone).2.2 := by unfold beginE; rw [if_neg h8]
    rw [hb] at he ⊢
    clear hb
    have tw := tw (putR n.items key val gone).2.2
    generalize putR n.items key val gone = p at *
    obtain ⟨p1, p2, p3⟩ := p
    simp only at he tw pu ⊢
    simp -implicitDefEqProofs -dsimp +contextual (maxSteps := 9999999) (disch := first | omega | simp only [go_sem] <;> omega | refine ib ?_; kernel_rfl) only [go_sem, seval, ↓reduceIte, nl, W1, W2, W3, W4, W5, pu, h11, h18, g4, m4, hr, H4r, h8, tw, he]
    rw [il_text (C := C1 g) Try.func46 rfl Try.results46 (show (C1 g).M.loc 46 = _ from fq46.1) (by kernel_rfl)]
    simp -implicitDefEqProofs -dsimp +contextual (maxSteps := 9999999) (disch := first | omega | simp only [go_sem] <;> omega | refine ib ?_; kernel_rfl) only [go_sem, seval, ↓reduceIte, nl, W1, W2, W3, W4, W5, g4, m4, hr, H4r]
    rfl

set_option maxHeartbeats 8000000 in
theorem eBeginE1 (n : Nd) (key val : List UInt8) (gone : Bool) (back : En) (rid job : Int) (h : n.mid 90000) (hk : key.length ≤ 9223372036854775807) (hc : 0 ≤ n.clock ∧ n.clock ≤ 1099511627776) (he : ¬ beginE n key val gone = 0) (hj : ¬ job = 0) :
    fn (C1 (-1)) 12 [] [.agg [.str n.me.name, .int .u64 (n.me.id : Int), .int .i64 n.me.fr, .int .i64 n.me.un, .int .i64 n.me.ix, .str n.me.tag, .int .i64 n.clock, .str n.psk, .int .i64 n.gateI, .str n.gateK, .bool n.ready, .slice 8 (n.pred.map Pr.cs), .slice 8 (n.list.map Pr.cs), .slice 9 (n.fingers.map Fg.cs), .slice 20 (n.sessions.map Se.cs), .slice 23 (n.pends.map Pd.cs), .slice 4 (n.items.map It.cs), .slice 29 (n.jobs.map Jb.cs), .int .i64 n.rid, .int .i64 n.jobId, .slice 1 (n.draws.map u64Row), .slice 8 (n.results.map Rs.cs)], .str key, .str val, .bool gone, .agg [.str back.name, .int .u64 (back.id : Int), .int .i64 back.fr, .int .i64 back.un, .int .i64 back.ix, .str back.tag], .int .i64 rid, .int .i64 job] = ndRes (settleR n job zeroIt false (beginE n key val gone), []) := by
  obtain ⟨g, hg⟩ : ∃ g : Int, g = -1 := ⟨_, rfl⟩
  rw [← hg]
  have nl := nlB_B g (by omega)
  have il := h.il
  have jl := h.jl
  have pu := e18 n.items key val gone (by omega) hk
  have tw := fun e => tellW1 n _ _ .nil back rid job zeroIt false e hj (h.le (by omega))
  simp only [zeroIt_k, zeroIt_v, zeroIt_n, zeroIt_g] at tw
  rw [fn_textN (C := C1 g) Try.func12 rfl rfl Try.results12 (show (C1 g).M.loc 12 = _ from fq12.1) rfl rfl (by kernel_rfl)]
  simp -implicitDefEqProofs -dsimp +contextual (maxSteps := 9999999) (disch := first | omega | simp only [go_sem] <;> omega | refine ib ?_; kernel_rfl) only [go_sem, seval, ↓reduceIte, nl]
  refine il_on0 n (h.le (by omega)) g (by omega) _ ?_ _ _ fun H' W hfr => ?_
  · intro o ho; repeat (first | rfl | rw [Heap.set_ne _ _ (by omega)])
  obtain ⟨W1, W2, W3, W4, W5⟩ := W
  have g4 : (H' 114).gen = 1 := by rw [hfr 114 (by omega)]; rfl
  have m4 : (H' 114).mode = .live := by rw [hfr 114 (by omega)]; rfl
  obtain ⟨r, hr, H4r⟩ : ∃ r : List AVal, r.length = 22 ∧ (H' 114).rows = [r] := by rw [hfr 114 (by omega)]; exact ⟨_, rfl, rfl⟩
  have h11 : H' 111 = ⟨1, .live, 6, [[.str back.name, .int .u64 (back.id : Int), .int .i64 back.fr, .int .i64 back.un, .int .i64 back.ix, .str back.tag]], false⟩ := by rw [hfr 111 (by omega)]; rfl
  have h18 : H' 118 = ⟨0, .dead, 0, [], false⟩ := by rw [hfr 118 (by omega)]; rfl
  by_cases h8 : 8 ≤ n.jobs.length
  · have hb : beginE n key val gone = 41 := by unfold beginE; rw [if_pos h8]
    rw [hb] at he ⊢
    clear hb
    have tw := tw 41
    obtain ⟨js, rs, hs⟩ := settle_eta n job zeroIt false 41
    rw [hs] at tw ⊢
    simp only at tw
    simp -implicitDefEqProofs -dsimp +contextual (maxSteps := 9999999) (disch := first | omega | simp only [go_sem] <;> omega | refine ib ?_; kernel_rfl) only [go_sem, seval, ↓reduceIte, nl, W1, W2, W3, W4, W5, pu, h11, h18, g4, m4, hr, H4r, h8, tw]
    rw [il_text (C := C1 g) Try.func46 rfl Try.results46 (show (C1 g).M.loc 46 = _ from fq46.1) (by kernel_rfl)]
    simp -implicitDefEqProofs -dsimp +contextual (maxSteps := 9999999) (disch := first | omega | simp only [go_sem] <;> omega | refine ib ?_; kernel_rfl) only [go_sem, seval, ↓reduceIte, nl, W1, W2, W3, W4, W5, g4, m4, hr, H4r]
    rfl
  · have hb : beginE n key val gone = (putR n.items key val gone).2.2 := by unfold beginE; rw [if_neg h8]
    rw [hb] at he ⊢
    clear hb
    have tw := tw (putR n.items key val gone).2.2
    generalize putR n.items key val gone = p at *
    obtain ⟨p1, p2, p3⟩ := p
    simp only at he tw pu ⊢
    obtain ⟨js, rs, hs⟩ := settle_eta n job zeroIt false p3
    rw [hs] at tw ⊢
    simp only at tw
    simp -implicitDefEqProofs -dsimp +contextual (maxSteps := 9999999) (disch := first | omega | simp only [go_sem] <;> omega | refine ib ?_; kernel_rfl) only [go_sem, seval, ↓reduceIte, nl, W1, W2, W3, W4, W5, pu, h11, h18, g4, m4, hr, H4r, h8, tw, he]
    rw [il_text (C := C1 g) Try.func46 rfl Try.results46 (show (C1 g).M.loc 46 = _ from fq46.1) (by kernel_rfl)]
    simp -implicitDefEqProofs -dsimp +contextual (maxSteps := 9999999) (disch := first | omega | simp only [go_sem] <;> omega | refine ib ?_; kernel_rfl) only [go_sem, seval, ↓reduceIte, nl, W1, W2, W3, W4, W5, g4, m4, hr, H4r]
    rfl

set_option maxHeartbeats 8000000 in
theorem eBeginN (n : Nd) (key val : List UInt8) (gone : Bool) (back : En) (rid job : Int) (h : n.mid 90000) (hk : key.length ≤ 9223372036854775807) (hc : 0 ≤ n.clock ∧ n.clock ≤ 1099511627776) (he : beginE n key val gone = 0) (hcop : copR (begunR n key val gone back rid job).jobs (nextI n.jobId) = -1) :
    fn (C1 (-1)) 12 [] [.agg [.str n.me.name, .int .u64 (n.me.id : Int), .int .i64 n.me.fr, .int .i64 n.me.un, .int .i64 n.me.ix, .str n.me.tag, .int .i64 n.clock, .str n.psk, .int .i64 n.gateI, .str n.gateK, .bool n.ready, .slice 8 (n.pred.map Pr.cs), .slice 8 (n.list.map Pr.cs), .slice 9 (n.fingers.map Fg.cs), .slice 20 (n.sessions.map Se.cs), .slice 23 (n.pends.map Pd.cs), .slice 4 (n.items.map It.cs), .slice 29 (n.jobs.map Jb.cs), .int .i64 n.rid, .int .i64 n.jobId, .slice 1 (n.draws.map u64Row), .slice 8 (n.results.map Rs.cs)], .str key, .str val, .bool gone, .agg [.str back.name, .int .u64 (back.id : Int), .int .i64 back.fr, .int .i64 back.un, .int .i64 back.ix, .str back.tag], .int .i64 rid, .int .i64 job] = ndRes (begunR n key val gone back rid job, []) := by
  obtain ⟨g, hg⟩ : ∃ g : Int, g = -1 := ⟨_, rfl⟩
  rw [← hg]
  have nl := nlB_B g (by omega)
  have il := h.il
  have jl := h.jl
  have pu := e18 n.items key val gone (by omega) hk
  have hb : beginE n key val gone = (putR n.items key val gone).2.2 := by
    unfold beginE at he ⊢
    split at he
    · omega
    · rw [if_neg (by assumption)]
  have h8 : ¬ 8 ≤ n.jobs.length := by
    intro h8; unfold beginE at he; rw [if_pos h8] at he; omega
  rw [hb] at he
  clear hb
  have hmid : (begunR n key val gone back rid job).mid 100000 := (mid_begun key val gone back rid job hk h).le (by omega)
  rw [fn_textN (C := C1 g) Try.func12 rfl rfl Try.results12 (show (C1 g).M.loc 12 = _ from fq12.1) rfl rfl (by kernel_rfl)]
  simp -implicitDefEqProofs -dsimp +contextual (maxSteps := 9999999) (disch := first | omega | simp only [go_sem] <;> omega | refine ib ?_; kernel_rfl) only [go_sem, seval, ↓reduceIte, nl]
  refine il_on0 n (h.le (by omega)) g (by omega) _ ?_ _ _ fun H' W hfr => ?_
  · intro o ho; repeat (first | rfl | rw [Heap.set_ne _ _ (by omega)])
  obtain ⟨W1, W2, W3, W4, W5⟩ := W
  have g4 : (H' 114).gen = 1 := by rw [hfr 114 (by omega)]; rfl
  have m4 : (H' 114).mode = .live := by rw [hfr 114 (by omega)]; rfl
  obtain ⟨r, hr, H4r⟩ : ∃ r : List AVal, r.length = 22 ∧ (H' 114).rows = [r] := by rw [hfr 114 (by omega)]; exact ⟨_, rfl, rfl⟩
  have h11 : H' 111 = ⟨1, .live, 6, [[.str back.name, .int .u64 (back.id : Int), .int .i64 back.fr, .int .i64 back.un, .int .i64 back.ix, .str back.tag]], false⟩ := by rw [hfr 111 (by omega)]; rfl
  have h18 : H' 118 = ⟨0, .dead, 0, [], false⟩ := by rw [hfr 118 (by omega)]; rfl
  have hx := Jb_app n (putR n.items key val gone).2.1 back rid job
  simp -implicitDefEqProofs -dsimp +contextual (maxSteps := 9999999) (disch := first | omega | simp only [go_sem] <;> omega | refine ib ?_; kernel_rfl) only [go_sem, seval, ↓reduceIte, nl, W1, W2, W3, W4, W5, pu, h11, h18, g4, m4, hr, H4r, h8, he, hx]
  refine il_more_none g (begunR n key val gone back rid job) (nextI n.jobId) 2 hcop hmid _ ?_ ?_ ?_ ?_ ?_ _ _ ?_
  · rw [begunR]; simp -implicitDefEqProofs -dsimp +contextual (maxSteps := 9999999) (disch := first | omega | simp only [go_sem] <;> omega | refine ib ?_; kernel_rfl) only [go_sem, seval, ↓reduceIte, List.length_append, List.length_singleton]
  · exact W2
  · exact W3
  · rfl
  · exact W5
  rw [begunR]
  simp -implicitDefEqProofs -dsimp +contextual (maxSteps := 9999999) (disch := first | omega | simp only [go_sem] <;> omega | refine ib ?_; kernel_rfl) only [go_sem, seval, ↓reduceIte]
  rw [il_text (C := C1 g) Try.func46 rfl Try.results46 (show (C1 g).M.loc 46 = _ from fq46.1) (by kernel_rfl)]
  simp -implicitDefEqProofs -dsimp +contextual (maxSteps := 9999999) (disch := first | omega | simp only [go_sem] <;> omega | refine ib ?_; kernel_rfl) only [go_sem, seval, ↓reduceIte, nl, W1, W2, W3, W4, W5, g4, m4, hr, H4r, List.length_append, List.length_singleton]
  rfl

end Go.Proofs.Ytmfcabokoijcdaa
namespace Go.Proofs.Ytmfcabokoijcdaa
open Go.Am
set_option linter.unusedSimpArgs false
set_option linter.unusedVariables false
set_option maxRecDepth 100000
/-! Layer 29: Begin, where a job of that number is there already. -/

set_option maxHeartbeats 16000000 in
theorem eBeginB (n : Nd) (key val : List UInt8) (gone : Bool) (back : En) (rid job : Int) (h : n.mid 90000) (hk : key.length ≤ 9223372036854775807) (hc : 0 ≤ n.clock ∧ n.clock ≤ 1099511627776) (he : beginE n key val gone = 0) (i : Nat) (hi : i < n.jobs.length) (hcop : copR (begunR n key val gone back rid job).jobs (nextI n.jobId) = (i : Int)) :
    fn (C1 (i : Int)) 12 [] [.agg [.str n.me.name, .int .u64 (n.me.id : Int), .int .i64 n.me.fr, .int .i64 n.me.un, .int .i64 n.me.ix, .str n.me.tag, .int .i64 n.clock, .str n.psk, .int .i64 n.gateI, .str n.gateK, .bool n.ready, .slice 8 (n.pred.map Pr.cs), .slice 8 (n.list.map Pr.cs), .slice 9 (n.fingers.map Fg.cs), .slice 20 (n.sessions.map Se.cs), .slice 23 (n.pends.map Pd.cs), .slice 4 (n.items.map It.cs), .slice 29 (n.jobs.map Jb.cs), .int .i64 n.rid, .int .i64 n.jobId, .slice 1 (n.draws.map u64Row), .slice 8 (n.results.map Rs.cs)], .str key, .str val, .bool gone, .agg [.str back.name, .int .u64 (back.id : Int), .int .i64 back.fr, .int .i64 back.un, .int .i64 back.ix, .str back.tag], .int .i64 rid, .int .i64 job] = ndRes (moreFin (begunR n key val gone back rid job) i (askR (nextI n.jobId) (begunR n key val gone back rid job).list n.jobs[i])) := by
  obtain ⟨g, hg⟩ : ∃ g : Int, g = (i : Int) := ⟨_, rfl⟩
  have on := il_on1 n (h.le (by omega)) i hi
  rw [← hg] at on ⊢
  have nl := nlB_B g (by omega)
  have il := h.il
  have jl := h.jl
  have pu := e18 n.items key val gone (by omega) hk
  have hb : beginE n key val gone = (putR n.items key val gone).2.2 := by
    unfold beginE at he ⊢
    split at he
    · omega
    · rw [if_neg (by assumption)]
  have h8 : ¬ 8 ≤ n.jobs.length := by
    intro h8; unfold beginE at he; rw [if_pos h8] at he; omega
  rw [hb] at he
  clear hb
  have hmid : (begunR n key val gone back rid job).mid 100000 := (mid_begun key val gone back rid job hk h).le (by omega)
  rw [fn_textN (C := C1 g) Try.func12 rfl rfl Try.results12 (show (C1 g).M.loc 12 = _ from fq12.1) rfl rfl (by kernel_rfl)]
  simp -implicitDefEqProofs -dsimp +contextual (maxSteps := 9999999) (disch := first | omega | simp only [go_sem] <;> omega | refine ib ?_; kernel_rfl) only [go_sem, seval, ↓reduceIte, nl]
  refine on _ ?_ _ _ fun H' W W6 hfr => ?_
  · intro o ho; repeat (first | rfl | rw [Heap.set_ne _ _ (by omega)])
  obtain ⟨W1, W2, W3, W4, W5⟩ := W
  have g4 : (H' 114).gen = 1 := by rw [hfr 114 (by omega)]; rfl
  have m4 : (H' 114).mode = .live := by rw [hfr 114 (by omega)]; rfl
  obtain ⟨r, hr, H4r⟩ : ∃ r : List AVal, r.length = 22 ∧ (H' 114).rows = [r] := by rw [hfr 114 (by omega)]; exact ⟨_, rfl, rfl⟩
  have h11 : H' 111 = ⟨1, .live, 6, [[.str back.name, .int .u64 (back.id : Int), .int .i64 back.fr, .int .i64 back.un, .int .i64 back.ix, .str back.tag]], false⟩ := by rw [hfr 111 (by omega)]; rfl
  have h18 : H' 118 = ⟨0, .dead, 0, [], false⟩ := by rw [hfr 118 (by omega)]; rfl
  have hx := rowsG_app n i hi [.int .i64 n.jobs[i].id, .int .i64 n.jobs[i].kind, .int .i64 n.jobs[i].phase, .int .i64 n.jobs[i].hops, .int .i64 n.jobs[i].tries, .int .i64 n.jobs[i].til, .str n.jobs[i].key, .str n.jobs[i].val, .str n.jobs[i].owner.name, .int .u64 (n.jobs[i].owner.id : Int), .int .i64 n.jobs[i].owner.fr, .int .i64 n.jobs[i].owner.un, .int .i64 n.jobs[i].owner.ix, .str n.jobs[i].owner.tag, .str n.jobs[i].item.k, .str n.jobs[i].item.v, .int .i64 n.jobs[i].item.n, .bool n.jobs[i].item.g, .int .i64 n.jobs[i].acks, .int .i64 n.jobs[i].waits, .osl 60155 1 0 n.jobs[i].asked.length, .str n.jobs[i].back.name, .int .u64 (n.jobs[i].back.id : Int), .int .i64 n.jobs[i].back.fr, .int .i64 n.jobs[i].back.un, .int .i64 n.jobs[i].back.ix, .str n.jobs[i].back.tag, .int .i64 n.jobs[i].backRid, .int .i64 n.jobs[i].backJob] (putR n.items key val gone).2.1 back rid job
  simp -implicitDefEqProofs -dsimp +contextual (maxSteps := 9999999) (disch := first | omega | simp only [go_sem] <;> omega | refine ib ?_; kernel_rfl) only [go_sem, seval, ↓reduceIte, nl, W1, W2, W3, W4, W5, pu, h11, h18, g4, m4, hr, H4r, h8, he, hx]
  clear hx
  have him : i < (begunR n key val gone back rid job).jobs.length := by simp [begunR]; omega
  have hmj : (begunR n key val gone back rid job).jobs[i] = n.jobs[i] := List.getElem_append_left hi
  refine il_moreA g (begunR n key val gone back rid job) (nextI n.jobId) i 2 n.jobs[i] (.osl 60155 1 0 n.jobs[i].asked.length) him (by rw [← hmj, List.set_getElem_self]; exact hcop) hmid (Nat.le_trans (h.ja _ (List.getElem_mem hi)) (by omega)) _ ?_ ?_ _ _ _ rfl ?_ ?_
  · refine ⟨?_, W2, W3, rfl, W5⟩
    rw [begunR]; simp -implicitDefEqProofs -dsimp +contextual (maxSteps := 9999999) (disch := first | omega | simp only [go_sem] <;> omega | refine ib ?_; kernel_rfl) only [go_sem, seval, ↓reduceIte, List.length_append, List.length_singleton]
  · exact ⟨1, rfl, W6⟩
  · intro H2 A X M2 A2 X2 hf2 hw
    obtain ⟨Y1, Y2, Y3, Y4, Y5⟩ := M2
    have k4 : (H2 114).gen = 1 := by rw [hf2 114 (by omega)]; exact g4
    have n4 : (H2 114).mode = .live := by rw [hf2 114 (by omega)]; exact m4
    have r4 : (H2 114).rows = [r] := by rw [hf2 114 (by omega)]; exact H4r
    generalize askR (nextI n.jobId) (begunR n key val gone back rid job).list n.jobs[i] = q at *
    obtain ⟨j, acts⟩ := q
    have hmf : moreFin (begunR n key val gone back rid job) i (j, acts) = ({ begunR n key val gone back rid job with jobs := (begunR n key val gone back rid job).jobs.set i j }, acts) := by unfold moreFin; rw [if_pos hw]
    rw [hmf]
    clear hmf hw on
    generalize begunR n key val gone back rid job = m at *
    obtain ⟨ga, rfl, ha⟩ := A2
    simp only at Y1 Y4 ha X2
    rcases X2 with ⟨rfl, rfl⟩ | ⟨gx, rfl, hX⟩
    · simp -implicitDefEqProofs -dsimp +contextual (maxSteps := 9999999) (disch := first | omega | simp only [go_sem] <;> omega | refine ib ?_; kernel_rfl) only [go_sem, seval, ↓reduceIte]
      rw [il_text (C := C1 g) Try.func46 rfl Try.results46 (show (C1 g).M.loc 46 = _ from fq46.1) (by kernel_rfl)]
      simp -implicitDefEqProofs -dsimp +contextual (maxSteps := 9999999) (disch := first | omega | simp only [go_sem] <;> omega | refine ib ?_; kernel_rfl) only [go_sem, seval, ↓reduceIte, nl, Y1, Y2, Y3, Y4, Y5, k4, n4, hr, r4, ha, k_rowsG, him]
      rfl
    · simp -implicitDefEqProofs -dsimp +contextual (maxSteps := 9999999) (disch := first | omega | simp only [go_sem] <;> omega | refine ib ?_; kernel_rfl) only [go_sem, seval, ↓reduceIte]
      rw [il_text (C := C1 g) Try.func46 rfl Try.results46 (show (C1 g).M.loc 46 = _ from fq46.1) (by kernel_rfl)]
      simp -implicitDefEqProofs -dsimp +contextual (maxSteps := 9999999) (disch := first | omega | simp only [go_sem] <;> omega | refine ib ?_; kernel_rfl) only [go_sem, seval, ↓reduceIte, nl, Y1, Y2, Y3, Y4, Y5, k4, n4, hr, r4, ha, hX, k_rowsG, him]
      rfl
  · intro H2 M2 hf2 hw
    have k4 : (H2 114).gen = 1 := by rw [hf2 114 (by omega)]; exact g4
    have n4 : (H2 114).mode = .live := by rw [hf2 114 (by omega)]; exact m4
    have r4 : (H2 114).rows = [r] := by rw [hf2 114 (by omega)]; exact H4r
    clear hw on
    generalize moreFin (begunR n key val gone back rid job) i (askR (nextI n.jobId) (begunR n key val gone back rid job).list n.jobs[i]) = q at *
    obtain ⟨m, acts⟩ := q
    unfold WorkAt at M2
    simp only [Nat.reduceMul, Nat.reduceAdd] at M2
    obtain ⟨A, a, b, c, d, X, Y1, Y2, Y3, Y4, Y5, hX⟩ := M2
    rcases hX with ⟨rfl, rfl⟩ | ⟨rfl, hX⟩
    · simp -implicitDefEqProofs -dsimp +contextual (maxSteps := 9999999) (disch := first | omega | simp only [go_sem] <;> omega | refine ib ?_; kernel_rfl) only [go_sem, seval, ↓reduceIte]
      rw [il_text (C := C1 g) Try.func46 rfl Try.results46 (show (C1 g).M.loc 46 = _ from fq46.1) (by kernel_rfl)]
      simp -implicitDefEqProofs -dsimp +contextual (maxSteps := 9999999) (disch := first | omega | simp only [go_sem] <;> omega | refine ib ?_; kernel_rfl) only [go_sem, seval, ↓reduceIte, nl, Y1, Y2, Y3, Y4, Y5, k4, n4, hr, r4]
      rfl
    · simp -implicitDefEqProofs -dsimp +contextual (maxSteps := 9999999) (disch := first | omega | simp only [go_sem] <;> omega | refine ib ?_; kernel_rfl) only [go_sem, seval, ↓reduceIte]
      rw [il_text (C := C1 g) Try.func46 rfl Try.results46 (show (C1 g).M.loc 46 = _ from fq46.1) (by kernel_rfl)]
      simp -implicitDefEqProofs -dsimp +contextual (maxSteps := 9999999) (disch := first | omega | simp only [go_sem] <;> omega | refine ib ?_; kernel_rfl) only [go_sem, seval, ↓reduceIte, nl, Y1, Y2, Y3, Y4, Y5, k4, n4, hr, r4, hX]
      rfl

end Go.Proofs.Ytmfcabokoijcdaa
namespace Go.Proofs.Ytmfcabokoijcdaa
open Go.Am
set_option linter.unusedSimpArgs false
set_option linter.unusedVariables false
set_option maxRecDepth 100000
/-! Layer 29: Begin, where the new job goes on. -/

set_option maxHeartbeats 16000000 in
theorem eBeginA (n : Nd) (key val : List UInt8) (gone : Bool) (back : En) (rid job : Int) (h : n.mid 90000) (hk : key.length ≤ 9223372036854775807) (hc : 0 ≤ n.clock ∧ n.clock ≤ 1099511627776) (he : beginE n key val gone = 0) (hcop : copR (begunR n key val gone back rid job).jobs (nextI n.jobId) = (n.jobs.length : Int)) :
    fn (C1 (-2)) 12 [] [.agg [.str n.me.name, .int .u64 (n.me.id : Int), .int .i64 n.me.fr, .int .i64 n.me.un, .int .i64 n.me.ix, .str n.me.tag, .int .i64 n.clock, .str n.psk, .int .i64 n.gateI, .str n.gateK, .bool n.ready, .slice 8 (n.pred.map Pr.cs), .slice 8 (n.list.map Pr.cs), .slice 9 (n.fingers.map Fg.cs), .slice 20 (n.sessions.map Se.cs), .slice 23 (n.pends.map Pd.cs), .slice 4 (n.items.map It.cs), .slice 29 (n.jobs.map Jb.cs), .int .i64 n.rid, .int .i64 n.jobId, .slice 1 (n.draws.map u64Row), .slice 8 (n.results.map Rs.cs)], .str key, .str val, .bool gone, .agg [.str back.name, .int .u64 (back.id : Int), .int .i64 back.fr, .int .i64 back.un, .int .i64 back.ix, .str back.tag], .int .i64 rid, .int .i64 job] = ndRes (moreFin (begunR n key val gone back rid job) n.jobs.length (askR (nextI n.jobId) (begunR n key val gone back rid job).list (copyJ n (putR n.items key val gone).2.1 back rid job))) := by
  obtain ⟨g, hg⟩ : ∃ g : Int, g = -2 := ⟨_, rfl⟩
  have nl := nlB_A
  rw [← hg] at nl ⊢
  have on : True := trivial
  have il := h.il
  have jl := h.jl
  have pu := e18 n.items key val gone (by omega) hk
  have hb : beginE n key val gone = (putR n.items key val gone).2.2 := by
    unfold beginE at he ⊢
    split at he
    · omega
    · rw [if_neg (by assumption)]
  have h8 : ¬ 8 ≤ n.jobs.length := by
    intro h8; unfold beginE at he; rw [if_pos h8] at he; omega
  rw [hb] at he
  clear hb
  have hmid : (begunR n key val gone back rid job).mid 100000 := (mid_begun key val gone back rid job hk h).le (by omega)
  rw [fn_textN (C := C1 g) Try.func12 rfl rfl Try.results12 (show (C1 g).M.loc 12 = _ from fq12.1) rfl rfl (by kernel_rfl)]
  simp -implicitDefEqProofs -dsimp +contextual (maxSteps := 9999999) (disch := first | omega | simp only [go_sem] <;> omega | refine ib ?_; kernel_rfl) only [go_sem, seval, ↓reduceIte, nl]
  refine il_on0 n (h.le (by omega)) g (by omega) _ ?_ _ _ fun H' W hfr => ?_
  · intro o ho; repeat (first | rfl | rw [Heap.set_ne _ _ (by omega)])
  obtain ⟨W1, W2, W3, W4, W5⟩ := W
  have g4 : (H' 114).gen = 1 := by rw [hfr 114 (by omega)]; rfl
  have m4 : (H' 114).mode = .live := by rw [hfr 114 (by omega)]; rfl
  obtain ⟨r, hr, H4r⟩ : ∃ r : List AVal, r.length = 22 ∧ (H' 114).rows = [r] := by rw [hfr 114 (by omega)]; exact ⟨_, rfl, rfl⟩
  have h11 : H' 111 = ⟨1, .live, 6, [[.str back.name, .int .u64 (back.id : Int), .int .i64 back.fr, .int .i64 back.un, .int .i64 back.ix, .str back.tag]], false⟩ := by rw [hfr 111 (by omega)]; rfl
  have h18 : H' 118 = ⟨0, .dead, 0, [], false⟩ := by rw [hfr 118 (by omega)]; rfl
  have hx := Jb_appN n (putR n.items key val gone).2.1 back rid job
  simp -implicitDefEqProofs -dsimp +contextual (maxSteps := 9999999) (disch := first | omega | simp only [go_sem] <;> omega | refine ib ?_; kernel_rfl) only [go_sem, seval, ↓reduceIte, nl, W1, W2, W3, W4, W5, pu, h11, h18, g4, m4, hr, H4r, h8, he, hx]
  clear hx
  have him : n.jobs.length < (begunR n key val gone back rid job).jobs.length := by simp [begunR]
  have hmj : (begunR n key val gone back rid job).jobs[n.jobs.length] = copyJ n (putR n.items key val gone).2.1 back rid job := by simp [begunR]
  refine il_moreN g (begunR n key val gone back rid job) (nextI n.jobId) n.jobs.length 2 (copyJ n (putR n.items key val gone).2.1 back rid job) him hmj hcop hmid rfl rfl rfl _ ?_ _ _ _ rfl ?_ ?_
  · refine ⟨?_, W2, W3, rfl, W5⟩
    rw [begunR]; simp -implicitDefEqProofs -dsimp +contextual (maxSteps := 9999999) (disch := first | omega | simp only [go_sem] <;> omega | refine ib ?_; kernel_rfl) only [go_sem, seval, ↓reduceIte, List.length_append, List.length_singleton]
  · intro H2 A X M2 A2 X2 hf2 hw
    obtain ⟨Y1, Y2, Y3, Y4, Y5⟩ := M2
    have k4 : (H2 114).gen = 1 := by rw [hf2 114 (by omega)]; exact g4
    have n4 : (H2 114).mode = .live := by rw [hf2 114 (by omega)]; exact m4
    have r4 : (H2 114).rows = [r] := by rw [hf2 114 (by omega)]; exact H4r
    generalize askR (nextI n.jobId) (begunR n key val gone back rid job).list (copyJ n (putR n.items key val gone).2.1 back rid job) = q at *
    obtain ⟨j, acts⟩ := q
    have hmf : moreFin (begunR n key val gone back rid job) n.jobs.length (j, acts) = ({ begunR n key val gone back rid job with jobs := (begunR n key val gone back rid job).jobs.set n.jobs.length j }, acts) := by unfold moreFin; rw [if_pos hw]
    rw [hmf]
    clear hmf hw on
    generalize begunR n key val gone back rid job = m at *
    obtain ⟨ga, rfl, ha⟩ := A2
    simp only at Y1 Y4 ha X2
    rcases X2 with ⟨rfl, rfl⟩ | ⟨gx, rfl, hX⟩
    · simp -implicitDefEqProofs -dsimp +contextual (maxSteps := 9999999) (disch := first | omega | simp only [go_sem] <;> omega | refine ib ?_; kernel_rfl) only [go_sem, seval, ↓reduceIte]
      rw [il_text (C := C1 g) Try.func46 rfl Try.results46 (show (C1 g).M.loc 46 = _ from fq46.1) (by kernel_rfl)]
      simp -implicitDefEqProofs -dsimp +contextual (maxSteps := 9999999) (disch := first | omega | simp only [go_sem] <;> omega | refine ib ?_; kernel_rfl) only [go_sem, seval, ↓reduceIte, nl, Y1, Y2, Y3, Y4, Y5, k4, n4, hr, r4, ha, k_rowsG, him]
      rfl
    · simp -implicitDefEqProofs -dsimp +contextual (maxSteps := 9999999) (disch := first | omega | simp only [go_sem] <;> omega | refine ib ?_; kernel_rfl) only [go_sem, seval, ↓reduceIte]
      rw [il_text (C := C1 g) Try.func46 rfl Try.results46 (show (C1 g).M.loc 46 = _ from fq46.1) (by kernel_rfl)]
      simp -implicitDefEqProofs -dsimp +contextual (maxSteps := 9999999) (disch := first | omega | simp only [go_sem] <;> omega | refine ib ?_; kernel_rfl) only [go_sem, seval, ↓reduceIte, nl, Y1, Y2, Y3, Y4, Y5, k4, n4, hr, r4, ha, hX, k_rowsG, him]
      rfl
  · intro H2 M2 hf2 hw
    have k4 : (H2 114).gen = 1 := by rw [hf2 114 (by omega)]; exact g4
    have n4 : (H2 114).mode = .live := by rw [hf2 114 (by omega)]; exact m4
    have r4 : (H2 114).rows = [r] := by rw [hf2 114 (by omega)]; exact H4r
    clear hw on
    generalize moreFin (begunR n key val gone back rid job) n.jobs.length (askR (nextI n.jobId) (begunR n key val gone back rid job).list (copyJ n (putR n.items key val gone).2.1 back rid job)) = q at *
    obtain ⟨m, acts⟩ := q
    unfold WorkAt at M2
    simp only [Nat.reduceMul, Nat.reduceAdd] at M2
    obtain ⟨A, a, b, c, d, X, Y1, Y2, Y3, Y4, Y5, hX⟩ := M2
    rcases hX with ⟨rfl, rfl⟩ | ⟨rfl, hX⟩
    · simp -implicitDefEqProofs -dsimp +contextual (maxSteps := 9999999) (disch := first | omega | simp only [go_sem] <;> omega | refine ib ?_; kernel_rfl) only [go_sem, seval, ↓reduceIte]
      rw [il_text (C := C1 g) Try.func46 rfl Try.results46 (show (C1 g).M.loc 46 = _ from fq46.1) (by kernel_rfl)]
      simp -implicitDefEqProofs -dsimp +contextual (maxSteps := 9999999) (disch := first | omega | simp only [go_sem] <;> omega | refine ib ?_; kernel_rfl) only [go_sem, seval, ↓reduceIte, nl, Y1, Y2, Y3, Y4, Y5, k4, n4, hr, r4]
      rfl
    · simp -implicitDefEqProofs -dsimp +contextual (maxSteps := 9999999) (disch := first | omega | simp only [go_sem] <;> omega | refine ib ?_; kernel_rfl) only [go_sem, seval, ↓reduceIte]
      rw [il_text (C := C1 g) Try.func46 rfl Try.results46 (show (C1 g).M.loc 46 = _ from fq46.1) (by kernel_rfl)]
      simp -implicitDefEqProofs -dsimp +contextual (maxSteps := 9999999) (disch := first | omega | simp only [go_sem] <;> omega | refine ib ?_; kernel_rfl) only [go_sem, seval, ↓reduceIte, nl, Y1, Y2, Y3, Y4, Y5, k4, n4, hr, r4, hX]
      rfl

end Go.Proofs.Ytmfcabokoijcdaa
namespace Go.Proofs.Ytmfcabokoijcdaa
open Go.Am
set_option linter.unusedSimpArgs false
set_option linter.unusedVariables false
set_option maxRecDepth 100000
/-! Great nodes. -/
def askedG (j : Jb) : Bool := j.asked.any fun a => decide (1000 < a.length)
def resG (r : Rs) : Bool := decide (300 < r.key.length) || decide (300 < r.val.length)
set_option maxHeartbeats 4000000 in
@[go_sem] theorem e7 (n : Nd) (h : n.fit) : fn C 7 [] [.agg [.str n.me.name, .int .u64 (n.me.id : Int), .int .i64 n.me.fr, .int .i64 n.me.un, .int .i64 n.me.ix, .str n.me.tag, .int .i64 n.clock, .str n.psk, .int .i64 n.gateI, .str n.gateK, .bool n.ready, .slice 8 (n.pred.map Pr.cs), .slice 8 (n.list.map Pr.cs), .slice 9 (n.fingers.map Fg.cs), .slice 20 (n.sessions.map Se.cs), .slice 23 (n.pends.map Pd.cs), .slice 4 (n.items.map It.cs), .slice 29 (n.jobs.map Jb.cs), .int .i64 n.rid, .int .i64 n.jobId, .slice 1 (n.draws.map u64Row), .slice 8 (n.results.map Rs.cs)]] = some (.bool (greatN n), []) := by
  rw [fn_text Try.func7 rfl rfl Try.results7 fq7.1 rfl rfl (by kernel_rfl)]
  have hme1 := h.me.n
  have hme2 := h.me.t
  obtain ⟨h1, h2, h3, h4, h5, h6, h7, h8, h9, h10, h11, h12, h13, h14, h15, h16, h17, h18, h19, h20⟩ := h
  rcases Bool.eq_false_or_eq_true (greatE n.me) with b1 | b1
  · simp -implicitDefEqProofs -dsimp +contextual (maxSteps := 9999999) (disch := first | omega | simp only [go_sem] <;> omega | refine ib ?_; kernel_rfl) only [go_sem, seval, ↓reduceIte, b1]
    simp [greatN, b1]
  by_cases b2 : 300 < n.psk.length
  · simp -implicitDefEqProofs -dsimp +contextual (maxSteps := 9999999) (disch := first | omega | simp only [go_sem] <;> omega | refine ib ?_; kernel_rfl) only [go_sem, seval, ↓reduceIte, b1, b2]
    simp [greatN, b2]
  by_cases b3 : 300 < n.gateK.length
  · simp -implicitDefEqProofs -dsimp +contextual (maxSteps := 9999999) (disch := first | omega | simp only [go_sem] <;> omega | refine ib ?_; kernel_rfl) only [go_sem, seval, ↓reduceIte, b1, b2, b3]
    simp [greatN, b3]
  rcases Bool.eq_false_or_eq_true (greatPs n.pred) with b4 | b4
  · simp -implicitDefEqProofs -dsimp +contextual (maxSteps := 9999999) (disch := first | omega | simp only [go_sem] <;> omega | refine ib ?_; kernel_rfl) only [go_sem, seval, ↓reduceIte, b1, b2, b3, b4, h5]
    simp [greatN, b4]
  rcases Bool.eq_false_or_eq_true (greatPs n.list) with b5 | b5
  · simp -implicitDefEqProofs -dsimp +contextual (maxSteps := 9999999) (disch := first | omega | simp only [go_sem] <;> omega | refine ib ?_; kernel_rfl) only [go_sem, seval, ↓reduceIte, b1, b2, b3, b4, b5, h5, h7]
    simp [greatN, b5]
  by_cases b6 : 70 < n.fingers.length
  · simp -implicitDefEqProofs -dsimp +contextual (maxSteps := 9999999) (disch := first | omega | simp only [go_sem] <;> omega | refine ib ?_; kernel_rfl) only [go_sem, seval, ↓reduceIte, b1, b2, b3, b4, b5, b6, h5, h7]
    simp [greatN, b6]
  rcases Bool.eq_false_or_eq_true (greatSs n.sessions) with b7 | b7
  · simp -implicitDefEqProofs -dsimp +contextual (maxSteps := 9999999) (disch := first | omega | simp only [go_sem] <;> omega | refine ib ?_; kernel_rfl) only [go_sem, seval, ↓reduceIte, b1, b2, b3, b4, b5, b6, b7, h5, h7, h11]
    simp [greatN, b7]
  rcases Bool.eq_false_or_eq_true (greatPds n.pends) with b8 | b8
  · simp -implicitDefEqProofs -dsimp +contextual (maxSteps := 9999999) (disch := first | omega | simp only [go_sem] <;> omega | refine ib ?_; kernel_rfl) only [go_sem, seval, ↓reduceIte, b1, b2, b3, b4, b5, b6, b7, b8, h5, h7, h11, h13]
    simp [greatN, b8]
  rcases Bool.eq_false_or_eq_true (greatIs n.items) with b9 | b9
  · simp -implicitDefEqProofs -dsimp +contextual (maxSteps := 9999999) (disch := first | omega | simp only [go_sem] <;> omega | refine ib ?_; kernel_rfl) only [go_sem, seval, ↓reduceIte, b1, b2, b3, b4, b5, b6, b7, b8, b9, h5, h7, h11, h13, h15]
    simp [greatN, b9]
  by_cases b10 : 20 < n.jobs.length
  · simp -implicitDefEqProofs -dsimp +contextual (maxSteps := 9999999) (disch := first | omega | simp only [go_sem] <;> omega | refine ib ?_; kernel_rfl) only [go_sem, seval, ↓reduceIte, b1, b2, b3, b4, b5, b6, b7, b8, b9, b10, h5, h7, h11, h13, h15]
    simp [greatN, b10]
  by_cases b11 : 60 < n.draws.length
  · simp -implicitDefEqProofs -dsimp +contextual (maxSteps := 9999999) (disch := first | omega | simp only [go_sem] <;> omega | refine ib ?_; kernel_rfl) only [go_sem, seval, ↓reduceIte, b1, b2, b3, b4, b5, b6, b7, b8, b9, b10, b11, h5, h7, h11, h13, h15]
    simp [greatN, b11]
  by_cases b12 : 40 < n.results.length
  · simp -implicitDefEqProofs -dsimp +contextual (maxSteps := 9999999) (disch := first | omega | simp only [go_sem] <;> omega | refine ib ?_; kernel_rfl) only [go_sem, seval, ↓reduceIte, b1, b2, b3, b4, b5, b6, b7, b8, b9, b10, b11, b12, h5, h7, h11, h13, h15]
    simp [greatN, b12]
  simp -implicitDefEqProofs -dsimp +contextual (maxSteps := 9999999) (disch := first | omega | simp only [go_sem] <;> omega | refine ib ?_; kernel_rfl) only [go_sem, seval, ↓reduceIte, b1, b2, b3, b4, b5, b6, b7, b8, b9, b10, b11, b12, h5, h7, h11, h13, h15]
  refine kFor n.fingers.length (fun i f H => f 1 = .ptr 101 1 0 0 ∧ f 3 = .int .i64 (i : Nat) ∧ H 101 = ⟨1, .live, 22, [n.cs], false⟩ ∧ (n.fingers.take i).any (fun x => greatE x.p.e) = false) ?_ ?_ ⟨rfl, rfl, rfl, rfl⟩
  · rintro i f H hi ⟨f1, f3, hH, ha⟩ ih
    have k1 := (h9 _ (List.getElem_mem hi)).l.n
    have k2 := (h9 _ (List.getElem_mem hi)).l.t
    simp -implicitDefEqProofs -dsimp +contextual (maxSteps := 9999999) (disch := first | omega | simp only [go_sem] <;> omega | refine ib ?_; kernel_rfl) only [go_sem, seval, ↓reduceIte, f1, f3, hH, hi, Nd.cs]
    (repeat' (refine kD_intro (fun _ => ?_) (fun _ => ?_)))
    · rename_i g; simp [greatN, any_at (p := fun x : Fg => greatE x.p.e) hi g]
    · rename_i g; exact ih _ _ ⟨f1, rfl, hH, any_take hi ha (by simpa using g)⟩
  rintro f H ⟨f1, f3, hH, ha⟩
  simp -implicitDefEqProofs -dsimp +contextual (maxSteps := 9999999) (disch := first | omega | simp only [go_sem] <;> omega | refine ib ?_; kernel_rfl) only [go_sem, seval, ↓reduceIte, f1, f3, hH, Nd.cs]
  have a1 := any_end ha
  refine kFor n.jobs.length (fun i f H => f 1 = .ptr 101 1 0 0 ∧ f 4 = .int .i64 (i : Nat) ∧ H 101 = ⟨1, .live, 22, [n.cs], false⟩ ∧ (n.jobs.take i).any greatJ = false) ?_ ?_ ⟨f1, rfl, hH, rfl⟩
  · rintro i f H hi ⟨f1, f4, hH, ha⟩ ih
    obtain ⟨k1, k2, ⟨k3, k4⟩, ⟨k5, k6⟩, ⟨k7, k8⟩, k9, k10⟩ := h17 _ (List.getElem_mem hi)
    have big : greatJ n.jobs[i] = true → greatN n = true := fun g => by simp [greatN, any_at hi g]
    by_cases c1 : 300 < n.jobs[i].key.length
    · simp -implicitDefEqProofs -dsimp +contextual (maxSteps := 9999999) (disch := first | omega | simp only [go_sem] <;> omega | refine ib ?_; kernel_rfl) only [go_sem, seval, ↓reduceIte, f1, f4, hH, hi, Nd.cs, c1]
      rw [big (by simp [greatJ, c1])]
    by_cases c2 : 300 < n.jobs[i].val.length
    · simp -implicitDefEqProofs -dsimp +contextual (maxSteps := 9999999) (disch := first | omega | simp only [go_sem] <;> omega | refine ib ?_; kernel_rfl) only [go_sem, seval, ↓reduceIte, f1, f4, hH, hi, Nd.cs, c1, c2]
      rw [big (by simp [greatJ, c2])]
    by_cases c3 : 300 < n.jobs[i].item.k.length
    · simp -implicitDefEqProofs -dsimp +contextual (maxSteps := 9999999) (disch := first | omega | simp only [go_sem] <;> omega | refine ib ?_; kernel_rfl) only [go_sem, seval, ↓reduceIte, f1, f4, hH, hi, Nd.cs, c1, c2, c3]
      rw [big (by simp [greatJ, c3])]
    by_cases c4 : 300 < n.jobs[i].item.v.length
    · simp -implicitDefEqProofs -dsimp +contextual (maxSteps := 9999999) (disch := first | omega | simp only [go_sem] <;> omega | refine ib ?_; kernel_rfl) only [go_sem, seval, ↓reduceIte, f1, f4, hH, hi, Nd.cs, c1, c2, c3, c4]
      rw [big (by simp [greatJ, c4])]
    rcases Bool.eq_false_or_eq_true (greatE n.jobs[i].owner) with c5 | c5
    · simp -implicitDefEqProofs -dsimp +contextual (maxSteps := 9999999) (disch := first | omega | simp only [go_sem] <;> omega | refine ib ?_; kernel_rfl) only [go_sem, seval, ↓reduceIte, f1, f4, hH, hi, Nd.cs, c1, c2, c3, c4, c5]
      rw [big (by simp [greatJ, c5])]
    rcases Bool.eq_false_or_eq_true (greatE n.jobs[i].back) with c6 | c6
    · simp -implicitDefEqProofs -dsimp +contextual (maxSteps := 9999999) (disch := first | omega | simp only [go_sem] <;> omega | refine ib ?_; kernel_rfl) only [go_sem, seval, ↓reduceIte, f1, f4, hH, hi, Nd.cs, c1, c2, c3, c4, c5, c6]
      rw [big (by simp [greatJ, c6])]
    by_cases c7 : 30 < n.jobs[i].asked.length
    · simp -implicitDefEqProofs -dsimp +contextual (maxSteps := 9999999) (disch := first | omega | simp only [go_sem] <;> omega | refine ib ?_; kernel_rfl) only [go_sem, seval, ↓reduceIte, f1, f4, hH, hi, Nd.cs, c1, c2, c3, c4, c5, c6, c7]
      rw [big (by simp [greatJ, c7])]
    simp -implicitDefEqProofs -dsimp +contextual (maxSteps := 9999999) (disch := first | omega | simp only [go_sem] <;> omega | refine ib ?_; kernel_rfl) only [go_sem, seval, ↓reduceIte, f1, f4, hH, hi, Nd.cs, c1, c2, c3, c4, c5, c6, c7]
    refine kFor n.jobs[i].asked.length (fun k f H => f 1 = .ptr 101 1 0 0 ∧ f 4 = .int .i64 (i : Nat) ∧ f 6 = .int .i64 (k : Nat) ∧ H 101 = ⟨1, .live, 22, [n.cs], false⟩ ∧ (∃ g, f 5 = .ptr 105 g 0 0 ∧ H 105 = ⟨g, .live, 29, [n.jobs[i].cs], false⟩) ∧ (n.jobs[i].asked.take k).any (fun a => decide (1000 < a.length)) = false) ?_ ?_ ⟨f1, f4, rfl, by simp [Heap.set, hH], ⟨_, rfl, rfl⟩, rfl⟩
    · rintro k f H hk ⟨f1, f4, f6, hH, ⟨g, f5, hG⟩, hb⟩ ih2
      have q1 := k10 _ (List.getElem_mem hk)
      simp -implicitDefEqProofs -dsimp +contextual (maxSteps := 9999999) (disch := first | omega | simp only [go_sem] <;> omega | refine ib ?_; kernel_rfl) only [go_sem, seval, ↓reduceIte, f1, f4, f5, f6, hH, hG, hk, hi]
      (repeat' (refine kD_intro (fun _ => ?_) (fun _ => ?_)))
      · rename_i g'; rw [big (by simp [greatJ, any_at (p := fun a : List UInt8 => decide (1000 < a.length)) hk (by simpa using g')])]
      · rename_i g'; exact ih2 _ _ ⟨f1, f4, rfl, hH, ⟨g, f5, hG⟩, any_take hk hb (by simpa using g')⟩
    · rintro f H ⟨f1, f4, f6, hH, ⟨g, f5, hG⟩, hb⟩
      simp -implicitDefEqProofs -dsimp +contextual (maxSteps := 9999999) (disch := first | omega | simp only [go_sem] <;> omega | refine ib ?_; kernel_rfl) only [go_sem, seval, ↓reduceIte, f1, f4, f5, f6, hH, hG, hi]
      exact ih _ _ ⟨f1, rfl, hH, any_take hi ha (by simp [greatJ, c1, c2, c3, c4, c5, c6, c7, any_end hb])⟩
  rintro f H ⟨f1, f4, hH, ha⟩
  simp -implicitDefEqProofs -dsimp +contextual (maxSteps := 9999999) (disch := first | omega | simp only [go_sem] <;> omega | refine ib ?_; kernel_rfl) only [go_sem, seval, ↓reduceIte, f1, f4, hH, Nd.cs]
  have a2 := any_end ha
  refine kFor n.results.length (fun i f H => f 1 = .ptr 101 1 0 0 ∧ f 7 = .int .i64 (i : Nat) ∧ H 101 = ⟨1, .live, 22, [n.cs], false⟩ ∧ (n.results.take i).any resG = false) ?_ ?_ ⟨f1, rfl, hH, rfl⟩
  · rintro i f H hi ⟨f1, f7, hH, ha⟩ ih
    have k1 := (h20 _ (List.getElem_mem hi)).k
    have k2 := (h20 _ (List.getElem_mem hi)).v
    have big : resG n.results[i] = true → greatN n = true := fun g => by
      have := any_at hi g
      unfold resG at this
      simp [greatN, this]
    simp -implicitDefEqProofs -dsimp +contextual (maxSteps := 9999999) (disch := first | omega | simp only [go_sem] <;> omega | refine ib ?_; kernel_rfl) only [go_sem, seval, ↓reduceIte, f1, f7, hH, hi, Nd.cs]
    (repeat' (refine kD_intro (fun _ => ?_) (fun _ => ?_)))
    · rename_i g; rw [big (by simp [resG, g])]
    · rename_i g g'; rw [big (by simp [resG, g'])]
    · rename_i g g'; exact ih _ _ ⟨f1, rfl, hH, any_take hi ha (by simp [resG]; omega)⟩
  rintro f H ⟨f1, f7, hH, ha⟩
  simp -implicitDefEqProofs -dsimp +contextual (maxSteps := 9999999) (disch := first | omega | simp only [go_sem] <;> omega | refine ib ?_; kernel_rfl) only [go_sem, seval, ↓reduceIte, f1, f7, hH, Nd.cs]
  have a3 := any_end ha
  unfold resG at a3
  simp [greatN, b1, b2, b3, b4, b5, b6, b7, b8, b9, b10, b11, b12, a1, a2, a3]

end Go.Proofs.Ytmfcabokoijcdaa
namespace Go.Proofs.Ytmfcabokoijcdaa
open Go.Am
set_option linter.unusedSimpArgs false
set_option linter.unusedVariables false
set_option maxRecDepth 100000
/-! What the arguments are, by their shapes. -/
theorem Shs_split : ∀ {a b : List Shp} {xs : List AVal}, Shs (a ++ b) xs → ∃ x y, xs = x ++ y ∧ Shs a x ∧ Shs b y
  | [], _, xs, h => ⟨[], xs, rfl, rfl, h⟩
  | c :: a, b, xs, h => by
    simp only [List.cons_append, Shs] at h
    obtain ⟨v, as', rfl, h1, h2⟩ := h
    obtain ⟨x, y, rfl, h3, h4⟩ := Shs_split h2
    exact ⟨v :: x, y, rfl, by simp only [Shs]; exact ⟨v, x, rfl, h1, h3⟩, h4⟩
theorem rdU {z : Int} (h : (Lit.int .u64 z).wf = true) : ∃ n : Nat, z = (n : Int) ∧ n ≤ 18446744073709551615 := by
  have h := wf_u64 h
  obtain ⟨n, rfl⟩ := Int.eq_ofNat_of_zero_le h.1
  exact ⟨n, rfl, by omega⟩
theorem rdStr {xs : List AVal} (h : Shs [.s] xs) : ∃ l : List UInt8, xs = strRow l ∧ l.length ≤ 9223372036854775807 := by
  simp only [Shs, Sh] at h
  obtain ⟨_, _, rfl, ⟨l, rfl, hl⟩, rfl⟩ := h
  exact ⟨l, rfl, hl⟩
theorem rdNat {xs : List AVal} (h : Shs [.i .u64] xs) : ∃ n : Nat, xs = u64Row n ∧ n ≤ 18446744073709551615 := by
  simp only [Shs, Sh] at h
  obtain ⟨_, _, rfl, ⟨z, rfl, hz⟩, rfl⟩ := h
  obtain ⟨n, rfl, hn⟩ := rdU hz
  exact ⟨n, rfl, hn⟩
structure Wn.ok (x : Wn) : Prop where
  top : I64 x.top
  low : U64 x.low
  high : U64 x.high
def Wn.cs (x : Wn) : List AVal := [.int .i64 x.top, .int .u64 (x.low : Int), .int .u64 (x.high : Int)]
def shEn : List Shp := [.s, .i .u64, .i .i64, .i .i64, .i .i64, .s]
theorem rdEn {xs : List AVal} (h : Shs shEn xs) : ∃ x : En, xs = x.cs ∧ x.ok ∧ x.fit := by
  unfold shEn at h
  have p0 := h
  simp only [Shs, Sh] at p0
  obtain ⟨_, _, rfl, ⟨v_name, rfl, t_name⟩, _, _, rfl, ⟨v_id, rfl, k_id⟩, _, _, rfl, ⟨v_fr, rfl, k_fr⟩, _, _, rfl, ⟨v_un, rfl, k_un⟩, _, _, rfl, ⟨v_ix, rfl, k_ix⟩, _, _, rfl, ⟨v_tag, rfl, t_tag⟩, rfl⟩ := p0
  obtain ⟨v_id, rfl, u_id⟩ := rdU k_id
  have k_fr := wf_i64 k_fr
  have k_un := wf_i64 k_un
  have k_ix := wf_i64 k_ix
  exact ⟨⟨v_name, v_id, v_fr, v_un, v_ix, v_tag⟩, rfl, ⟨u_id, k_fr.1, k_fr.2, k_un.1, k_un.2, k_ix.1, k_ix.2⟩, ⟨t_name, t_tag⟩⟩
def shPr : List Shp := shEn ++ [.i .i64, .i .i64]
theorem rdPr {xs : List AVal} (h : Shs shPr xs) : ∃ x : Pr, xs = x.cs ∧ x.ok ∧ x.fit := by
  unfold shPr at h
  obtain ⟨x1, y1, rfl, p0, p1⟩ := Shs_split h
  obtain ⟨v_e, rfl, k_e, t_e⟩ := rdEn p0
  simp only [Shs, Sh] at p1
  obtain ⟨_, _, rfl, ⟨v_since, rfl, k_since⟩, _, _, rfl, ⟨v_under, rfl, k_under⟩, rfl⟩ := p1
  have k_since := wf_i64 k_since
  have k_under := wf_i64 k_under
  exact ⟨⟨v_e, v_since, v_under⟩, rfl, ⟨k_e, k_since.1, k_since.2, k_under.1, k_under.2⟩, ⟨t_e⟩⟩
def shFg : List Shp := [.i .i64] ++ shPr
theorem rdFg {xs : List AVal} (h : Shs shFg xs) : ∃ x : Fg, xs = x.cs ∧ x.ok ∧ x.p.fit := by
  unfold shFg at h
  obtain ⟨x1, y1, rfl, p0, p1⟩ := Shs_split h
  simp only [Shs, Sh] at p0
  obtain ⟨_, _, rfl, ⟨v_bit, rfl, k_bit⟩, rfl⟩ := p0
  have k_bit := wf_i64 k_bit
  obtain ⟨v_p, rfl, k_p, t_p⟩ := rdPr p1
  exact ⟨⟨v_bit, v_p⟩, rfl, ⟨k_bit, k_p⟩, t_p⟩
def shIt : List Shp := [.s, .s, .i .i64, .b]
theorem rdIt {xs : List AVal} (h : Shs shIt xs) : ∃ x : It, xs = x.cs ∧ x.ok ∧ x.fit := by
  unfold shIt at h
  have p0 := h
  simp only [Shs, Sh] at p0
  obtain ⟨_, _, rfl, ⟨v_k, rfl, t_k⟩, _, _, rfl, ⟨v_v, rfl, t_v⟩, _, _, rfl, ⟨v_n, rfl, k_n⟩, _, _, rfl, ⟨v_g, rfl⟩, rfl⟩ := p0
  have k_n := wf_i64 k_n
  exact ⟨⟨v_k, v_v, v_n, v_g⟩, rfl, ⟨k_n⟩, ⟨t_k, t_v⟩⟩
def shWn : List Shp := [.i .i64, .i .u64, .i .u64]
theorem rdWn {xs : List AVal} (h : Shs shWn xs) : ∃ x : Wn, xs = x.cs ∧ x.ok ∧ True := by
  unfold shWn at h
  have p0 := h
  simp only [Shs, Sh] at p0
  obtain ⟨_, _, rfl, ⟨v_top, rfl, k_top⟩, _, _, rfl, ⟨v_low, rfl, k_low⟩, _, _, rfl, ⟨v_high, rfl, k_high⟩, rfl⟩ := p0
  have k_top := wf_i64 k_top
  obtain ⟨v_low, rfl, u_low⟩ := rdU k_low
  obtain ⟨v_high, rfl, u_high⟩ := rdU k_high
  exact ⟨⟨v_top, v_low, v_high⟩, rfl, ⟨k_top, u_low, u_high⟩, trivial⟩
def shSe : List Shp := [.i .u64, .i .u64] ++ shEn ++ [.i .i64, .i .i64, .s, .s, .i .i64, .i .i64, .i .i64, .i .i64] ++ shWn ++ [.i .i64]
theorem rdSe {xs : List AVal} (h : Shs shSe xs) : ∃ x : Se, xs = x.cs ∧ x.ok ∧ x.fit := by
  unfold shSe at h
  obtain ⟨x4, y4, rfl, h4, p4⟩ := Shs_split h
  obtain ⟨x3, y3, rfl, h3, p3⟩ := Shs_split h4
  obtain ⟨x2, y2, rfl, h2, p2⟩ := Shs_split h3
  obtain ⟨x1, y1, rfl, p0, p1⟩ := Shs_split h2
  simp only [Shs, Sh] at p0
  obtain ⟨_, _, rfl, ⟨v_id, rfl, k_id⟩, _, _, rfl, ⟨v_nonce, rfl, k_nonce⟩, rfl⟩ := p0
  obtain ⟨v_id, rfl, u_id⟩ := rdU k_id
  obtain ⟨v_nonce, rfl, u_nonce⟩ := rdU k_nonce
  obtain ⟨v_peer, rfl, k_peer, t_peer⟩ := rdEn p1
  simp only [Shs, Sh] at p2
  obtain ⟨_, _, rfl, ⟨v_role, rfl, k_role⟩, _, _, rfl, ⟨v_state, rfl, k_state⟩, _, _, rfl, ⟨v_send, rfl, t_send⟩, _, _, rfl, ⟨v_hear, rfl, t_hear⟩, _, _, rfl, ⟨v_epoch, rfl, k_epoch⟩, _, _, rfl, ⟨v_count, rfl, k_count⟩, _, _, rfl, ⟨v_since, rfl, k_since⟩, _, _, rfl, ⟨v_seq, rfl, k_seq⟩, rfl⟩ := p2
  have k_role := wf_i64 k_role
  have k_state := wf_i64 k_state
  have k_epoch := wf_i64 k_epoch
  have k_count := wf_i64 k_count
  have k_since := wf_i64 k_since
  have k_seq := wf_i64 k_seq
  obtain ⟨v_seen, rfl, k_seen, t_seen⟩ := rdWn p3
  simp only [Shs, Sh] at p4
  obtain ⟨_, _, rfl, ⟨v_used, rfl, k_used⟩, rfl⟩ := p4
  have k_used := wf_i64 k_used
  exact ⟨⟨v_id, v_nonce, v_peer, v_role, v_state, v_send, v_hear, v_epoch, v_count, v_since, v_seq, v_seen, v_used⟩, rfl, ⟨u_id, u_nonce, k_peer, k_role, k_state, k_epoch, k_count, k_since, k_seq, k_seen.top, k_seen.low, k_seen.high, k_used⟩, ⟨t_peer, t_send, t_hear⟩⟩
def shMs : List Shp := [.i .i64, .i .i64, .i .i64, .i .i64, .i .u64, .b, .b, .s, .s, .sl 6 shEn, .sl 4 shIt]
theorem rdMs {xs : List AVal} (h : Shs shMs xs) : ∃ x : Ms, xs = x.cs ∧ x.ok ∧ x.fit := by
  unfold shMs at h
  have p0 := h
  simp only [Shs, Sh] at p0
  obtain ⟨_, _, rfl, ⟨v_kind, rfl, k_kind⟩, _, _, rfl, ⟨v_rid, rfl, k_rid⟩, _, _, rfl, ⟨v_ver, rfl, k_ver⟩, _, _, rfl, ⟨v_err, rfl, k_err⟩, _, _, rfl, ⟨v_id, rfl, k_id⟩, _, _, rfl, ⟨v_has, rfl⟩, _, _, rfl, ⟨v_gone, rfl⟩, _, _, rfl, ⟨v_key, rfl, t_key⟩, _, _, rfl, ⟨v_val, rfl, t_val⟩, _, _, rfl, ⟨v_ents, rfl, n_ents, r_ents⟩, _, _, rfl, ⟨v_items, rfl, n_items, r_items⟩, rfl⟩ := p0
  have k_kind := wf_i64 k_kind
  have k_rid := wf_i64 k_rid
  have k_ver := wf_i64 k_ver
  have k_err := wf_i64 k_err
  obtain ⟨v_id, rfl, u_id⟩ := rdU k_id
  obtain ⟨v_ents, rfl, q_ents⟩ := rows_map En.cs (fun x => x.ok ∧ x.fit) (fun r hr => rdEn (r_ents r hr))
  rw [List.length_map] at n_ents
  obtain ⟨v_items, rfl, q_items⟩ := rows_map It.cs (fun x => x.ok ∧ x.fit) (fun r hr => rdIt (r_items r hr))
  rw [List.length_map] at n_items
  exact ⟨⟨v_kind, v_rid, v_ver, v_err, v_id, v_has, v_gone, v_key, v_val, v_ents, v_items⟩, rfl, ⟨k_kind, k_rid, k_ver, k_err, u_id, fun x hx => (q_ents x hx).1, fun x hx => (q_items x hx).1⟩, ⟨t_key, t_val, n_ents, n_items, fun x hx => (q_ents x hx).2, fun x hx => (q_items x hx).2⟩⟩
def shPd : List Shp := [.i .i64, .i .i64, .i .i64, .i .i64, .i .i64, .i .u64] ++ shEn ++ shMs
theorem rdPd {xs : List AVal} (h : Shs shPd xs) : ∃ x : Pd, xs = x.cs ∧ x.ok ∧ x.fit := by
  unfold shPd at h
  obtain ⟨x2, y2, rfl, h2, p2⟩ := Shs_split h
  obtain ⟨x1, y1, rfl, p0, p1⟩ := Shs_split h2
  simp only [Shs, Sh] at p0
  obtain ⟨_, _, rfl, ⟨v_rid, rfl, k_rid⟩, _, _, rfl, ⟨v_why, rfl, k_why⟩, _, _, rfl, ⟨v_job, rfl, k_job⟩, _, _, rfl, ⟨v_til, rfl, k_til⟩, _, _, rfl, ⟨v_tries, rfl, k_tries⟩, _, _, rfl, ⟨v_session, rfl, k_session⟩, rfl⟩ := p0
  have k_rid := wf_i64 k_rid
  have k_why := wf_i64 k_why
  have k_job := wf_i64 k_job
  have k_til := wf_i64 k_til
  have k_tries := wf_i64 k_tries
  obtain ⟨v_session, rfl, u_session⟩ := rdU k_session
  obtain ⟨v_to, rfl, k_to, t_to⟩ := rdEn p1
  obtain ⟨v_m, rfl, k_m, t_m⟩ := rdMs p2
  exact ⟨⟨v_rid, v_why, v_job, v_til, v_tries, v_session, v_to, v_m⟩, rfl, ⟨k_rid, k_why, k_job, k_til, k_tries, u_session, k_to, k_m⟩, ⟨t_to, t_m⟩⟩
def shJb : List Shp := [.i .i64, .i .i64, .i .i64, .i .i64, .i .i64, .i .i64, .s, .s] ++ shEn ++ shIt ++ [.i .i64, .i .i64, .sl 1 [.s]] ++ shEn ++ [.i .i64, .i .i64]
theorem rdJb {xs : List AVal} (h : Shs shJb xs) : ∃ x : Jb, xs = x.cs ∧ x.ok ∧ x.fit := by
  unfold shJb at h
  obtain ⟨x5, y5, rfl, h5, p5⟩ := Shs_split h
  obtain ⟨x4, y4, rfl, h4, p4⟩ := Shs_split h5
  obtain ⟨x3, y3, rfl, h3, p3⟩ := Shs_split h4
  obtain ⟨x2, y2, rfl, h2, p2⟩ := Shs_split h3
  obtain ⟨x1, y1, rfl, p0, p1⟩ := Shs_split h2
  simp only [Shs, Sh] at p0
  obtain ⟨_, _, rfl, ⟨v_id, rfl, k_id⟩, _, _, rfl, ⟨v_kind, rfl, k_kind⟩, _, _, rfl, ⟨v_phase, rfl, k_phase⟩, _, _, rfl, ⟨v_hops, rfl, k_hops⟩, _, _, rfl, ⟨v_tries, rfl, k_tries⟩, _, _, rfl, ⟨v_til, rfl, k_til⟩, _, _, rfl, ⟨v_key, rfl, t_key⟩, _, _, rfl, ⟨v_val, rfl, t_val⟩, rfl⟩ := p0
  have k_id := wf_i64 k_id
  have k_kind := wf_i64 k_kind
  have k_phase := wf_i64 k_phase
  have k_hops := wf_i64 k_hops
  have k_tries := wf_i64 k_tries
  have k_til := wf_i64 k_til
  obtain ⟨v_owner, rfl, k_owner, t_owner⟩ := rdEn p1
  obtain ⟨v_item, rfl, k_item, t_item⟩ := rdIt p2
  simp only [Shs, Sh] at p3
  obtain ⟨_, _, rfl, ⟨v_acks, rfl, k_acks⟩, _, _, rfl, ⟨v_waits, rfl, k_waits⟩, _, _, rfl, ⟨v_asked, rfl, n_asked, r_asked⟩, rfl⟩ := p3
  have k_acks := wf_i64 k_acks
  have k_waits := wf_i64 k_waits
  obtain ⟨v_asked, rfl, t_asked⟩ := rows_map strRow (fun l => l.length ≤ 9223372036854775807) (fun r hr => rdStr (r_asked r hr))
  rw [List.length_map] at n_asked
  obtain ⟨v_back, rfl, k_back, t_back⟩ := rdEn p4
  simp only [Shs, Sh] at p5
  obtain ⟨_, _, rfl, ⟨v_backRid, rfl, k_backRid⟩, _, _, rfl, ⟨v_backJob, rfl, k_backJob⟩, rfl⟩ := p5
  have k_backRid := wf_i64 k_backRid
  have k_backJob := wf_i64 k_backJob
  exact ⟨⟨v_id, v_kind, v_phase, v_hops, v_tries, v_til, v_key, v_val, v_owner, v_item, v_acks, v_waits, v_asked, v_back, v_backRid, v_backJob⟩, rfl, ⟨k_id, k_kind, k_phase, k_hops, k_tries, k_til, k_owner, k_item, k_acks, k_waits, k_back, k_backRid, k_backJob⟩, ⟨t_key, t_val, t_item, t_owner, t_back, n_asked, t_asked⟩⟩
def shRs : List Shp := [.i .i64, .i .i64, .i .i64, .s, .s, .b, .b, .i .i64]
theorem rdRs {xs : List AVal} (h : Shs shRs xs) : ∃ x : Rs, xs = x.cs ∧ x.ok ∧ x.fit := by
  unfold shRs at h
  have p0 := h
  simp only [Shs, Sh] at p0
  obtain ⟨_, _, rfl, ⟨v_job, rfl, k_job⟩, _, _, rfl, ⟨v_kind, rfl, k_kind⟩, _, _, rfl, ⟨v_ver, rfl, k_ver⟩, _, _, rfl, ⟨v_key, rfl, t_key⟩, _, _, rfl, ⟨v_val, rfl, t_val⟩, _, _, rfl, ⟨v_has, rfl⟩, _, _, rfl, ⟨v_gone, rfl⟩, _, _, rfl, ⟨v_err, rfl, k_err⟩, rfl⟩ := p0
  have k_job := wf_i64 k_job
  have k_kind := wf_i64 k_kind
  have k_ver := wf_i64 k_ver
  have k_err := wf_i64 k_err
  exact ⟨⟨v_job, v_kind, v_ver, v_key, v_val, v_has, v_gone, v_err⟩, rfl, ⟨k_job.1, k_job.2, k_kind.1, k_kind.2, k_ver.1, k_ver.2, k_err.1, k_err.2⟩, ⟨t_key, t_val⟩⟩
def shNd : List Shp := shEn ++ [.i .i64, .s, .i .i64, .s, .b, .sl 8 shPr, .sl 8 shPr, .sl 9 shFg, .sl 20 shSe, .sl 23 shPd, .sl 4 shIt, .sl 29 shJb, .i .i64, .i .i64, .sl 1 [.i .u64], .sl 8 shRs]
theorem rdNd {xs : List AVal} (h : Shs shNd xs) : ∃ x : Nd, xs = x.cs ∧ x.ok ∧ x.fit := by
  unfold shNd at h
  obtain ⟨x1, y1, rfl, p0, p1⟩ := Shs_split h
  obtain ⟨v_me, rfl, k_me, t_me⟩ := rdEn p0
  simp only [Shs, Sh] at p1
  obtain ⟨_, _, rfl, ⟨v_clock, rfl, k_clock⟩, _, _, rfl, ⟨v_psk, rfl, t_psk⟩, _, _, rfl, ⟨v_gateI, rfl, k_gateI⟩, _, _, rfl, ⟨v_gateK, rfl, t_gateK⟩, _, _, rfl, ⟨v_ready, rfl⟩, _, _, rfl, ⟨v_pred, rfl, n_pred, r_pred⟩, _, _, rfl, ⟨v_list, rfl, n_list, r_list⟩, _, _, rfl, ⟨v_fingers, rfl, n_fingers, r_fingers⟩, _, _, rfl, ⟨v_sessions, rfl, n_sessions, r_sessions⟩, _, _, rfl, ⟨v_pends, rfl, n_pends, r_pends⟩, _, _, rfl, ⟨v_items, rfl, n_items, r_items⟩, _, _, rfl, ⟨v_jobs, rfl, n_jobs, r_jobs⟩, _, _, rfl, ⟨v_rid, rfl, k_rid⟩, _, _, rfl, ⟨v_jobId, rfl, k_jobId⟩, _, _, rfl, ⟨v_draws, rfl, n_draws, r_draws⟩, _, _, rfl, ⟨v_results, rfl, n_results, r_results⟩, rfl⟩ := p1
  have k_clock := wf_i64 k_clock
  have k_gateI := wf_i64 k_gateI
  obtain ⟨v_pred, rfl, q_pred⟩ := rows_map Pr.cs (fun x => x.ok ∧ x.fit) (fun r hr => rdPr (r_pred r hr))
  rw [List.length_map] at n_pred
  obtain ⟨v_list, rfl, q_list⟩ := rows_map Pr.cs (fun x => x.ok ∧ x.fit) (fun r hr => rdPr (r_list r hr))
  rw [List.length_map] at n_list
  obtain ⟨v_fingers, rfl, q_fingers⟩ := rows_map Fg.cs (fun x => x.ok ∧ x.p.fit) (fun r hr => rdFg (r_fingers r hr))
  rw [List.length_map] at n_fingers
  obtain ⟨v_sessions, rfl, q_sessions⟩ := rows_map Se.cs (fun x => x.ok ∧ x.fit) (fun r hr => rdSe (r_sessions r hr))
  rw [List.length_map] at n_sessions
  obtain ⟨v_pends, rfl, q_pends⟩ := rows_map Pd.cs (fun x => x.ok ∧ x.fit) (fun r hr => rdPd (r_pends r hr))
  rw [List.length_map] at n_pends
  obtain ⟨v_items, rfl, q_items⟩ := rows_map It.cs (fun x => x.ok ∧ x.fit) (fun r hr => rdIt (r_items r hr))
  rw [List.length_map] at n_items
  obtain ⟨v_jobs, rfl, q_jobs⟩ := rows_map Jb.cs (fun x => x.ok ∧ x.fit) (fun r hr => rdJb (r_jobs r hr))
  rw [List.length_map] at n_jobs
  have k_rid := wf_i64 k_rid
  have k_jobId := wf_i64 k_jobId
  obtain ⟨v_draws, rfl, k_draws⟩ := rows_map u64Row U64 (fun r hr => rdNat (r_draws r hr))
  rw [List.length_map] at n_draws
  obtain ⟨v_results, rfl, q_results⟩ := rows_map Rs.cs (fun x => x.ok ∧ x.fit) (fun r hr => rdRs (r_results r hr))
  rw [List.length_map] at n_results
  exact ⟨⟨v_me, v_clock, v_psk, v_gateI, v_gateK, v_ready, v_pred, v_list, v_fingers, v_sessions, v_pends, v_items, v_jobs, v_rid, v_jobId, v_draws, v_results⟩, rfl, ⟨k_me, k_clock, k_gateI, fun x hx => (q_pred x hx).1, fun x hx => (q_list x hx).1, fun x hx => (q_fingers x hx).1, fun x hx => (q_sessions x hx).1, fun x hx => (q_pends x hx).1, fun x hx => (q_items x hx).1, fun x hx => (q_jobs x hx).1, k_rid, k_jobId, k_draws, fun x hx => (q_results x hx).1⟩, ⟨t_me, t_psk, t_gateK, n_pred, fun x hx => (q_pred x hx).2, n_list, fun x hx => (q_list x hx).2, n_fingers, fun x hx => (q_fingers x hx).2, n_sessions, fun x hx => (q_sessions x hx).2, n_pends, fun x hx => (q_pends x hx).2, n_items, fun x hx => (q_items x hx).2, n_jobs, fun x hx => (q_jobs x hx).2, n_draws, n_results, fun x hx => (q_results x hx).2⟩⟩

end Go.Proofs.Ytmfcabokoijcdaa
namespace Go.Proofs.Ytmfcabokoijcdaa
open Go.Am
set_option linter.unusedSimpArgs false
set_option linter.unusedVariables false
set_option maxRecDepth 100000
/-! The document's comparers. -/
theorem Fg.eq_iff (x y : Fg) : x = y ↔ x.bit = y.bit ∧ (x.p.e.name = y.p.e.name ∧ x.p.e.id = y.p.e.id ∧ x.p.e.fr = y.p.e.fr ∧ x.p.e.un = y.p.e.un ∧ x.p.e.ix = y.p.e.ix ∧ x.p.e.tag = y.p.e.tag) ∧ x.p.since = y.p.since ∧ x.p.under = y.p.under := by
  obtain ⟨_, ⟨⟨⟩, _, _⟩⟩ := x; obtain ⟨_, ⟨⟨⟩, _, _⟩⟩ := y; simp
theorem Pr.eq_iff (x y : Pr) : x = y ↔ (x.e.name = y.e.name ∧ x.e.id = y.e.id ∧ x.e.fr = y.e.fr ∧ x.e.un = y.e.un ∧ x.e.ix = y.e.ix ∧ x.e.tag = y.e.tag) ∧ x.since = y.since ∧ x.under = y.under := by
  obtain ⟨⟨⟩, _, _⟩ := x; obtain ⟨⟨⟩, _, _⟩ := y; simp
theorem Rs.eq_iff (x y : Rs) : x = y ↔ x.job = y.job ∧ x.kind = y.kind ∧ x.ver = y.ver ∧ x.key = y.key ∧ x.val = y.val ∧ x.has = y.has ∧ x.gone = y.gone ∧ x.err = y.err := by
  cases x; cases y; simp
theorem Se.eq_iff (x y : Se) : x = y ↔ x.id = y.id ∧ x.nonce = y.nonce ∧ (x.peer.name = y.peer.name ∧ x.peer.id = y.peer.id ∧ x.peer.fr = y.peer.fr ∧ x.peer.un = y.peer.un ∧ x.peer.ix = y.peer.ix ∧ x.peer.tag = y.peer.tag) ∧ x.role = y.role ∧ x.state = y.state ∧ x.send = y.send ∧ x.hear = y.hear ∧ x.epoch = y.epoch ∧ x.count = y.count ∧ x.since = y.since ∧ x.seq = y.seq ∧ (x.seen.top = y.seen.top ∧ x.seen.low = y.seen.low ∧ x.seen.high = y.seen.high) ∧ x.used = y.used := by
  obtain ⟨_, _, ⟨⟩, _, _, _, _, _, _, _, _, ⟨⟩, _⟩ := x; obtain ⟨_, _, ⟨⟩, _, _, _, _, _, _, _, _, ⟨⟩, _⟩ := y; simp

set_option maxHeartbeats 4000000 in
@[go_sem] theorem eqFinger (n t n' t' : List UInt8) (a b c d e f g a' b' c' d' e' f' g' : Int) : eqF E.P 8 77 (.agg [.int .i64 g, .str n, .int .u64 a, .int .i64 b, .int .i64 c, .int .i64 d, .str t, .int .i64 e, .int .i64 f]) (.agg [.int .i64 g', .str n', .int .u64 a', .int .i64 b', .int .i64 c', .int .i64 d', .str t', .int .i64 e', .int .i64 f']) = some (decide (g = g' ∧ (n = n' ∧ a = a' ∧ b = b' ∧ c = c' ∧ d = d' ∧ t = t') ∧ e = e' ∧ f = f')) := by
  have u1 : E.P.underlying 24 = _ := Try.underlying24
  have u2 : E.P.underlying 9 = _ := Try.underlying9
  have u3 : E.P.underlying 3 = _ := Try.underlying3
  have u4 : E.P.underlying 22 = _ := Try.underlying22
  have u5 : E.P.underlying 4 = _ := Try.underlying4
  have hs : E.P.stoodInHeld 24 = false := by kernel_rfl
  have u6 : E.P.underlying 54 = _ := Try.underlying54
  have u7 : E.P.underlying 77 = _ := Try.underlying77
  have hp : E.P.stoodInHeld 54 = false := by kernel_rfl
  have hq : E.P.stoodInHeld 77 = false := by kernel_rfl
  simp [eqF, eqGo, u1, u2, u3, u4, u5, hs, u6, u7, hp, hq, tq54.1, tq54.2.1, tq24.1, tq24.2.1, tq9.1, tq9.2.1, tq3.1, tq3.2.1, tq22.1, tq22.2.1, tq4.1, tq4.2.1, mkV, beq_dec, Bool.and_assoc, ← Bool.decide_and]

set_option maxHeartbeats 4000000 in
@[go_sem] theorem eqResult (k v k' v' : List UInt8) (a b c e a' b' c' e' : Int) (h g h' g' : Bool) : eqF E.P 8 82 (.agg [.int .i64 a, .int .i64 b, .int .i64 c, .str k, .str v, .bool h, .bool g, .int .i64 e]) (.agg [.int .i64 a', .int .i64 b', .int .i64 c', .str k', .str v', .bool h', .bool g', .int .i64 e']) = some (decide (a = a' ∧ b = b' ∧ c = c' ∧ k = k' ∧ v = v' ∧ h = h' ∧ g = g' ∧ e = e')) := by
  have u1 : E.P.underlying 24 = _ := Try.underlying24
  have u2 : E.P.underlying 9 = _ := Try.underlying9
  have u3 : E.P.underlying 3 = _ := Try.underlying3
  have u4 : E.P.underlying 22 = _ := Try.underlying22
  have u5 : E.P.underlying 4 = _ := Try.underlying4
  have hs : E.P.stoodInHeld 24 = false := by kernel_rfl
  have u6 : E.P.underlying 39 = _ := Try.underlying39
  have u7 : E.P.underlying 82 = _ := Try.underlying82
  have hq : E.P.stoodInHeld 82 = false := by kernel_rfl
  simp [eqF, eqGo, u1, u2, u3, u4, u5, hs, u6, u7, hq, tq39.1, tq39.2.1, tq9.1, tq9.2.1, tq3.1, tq3.2.1, tq22.1, tq22.2.1, tq4.1, tq4.2.1, mkV, beq_dec, Bool.and_assoc, ← Bool.decide_and]

set_option maxHeartbeats 4000000 in
@[go_sem] theorem eqSession (n t x y n' t' x' y' : List UInt8) (a b c d i o r s e f g q w l h u a' b' c' d' i' o' r' s' e' f' g' q' w' l' h' u' : Int) : eqF E.P 8 90 (.agg [.int .u64 i, .int .u64 o, .str n, .int .u64 a, .int .i64 b, .int .i64 c, .int .i64 d, .str t, .int .i64 r, .int .i64 s, .str x, .str y, .int .i64 e, .int .i64 f, .int .i64 g, .int .i64 q, .int .i64 w, .int .u64 l, .int .u64 h, .int .i64 u]) (.agg [.int .u64 i', .int .u64 o', .str n', .int .u64 a', .int .i64 b', .int .i64 c', .int .i64 d', .str t', .int .i64 r', .int .i64 s', .str x', .str y', .int .i64 e', .int .i64 f', .int .i64 g', .int .i64 q', .int .i64 w', .int .u64 l', .int .u64 h', .int .i64 u']) = some (decide (i = i' ∧ o = o' ∧ (n = n' ∧ a = a' ∧ b = b' ∧ c = c' ∧ d = d' ∧ t = t') ∧ r = r' ∧ s = s' ∧ x = x' ∧ y = y' ∧ e = e' ∧ f = f' ∧ g = g' ∧ q = q' ∧ (w = w' ∧ l = l' ∧ h = h') ∧ u = u')) := by
  have u1 : E.P.underlying 24 = _ := Try.underlying24
  have u2 : E.P.underlying 9 = _ := Try.underlying9
  have u3 : E.P.underlying 3 = _ := Try.underlying3
  have u4 : E.P.underlying 22 = _ := Try.underlying22
  have u5 : E.P.underlying 4 = _ := Try.underlying4
  have hs : E.P.stoodInHeld 24 = false := by kernel_rfl
  have u6 : E.P.underlying 88 = _ := Try.underlying88
  have u7 : E.P.underlying 90 = _ := Try.underlying90
  have hp : E.P.stoodInHeld 88 = false := by kernel_rfl
  have w1 : E.P.szO 88 = some 3 := by kernel_rfl
  have w2 : E.P.rowO 88 = some true := by kernel_rfl
  have hq : E.P.stoodInHeld 90 = false := by kernel_rfl
  simp [eqF, eqGo, u1, u2, u3, u4, u5, hs, u6, u7, hp, hq, w1, w2, tq24.1, tq24.2.1, tq9.1, tq9.2.1, tq3.1, tq3.2.1, tq22.1, tq22.2.1, tq4.1, tq4.2.1, mkV, beq_dec, Bool.and_assoc, ← Bool.decide_and]

set_option maxHeartbeats 4000000 in
@[go_sem] theorem e87 (a b : List En) (hl : a.length ≤ 9223372036854775807) : fn C 87 [] [.slice 6 (a.map En.cs), .slice 6 (b.map En.cs)] = some (.bool (decide (a = b)), []) := by
  rw [fn_text Try.func87 rfl rfl Try.results87 fq87.1 rfl rfl (by kernel_rfl)]
  simp -implicitDefEqProofs -dsimp +contextual (maxSteps := 9999999) (disch := first | omega | simp only [go_sem] <;> omega | refine ib ?_; kernel_rfl) only [go_sem, seval, ↓reduceIte]
  (repeat' (refine kD_intro (fun _ => ?_) (fun _ => ?_)))
  · rename_i h1
    refine (kLoop_rec (fun i f H => f 0 = .slice 6 (a.map En.cs) ∧ f 1 = .slice 6 (b.map En.cs) ∧ f 5 = .int .i64 (i : Nat) ∧ H = Heap.nil ∧ i ≤ a.length ∧ a.take i = b.take i) (fun i => a.length - i) (fun i => some (.bool (decide (a = b)), [])) ?_ 0 _ _ ⟨rfl, rfl, rfl, rfl, by omega, rfl⟩).trans rfl
    rintro i f _ ⟨h0, h2, h5, rfl, hi, ht⟩ ih
    by_cases hl : i < a.length
    · have hb : i < b.length := by omega
      simp -implicitDefEqProofs -dsimp +contextual (maxSteps := 9999999) (disch := first | omega | simp only [go_sem] <;> omega | refine ib ?_; kernel_rfl) only [go_sem, seval, ↓reduceIte, h0, h2, h5, hl, hb, h1]
      (repeat' (refine kD_intro (fun _ => ?_) (fun _ => ?_)))
      · rename_i he
        exact ih (i + 1) _ _ ⟨h0, h2, rfl, rfl, by omega, take_eq_step hl hb ht ((En.eq_iff _ _).2 (by simpa using he))⟩ (by omega)
      · rename_i he
        rw [decide_eq_false (take_ne hl hb (fun e => he (by simp [e])))]
    · simp -implicitDefEqProofs -dsimp +contextual (maxSteps := 9999999) (disch := first | omega | simp only [go_sem] <;> omega | refine ib ?_; kernel_rfl) only [go_sem, seval, ↓reduceIte, h0, h2, h5, hl]
      obtain rfl : i = a.length := by omega
      rw [decide_eq_true (take_eq_end h1 ht)]
  · rename_i h1
    rw [decide_eq_false (fun e : a = b => h1 (by rw [e]))]

set_option maxHeartbeats 4000000 in
@[go_sem] theorem e51 (a b : List Pr) (hl : a.length ≤ 9223372036854775807) : fn C 51 [] [.slice 8 (a.map Pr.cs), .slice 8 (b.map Pr.cs)] = some (.bool (decide (a = b)), []) := by
  rw [fn_text Try.func51 rfl rfl Try.results51 fq51.1 rfl rfl (by kernel_rfl)]
  simp -implicitDefEqProofs -dsimp +contextual (maxSteps := 9999999) (disch := first | omega | simp only [go_sem] <;> omega | refine ib ?_; kernel_rfl) only [go_sem, seval, ↓reduceIte]
  (repeat' (refine kD_intro (fun _ => ?_) (fun _ => ?_)))
  · rename_i h1
    refine (kLoop_rec (fun i f H => f 0 = .slice 8 (a.map Pr.cs) ∧ f 1 = .slice 8 (b.map Pr.cs) ∧ f 5 = .int .i64 (i : Nat) ∧ H = Heap.nil ∧ i ≤ a.length ∧ a.take i = b.take i) (fun i => a.length - i) (fun i => some (.bool (decide (a = b)), [])) ?_ 0 _ _ ⟨rfl, rfl, rfl, rfl, by omega, rfl⟩).trans rfl
    rintro i f _ ⟨h0, h2, h5, rfl, hi, ht⟩ ih
    by_cases hl : i < a.length
    · have hb : i < b.length := by omega
      simp -implicitDefEqProofs -dsimp +contextual (maxSteps := 9999999) (disch := first | omega | simp only [go_sem] <;> omega | refine ib ?_; kernel_rfl) only [go_sem, seval, ↓reduceIte, h0, h2, h5, hl, hb, h1]
      (repeat' (refine kD_intro (fun _ => ?_) (fun _ => ?_)))
      · rename_i he
        exact ih (i + 1) _ _ ⟨h0, h2, rfl, rfl, by omega, take_eq_step hl hb ht ((Pr.eq_iff _ _).2 (by simpa using he))⟩ (by omega)
      · rename_i he
        rw [decide_eq_false (take_ne hl hb (fun e => he (by simp [e])))]
    · simp -implicitDefEqProofs -dsimp +contextual (maxSteps := 9999999) (disch := first | omega | simp only [go_sem] <;> omega | refine ib ?_; kernel_rfl) only [go_sem, seval, ↓reduceIte, h0, h2, h5, hl]
      obtain rfl : i = a.length := by omega
      rw [decide_eq_true (take_eq_end h1 ht)]
  · rename_i h1
    rw [decide_eq_false (fun e : a = b => h1 (by rw [e]))]

set_option maxHeartbeats 4000000 in
@[go_sem] theorem e52 (a b : List Fg) (hl : a.length ≤ 9223372036854775807) : fn C 52 [] [.slice 9 (a.map Fg.cs), .slice 9 (b.map Fg.cs)] = some (.bool (decide (a = b)), []) := by
  rw [fn_text Try.func52 rfl rfl Try.results52 fq52.1 rfl rfl (by kernel_rfl)]
  simp -implicitDefEqProofs -dsimp +contextual (maxSteps := 9999999) (disch := first | omega | simp only [go_sem] <;> omega | refine ib ?_; kernel_rfl) only [go_sem, seval, ↓reduceIte]
  (repeat' (refine kD_intro (fun _ => ?_) (fun _ => ?_)))
  · rename_i h1
    refine (kLoop_rec (fun i f H => f 0 = .slice 9 (a.map Fg.cs) ∧ f 1 = .slice 9 (b.map Fg.cs) ∧ f 5 = .int .i64 (i : Nat) ∧ H = Heap.nil ∧ i ≤ a.length ∧ a.take i = b.take i) (fun i => a.length - i) (fun i => some (.bool (decide (a = b)), [])) ?_ 0 _ _ ⟨rfl, rfl, rfl, rfl, by omega, rfl⟩).trans rfl
    rintro i f _ ⟨h0, h2, h5, rfl, hi, ht⟩ ih
    by_cases hl : i < a.length
    · have hb : i < b.length := by omega
      simp -implicitDefEqProofs -dsimp +contextual (maxSteps := 9999999) (disch := first | omega | simp only [go_sem] <;> omega | refine ib ?_; kernel_rfl) only [go_sem, seval, ↓reduceIte, h0, h2, h5, hl, hb, h1]
      (repeat' (refine kD_intro (fun _ => ?_) (fun _ => ?_)))
      · rename_i he
        exact ih (i + 1) _ _ ⟨h0, h2, rfl, rfl, by omega, take_eq_step hl hb ht ((Fg.eq_iff _ _).2 (by simpa using he))⟩ (by omega)
      · rename_i he
        rw [decide_eq_false (take_ne hl hb (fun e => he (by simp [e])))]
    · simp -implicitDefEqProofs -dsimp +contextual (maxSteps := 9999999) (disch := first | omega | simp only [go_sem] <;> omega | refine ib ?_; kernel_rfl) only [go_sem, seval, ↓reduceIte, h0, h2, h5, hl]
      obtain rfl : i = a.length := by omega
      rw [decide_eq_true (take_eq_end h1 ht)]
  · rename_i h1
    rw [decide_eq_false (fun e : a = b => h1 (by rw [e]))]

set_option maxHeartbeats 4000000 in
@[go_sem] theorem e53 (a b : List Se) (hl : a.length ≤ 9223372036854775807) : fn C 53 [] [.slice 20 (a.map Se.cs), .slice 20 (b.map Se.cs)] = some (.bool (decide (a = b)), []) := by
  rw [fn_text Try.func53 rfl rfl Try.results53 fq53.1 rfl rfl (by kernel_rfl)]
  simp -implicitDefEqProofs -dsimp +contextual (maxSteps := 9999999) (disch := first | omega | simp only [go_sem] <;> omega | refine ib ?_; kernel_rfl) only [go_sem, seval, ↓reduceIte]
  (repeat' (refine kD_intro (fun _ => ?_) (fun _ => ?_)))
  · rename_i h1
    refine (kLoop_rec (fun i f H => f 0 = .slice 20 (a.map Se.cs) ∧ f 1 = .slice 20 (b.map Se.cs) ∧ f 5 = .int .i64 (i : Nat) ∧ H = Heap.nil ∧ i ≤ a.length ∧ a.take i = b.take i) (fun i => a.length - i) (fun i => some (.bool (decide (a = b)), [])) ?_ 0 _ _ ⟨rfl, rfl, rfl, rfl, by omega, rfl⟩).trans rfl
    rintro i f _ ⟨h0, h2, h5, rfl, hi, ht⟩ ih
    by_cases hl : i < a.length
    · have hb : i < b.length := by omega
      simp -implicitDefEqProofs -dsimp +contextual (maxSteps := 9999999) (disch := first | omega | simp only [go_sem] <;> omega | refine ib ?_; kernel_rfl) only [go_sem, seval, ↓reduceIte, h0, h2, h5, hl, hb, h1]
      (repeat' (refine kD_intro (fun _ => ?_) (fun _ => ?_)))
      · rename_i he
        exact ih (i + 1) _ _ ⟨h0, h2, rfl, rfl, by omega, take_eq_step hl hb ht ((Se.eq_iff _ _).2 (by simpa using he))⟩ (by omega)
      · rename_i he
        rw [decide_eq_false (take_ne hl hb (fun e => he (by simp [e])))]
    · simp -implicitDefEqProofs -dsimp +contextual (maxSteps := 9999999) (disch := first | omega | simp only [go_sem] <;> omega | refine ib ?_; kernel_rfl) only [go_sem, seval, ↓reduceIte, h0, h2, h5, hl]
      obtain rfl : i = a.length := by omega
      rw [decide_eq_true (take_eq_end h1 ht)]
  · rename_i h1
    rw [decide_eq_false (fun e : a = b => h1 (by rw [e]))]

set_option maxHeartbeats 4000000 in
@[go_sem] theorem e58 (a b : List Rs) (hl : a.length ≤ 9223372036854775807) : fn C 58 [] [.slice 8 (a.map Rs.cs), .slice 8 (b.map Rs.cs)] = some (.bool (decide (a = b)), []) := by
  rw [fn_text Try.func58 rfl rfl Try.results58 fq58.1 rfl rfl (by kernel_rfl)]
  simp -implicitDefEqProofs -dsimp +contextual (maxSteps := 9999999) (disch := first | omega | simp only [go_sem] <;> omega | refine ib ?_; kernel_rfl) only [go_sem, seval, ↓reduceIte]
  (repeat' (refine kD_intro (fun _ => ?_) (fun _ => ?_)))
  · rename_i h1
    refine (kLoop_rec (fun i f H => f 0 = .slice 8 (a.map Rs.cs) ∧ f 1 = .slice 8 (b.map Rs.cs) ∧ f 5 = .int .i64 (i : Nat) ∧ H = Heap.nil ∧ i ≤ a.length ∧ a.take i = b.take i) (fun i => a.length - i) (fun i => some (.bool (decide (a = b)), [])) ?_ 0 _ _ ⟨rfl, rfl, rfl, rfl, by omega, rfl⟩).trans rfl
    rintro i f _ ⟨h0, h2, h5, rfl, hi, ht⟩ ih
    by_cases hl : i < a.length
    · have hb : i < b.length := by omega
      simp -implicitDefEqProofs -dsimp +contextual (maxSteps := 9999999) (disch := first | omega | simp only [go_sem] <;> omega | refine ib ?_; kernel_rfl) only [go_sem, seval, ↓reduceIte, h0, h2, h5, hl, hb, h1]
      (repeat' (refine kD_intro (fun _ => ?_) (fun _ => ?_)))
      · rename_i he
        exact ih (i + 1) _ _ ⟨h0, h2, rfl, rfl, by omega, take_eq_step hl hb ht ((Rs.eq_iff _ _).2 (by simpa using he))⟩ (by omega)
      · rename_i he
        rw [decide_eq_false (take_ne hl hb (fun e => he (by simp [e])))]
    · simp -implicitDefEqProofs -dsimp +contextual (maxSteps := 9999999) (disch := first | omega | simp only [go_sem] <;> omega | refine ib ?_; kernel_rfl) only [go_sem, seval, ↓reduceIte, h0, h2, h5, hl]
      obtain rfl : i = a.length := by omega
      rw [decide_eq_true (take_eq_end h1 ht)]
  · rename_i h1
    rw [decide_eq_false (fun e : a = b => h1 (by rw [e]))]

set_option maxHeartbeats 4000000 in
@[go_sem] theorem e57 (a b : List Nat) (hl : a.length ≤ 9223372036854775807) : fn C 57 [] [.slice 1 (a.map u64Row), .slice 1 (b.map u64Row)] = some (.bool (decide (a = b)), []) := by
  rw [fn_text Try.func57 rfl rfl Try.results57 fq57.1 rfl rfl (by kernel_rfl)]
  simp -implicitDefEqProofs -dsimp +contextual (maxSteps := 9999999) (disch := first | omega | simp only [go_sem] <;> omega | refine ib ?_; kernel_rfl) only [go_sem, seval, ↓reduceIte]
  (repeat' (refine kD_intro (fun _ => ?_) (fun _ => ?_)))
  · rename_i h1
    refine (kLoop_rec (fun i f H => f 0 = .slice 1 (a.map u64Row) ∧ f 1 = .slice 1 (b.map u64Row) ∧ f 5 = .int .i64 (i : Nat) ∧ H = Heap.nil ∧ i ≤ a.length ∧ a.take i = b.take i) (fun i => a.length - i) (fun i => some (.bool (decide (a = b)), [])) ?_ 0 _ _ ⟨rfl, rfl, rfl, rfl, by omega, rfl⟩).trans rfl
    rintro i f _ ⟨h0, h2, h5, rfl, hi, ht⟩ ih
    by_cases hl : i < a.length
    · have hb : i < b.length := by omega
      simp -implicitDefEqProofs -dsimp +contextual (maxSteps := 9999999) (disch := first | omega | simp only [go_sem] <;> omega | refine ib ?_; kernel_rfl) only [go_sem, seval, ↓reduceIte, h0, h2, h5, hl, hb, h1]
      (repeat' (refine kD_intro (fun _ => ?_) (fun _ => ?_)))
      · rename_i he
        exact ih (i + 1) _ _ ⟨h0, h2, rfl, rfl, by omega, take_eq_step hl hb ht (by simpa using he)⟩ (by omega)
      · rename_i he
        rw [decide_eq_false (take_ne hl hb (fun e => he (by simp [e])))]
    · simp -implicitDefEqProofs -dsimp +contextual (maxSteps := 9999999) (disch := first | omega | simp only [go_sem] <;> omega | refine ib ?_; kernel_rfl) only [go_sem, seval, ↓reduceIte, h0, h2, h5, hl]
      obtain rfl : i = a.length := by omega
      rw [decide_eq_true (take_eq_end h1 ht)]
  · rename_i h1
    rw [decide_eq_false (fun e : a = b => h1 (by rw [e]))]


end Go.Proofs.Ytmfcabokoijcdaa
