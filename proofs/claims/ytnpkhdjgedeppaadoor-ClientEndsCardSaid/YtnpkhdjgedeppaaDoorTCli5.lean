import Derived.Test.YtnpkhdjgedeppaaDoorTCop16
namespace Go.Proofs.YtnpkhdjgedeppaaDoor
open Go.Am
set_option linter.unusedSimpArgs false
set_option linter.unusedVariables false
set_option maxRecDepth 100000
/-! Layer 31: Seek, Failed. -/
attribute [local irreducible] distR idB sumB
theorem cli_id {l : List Jb} {id : Int} {i : Nat} (hi : i < l.length) (hc : cliP l id = (i : Int)) : l[i].id = id := by
  rcases cliP_cases l id with ⟨i', hi', hid, _, _, hc'⟩ | ⟨hc', _⟩
  · obtain rfl : i' = i := by omega
    exact hid
  · omega
set_option maxHeartbeats 16000000 in
theorem eSeek (n : Nd) (id : Int) (h : CliK n) : fn C4 27 [] [.agg [.str n.me.name, .int .u64 (n.me.id : Int), .int .i64 n.me.fr, .int .i64 n.me.un, .int .i64 n.me.ix, .str n.me.tag, .int .i64 n.clock, .str n.psk, .int .i64 n.gateI, .str n.gateK, .bool n.ready, .slice 8 (n.pred.map Pr.cs), .slice 8 (n.list.map Pr.cs), .slice 9 (n.fingers.map Fg.cs), .slice 20 (n.sessions.map Se.cs), .slice 23 (n.pends.map Pd.cs), .slice 4 (n.items.map It.cs), .slice 29 (n.jobs.map Jb.cs), .int .i64 n.rid, .int .i64 n.jobId, .slice 1 (n.draws.map u64Row), .slice 8 (n.results.map Rs.cs)], .int .i64 id] = some (.tup [.agg (seekR n id).1.cs, .slice 20 ((seekR n id).2.map Ac.cs)], []) := by
  rw [fn_text (C := C4) Tryd.func27 rfl rfl Tryd.results27 (show (C4).M.loc 27 = _ from fq27.1) rfl rfl (by kernel_rfl)]
  simp -implicitDefEqProofs -dsimp +contextual (maxSteps := 9999999) (disch := first | omega | simp only [go_sem] <;> omega | refine ib ?_; kernel_rfl) only [go_sem, seval, ↓reduceIte]
  refine il_onC n id (h.md.le (by omega)) _ ?_ _ _ ?_ ?_
  · intro o ho; repeat (first | rfl | rw [Heap.set_ne _ _ (by omega)])
  · intro i H' hi hc W F hfr
    rw [seekR_at hc]
    have hid := cli_id hi hc
    simp -implicitDefEqProofs -dsimp +contextual (maxSteps := 9999999) (disch := first | omega | simp only [go_sem] <;> omega | refine ib ?_; kernel_rfl) only [go_sem, seval, ↓reduceIte]
    refine il_seekC n id i hi hid h _ W F _ _ fun H2 hE hfr2 => ?_
    obtain ⟨a, b, c, d, ga, gb, gc, gd, J, X, F', A1, A2, A3, A4, Y1, Y2, Y3, Y4, Y5, hX⟩ := hE
    have g4 : (H2 104).gen = 1 := by rw [hfr2 104 (by omega), hfr 104 (by omega)]; rfl
    have m4 : (H2 104).mode = .live := by rw [hfr2 104 (by omega), hfr 104 (by omega)]; rfl
    obtain ⟨r, hr, H4r⟩ : ∃ r : List AVal, r.length = 22 ∧ (H2 104).rows = [r] := by rw [hfr2 104 (by omega), hfr 104 (by omega)]; exact ⟨_, rfl, rfl⟩
    generalize seekC n i id = q at *
    obtain ⟨m, acts⟩ := q
    simp only at Y1 Y2 Y3 Y4 Y5 hX
    have na : (a = 120102) = False := eq_false (by omega); have nb : (b = 120102) = False := eq_false (by omega); have nc : (c = 120102) = False := eq_false (by omega); have nd : (d = 120102) = False := eq_false (by omega)
    have na' : (a = 104) = False := eq_false (by omega); have nb' : (b = 104) = False := eq_false (by omega); have nc' : (c = 104) = False := eq_false (by omega); have nd' : (d = 104) = False := eq_false (by omega)
    rcases hX with ⟨rfl, rfl⟩ | ⟨x, gx, rfl, hx1, hx2, hX⟩
    · simp -implicitDefEqProofs -dsimp +contextual (maxSteps := 9999999) (disch := first | omega | simp only [go_sem] <;> omega | refine ib ?_; kernel_rfl) only [go_sem, seval, ↓reduceIte]
      rw [il_text (C := C4) Tryd.func32 rfl Tryd.results32 (show (C4).M.loc 32 = _ from fq32.1) (by kernel_rfl)]
      simp -implicitDefEqProofs -dsimp +contextual (maxSteps := 9999999) (disch := first | omega | simp only [go_sem] <;> omega | refine ib ?_; kernel_rfl) only [go_sem, seval, ↓reduceIte, Y1, Y2, Y3, Y4, Y5, g4, m4, hr, H4r, na, nb, nc, nd, na', nb', nc', nd']
    · have nx : (x = 120102) = False := eq_false (by omega); have nx' : (x = 104) = False := eq_false (by omega)
      simp -implicitDefEqProofs -dsimp +contextual (maxSteps := 9999999) (disch := first | omega | simp only [go_sem] <;> omega | refine ib ?_; kernel_rfl) only [go_sem, seval, ↓reduceIte]
      rw [il_text (C := C4) Tryd.func32 rfl Tryd.results32 (show (C4).M.loc 32 = _ from fq32.1) (by kernel_rfl)]
      simp -implicitDefEqProofs -dsimp +contextual (maxSteps := 9999999) (disch := first | omega | simp only [go_sem] <;> omega | refine ib ?_; kernel_rfl) only [go_sem, seval, ↓reduceIte, Y1, Y2, Y3, Y4, Y5, g4, m4, hr, H4r, na, nb, nc, nd, na', nb', nc', nd', nx, nx', hX]
  · intro H' hc W F hfr
    rw [seekR_none hc]
    obtain ⟨Y1, W2, W3, Y2, Y3, Y4, Y5⟩ := W
    have f1 := F 120102 (by omega) (by omega)
    have g4 : (H' 104).gen = 1 := by rw [hfr 104 (by omega)]; rfl
    have m4 : (H' 104).mode = .live := by rw [hfr 104 (by omega)]; rfl
    obtain ⟨r, hr, H4r⟩ : ∃ r : List AVal, r.length = 22 ∧ (H' 104).rows = [r] := by rw [hfr 104 (by omega)]; exact ⟨_, rfl, rfl⟩
    simp -implicitDefEqProofs -dsimp +contextual (maxSteps := 9999999) (disch := first | omega | simp only [go_sem] <;> omega | refine ib ?_; kernel_rfl) only [go_sem, seval, ↓reduceIte]
    rw [il_text (C := C4) Tryd.func32 rfl Tryd.results32 (show (C4).M.loc 32 = _ from fq32.1) (by kernel_rfl)]
    simp -implicitDefEqProofs -dsimp +contextual (maxSteps := 9999999) (disch := first | omega | simp only [go_sem] <;> omega | refine ib ?_; kernel_rfl) only [go_sem, seval, ↓reduceIte, Y1, Y2, Y3, Y4, Y5, g4, m4, hr, H4r]
theorem failedC_none {n : Nd} {id : Int} (h : cliP n.jobs id = -1) : failedC n id = (n, []) := by
  rw [failedC, h, if_neg (by omega)]
set_option maxHeartbeats 16000000 in
theorem eFailed (n : Nd) (id : Int) (h : CliK n) : fn C4 15 [] [.agg [.str n.me.name, .int .u64 (n.me.id : Int), .int .i64 n.me.fr, .int .i64 n.me.un, .int .i64 n.me.ix, .str n.me.tag, .int .i64 n.clock, .str n.psk, .int .i64 n.gateI, .str n.gateK, .bool n.ready, .slice 8 (n.pred.map Pr.cs), .slice 8 (n.list.map Pr.cs), .slice 9 (n.fingers.map Fg.cs), .slice 20 (n.sessions.map Se.cs), .slice 23 (n.pends.map Pd.cs), .slice 4 (n.items.map It.cs), .slice 29 (n.jobs.map Jb.cs), .int .i64 n.rid, .int .i64 n.jobId, .slice 1 (n.draws.map u64Row), .slice 8 (n.results.map Rs.cs)], .int .i64 id] = some (.tup [.agg (failedC n id).1.cs, .slice 20 ((failedC n id).2.map Ac.cs)], []) := by
  rw [fn_text (C := C4) Tryd.func15 rfl rfl Tryd.results15 (show (C4).M.loc 15 = _ from fq15.1) rfl rfl (by kernel_rfl)]
  simp -implicitDefEqProofs -dsimp +contextual (maxSteps := 9999999) (disch := first | omega | simp only [go_sem] <;> omega | refine ib ?_; kernel_rfl) only [go_sem, seval, ↓reduceIte]
  refine il_onC n id (h.md.le (by omega)) _ ?_ _ _ ?_ ?_
  · intro o ho; repeat (first | rfl | rw [Heap.set_ne _ _ (by omega)])
  · intro i H' hi hc W F hfr
    rw [failedC_at hc]
    have hid := cli_id hi hc
    simp -implicitDefEqProofs -dsimp +contextual (maxSteps := 9999999) (disch := first | omega | simp only [go_sem] <;> omega | refine ib ?_; kernel_rfl) only [go_sem, seval, ↓reduceIte]
    refine il_againC n id 43 i hi hid h _ W F _ _ fun H2 hE hfr2 => ?_
    obtain ⟨a, b, c, d, ga, gb, gc, gd, J, X, F', A1, A2, A3, A4, Y1, Y2, Y3, Y4, Y5, hX⟩ := hE
    have g4 : (H2 104).gen = 1 := by rw [hfr2 104 (by omega), hfr 104 (by omega)]; rfl
    have m4 : (H2 104).mode = .live := by rw [hfr2 104 (by omega), hfr 104 (by omega)]; rfl
    obtain ⟨r, hr, H4r⟩ : ∃ r : List AVal, r.length = 22 ∧ (H2 104).rows = [r] := by rw [hfr2 104 (by omega), hfr 104 (by omega)]; exact ⟨_, rfl, rfl⟩
    generalize againC n i id 43 = q at *
    obtain ⟨m, acts⟩ := q
    simp only at Y1 Y2 Y3 Y4 Y5 hX
    have na : (a = 120102) = False := eq_false (by omega); have nb : (b = 120102) = False := eq_false (by omega); have nc : (c = 120102) = False := eq_false (by omega); have nd : (d = 120102) = False := eq_false (by omega)
    have na' : (a = 104) = False := eq_false (by omega); have nb' : (b = 104) = False := eq_false (by omega); have nc' : (c = 104) = False := eq_false (by omega); have nd' : (d = 104) = False := eq_false (by omega)
    rcases hX with ⟨rfl, rfl⟩ | ⟨x, gx, rfl, hx1, hx2, hX⟩
    · simp -implicitDefEqProofs -dsimp +contextual (maxSteps := 9999999) (disch := first | omega | simp only [go_sem] <;> omega | refine ib ?_; kernel_rfl) only [go_sem, seval, ↓reduceIte]
      rw [il_text (C := C4) Tryd.func32 rfl Tryd.results32 (show (C4).M.loc 32 = _ from fq32.1) (by kernel_rfl)]
      simp -implicitDefEqProofs -dsimp +contextual (maxSteps := 9999999) (disch := first | omega | simp only [go_sem] <;> omega | refine ib ?_; kernel_rfl) only [go_sem, seval, ↓reduceIte, Y1, Y2, Y3, Y4, Y5, g4, m4, hr, H4r, na, nb, nc, nd, na', nb', nc', nd']
    · have nx : (x = 120102) = False := eq_false (by omega); have nx' : (x = 104) = False := eq_false (by omega)
      simp -implicitDefEqProofs -dsimp +contextual (maxSteps := 9999999) (disch := first | omega | simp only [go_sem] <;> omega | refine ib ?_; kernel_rfl) only [go_sem, seval, ↓reduceIte]
      rw [il_text (C := C4) Tryd.func32 rfl Tryd.results32 (show (C4).M.loc 32 = _ from fq32.1) (by kernel_rfl)]
      simp -implicitDefEqProofs -dsimp +contextual (maxSteps := 9999999) (disch := first | omega | simp only [go_sem] <;> omega | refine ib ?_; kernel_rfl) only [go_sem, seval, ↓reduceIte, Y1, Y2, Y3, Y4, Y5, g4, m4, hr, H4r, na, nb, nc, nd, na', nb', nc', nd', nx, nx', hX]
  · intro H' hc W F hfr
    rw [failedC_none hc]
    obtain ⟨Y1, W2, W3, Y2, Y3, Y4, Y5⟩ := W
    have f1 := F 120102 (by omega) (by omega)
    have g4 : (H' 104).gen = 1 := by rw [hfr 104 (by omega)]; rfl
    have m4 : (H' 104).mode = .live := by rw [hfr 104 (by omega)]; rfl
    obtain ⟨r, hr, H4r⟩ : ∃ r : List AVal, r.length = 22 ∧ (H' 104).rows = [r] := by rw [hfr 104 (by omega)]; exact ⟨_, rfl, rfl⟩
    simp -implicitDefEqProofs -dsimp +contextual (maxSteps := 9999999) (disch := first | omega | simp only [go_sem] <;> omega | refine ib ?_; kernel_rfl) only [go_sem, seval, ↓reduceIte]
    rw [il_text (C := C4) Tryd.func32 rfl Tryd.results32 (show (C4).M.loc 32 = _ from fq32.1) (by kernel_rfl)]
    simp -implicitDefEqProofs -dsimp +contextual (maxSteps := 9999999) (disch := first | omega | simp only [go_sem] <;> omega | refine ib ?_; kernel_rfl) only [go_sem, seval, ↓reduceIte, Y1, Y2, Y3, Y4, Y5, g4, m4, hr, H4r]

end Go.Proofs.YtnpkhdjgedeppaaDoor
namespace Go.Proofs.YtnpkhdjgedeppaaDoor
open Go.Am
set_option linter.unusedSimpArgs false
set_option linter.unusedVariables false
set_option maxRecDepth 100000
/-! Layer 31: how a client's job begins. -/
attribute [local irreducible] distR idB sumB

theorem eIdxMine (l : List Jb) (hl : l.length ≤ 9223372036854775807) : fn C 28 [] [.slice 29 (l.map Jb.cs), .fn (.func 24) [] []] = some (.int .i64 (placeG mineJ l), []) := by
  rw [fn_text Tryd.func28 rfl rfl Tryd.results28 fq28.1 rfl rfl (by kernel_rfl)]
  simp -implicitDefEqProofs -dsimp +contextual (maxSteps := 9999999) (disch := first | omega | simp only [go_sem] <;> omega | refine ib ?_; kernel_rfl) only [go_sem, seval, ↓reduceIte]
  refine kFor l.length (fun i f H => f 0 = .slice 29 (l.map Jb.cs) ∧ f 1 = .fn (.func 24) [] [] ∧ f 7 = .int .i64 l.length ∧ f 8 = .int .i64 (i : Nat) ∧ H = Heap.nil ∧ (l.take i).any mineJ = false) ?_ ?_ (by exact ⟨rfl, rfl, rfl, rfl, rfl, rfl⟩)
  · rintro i f _ hi ⟨f0, f1, f7, f8, rfl, ha⟩ ih
    have row := jb_row l i hi
    have e1 := e24 l[i]
    cases h : mineJ l[i] with
    | true =>
      rw [h] at e1
      simp -implicitDefEqProofs -dsimp +contextual (maxSteps := 9999999) (disch := first | omega | simp only [go_sem] <;> omega | refine ib ?_; kernel_rfl) only [go_sem, seval, ↓reduceIte, f0, f1, f7, f8, hi, row, e1]
      rw [placeG_at hi ha h]
    | false =>
      rw [h] at e1
      simp -implicitDefEqProofs -dsimp +contextual (maxSteps := 9999999) (disch := first | omega | simp only [go_sem] <;> omega | refine ib ?_; kernel_rfl) only [go_sem, seval, ↓reduceIte, f0, f1, f7, f8, hi, row, e1]
      exact ih _ _ ⟨f0, f1, f7, rfl, rfl, any_take hi ha h⟩
  · rintro f _ ⟨f0, f1, f7, f8, rfl, ha⟩
    simp -implicitDefEqProofs -dsimp +contextual (maxSteps := 9999999) (disch := first | omega | simp only [go_sem] <;> omega | refine ib ?_; kernel_rfl) only [go_sem, seval, ↓reduceIte, f0, f1, f7, f8]
    rw [placeG_none (any_end ha)]

theorem eHasMine (l : List Jb) (hl : l.length ≤ 9223372036854775807) : fn C 26 [] [.slice 29 (l.map Jb.cs), .fn (.func 24) [] []] = some (.bool (l.any mineJ), []) := by
  rw [fn_text Tryd.func26 rfl rfl Tryd.results26 fq26.1 rfl rfl (by kernel_rfl)]
  have e1 := eIdxMine l hl
  rcases placeG_cases mineJ l with ⟨j, hj, hq, hn, hp⟩ | ⟨hn, hp⟩
  · rw [hp] at e1
    have ha : l.any mineJ = true := List.any_eq_true.2 ⟨_, List.getElem_mem hj, hq⟩
    rw [ha]
    simp -implicitDefEqProofs -dsimp +contextual (maxSteps := 9999999) (disch := first | omega | simp only [go_sem] <;> omega | refine ib ?_; kernel_rfl) only [go_sem, seval, ↓reduceIte, e1, Nat.not_lt_zero]
  · rw [hp] at e1
    rw [hn]
    simp -implicitDefEqProofs -dsimp +contextual (maxSteps := 9999999) (disch := first | omega | simp only [go_sem] <;> omega | refine ib ?_; kernel_rfl) only [go_sem, seval, ↓reduceIte, e1]

theorem clik_add {n : Nd} (kind : Int) (key val : List UInt8) (h : CliK n) (hm : n.mid 70000) (hk : key.length ≤ 10000) (hv : val.length ≤ 10000) : CliK (addC n kind key val) := by
  have m := hm.le (show 70000 ≤ 80000 by omega)
  refine ⟨⟨m.pl, m.ll, m.fl, m.sl, m.dl, m.il, ?_, m.wl, m.rl, m.pe, m.pi, fun j hj => ?_, m.ik⟩, h.me, h.li, h.clock, fun j hj => ?_, fun j hj => ?_⟩
  · have := hm.jl
    show (n.jobs ++ [_]).length ≤ 80000
    simp; omega
  · rcases List.mem_append.1 hj with hj | hj
    · exact m.ja j hj
    · rw [List.mem_singleton] at hj; rw [hj]; exact Nat.zero_le _
  · rcases List.mem_append.1 hj with hj | hj
    · exact h.jk j hj
    · rw [List.mem_singleton] at hj
      rw [hj]
      refine ⟨hk, ?_⟩
      show (if kind = 1 then val else []).length ≤ 10000
      split
      · exact hv
      · exact Nat.zero_le _
  · rcases List.mem_append.1 hj with hj | hj
    · exact h.ji j hj
    · rw [List.mem_singleton] at hj
      rw [hj]
      exact ⟨by show (-9223372036854775808 : Int) ≤ 0; decide, by show (-9223372036854775808 : Int) ≤ 0; decide⟩
def tripB (q : Nd × List Ac) (e : Int) : Option Res := some (.tup [.agg q.1.cs, .slice 20 (q.2.map Ac.cs), .int .i64 e], [])

set_option maxHeartbeats 16000000 in
theorem eBegin31 (n : Nd) (kind : Int) (key val : List UInt8) (h : CliK n) (hm : n.mid 70000) (hk : key.length ≤ 10000) (hv : val.length ≤ 10000) (hj : -9223372036854775808 ≤ n.jobId) : fn C4 12 [] [.agg [.str n.me.name, .int .u64 (n.me.id : Int), .int .i64 n.me.fr, .int .i64 n.me.un, .int .i64 n.me.ix, .str n.me.tag, .int .i64 n.clock, .str n.psk, .int .i64 n.gateI, .str n.gateK, .bool n.ready, .slice 8 (n.pred.map Pr.cs), .slice 8 (n.list.map Pr.cs), .slice 9 (n.fingers.map Fg.cs), .slice 20 (n.sessions.map Se.cs), .slice 23 (n.pends.map Pd.cs), .slice 4 (n.items.map It.cs), .slice 29 (n.jobs.map Jb.cs), .int .i64 n.rid, .int .i64 n.jobId, .slice 1 (n.draws.map u64Row), .slice 8 (n.results.map Rs.cs)], .int .i64 kind, .str key, .str val] = tripB (begC n kind key val) (begE n kind key val) := by
  have jl := h.md.jl
  have cp := e25 n (h.md.le (by omega))
  have ky := e8 key (by omega)
  have vl := e9 val
  have hc := h.clock
  have mi := e24 { jbZ with kind := kind, key := key, til := n.clock + 480 }
  have hb := eHasMine n.jobs (by omega)
  simp only [jbZ, enZ, zeroIt, List.map_nil, Int.cast_ofNat_Int] at mi
  have mk : mineJ ⟨0, kind, 0, 0, 0, n.clock + 480, key, [], ⟨[], 0, 0, 0, 0, []⟩, ⟨[], [], 0, false⟩, 0, 0, [], ⟨[], 0, 0, 0, 0, []⟩, 0, 0⟩ = (decide (kind = 1) || decide (kind = 2) || decide (kind = 3)) := rfl
  rw [mk] at mi
  by_cases hb1 : kind < 1 ∨ 3 < kind ∨ keyR key = false ∨ 32 < val.length
  · have e : begE n kind key val = 2 := by unfold begE; rw [if_pos hb1]
    rw [begC, e, if_neg (by decide)]
    unfold tripB
    by_cases hkd : 1 ≤ kind ∧ kind ≤ 3
    · have m1 : (decide (kind = 1) || decide (kind = 2) || decide (kind = 3)) = true := by simp; omega
      rw [m1] at mi
      cases hkk : keyR key with
      | false =>
        rw [hkk] at ky
        rw [fn_textN (C := C4) Tryd.func12 rfl rfl Tryd.results12 (show (C4).M.loc 12 = _ from fq12.1) rfl rfl (by kernel_rfl)]
        simp -implicitDefEqProofs -dsimp +contextual (maxSteps := 9999999) (disch := first | omega | simp only [go_sem] <;> omega | refine ib ?_; kernel_rfl) only [go_sem, seval, ↓reduceIte, mi, ky, cp]
      | true =>
        rw [hkk] at ky
        have hvv : ¬ val.length ≤ 32 := by
          rcases hb1 with hb1 | hb1 | hb1 | hb1
          · omega
          · omega
          · rw [hkk] at hb1; cases hb1
          · omega
        rw [decide_eq_false hvv] at vl
        rw [fn_textN (C := C4) Tryd.func12 rfl rfl Tryd.results12 (show (C4).M.loc 12 = _ from fq12.1) rfl rfl (by kernel_rfl)]
        simp -implicitDefEqProofs -dsimp +contextual (maxSteps := 9999999) (disch := first | omega | simp only [go_sem] <;> omega | refine ib ?_; kernel_rfl) only [go_sem, seval, ↓reduceIte, mi, ky, vl, cp]
    · have m1 : (decide (kind = 1) || decide (kind = 2) || decide (kind = 3)) = false := by simp; omega
      rw [m1] at mi
      rw [fn_textN (C := C4) Tryd.func12 rfl rfl Tryd.results12 (show (C4).M.loc 12 = _ from fq12.1) rfl rfl (by kernel_rfl)]
      simp -implicitDefEqProofs -dsimp +contextual (maxSteps := 9999999) (disch := first | omega | simp only [go_sem] <;> omega | refine ib ?_; kernel_rfl) only [go_sem, seval, ↓reduceIte, mi, cp]
  · have m1 : (decide (kind = 1) || decide (kind = 2) || decide (kind = 3)) = true := by simp; omega
    rw [m1] at mi
    have hkk : keyR key = true := by
      cases hq : keyR key with
      | true => rfl
      | false => exact absurd (.inr (.inr (.inl hq))) hb1
    rw [hkk] at ky
    rw [decide_eq_true (show val.length ≤ 32 by omega)] at vl
    by_cases hb2 : n.ready = false ∨ 8 ≤ n.jobs.length ∨ n.jobs.any mineJ = true
    · have e : begE n kind key val = 41 := by unfold begE; rw [if_neg hb1, if_pos hb2]
      rw [begC, e, if_neg (by decide)]
      unfold tripB
      cases hr : n.ready with
      | false =>
        rw [hr] at cp
        rw [fn_textN (C := C4) Tryd.func12 rfl rfl Tryd.results12 (show (C4).M.loc 12 = _ from fq12.1) rfl rfl (by kernel_rfl)]
        simp -implicitDefEqProofs -dsimp +contextual (maxSteps := 9999999) (disch := first | omega | simp only [go_sem] <;> omega | refine ib ?_; kernel_rfl) only [go_sem, seval, ↓reduceIte, mi, ky, vl, cp, hr]
      | true =>
        rw [hr] at cp
        by_cases h8 : 8 ≤ n.jobs.length
        · have h8' := eq_true h8
          rw [fn_textN (C := C4) Tryd.func12 rfl rfl Tryd.results12 (show (C4).M.loc 12 = _ from fq12.1) rfl rfl (by kernel_rfl)]
          simp -implicitDefEqProofs -dsimp +contextual (maxSteps := 9999999) (disch := first | omega | simp only [go_sem] <;> omega | refine ib ?_; kernel_rfl) only [go_sem, seval, ↓reduceIte, mi, ky, vl, cp, hr, h8']
        · have h8' := eq_false h8
          have ha : n.jobs.any mineJ = true := by
            rcases hb2 with hb2 | hb2 | hb2
            · rw [hr] at hb2; cases hb2
            · omega
            · exact hb2
          rw [ha] at hb
          rw [fn_textN (C := C4) Tryd.func12 rfl rfl Tryd.results12 (show (C4).M.loc 12 = _ from fq12.1) rfl rfl (by kernel_rfl)]
          simp -implicitDefEqProofs -dsimp +contextual (maxSteps := 9999999) (disch := first | omega | simp only [go_sem] <;> omega | refine ib ?_; kernel_rfl) only [go_sem, seval, ↓reduceIte, mi, ky, vl, cp, hr, h8', hb]
    · have e : begE n kind key val = 0 := by unfold begE; rw [if_neg hb1, if_neg hb2]
      rw [begC, e, if_pos rfl]
      unfold tripB
      have hr : n.ready = true := by
        cases hq : n.ready with
        | true => rfl
        | false => exact absurd (.inl hq) hb2
      have h8 : ¬ 8 ≤ n.jobs.length := fun h' => hb2 (.inr (.inl h'))
      have h8' := eq_false h8
      have ha : n.jobs.any mineJ = false := Bool.eq_false_iff.2 fun h' => hb2 (.inr (.inr h'))
      rw [ha] at hb
      have sk := eSeek (addC n kind key val) (nextI n.jobId) (clik_add kind key val h hm hk hv)
      generalize seekR (addC n kind key val) (nextI n.jobId) = q at *
      obtain ⟨d, acts⟩ := q
      rw [Nd.cs] at sk
      unfold addC newC at sk
      simp only [jbZ, enZ, zeroIt, List.map_nil, Int.cast_ofNat_Int, List.map_append, List.map_cons, Jb.cs] at sk
      rw [hr] at sk cp
      clear hb1 hb2 e m1 mk h8
      have n1 : ∀ _ : n.jobId < 0, nextI n.jobId = 1 := fun h' => by unfold nextI; rw [if_pos (.inl h')]
      by_cases g1 : n.jobId < 0
      · rw [n1 g1] at sk
        by_cases k1 : kind = 1
        · rw [k1] at sk mi ⊢
          simp only [eq_self, if_true] at sk
          rw [fn_textN (C := C4) Tryd.func12 rfl rfl Tryd.results12 (show (C4).M.loc 12 = _ from fq12.1) rfl rfl (by kernel_rfl)]
          simp -implicitDefEqProofs -dsimp +contextual (maxSteps := 9999999) (disch := first | omega | simp only [go_sem] <;> omega | refine ib ?_; kernel_rfl) only [go_sem, seval, ↓reduceIte, mi, ky, vl, cp, hr, h8', hb, g1, sk]
        · have k1' := eq_false k1
          simp only [k1', if_false] at sk
          rw [fn_textN (C := C4) Tryd.func12 rfl rfl Tryd.results12 (show (C4).M.loc 12 = _ from fq12.1) rfl rfl (by kernel_rfl)]
          simp -implicitDefEqProofs -dsimp +contextual (maxSteps := 9999999) (disch := first | omega | simp only [go_sem] <;> omega | refine ib ?_; kernel_rfl) only [go_sem, seval, ↓reduceIte, mi, ky, vl, cp, hr, h8', hb, g1, sk, k1']
      · by_cases g2 : 1073741824 ≤ n.jobId
        · have n2 : nextI n.jobId = 1 := by unfold nextI; rw [if_pos (.inr g2)]
          rw [n2] at sk
          by_cases k1 : kind = 1
          · rw [k1] at sk mi ⊢
            simp only [eq_self, if_true] at sk
            rw [fn_textN (C := C4) Tryd.func12 rfl rfl Tryd.results12 (show (C4).M.loc 12 = _ from fq12.1) rfl rfl (by kernel_rfl)]
            simp -implicitDefEqProofs -dsimp +contextual (maxSteps := 9999999) (disch := first | omega | simp only [go_sem] <;> omega | refine ib ?_; kernel_rfl) only [go_sem, seval, ↓reduceIte, mi, ky, vl, cp, hr, h8', hb, g1, g2, sk]
          · have k1' := eq_false k1
            simp only [k1', if_false] at sk
            rw [fn_textN (C := C4) Tryd.func12 rfl rfl Tryd.results12 (show (C4).M.loc 12 = _ from fq12.1) rfl rfl (by kernel_rfl)]
            simp -implicitDefEqProofs -dsimp +contextual (maxSteps := 9999999) (disch := first | omega | simp only [go_sem] <;> omega | refine ib ?_; kernel_rfl) only [go_sem, seval, ↓reduceIte, mi, ky, vl, cp, hr, h8', hb, g1, g2, sk, k1']
        · have n3 : nextI n.jobId = n.jobId + 1 := by unfold nextI; rw [if_neg (by omega)]
          rw [n3] at sk
          by_cases k1 : kind = 1
          · rw [k1] at sk mi ⊢
            simp only [eq_self, if_true] at sk
            rw [fn_textN (C := C4) Tryd.func12 rfl rfl Tryd.results12 (show (C4).M.loc 12 = _ from fq12.1) rfl rfl (by kernel_rfl)]
            simp -implicitDefEqProofs -dsimp +contextual (maxSteps := 9999999) (disch := first | omega | simp only [go_sem] <;> omega | refine ib ?_; kernel_rfl) only [go_sem, seval, ↓reduceIte, mi, ky, vl, cp, hr, h8', hb, g1, g2, sk]
          · have k1' := eq_false k1
            simp only [k1', if_false] at sk
            rw [fn_textN (C := C4) Tryd.func12 rfl rfl Tryd.results12 (show (C4).M.loc 12 = _ from fq12.1) rfl rfl (by kernel_rfl)]
            simp -implicitDefEqProofs -dsimp +contextual (maxSteps := 9999999) (disch := first | omega | simp only [go_sem] <;> omega | refine ib ?_; kernel_rfl) only [go_sem, seval, ↓reduceIte, mi, ky, vl, cp, hr, h8', hb, g1, g2, sk, k1']

end Go.Proofs.YtnpkhdjgedeppaaDoor
namespace Go.Proofs.YtnpkhdjgedeppaaDoor
open Go.Am
set_option linter.unusedSimpArgs false
set_option linter.unusedVariables false
set_option maxRecDepth 100000
/-! Great nodes. -/
def askedG (j : Jb) : Bool := j.asked.any fun a => decide (1000 < a.length)
def resG (r : Rs) : Bool := decide (300 < r.key.length) || decide (300 < r.val.length)
set_option maxHeartbeats 4000000 in
@[go_sem] theorem e6 (n : Nd) (h : n.fit) : fn C 6 [] [.agg [.str n.me.name, .int .u64 (n.me.id : Int), .int .i64 n.me.fr, .int .i64 n.me.un, .int .i64 n.me.ix, .str n.me.tag, .int .i64 n.clock, .str n.psk, .int .i64 n.gateI, .str n.gateK, .bool n.ready, .slice 8 (n.pred.map Pr.cs), .slice 8 (n.list.map Pr.cs), .slice 9 (n.fingers.map Fg.cs), .slice 20 (n.sessions.map Se.cs), .slice 23 (n.pends.map Pd.cs), .slice 4 (n.items.map It.cs), .slice 29 (n.jobs.map Jb.cs), .int .i64 n.rid, .int .i64 n.jobId, .slice 1 (n.draws.map u64Row), .slice 8 (n.results.map Rs.cs)]] = some (.bool (greatN n), []) := by
  rw [fn_text Tryd.func6 rfl rfl Tryd.results6 fq6.1 rfl rfl (by kernel_rfl)]
  have hme1 := h.me.n
  have hme2 := h.me.t
  obtain ⟨h1, h2, h3, h4, h5, h6, h7, h8, h9, h10, h11, h12, h13, h14, h15, h16, h17, h18, h19, h20⟩ := h
  rcases Bool.eq_false_or_eq_true (greatE n.me) with b1 | b1
  · simp -implicitDefEqProofs -dsimp +contextual (maxSteps := 9999999) (disch := first | omega | simp only [go_sem] <;> omega | refine ib ?_; kernel_rfl) only [go_sem, seval, ↓reduceIte, b1]
    simp [greatN, b1]
  by_cases b2 : 300 < n.psk.length
  · simp -implicitDefEqProofs -dsimp +contextual (maxSteps := 9999999) (disch := first | omega | simp only [go_sem] <;> omega | refine ib ?_; kernel_rfl) only [go_sem, seval, ↓reduceIte, b1, b2]
    simp [greatN, b2]
  by_cases b3 : 300 < n.gateK.length
  · simp -implicitDefEqProofs -dsimp +contextual (maxSteps := 9999999) (disch := first | omega | simp only [go_sem] <;> omega | refine ib ?_; kernel_rfl) only [go_sem, seval, ↓reduceIte, b1, b2, b3]
    simp [greatN, b3]
  rcases Bool.eq_false_or_eq_true (greatPs n.pred) with b4 | b4
  · simp -implicitDefEqProofs -dsimp +contextual (maxSteps := 9999999) (disch := first | omega | simp only [go_sem] <;> omega | refine ib ?_; kernel_rfl) only [go_sem, seval, ↓reduceIte, b1, b2, b3, b4, h5]
    simp [greatN, b4]
  rcases Bool.eq_false_or_eq_true (greatPs n.list) with b5 | b5
  · simp -implicitDefEqProofs -dsimp +contextual (maxSteps := 9999999) (disch := first | omega | simp only [go_sem] <;> omega | refine ib ?_; kernel_rfl) only [go_sem, seval, ↓reduceIte, b1, b2, b3, b4, b5, h5, h7]
    simp [greatN, b5]
  by_cases b6 : 70 < n.fingers.length
  · simp -implicitDefEqProofs -dsimp +contextual (maxSteps := 9999999) (disch := first | omega | simp only [go_sem] <;> omega | refine ib ?_; kernel_rfl) only [go_sem, seval, ↓reduceIte, b1, b2, b3, b4, b5, b6, h5, h7]
    simp [greatN, b6]
  rcases Bool.eq_false_or_eq_true (greatSs n.sessions) with b7 | b7
  · simp -implicitDefEqProofs -dsimp +contextual (maxSteps := 9999999) (disch := first | omega | simp only [go_sem] <;> omega | refine ib ?_; kernel_rfl) only [go_sem, seval, ↓reduceIte, b1, b2, b3, b4, b5, b6, b7, h5, h7, h11]
    simp [greatN, b7]
  rcases Bool.eq_false_or_eq_true (greatPds n.pends) with b8 | b8
  · simp -implicitDefEqProofs -dsimp +contextual (maxSteps := 9999999) (disch := first | omega | simp only [go_sem] <;> omega | refine ib ?_; kernel_rfl) only [go_sem, seval, ↓reduceIte, b1, b2, b3, b4, b5, b6, b7, b8, h5, h7, h11, h13]
    simp [greatN, b8]
  rcases Bool.eq_false_or_eq_true (greatIs n.items) with b9 | b9
  · simp -implicitDefEqProofs -dsimp +contextual (maxSteps := 9999999) (disch := first | omega | simp only [go_sem] <;> omega | refine ib ?_; kernel_rfl) only [go_sem, seval, ↓reduceIte, b1, b2, b3, b4, b5, b6, b7, b8, b9, h5, h7, h11, h13, h15]
    simp [greatN, b9]
  by_cases b10 : 20 < n.jobs.length
  · simp -implicitDefEqProofs -dsimp +contextual (maxSteps := 9999999) (disch := first | omega | simp only [go_sem] <;> omega | refine ib ?_; kernel_rfl) only [go_sem, seval, ↓reduceIte, b1, b2, b3, b4, b5, b6, b7, b8, b9, b10, h5, h7, h11, h13, h15]
    simp [greatN, b10]
  by_cases b11 : 60 < n.draws.length
  · simp -implicitDefEqProofs -dsimp +contextual (maxSteps := 9999999) (disch := first | omega | simp only [go_sem] <;> omega | refine ib ?_; kernel_rfl) only [go_sem, seval, ↓reduceIte, b1, b2, b3, b4, b5, b6, b7, b8, b9, b10, b11, h5, h7, h11, h13, h15]
    simp [greatN, b11]
  by_cases b12 : 40 < n.results.length
  · simp -implicitDefEqProofs -dsimp +contextual (maxSteps := 9999999) (disch := first | omega | simp only [go_sem] <;> omega | refine ib ?_; kernel_rfl) only [go_sem, seval, ↓reduceIte, b1, b2, b3, b4, b5, b6, b7, b8, b9, b10, b11, b12, h5, h7, h11, h13, h15]
    simp [greatN, b12]
  simp -implicitDefEqProofs -dsimp +contextual (maxSteps := 9999999) (disch := first | omega | simp only [go_sem] <;> omega | refine ib ?_; kernel_rfl) only [go_sem, seval, ↓reduceIte, b1, b2, b3, b4, b5, b6, b7, b8, b9, b10, b11, b12, h5, h7, h11, h13, h15]
  refine kFor n.fingers.length (fun i f H => f 1 = .ptr 101 1 0 0 ∧ f 3 = .int .i64 (i : Nat) ∧ H 101 = ⟨1, .live, 22, [n.cs], false⟩ ∧ (n.fingers.take i).any (fun x => greatE x.p.e) = false) ?_ ?_ ⟨rfl, rfl, rfl, rfl⟩
  · rintro i f H hi ⟨f1, f3, hH, ha⟩ ih
    have k1 := (h9 _ (List.getElem_mem hi)).l.n
    have k2 := (h9 _ (List.getElem_mem hi)).l.t
    simp -implicitDefEqProofs -dsimp +contextual (maxSteps := 9999999) (disch := first | omega | simp only [go_sem] <;> omega | refine ib ?_; kernel_rfl) only [go_sem, seval, ↓reduceIte, f1, f3, hH, hi, Nd.cs]
    (repeat' (refine kD_intro (fun _ => ?_) (fun _ => ?_)))
    · rename_i g; simp [greatN, any_at (p := fun x : Fg => greatE x.p.e) hi g]
    · rename_i g; exact ih _ _ ⟨f1, rfl, hH, any_take hi ha (by simpa using g)⟩
  rintro f H ⟨f1, f3, hH, ha⟩
  simp -implicitDefEqProofs -dsimp +contextual (maxSteps := 9999999) (disch := first | omega | simp only [go_sem] <;> omega | refine ib ?_; kernel_rfl) only [go_sem, seval, ↓reduceIte, f1, f3, hH, Nd.cs]
  have a1 := any_end ha
  refine kFor n.jobs.length (fun i f H => f 1 = .ptr 101 1 0 0 ∧ f 4 = .int .i64 (i : Nat) ∧ H 101 = ⟨1, .live, 22, [n.cs], false⟩ ∧ (n.jobs.take i).any greatJ = false) ?_ ?_ ⟨f1, rfl, hH, rfl⟩
  · rintro i f H hi ⟨f1, f4, hH, ha⟩ ih
    obtain ⟨k1, k2, ⟨k3, k4⟩, ⟨k5, k6⟩, ⟨k7, k8⟩, k9, k10⟩ := h17 _ (List.getElem_mem hi)
    have big : greatJ n.jobs[i] = true → greatN n = true := fun g => by simp [greatN, any_at hi g]
    by_cases c1 : 300 < n.jobs[i].key.length
    · simp -implicitDefEqProofs -dsimp +contextual (maxSteps := 9999999) (disch := first | omega | simp only [go_sem] <;> omega | refine ib ?_; kernel_rfl) only [go_sem, seval, ↓reduceIte, f1, f4, hH, hi, Nd.cs, c1]
      rw [big (by simp [greatJ, c1])]
    by_cases c2 : 300 < n.jobs[i].val.length
    · simp -implicitDefEqProofs -dsimp +contextual (maxSteps := 9999999) (disch := first | omega | simp only [go_sem] <;> omega | refine ib ?_; kernel_rfl) only [go_sem, seval, ↓reduceIte, f1, f4, hH, hi, Nd.cs, c1, c2]
      rw [big (by simp [greatJ, c2])]
    by_cases c3 : 300 < n.jobs[i].item.k.length
    · simp -implicitDefEqProofs -dsimp +contextual (maxSteps := 9999999) (disch := first | omega | simp only [go_sem] <;> omega | refine ib ?_; kernel_rfl) only [go_sem, seval, ↓reduceIte, f1, f4, hH, hi, Nd.cs, c1, c2, c3]
      rw [big (by simp [greatJ, c3])]
    by_cases c4 : 300 < n.jobs[i].item.v.length
    · simp -implicitDefEqProofs -dsimp +contextual (maxSteps := 9999999) (disch := first | omega | simp only [go_sem] <;> omega | refine ib ?_; kernel_rfl) only [go_sem, seval, ↓reduceIte, f1, f4, hH, hi, Nd.cs, c1, c2, c3, c4]
      rw [big (by simp [greatJ, c4])]
    rcases Bool.eq_false_or_eq_true (greatE n.jobs[i].owner) with c5 | c5
    · simp -implicitDefEqProofs -dsimp +contextual (maxSteps := 9999999) (disch := first | omega | simp only [go_sem] <;> omega | refine ib ?_; kernel_rfl) only [go_sem, seval, ↓reduceIte, f1, f4, hH, hi, Nd.cs, c1, c2, c3, c4, c5]
      rw [big (by simp [greatJ, c5])]
    rcases Bool.eq_false_or_eq_true (greatE n.jobs[i].back) with c6 | c6
    · simp -implicitDefEqProofs -dsimp +contextual (maxSteps := 9999999) (disch := first | omega | simp only [go_sem] <;> omega | refine ib ?_; kernel_rfl) only [go_sem, seval, ↓reduceIte, f1, f4, hH, hi, Nd.cs, c1, c2, c3, c4, c5, c6]
      rw [big (by simp [greatJ, c6])]
    by_cases c7 : 30 < n.jobs[i].asked.length
    · simp -implicitDefEqProofs -dsimp +contextual (maxSteps := 9999999) (disch := first | omega | simp only [go_sem] <;> omega | refine ib ?_; kernel_rfl) only [go_sem, seval, ↓reduceIte, f1, f4, hH, hi, Nd.cs, c1, c2, c3, c4, c5, c6, c7]
      rw [big (by simp [greatJ, c7])]
    simp -implicitDefEqProofs -dsimp +contextual (maxSteps := 9999999) (disch := first | omega | simp only [go_sem] <;> omega | refine ib ?_; kernel_rfl) only [go_sem, seval, ↓reduceIte, f1, f4, hH, hi, Nd.cs, c1, c2, c3, c4, c5, c6, c7]
    refine kFor n.jobs[i].asked.length (fun k f H => f 1 = .ptr 101 1 0 0 ∧ f 4 = .int .i64 (i : Nat) ∧ f 6 = .int .i64 (k : Nat) ∧ H 101 = ⟨1, .live, 22, [n.cs], false⟩ ∧ (∃ g, f 5 = .ptr 105 g 0 0 ∧ H 105 = ⟨g, .live, 29, [n.jobs[i].cs], false⟩) ∧ (n.jobs[i].asked.take k).any (fun a => decide (1000 < a.length)) = false) ?_ ?_ ⟨f1, f4, rfl, by simp [Heap.set, hH], ⟨_, rfl, rfl⟩, rfl⟩
    · rintro k f H hk ⟨f1, f4, f6, hH, ⟨g, f5, hG⟩, hb⟩ ih2
      have q1 := k10 _ (List.getElem_mem hk)
      simp -implicitDefEqProofs -dsimp +contextual (maxSteps := 9999999) (disch := first | omega | simp only [go_sem] <;> omega | refine ib ?_; kernel_rfl) only [go_sem, seval, ↓reduceIte, f1, f4, f5, f6, hH, hG, hk, hi]
      (repeat' (refine kD_intro (fun _ => ?_) (fun _ => ?_)))
      · rename_i g'; rw [big (by simp [greatJ, any_at (p := fun a : List UInt8 => decide (1000 < a.length)) hk (by simpa using g')])]
      · rename_i g'; exact ih2 _ _ ⟨f1, f4, rfl, hH, ⟨g, f5, hG⟩, any_take hk hb (by simpa using g')⟩
    · rintro f H ⟨f1, f4, f6, hH, ⟨g, f5, hG⟩, hb⟩
      simp -implicitDefEqProofs -dsimp +contextual (maxSteps := 9999999) (disch := first | omega | simp only [go_sem] <;> omega | refine ib ?_; kernel_rfl) only [go_sem, seval, ↓reduceIte, f1, f4, f5, f6, hH, hG, hi]
      exact ih _ _ ⟨f1, rfl, hH, any_take hi ha (by simp [greatJ, c1, c2, c3, c4, c5, c6, c7, any_end hb])⟩
  rintro f H ⟨f1, f4, hH, ha⟩
  simp -implicitDefEqProofs -dsimp +contextual (maxSteps := 9999999) (disch := first | omega | simp only [go_sem] <;> omega | refine ib ?_; kernel_rfl) only [go_sem, seval, ↓reduceIte, f1, f4, hH, Nd.cs]
  have a2 := any_end ha
  refine kFor n.results.length (fun i f H => f 1 = .ptr 101 1 0 0 ∧ f 7 = .int .i64 (i : Nat) ∧ H 101 = ⟨1, .live, 22, [n.cs], false⟩ ∧ (n.results.take i).any resG = false) ?_ ?_ ⟨f1, rfl, hH, rfl⟩
  · rintro i f H hi ⟨f1, f7, hH, ha⟩ ih
    have k1 := (h20 _ (List.getElem_mem hi)).k
    have k2 := (h20 _ (List.getElem_mem hi)).v
    have big : resG n.results[i] = true → greatN n = true := fun g => by
      have := any_at hi g
      unfold resG at this
      simp [greatN, this]
    simp -implicitDefEqProofs -dsimp +contextual (maxSteps := 9999999) (disch := first | omega | simp only [go_sem] <;> omega | refine ib ?_; kernel_rfl) only [go_sem, seval, ↓reduceIte, f1, f7, hH, hi, Nd.cs]
    (repeat' (refine kD_intro (fun _ => ?_) (fun _ => ?_)))
    · rename_i g; rw [big (by simp [resG, g])]
    · rename_i g g'; rw [big (by simp [resG, g'])]
    · rename_i g g'; exact ih _ _ ⟨f1, rfl, hH, any_take hi ha (by simp [resG]; omega)⟩
  rintro f H ⟨f1, f7, hH, ha⟩
  simp -implicitDefEqProofs -dsimp +contextual (maxSteps := 9999999) (disch := first | omega | simp only [go_sem] <;> omega | refine ib ?_; kernel_rfl) only [go_sem, seval, ↓reduceIte, f1, f7, hH, Nd.cs]
  have a3 := any_end ha
  unfold resG at a3
  simp [greatN, b1, b2, b3, b4, b5, b6, b7, b8, b9, b10, b11, b12, a1, a2, a3]

end Go.Proofs.YtnpkhdjgedeppaaDoor
namespace Go.Proofs.YtnpkhdjgedeppaaDoor
open Go.Am
set_option linter.unusedSimpArgs false
set_option linter.unusedVariables false
set_option maxRecDepth 100000
/-! What the arguments are, by their shapes. -/
theorem Shs_split : ∀ {a b : List Shp} {xs : List AVal}, Shs (a ++ b) xs → ∃ x y, xs = x ++ y ∧ Shs a x ∧ Shs b y
  | [], _, xs, h => ⟨[], xs, rfl, rfl, h⟩
  | c :: a, b, xs, h => by
    simp only [List.cons_append, Shs] at h
    obtain ⟨v, as', rfl, h1, h2⟩ := h
    obtain ⟨x, y, rfl, h3, h4⟩ := Shs_split h2
    exact ⟨v :: x, y, rfl, by simp only [Shs]; exact ⟨v, x, rfl, h1, h3⟩, h4⟩
theorem rdU {z : Int} (h : (Lit.int .u64 z).wf = true) : ∃ n : Nat, z = (n : Int) ∧ n ≤ 18446744073709551615 := by
  have h := wf_u64 h
  obtain ⟨n, rfl⟩ := Int.eq_ofNat_of_zero_le h.1
  exact ⟨n, rfl, by omega⟩
theorem rdStr {xs : List AVal} (h : Shs [.s] xs) : ∃ l : List UInt8, xs = strRow l ∧ l.length ≤ 9223372036854775807 := by
  simp only [Shs, Sh] at h
  obtain ⟨_, _, rfl, ⟨l, rfl, hl⟩, rfl⟩ := h
  exact ⟨l, rfl, hl⟩
theorem rdNat {xs : List AVal} (h : Shs [.i .u64] xs) : ∃ n : Nat, xs = u64Row n ∧ n ≤ 18446744073709551615 := by
  simp only [Shs, Sh] at h
  obtain ⟨_, _, rfl, ⟨z, rfl, hz⟩, rfl⟩ := h
  obtain ⟨n, rfl, hn⟩ := rdU hz
  exact ⟨n, rfl, hn⟩
structure Wn.ok (x : Wn) : Prop where
  top : I64 x.top
  low : U64 x.low
  high : U64 x.high
def Wn.cs (x : Wn) : List AVal := [.int .i64 x.top, .int .u64 (x.low : Int), .int .u64 (x.high : Int)]
def shEn : List Shp := [.s, .i .u64, .i .i64, .i .i64, .i .i64, .s]
theorem rdEn {xs : List AVal} (h : Shs shEn xs) : ∃ x : En, xs = x.cs ∧ x.ok ∧ x.fit := by
  unfold shEn at h
  have p0 := h
  simp only [Shs, Sh] at p0
  obtain ⟨_, _, rfl, ⟨v_name, rfl, t_name⟩, _, _, rfl, ⟨v_id, rfl, k_id⟩, _, _, rfl, ⟨v_fr, rfl, k_fr⟩, _, _, rfl, ⟨v_un, rfl, k_un⟩, _, _, rfl, ⟨v_ix, rfl, k_ix⟩, _, _, rfl, ⟨v_tag, rfl, t_tag⟩, rfl⟩ := p0
  obtain ⟨v_id, rfl, u_id⟩ := rdU k_id
  have k_fr := wf_i64 k_fr
  have k_un := wf_i64 k_un
  have k_ix := wf_i64 k_ix
  exact ⟨⟨v_name, v_id, v_fr, v_un, v_ix, v_tag⟩, rfl, ⟨u_id, k_fr.1, k_fr.2, k_un.1, k_un.2, k_ix.1, k_ix.2⟩, ⟨t_name, t_tag⟩⟩
def shPr : List Shp := shEn ++ [.i .i64, .i .i64]
theorem rdPr {xs : List AVal} (h : Shs shPr xs) : ∃ x : Pr, xs = x.cs ∧ x.ok ∧ x.fit := by
  unfold shPr at h
  obtain ⟨x1, y1, rfl, p0, p1⟩ := Shs_split h
  obtain ⟨v_e, rfl, k_e, t_e⟩ := rdEn p0
  simp only [Shs, Sh] at p1
  obtain ⟨_, _, rfl, ⟨v_since, rfl, k_since⟩, _, _, rfl, ⟨v_under, rfl, k_under⟩, rfl⟩ := p1
  have k_since := wf_i64 k_since
  have k_under := wf_i64 k_under
  exact ⟨⟨v_e, v_since, v_under⟩, rfl, ⟨k_e, k_since.1, k_since.2, k_under.1, k_under.2⟩, ⟨t_e⟩⟩
def shFg : List Shp := [.i .i64] ++ shPr
theorem rdFg {xs : List AVal} (h : Shs shFg xs) : ∃ x : Fg, xs = x.cs ∧ x.ok ∧ x.p.fit := by
  unfold shFg at h
  obtain ⟨x1, y1, rfl, p0, p1⟩ := Shs_split h
  simp only [Shs, Sh] at p0
  obtain ⟨_, _, rfl, ⟨v_bit, rfl, k_bit⟩, rfl⟩ := p0
  have k_bit := wf_i64 k_bit
  obtain ⟨v_p, rfl, k_p, t_p⟩ := rdPr p1
  exact ⟨⟨v_bit, v_p⟩, rfl, ⟨k_bit, k_p⟩, t_p⟩
def shIt : List Shp := [.s, .s, .i .i64, .b]
theorem rdIt {xs : List AVal} (h : Shs shIt xs) : ∃ x : It, xs = x.cs ∧ x.ok ∧ x.fit := by
  unfold shIt at h
  have p0 := h
  simp only [Shs, Sh] at p0
  obtain ⟨_, _, rfl, ⟨v_k, rfl, t_k⟩, _, _, rfl, ⟨v_v, rfl, t_v⟩, _, _, rfl, ⟨v_n, rfl, k_n⟩, _, _, rfl, ⟨v_g, rfl⟩, rfl⟩ := p0
  have k_n := wf_i64 k_n
  exact ⟨⟨v_k, v_v, v_n, v_g⟩, rfl, ⟨k_n⟩, ⟨t_k, t_v⟩⟩
def shWn : List Shp := [.i .i64, .i .u64, .i .u64]
theorem rdWn {xs : List AVal} (h : Shs shWn xs) : ∃ x : Wn, xs = x.cs ∧ x.ok ∧ True := by
  unfold shWn at h
  have p0 := h
  simp only [Shs, Sh] at p0
  obtain ⟨_, _, rfl, ⟨v_top, rfl, k_top⟩, _, _, rfl, ⟨v_low, rfl, k_low⟩, _, _, rfl, ⟨v_high, rfl, k_high⟩, rfl⟩ := p0
  have k_top := wf_i64 k_top
  obtain ⟨v_low, rfl, u_low⟩ := rdU k_low
  obtain ⟨v_high, rfl, u_high⟩ := rdU k_high
  exact ⟨⟨v_top, v_low, v_high⟩, rfl, ⟨k_top, u_low, u_high⟩, trivial⟩
def shSe : List Shp := [.i .u64, .i .u64] ++ shEn ++ [.i .i64, .i .i64, .s, .s, .i .i64, .i .i64, .i .i64, .i .i64] ++ shWn ++ [.i .i64]
theorem rdSe {xs : List AVal} (h : Shs shSe xs) : ∃ x : Se, xs = x.cs ∧ x.ok ∧ x.fit := by
  unfold shSe at h
  obtain ⟨x4, y4, rfl, h4, p4⟩ := Shs_split h
  obtain ⟨x3, y3, rfl, h3, p3⟩ := Shs_split h4
  obtain ⟨x2, y2, rfl, h2, p2⟩ := Shs_split h3
  obtain ⟨x1, y1, rfl, p0, p1⟩ := Shs_split h2
  simp only [Shs, Sh] at p0
  obtain ⟨_, _, rfl, ⟨v_id, rfl, k_id⟩, _, _, rfl, ⟨v_nonce, rfl, k_nonce⟩, rfl⟩ := p0
  obtain ⟨v_id, rfl, u_id⟩ := rdU k_id
  obtain ⟨v_nonce, rfl, u_nonce⟩ := rdU k_nonce
  obtain ⟨v_peer, rfl, k_peer, t_peer⟩ := rdEn p1
  simp only [Shs, Sh] at p2
  obtain ⟨_, _, rfl, ⟨v_role, rfl, k_role⟩, _, _, rfl, ⟨v_state, rfl, k_state⟩, _, _, rfl, ⟨v_send, rfl, t_send⟩, _, _, rfl, ⟨v_hear, rfl, t_hear⟩, _, _, rfl, ⟨v_epoch, rfl, k_epoch⟩, _, _, rfl, ⟨v_count, rfl, k_count⟩, _, _, rfl, ⟨v_since, rfl, k_since⟩, _, _, rfl, ⟨v_seq, rfl, k_seq⟩, rfl⟩ := p2
  have k_role := wf_i64 k_role
  have k_state := wf_i64 k_state
  have k_epoch := wf_i64 k_epoch
  have k_count := wf_i64 k_count
  have k_since := wf_i64 k_since
  have k_seq := wf_i64 k_seq
  obtain ⟨v_seen, rfl, k_seen, t_seen⟩ := rdWn p3
  simp only [Shs, Sh] at p4
  obtain ⟨_, _, rfl, ⟨v_used, rfl, k_used⟩, rfl⟩ := p4
  have k_used := wf_i64 k_used
  exact ⟨⟨v_id, v_nonce, v_peer, v_role, v_state, v_send, v_hear, v_epoch, v_count, v_since, v_seq, v_seen, v_used⟩, rfl, ⟨u_id, u_nonce, k_peer, k_role, k_state, k_epoch, k_count, k_since, k_seq, k_seen.top, k_seen.low, k_seen.high, k_used⟩, ⟨t_peer, t_send, t_hear⟩⟩
def shMs : List Shp := [.i .i64, .i .i64, .i .i64, .i .i64, .i .u64, .b, .b, .s, .s, .sl 6 shEn, .sl 4 shIt]
theorem rdMs {xs : List AVal} (h : Shs shMs xs) : ∃ x : Ms, xs = x.cs ∧ x.ok ∧ x.fit := by
  unfold shMs at h
  have p0 := h
  simp only [Shs, Sh] at p0
  obtain ⟨_, _, rfl, ⟨v_kind, rfl, k_kind⟩, _, _, rfl, ⟨v_rid, rfl, k_rid⟩, _, _, rfl, ⟨v_ver, rfl, k_ver⟩, _, _, rfl, ⟨v_err, rfl, k_err⟩, _, _, rfl, ⟨v_id, rfl, k_id⟩, _, _, rfl, ⟨v_has, rfl⟩, _, _, rfl, ⟨v_gone, rfl⟩, _, _, rfl, ⟨v_key, rfl, t_key⟩, _, _, rfl, ⟨v_val, rfl, t_val⟩, _, _, rfl, ⟨v_ents, rfl, n_ents, r_ents⟩, _, _, rfl, ⟨v_items, rfl, n_items, r_items⟩, rfl⟩ := p0
  have k_kind := wf_i64 k_kind
  have k_rid := wf_i64 k_rid
  have k_ver := wf_i64 k_ver
  have k_err := wf_i64 k_err
  obtain ⟨v_id, rfl, u_id⟩ := rdU k_id
  obtain ⟨v_ents, rfl, q_ents⟩ := rows_map En.cs (fun x => x.ok ∧ x.fit) (fun r hr => rdEn (r_ents r hr))
  rw [List.length_map] at n_ents
  obtain ⟨v_items, rfl, q_items⟩ := rows_map It.cs (fun x => x.ok ∧ x.fit) (fun r hr => rdIt (r_items r hr))
  rw [List.length_map] at n_items
  exact ⟨⟨v_kind, v_rid, v_ver, v_err, v_id, v_has, v_gone, v_key, v_val, v_ents, v_items⟩, rfl, ⟨k_kind, k_rid, k_ver, k_err, u_id, fun x hx => (q_ents x hx).1, fun x hx => (q_items x hx).1⟩, ⟨t_key, t_val, n_ents, n_items, fun x hx => (q_ents x hx).2, fun x hx => (q_items x hx).2⟩⟩
def shPd : List Shp := [.i .i64, .i .i64, .i .i64, .i .i64, .i .i64, .i .u64] ++ shEn ++ shMs
theorem rdPd {xs : List AVal} (h : Shs shPd xs) : ∃ x : Pd, xs = x.cs ∧ x.ok ∧ x.fit := by
  unfold shPd at h
  obtain ⟨x2, y2, rfl, h2, p2⟩ := Shs_split h
  obtain ⟨x1, y1, rfl, p0, p1⟩ := Shs_split h2
  simp only [Shs, Sh] at p0
  obtain ⟨_, _, rfl, ⟨v_rid, rfl, k_rid⟩, _, _, rfl, ⟨v_why, rfl, k_why⟩, _, _, rfl, ⟨v_job, rfl, k_job⟩, _, _, rfl, ⟨v_til, rfl, k_til⟩, _, _, rfl, ⟨v_tries, rfl, k_tries⟩, _, _, rfl, ⟨v_session, rfl, k_session⟩, rfl⟩ := p0
  have k_rid := wf_i64 k_rid
  have k_why := wf_i64 k_why
  have k_job := wf_i64 k_job
  have k_til := wf_i64 k_til
  have k_tries := wf_i64 k_tries
  obtain ⟨v_session, rfl, u_session⟩ := rdU k_session
  obtain ⟨v_to, rfl, k_to, t_to⟩ := rdEn p1
  obtain ⟨v_m, rfl, k_m, t_m⟩ := rdMs p2
  exact ⟨⟨v_rid, v_why, v_job, v_til, v_tries, v_session, v_to, v_m⟩, rfl, ⟨k_rid, k_why, k_job, k_til, k_tries, u_session, k_to, k_m⟩, ⟨t_to, t_m⟩⟩
def shJb : List Shp := [.i .i64, .i .i64, .i .i64, .i .i64, .i .i64, .i .i64, .s, .s] ++ shEn ++ shIt ++ [.i .i64, .i .i64, .sl 1 [.s]] ++ shEn ++ [.i .i64, .i .i64]
theorem rdJb {xs : List AVal} (h : Shs shJb xs) : ∃ x : Jb, xs = x.cs ∧ x.ok ∧ x.fit := by
  unfold shJb at h
  obtain ⟨x5, y5, rfl, h5, p5⟩ := Shs_split h
  obtain ⟨x4, y4, rfl, h4, p4⟩ := Shs_split h5
  obtain ⟨x3, y3, rfl, h3, p3⟩ := Shs_split h4
  obtain ⟨x2, y2, rfl, h2, p2⟩ := Shs_split h3
  obtain ⟨x1, y1, rfl, p0, p1⟩ := Shs_split h2
  simp only [Shs, Sh] at p0
  obtain ⟨_, _, rfl, ⟨v_id, rfl, k_id⟩, _, _, rfl, ⟨v_kind, rfl, k_kind⟩, _, _, rfl, ⟨v_phase, rfl, k_phase⟩, _, _, rfl, ⟨v_hops, rfl, k_hops⟩, _, _, rfl, ⟨v_tries, rfl, k_tries⟩, _, _, rfl, ⟨v_til, rfl, k_til⟩, _, _, rfl, ⟨v_key, rfl, t_key⟩, _, _, rfl, ⟨v_val, rfl, t_val⟩, rfl⟩ := p0
  have k_id := wf_i64 k_id
  have k_kind := wf_i64 k_kind
  have k_phase := wf_i64 k_phase
  have k_hops := wf_i64 k_hops
  have k_tries := wf_i64 k_tries
  have k_til := wf_i64 k_til
  obtain ⟨v_owner, rfl, k_owner, t_owner⟩ := rdEn p1
  obtain ⟨v_item, rfl, k_item, t_item⟩ := rdIt p2
  simp only [Shs, Sh] at p3
  obtain ⟨_, _, rfl, ⟨v_acks, rfl, k_acks⟩, _, _, rfl, ⟨v_waits, rfl, k_waits⟩, _, _, rfl, ⟨v_asked, rfl, n_asked, r_asked⟩, rfl⟩ := p3
  have k_acks := wf_i64 k_acks
  have k_waits := wf_i64 k_waits
  obtain ⟨v_asked, rfl, t_asked⟩ := rows_map strRow (fun l => l.length ≤ 9223372036854775807) (fun r hr => rdStr (r_asked r hr))
  rw [List.length_map] at n_asked
  obtain ⟨v_back, rfl, k_back, t_back⟩ := rdEn p4
  simp only [Shs, Sh] at p5
  obtain ⟨_, _, rfl, ⟨v_backRid, rfl, k_backRid⟩, _, _, rfl, ⟨v_backJob, rfl, k_backJob⟩, rfl⟩ := p5
  have k_backRid := wf_i64 k_backRid
  have k_backJob := wf_i64 k_backJob
  exact ⟨⟨v_id, v_kind, v_phase, v_hops, v_tries, v_til, v_key, v_val, v_owner, v_item, v_acks, v_waits, v_asked, v_back, v_backRid, v_backJob⟩, rfl, ⟨k_id, k_kind, k_phase, k_hops, k_tries, k_til, k_owner, k_item, k_acks, k_waits, k_back, k_backRid, k_backJob⟩, ⟨t_key, t_val, t_item, t_owner, t_back, n_asked, t_asked⟩⟩
def shRs : List Shp := [.i .i64, .i .i64, .i .i64, .s, .s, .b, .b, .i .i64]
theorem rdRs {xs : List AVal} (h : Shs shRs xs) : ∃ x : Rs, xs = x.cs ∧ x.ok ∧ x.fit := by
  unfold shRs at h
  have p0 := h
  simp only [Shs, Sh] at p0
  obtain ⟨_, _, rfl, ⟨v_job, rfl, k_job⟩, _, _, rfl, ⟨v_kind, rfl, k_kind⟩, _, _, rfl, ⟨v_ver, rfl, k_ver⟩, _, _, rfl, ⟨v_key, rfl, t_key⟩, _, _, rfl, ⟨v_val, rfl, t_val⟩, _, _, rfl, ⟨v_has, rfl⟩, _, _, rfl, ⟨v_gone, rfl⟩, _, _, rfl, ⟨v_err, rfl, k_err⟩, rfl⟩ := p0
  have k_job := wf_i64 k_job
  have k_kind := wf_i64 k_kind
  have k_ver := wf_i64 k_ver
  have k_err := wf_i64 k_err
  exact ⟨⟨v_job, v_kind, v_ver, v_key, v_val, v_has, v_gone, v_err⟩, rfl, ⟨k_job.1, k_job.2, k_kind.1, k_kind.2, k_ver.1, k_ver.2, k_err.1, k_err.2⟩, ⟨t_key, t_val⟩⟩
def shNd : List Shp := shEn ++ [.i .i64, .s, .i .i64, .s, .b, .sl 8 shPr, .sl 8 shPr, .sl 9 shFg, .sl 20 shSe, .sl 23 shPd, .sl 4 shIt, .sl 29 shJb, .i .i64, .i .i64, .sl 1 [.i .u64], .sl 8 shRs]
theorem rdNd {xs : List AVal} (h : Shs shNd xs) : ∃ x : Nd, xs = x.cs ∧ x.ok ∧ x.fit := by
  unfold shNd at h
  obtain ⟨x1, y1, rfl, p0, p1⟩ := Shs_split h
  obtain ⟨v_me, rfl, k_me, t_me⟩ := rdEn p0
  simp only [Shs, Sh] at p1
  obtain ⟨_, _, rfl, ⟨v_clock, rfl, k_clock⟩, _, _, rfl, ⟨v_psk, rfl, t_psk⟩, _, _, rfl, ⟨v_gateI, rfl, k_gateI⟩, _, _, rfl, ⟨v_gateK, rfl, t_gateK⟩, _, _, rfl, ⟨v_ready, rfl⟩, _, _, rfl, ⟨v_pred, rfl, n_pred, r_pred⟩, _, _, rfl, ⟨v_list, rfl, n_list, r_list⟩, _, _, rfl, ⟨v_fingers, rfl, n_fingers, r_fingers⟩, _, _, rfl, ⟨v_sessions, rfl, n_sessions, r_sessions⟩, _, _, rfl, ⟨v_pends, rfl, n_pends, r_pends⟩, _, _, rfl, ⟨v_items, rfl, n_items, r_items⟩, _, _, rfl, ⟨v_jobs, rfl, n_jobs, r_jobs⟩, _, _, rfl, ⟨v_rid, rfl, k_rid⟩, _, _, rfl, ⟨v_jobId, rfl, k_jobId⟩, _, _, rfl, ⟨v_draws, rfl, n_draws, r_draws⟩, _, _, rfl, ⟨v_results, rfl, n_results, r_results⟩, rfl⟩ := p1
  have k_clock := wf_i64 k_clock
  have k_gateI := wf_i64 k_gateI
  obtain ⟨v_pred, rfl, q_pred⟩ := rows_map Pr.cs (fun x => x.ok ∧ x.fit) (fun r hr => rdPr (r_pred r hr))
  rw [List.length_map] at n_pred
  obtain ⟨v_list, rfl, q_list⟩ := rows_map Pr.cs (fun x => x.ok ∧ x.fit) (fun r hr => rdPr (r_list r hr))
  rw [List.length_map] at n_list
  obtain ⟨v_fingers, rfl, q_fingers⟩ := rows_map Fg.cs (fun x => x.ok ∧ x.p.fit) (fun r hr => rdFg (r_fingers r hr))
  rw [List.length_map] at n_fingers
  obtain ⟨v_sessions, rfl, q_sessions⟩ := rows_map Se.cs (fun x => x.ok ∧ x.fit) (fun r hr => rdSe (r_sessions r hr))
  rw [List.length_map] at n_sessions
  obtain ⟨v_pends, rfl, q_pends⟩ := rows_map Pd.cs (fun x => x.ok ∧ x.fit) (fun r hr => rdPd (r_pends r hr))
  rw [List.length_map] at n_pends
  obtain ⟨v_items, rfl, q_items⟩ := rows_map It.cs (fun x => x.ok ∧ x.fit) (fun r hr => rdIt (r_items r hr))
  rw [List.length_map] at n_items
  obtain ⟨v_jobs, rfl, q_jobs⟩ := rows_map Jb.cs (fun x => x.ok ∧ x.fit) (fun r hr => rdJb (r_jobs r hr))
  rw [List.length_map] at n_jobs
  have k_rid := wf_i64 k_rid
  have k_jobId := wf_i64 k_jobId
  obtain ⟨v_draws, rfl, k_draws⟩ := rows_map u64Row U64 (fun r hr => rdNat (r_draws r hr))
  rw [List.length_map] at n_draws
  obtain ⟨v_results, rfl, q_results⟩ := rows_map Rs.cs (fun x => x.ok ∧ x.fit) (fun r hr => rdRs (r_results r hr))
  rw [List.length_map] at n_results
  exact ⟨⟨v_me, v_clock, v_psk, v_gateI, v_gateK, v_ready, v_pred, v_list, v_fingers, v_sessions, v_pends, v_items, v_jobs, v_rid, v_jobId, v_draws, v_results⟩, rfl, ⟨k_me, k_clock, k_gateI, fun x hx => (q_pred x hx).1, fun x hx => (q_list x hx).1, fun x hx => (q_fingers x hx).1, fun x hx => (q_sessions x hx).1, fun x hx => (q_pends x hx).1, fun x hx => (q_items x hx).1, fun x hx => (q_jobs x hx).1, k_rid, k_jobId, k_draws, fun x hx => (q_results x hx).1⟩, ⟨t_me, t_psk, t_gateK, n_pred, fun x hx => (q_pred x hx).2, n_list, fun x hx => (q_list x hx).2, n_fingers, fun x hx => (q_fingers x hx).2, n_sessions, fun x hx => (q_sessions x hx).2, n_pends, fun x hx => (q_pends x hx).2, n_items, fun x hx => (q_items x hx).2, n_jobs, fun x hx => (q_jobs x hx).2, n_draws, n_results, fun x hx => (q_results x hx).2⟩⟩

end Go.Proofs.YtnpkhdjgedeppaaDoor
namespace Go.Proofs.YtnpkhdjgedeppaaDoor
open Go.Am
set_option linter.unusedSimpArgs false
set_option linter.unusedVariables false
set_option maxRecDepth 100000
/-! Layer 29: what holds of nodes that are not great. -/

theorem gN_mid {n : Nd} (g : greatN n = false) : n.mid 70 := (greatN_no g).mid

theorem hugeF {n : Nd} (h : 0 ≤ n.clock ∧ n.clock ≤ 1099511627776) : (decide (n.clock < 0) || decide (1099511627776 < n.clock)) = false := by simp; omega

theorem hugeT {n : Nd} (h : ¬ (0 ≤ n.clock ∧ n.clock ≤ 1099511627776)) : (decide (n.clock < 0) || decide (1099511627776 < n.clock)) = true := by simp; omega

set_option maxHeartbeats 4000000 in
theorem e7 (n : Nd) (m : Ms) (h : m.fit) : fn C 7 [] [.agg [.str n.me.name, .int .u64 (n.me.id : Int), .int .i64 n.me.fr, .int .i64 n.me.un, .int .i64 n.me.ix, .str n.me.tag, .int .i64 n.clock, .str n.psk, .int .i64 n.gateI, .str n.gateK, .bool n.ready, .slice 8 (n.pred.map Pr.cs), .slice 8 (n.list.map Pr.cs), .slice 9 (n.fingers.map Fg.cs), .slice 20 (n.sessions.map Se.cs), .slice 23 (n.pends.map Pd.cs), .slice 4 (n.items.map It.cs), .slice 29 (n.jobs.map Jb.cs), .int .i64 n.rid, .int .i64 n.jobId, .slice 1 (n.draws.map u64Row), .slice 8 (n.results.map Rs.cs)], .agg [.int .i64 m.kind, .int .i64 m.rid, .int .i64 m.ver, .int .i64 m.err, .int .u64 (m.id : Int), .bool m.has, .bool m.gone, .str m.key, .str m.val, .slice 6 (m.ents.map En.cs), .slice 4 (m.items.map It.cs)]] = some (.bool (decide (n.clock < 0) || decide (1099511627776 < n.clock) || greatM m), []) := by
  rw [fn_text Tryd.func7 rfl rfl Tryd.results7 fq7.1 rfl rfl (by kernel_rfl)]
  simp -implicitDefEqProofs -dsimp +contextual (maxSteps := 9999999) (disch := first | omega | simp only [go_sem] <;> omega | refine ib ?_; kernel_rfl) only [go_sem, seval, ↓reduceIte]
  (repeat' (refine kD_intro (fun _ => ?_) (fun _ => ?_))) <;> exact Res_bool (by simp [*])

theorem greatZ : greatM msZ = false := rfl

theorem msZ_fit : msZ.fit := ⟨Nat.zero_le _, Nat.zero_le _, Nat.zero_le _, Nat.zero_le _, fun e he => by simp [msZ] at he, fun x hx => by simp [msZ] at hx⟩

theorem eHugeZ (n : Nd) : fn C 7 [] [.agg [.str n.me.name, .int .u64 (n.me.id : Int), .int .i64 n.me.fr, .int .i64 n.me.un, .int .i64 n.me.ix, .str n.me.tag, .int .i64 n.clock, .str n.psk, .int .i64 n.gateI, .str n.gateK, .bool n.ready, .slice 8 (n.pred.map Pr.cs), .slice 8 (n.list.map Pr.cs), .slice 9 (n.fingers.map Fg.cs), .slice 20 (n.sessions.map Se.cs), .slice 23 (n.pends.map Pd.cs), .slice 4 (n.items.map It.cs), .slice 29 (n.jobs.map Jb.cs), .int .i64 n.rid, .int .i64 n.jobId, .slice 1 (n.draws.map u64Row), .slice 8 (n.results.map Rs.cs)], .agg [.int .i64 0, .int .i64 0, .int .i64 0, .int .i64 0, .int .u64 0, .bool false, .bool false, .str [], .str [], .slice 6 [], .slice 4 []]] = some (.bool (decide (n.clock < 0) || decide (1099511627776 < n.clock)), []) := by
  have := e7 n msZ msZ_fit
  rw [greatZ, Bool.or_false] at this
  exact this
def ndZ' : Nd := ⟨enZ, 0, [], 0, [], false, [], [], [], [], [], [], [], 0, 0, [], []⟩

@[go_sem] theorem c4_l29_Great (ex ds) : fn C4 6 ex ds = fn C 6 ex ds := c4_c _ (by decide) ex ds

@[go_sem] theorem c4_l29_Huge (ex ds) : fn C4 7 ex ds = fn C 7 ex ds := c4_c _ (by decide) ex ds

@[go_sem] theorem c4_l31_last (ex ds) : fn C4 13 ex ds = fn C 13 ex ds := c4_c _ (by decide) ex ds

@[go_sem] theorem c4_store_Right (ex ds) : fn C4 10 ex ds = fn C 10 ex ds := c4_c _ (by decide) ex ds

theorem begE_ok {n : Nd} {k : Int} {key val : List UInt8} (hj : n.jobs = []) (hr : n.ready = true) (hk : 1 ≤ k ∧ k ≤ 3) (h1 : keyR key = true) (h2 : val.length ≤ 32) : begE n k key val = 0 := by
  unfold begE
  rw [if_neg (by rw [h1]; simp; omega), if_neg (by rw [hj, hr]; simp)]

end Go.Proofs.YtnpkhdjgedeppaaDoor
namespace Go.Proofs.YtnpkhdjgedeppaaDoor
open Go.Am
set_option linter.unusedSimpArgs false
set_option linter.unusedVariables false
set_option maxRecDepth 100000
/-! Layer 31: the statement on a node that knows nobody. -/
attribute [local irreducible] distR idB sumB

def ndR1 : Nd := { ndZ with ready := true }
def ndR2 : Nd := { ndZ with ready := true, items := [⟨[107], [118], 1, false⟩], jobId := 2, results := [⟨1, 1, 1, [107], [118], true, false, 0⟩] }
theorem w31a : begC ndR1 1 [107] [118] = (ndR2, []) := by
  rw [alone_put (n := ndR1) rfl rfl rfl (.inl rfl) (by decide) (by decide) (by decide)]
  rfl
theorem w31b : begE ndR1 1 [107] [118] = 0 := by decide
theorem w31c : begE ndZ 1 [107] [118] = 41 := by decide
theorem z_mid (n : Nd) (h1 : n.pred = []) (h2 : n.list = []) (h3 : n.fingers = []) (h4 : n.sessions = []) (h5 : n.pends = []) (h6 : n.items = []) (h7 : n.jobs = []) (h8 : n.draws = []) (h9 : n.results = []) : n.mid 0 := by
  refine ⟨by rw [h1]; decide, by rw [h2]; decide, by rw [h3]; decide, by rw [h4]; decide, by rw [h5]; decide, by rw [h6]; decide, by rw [h7]; decide, by rw [h8]; decide, by rw [h9]; decide, fun p hp => ?_, fun p hp => ?_, fun p hp => ?_, fun p hp => ?_⟩
  · rw [h5] at hp; cases hp
  · rw [h5] at hp; cases hp
  · rw [h7] at hp; cases hp
  · rw [h6] at hp; cases hp
theorem z_clik (n : Nd) (hm : n.mid 70000) (h1 : n.me.id ≤ 18446744073709551615) (h2 : n.list = []) (h3 : n.jobs = []) (hc : 0 ≤ n.clock ∧ n.clock ≤ 1099511627776) : CliK n :=
  ⟨hm.le (by omega), h1, (fun p hp => by rw [h2] at hp; cases hp), hc, (fun p hp => by rw [h3] at hp; cases hp), (fun p hp => by rw [h3] at hp; cases hp)⟩

set_option maxHeartbeats 8000000 in
theorem e5 : fn C4 5 [] [] = some (.bool true, []) := by
  have m1 : ndR1.mid 70000 := (z_mid ndR1 rfl rfl rfl rfl rfl rfl rfl rfl rfl).le (by omega)
  have m2 : ndZ.mid 70000 := (z_mid ndZ rfl rfl rfl rfl rfl rfl rfl rfl rfl).le (by omega)
  have b1 := eBegin31 ndR1 1 [107] [118] (z_clik ndR1 m1 (by decide) rfl rfl (by decide)) m1 (by decide) (by decide) (by decide)
  have b2 := eBegin31 ndZ 1 [107] [118] (z_clik ndZ m2 (by decide) rfl rfl (by decide)) m2 (by decide) (by decide) (by decide)
  rw [w31a, w31b] at b1
  rw [begC, w31c, if_neg (by decide)] at b2
  simp only [tripB, Nd.cs, ndR1, ndR2, ndZ, enZ, jbZ, List.map_nil, List.map_cons, En.cs, It.cs, Rs.cs, Int.cast_ofNat_Int] at b1 b2
  rw [fn_text (C := C4) Tryd.func5 rfl rfl Tryd.results5 (show (C4).M.loc 5 = _ from fq5.1) rfl rfl (by kernel_rfl)]
  simp -implicitDefEqProofs -dsimp +contextual (maxSteps := 9999999) (disch := first | omega | simp only [go_sem] <;> omega | refine ib ?_; kernel_rfl) only [go_sem, seval, ↓reduceIte, b1, b2]

theorem e13 (n : Nd) (l : List Rs) (r : Rs) (h : n.results = l ++ [r]) (hl : n.results.length ≤ 1000000) : fn C 13 [] [.agg [.str n.me.name, .int .u64 (n.me.id : Int), .int .i64 n.me.fr, .int .i64 n.me.un, .int .i64 n.me.ix, .str n.me.tag, .int .i64 n.clock, .str n.psk, .int .i64 n.gateI, .str n.gateK, .bool n.ready, .slice 8 (n.pred.map Pr.cs), .slice 8 (n.list.map Pr.cs), .slice 9 (n.fingers.map Fg.cs), .slice 20 (n.sessions.map Se.cs), .slice 23 (n.pends.map Pd.cs), .slice 4 (n.items.map It.cs), .slice 29 (n.jobs.map Jb.cs), .int .i64 n.rid, .int .i64 n.jobId, .slice 1 (n.draws.map u64Row), .slice 8 (n.results.map Rs.cs)]] = some (.agg [.int .i64 r.job, .int .i64 r.kind, .int .i64 r.ver, .str r.key, .str r.val, .bool r.has, .bool r.gone, .int .i64 r.err], []) := by
  have h0 : n.results.length = l.length + 1 := by rw [h]; simp
  have e1 : (n.results.length : Int) - 1 = (l.length : Int) := by omega
  have row : (n.results.map Rs.cs)[l.length]? = some [.int .i64 r.job, .int .i64 r.kind, .int .i64 r.ver, .str r.key, .str r.val, .bool r.has, .bool r.gone, .int .i64 r.err] := by
    rw [List.getElem?_map, h, List.getElem?_append_right (Nat.le_refl _), Nat.sub_self]; rfl
  have hz : (n.results.length = 0) = False := eq_false (by omega)
  have hlt : l.length < n.results.length := by omega
  rw [fn_text Tryd.func13 rfl rfl Tryd.results13 fq13.1 rfl rfl (by kernel_rfl)]
  simp -implicitDefEqProofs -dsimp +contextual (maxSteps := 9999999) (disch := first | omega | simp only [go_sem] <;> omega | refine ib ?_; kernel_rfl) only [go_sem, seval, ↓reduceIte, hz, e1, row, hlt]

end Go.Proofs.YtnpkhdjgedeppaaDoor
namespace Go.Proofs.YtnpkhdjgedeppaaDoor
open Go.Am
set_option linter.unusedSimpArgs false
set_option linter.unusedVariables false
set_option maxRecDepth 100000
theorem insAt_spec (l : List It) (k : List UInt8) : (∀ z ∈ l.take (insAt l k), Op.bytesLess z.k k = true) ∧ ∀ z r, l.drop (insAt l k) = z :: r → Op.bytesLess z.k k = false := by
  induction l with
  | nil => simp [insAt]
  | cons x l ih =>
    simp only [insAt]
    split
    · rename_i h
      simp only [List.take_succ_cons, List.drop_succ_cons, List.mem_cons, forall_eq_or_imp]
      exact ⟨⟨h, ih.1⟩, ih.2⟩
    · rename_i h
      simp only [List.take_zero, List.drop_zero, List.not_mem_nil, false_implies, implies_true, List.cons.injEq, true_and]
      rintro z r ⟨rfl, rfl⟩
      simpa using h
/-- What setting an item comes to. -/
theorem set_cases (l : List It) (x : It) : (∃ a y b, l = a ++ y :: b ∧ y.k = x.k ∧ (∀ z ∈ a, z.k ≠ x.k) ∧ setR l x = a ++ x :: b) ∨
    (∃ a b, l = a ++ b ∧ (∀ z ∈ l, z.k ≠ x.k) ∧ (∀ z ∈ a, Op.bytesLess z.k x.k = true) ∧ (∀ z r, b = z :: r → Op.bytesLess z.k x.k = false) ∧ setR l x = a ++ x :: b) := by
  rcases place_cases l x.k with ⟨j, hj, he, hn, hp, hg⟩ | ⟨hn, hp, hg⟩
  · left
    refine ⟨l.take j, l[j], l.drop (j + 1), ?_, he, ?_, ?_⟩
    · rw [← List.drop_eq_getElem_cons hj, List.take_append_drop]
    · intro z hz; have := List.all_eq_true.1 hn z hz; simpa using this
    · rw [setR, hp, if_pos (by omega)]
      rw [Int.toNat_natCast, List.set_eq_take_append_cons_drop, if_pos hj]
  · right
    obtain ⟨h1, h2⟩ := insAt_spec l x.k
    refine ⟨l.take (insAt l x.k), l.drop (insAt l x.k), (List.take_append_drop _ _).symm, ?_, h1, h2, ?_⟩
    · intro z hz; have := List.all_eq_true.1 hn z hz; simpa using this
    · rw [setR, hp, if_neg (by omega)]
theorem set_mem (l : List It) (x z : It) (h : z ∈ setR l x) : z ∈ l ∨ z = x := by
  rcases set_cases l x with ⟨a, y, b, rfl, _, _, e⟩ | ⟨a, b, rfl, _, _, _, e⟩ <;> rw [e] at h <;> simp only [List.mem_append, List.mem_cons] at h ⊢ <;> rcases h with h | h | h <;> simp [h]
theorem set_len (l : List It) (x : It) : (setR l x).length = if (getR l x.k).2 = true then l.length else l.length + 1 := by
  rcases set_cases l x with ⟨a, y, b, rfl, h1, h, e⟩ | ⟨a, b, rfl, h, _, _, e⟩
  · have : (getR (a ++ y :: b) x.k).2 = true := by rw [getR_skip _ _ _ h, ← h1, getR_here]
    rw [if_pos this, e]; simp
  · have : (getR (a ++ b) x.k).2 = false := (getR_no _ _).2 h
    rw [if_neg (by simp [this]), e]; simp; omega
theorem get_n (l : List It) (k : List UInt8) (hr : rightR l = true) : 0 ≤ (getR l k).1.n ∧ (getR l k).1.n ≤ 1073741824 := by
  rcases Bool.eq_false_or_eq_true (getR l k).2 with h | h
  · have h1 := ((right_iff l).1 hr).1 _ (getR_yes l k h).1
    simp only [itemR, Bool.and_eq_true, decide_eq_true_eq] at h1
    omega
  · rw [getR_false l k h]; simp [zeroIt]

/-! ### Versions grow; merged once more nothing changes -/
/-- What is known of a key is no older. -/
def Newer (s t : List It) : Prop := (∀ k, (getR s k).2 = true → (getR t k).2 = true ∧ (getR s k).1.n ≤ (getR t k).1.n) ∧ s.length ≤ t.length ∧ (16 ≤ s.length → ∀ k, (getR s k).2 = false → (getR t k).2 = false)
theorem Newer.refl (s : List It) : Newer s s := ⟨fun k h => ⟨h, Int.le_refl _⟩, Nat.le_refl _, fun _ _ h => h⟩
theorem Newer.trans {s t u : List It} (h : Newer s t) (k : Newer t u) : Newer s u :=
  ⟨fun x hx => ⟨(k.1 x (h.1 x hx).1).1, Int.le_trans (h.1 x hx).2 (k.1 x (h.1 x hx).1).2⟩, Nat.le_trans h.2.1 k.2.1, fun h16 x hx => k.2.2 (Nat.le_trans h16 h.2.1) x (h.2.2 h16 x hx)⟩
/-- What was merged is there, or there was no room. -/
def Taken (s : List It) (x : It) : Prop := itemR x = true → ((getR s x.k).2 = true ∧ x.n ≤ (getR s x.k).1.n) ∨ ((getR s x.k).2 = false ∧ 16 ≤ s.length)
/-- Was one refused? -/
def refused (s : List It) (more : List It) : Bool := more.any fun x => itemR x && !(getR s x.k).2

end Go.Proofs.YtnpkhdjgedeppaaDoor
namespace Go.Proofs.YtnpkhdjgedeppaaDoor
open Go.Am
set_option linter.unusedSimpArgs false
set_option linter.unusedVariables false
set_option maxRecDepth 100000
/-! Layer 31: put, get, delete, get. -/
attribute [local irreducible] distR idB sumB

theorem alone_mid {n : Nd} {k : Nat} (h : n.mid k) (hj : n.jobs = []) (m : Nd) (I : List It) (j : Int) (R : List Rs) (hm : m = { n with items := I, jobId := j, results := R }) (hI : I.length ≤ k) (hR : R.length ≤ k) (hk : ∀ x ∈ I, x.k.length ≤ 9223372036854775807) : m.mid k := by
  subst hm
  exact ⟨h.pl, h.ll, h.fl, h.sl, h.dl, hI, h.jl, h.wl, hR, h.pe, h.pi, h.ja, hk⟩

theorem keyR_len {l : List UInt8} (h : keyR l = true) : l.length ≤ 255 := by
  simp only [keyR, Bool.and_eq_true, decide_eq_true_eq] at h
  omega

theorem doneN_len (n : Nd) (k : Int) (key val : List UInt8) (x : It) (has : Bool) : (doneN n k key val x has).length ≤ 16 := by
  unfold doneN lastR; simp; omega

theorem doneN_last (n : Nd) (k : Int) (key val : List UInt8) (x : It) (has : Bool) : doneN n k key val x has = (n.results.drop (n.results.length + 1 - 16)) ++ [resR (nextI n.jobId) (newC n k key val) x has 0] := lastR_app _ _

theorem setR_keys {l : List It} {x : It} (h : ∀ y ∈ l, y.k.length ≤ 9223372036854775807) (hx : x.k.length ≤ 9223372036854775807) : ∀ y ∈ setR l x, y.k.length ≤ 9223372036854775807 := fun y hy => by
  rcases set_mem l x y hy with hy | rfl
  · exact h y hy
  · exact hx

theorem setR_len1 (l : List It) (x : It) : (setR l x).length ≤ l.length + 1 := by
  rw [set_len]; split <;> omega

theorem newC_kind (n : Nd) (k : Int) (key val : List UInt8) : (newC n k key val).kind = k := rfl

theorem next_lo (a : Int) : -9223372036854775808 ≤ nextI a := by have := nextI_pos a; omega

set_option maxHeartbeats 32000000 in
theorem e3 (n : Nd) (key val : List UInt8) (ho : n.ok) (hf : n.fit) (hk : key.length ≤ 9223372036854775807) (hv : val.length ≤ 9223372036854775807) : fn C4 3 [] [.agg [.str n.me.name, .int .u64 (n.me.id : Int), .int .i64 n.me.fr, .int .i64 n.me.un, .int .i64 n.me.ix, .str n.me.tag, .int .i64 n.clock, .str n.psk, .int .i64 n.gateI, .str n.gateK, .bool n.ready, .slice 8 (n.pred.map Pr.cs), .slice 8 (n.list.map Pr.cs), .slice 9 (n.fingers.map Fg.cs), .slice 20 (n.sessions.map Se.cs), .slice 23 (n.pends.map Pd.cs), .slice 4 (n.items.map It.cs), .slice 29 (n.jobs.map Jb.cs), .int .i64 n.rid, .int .i64 n.jobId, .slice 1 (n.draws.map u64Row), .slice 8 (n.results.map Rs.cs)], .str key, .str val] = some (.bool true, []) := by
  have wk := e5
  have gr := e6 n hf
  have hu := eHugeZ n
  have ky := e8 key hk
  have vl := e9 val
  have sr := e10 n.items hf.il (fun x hx => (hf.i x hx).k)
  have ge := e11 n.items key hf.il
  rcases Bool.eq_false_or_eq_true (greatN n) with g | g
  · rw [g] at gr
    rw [fn_text (C := C4) Tryd.func3 rfl rfl Tryd.results3 (show (C4).M.loc 3 = _ from fq3.1) rfl rfl (by kernel_rfl)]
    simp -implicitDefEqProofs -dsimp +contextual (maxSteps := 9999999) (disch := first | omega | simp only [go_sem] <;> omega | refine ib ?_; kernel_rfl) only [go_sem, seval, ↓reduceIte, wk, gr]
  rw [g] at gr
  by_cases hc : ¬ (0 ≤ n.clock ∧ n.clock ≤ 1099511627776)
  · rw [hugeT hc] at hu
    rw [fn_text (C := C4) Tryd.func3 rfl rfl Tryd.results3 (show (C4).M.loc 3 = _ from fq3.1) rfl rfl (by kernel_rfl)]
    simp -implicitDefEqProofs -dsimp +contextual (maxSteps := 9999999) (disch := first | omega | simp only [go_sem] <;> omega | refine ib ?_; kernel_rfl) only [go_sem, seval, ↓reduceIte, wk, gr, hu]
  have hc := Decidable.not_not.1 hc
  rw [hugeF hc] at hu
  cases hky : keyR key with
  | false =>
    rw [hky] at ky
    rw [fn_text (C := C4) Tryd.func3 rfl rfl Tryd.results3 (show (C4).M.loc 3 = _ from fq3.1) rfl rfl (by kernel_rfl)]
    simp -implicitDefEqProofs -dsimp +contextual (maxSteps := 9999999) (disch := first | omega | simp only [go_sem] <;> omega | refine ib ?_; kernel_rfl) only [go_sem, seval, ↓reduceIte, wk, gr, hu, ky]
  | true =>
  rw [hky] at ky
  by_cases hvl : ¬ val.length ≤ 32
  · rw [decide_eq_false hvl] at vl
    rw [fn_text (C := C4) Tryd.func3 rfl rfl Tryd.results3 (show (C4).M.loc 3 = _ from fq3.1) rfl rfl (by kernel_rfl)]
    simp -implicitDefEqProofs -dsimp +contextual (maxSteps := 9999999) (disch := first | omega | simp only [go_sem] <;> omega | refine ib ?_; kernel_rfl) only [go_sem, seval, ↓reduceIte, wk, gr, hu, ky, vl]
  have hvl := Decidable.not_not.1 hvl
  rw [decide_eq_true hvl] at vl
  cases hsr : rightR n.items with
  | false =>
    rw [hsr] at sr
    rw [fn_text (C := C4) Tryd.func3 rfl rfl Tryd.results3 (show (C4).M.loc 3 = _ from fq3.1) rfl rfl (by kernel_rfl)]
    simp -implicitDefEqProofs -dsimp +contextual (maxSteps := 9999999) (disch := first | omega | simp only [go_sem] <;> omega | refine ib ?_; kernel_rfl) only [go_sem, seval, ↓reduceIte, wk, gr, hu, ky, vl, sr]
  | true =>
  rw [hsr] at sr
  have gn := get_n n.items key hsr
  have il := hf.il
  by_cases hroom : (getR n.items key).2 = false ∧ 16 ≤ n.items.length
  · have h16 := eq_true hroom.2
    have h2 := hroom.1
    generalize getR n.items key = q at *
    obtain ⟨x, b⟩ := q
    simp only at h2
    subst h2
    rw [fn_text (C := C4) Tryd.func3 rfl rfl Tryd.results3 (show (C4).M.loc 3 = _ from fq3.1) rfl rfl (by kernel_rfl)]
    simp -implicitDefEqProofs -dsimp +contextual (maxSteps := 9999999) (disch := first | omega | simp only [go_sem] <;> omega | refine ib ?_; kernel_rfl) only [go_sem, seval, ↓reduceIte, wk, gr, hu, ky, vl, sr, ge, h16]
  by_cases hver : 1000 < (getR n.items key).1.n
  · generalize getR n.items key = q at *
    obtain ⟨x, b⟩ := q
    simp only at hver hroom gn
    have hver' := eq_true hver
    cases b with
    | true =>
      rw [fn_text (C := C4) Tryd.func3 rfl rfl Tryd.results3 (show (C4).M.loc 3 = _ from fq3.1) rfl rfl (by kernel_rfl)]
      simp -implicitDefEqProofs -dsimp +contextual (maxSteps := 9999999) (disch := first | omega | simp only [go_sem] <;> omega | refine ib ?_; kernel_rfl) only [go_sem, seval, ↓reduceIte, wk, gr, hu, ky, vl, sr, ge, hver']
    | false =>
      have h16 := eq_false (show ¬ 16 ≤ n.items.length from fun h' => hroom ⟨rfl, h'⟩)
      rw [fn_text (C := C4) Tryd.func3 rfl rfl Tryd.results3 (show (C4).M.loc 3 = _ from fq3.1) rfl rfl (by kernel_rfl)]
      simp -implicitDefEqProofs -dsimp +contextual (maxSteps := 9999999) (disch := first | omega | simp only [go_sem] <;> omega | refine ib ?_; kernel_rfl) only [go_sem, seval, ↓reduceIte, wk, gr, hu, ky, vl, sr, ge, hver', h16]
  have hok : AloneOk { n with list := [], jobs := [], ready := true } key val := by
    refine ⟨rfl, rfl, rfl, hky, hvl, ?_, gn.1, show (getR n.items key).1.n ≤ 1000 by omega⟩
    show (getR n.items key).2 = true ∨ n.items.length < 16
    cases hb : (getR n.items key).2 with
    | true => exact .inl rfl
    | false =>
      right
      have : ¬ 16 ≤ n.items.length := fun h' => hroom ⟨hb, h'⟩
      omega
  obtain ⟨m0, hm0⟩ : ∃ m0 : Nd, m0 = { n with list := [], jobs := [], ready := true } := ⟨_, rfl⟩
  rw [← hm0] at hok
  have hmid := gN_mid g
  have md0 : m0.mid 100 := by
    rw [hm0]
    have m := hmid.le (show 70 ≤ 100 by omega)
    exact ⟨m.pl, Nat.zero_le _, m.fl, m.sl, m.dl, m.il, Nat.zero_le _, m.wl, m.rl, m.pe, m.pi, (fun j hj => by cases hj), m.ik⟩
  have hit : m0.items.length ≤ 70 := by rw [hm0]; exact hmid.il
  have hkk : key.length ≤ 255 := keyR_len hky
  have mdA : (nA m0 key val).mid 100 := alone_mid md0 hok.j _ _ _ _ rfl (Nat.le_trans (setR_len1 _ _) (by omega)) (Nat.le_trans (doneN_len _ _ _ _ _ _) (by omega)) (setR_keys md0.ik (by show key.length ≤ _; omega))
  have mdB : (nB m0 key val).mid 100 := alone_mid mdA hok.j _ _ _ _ rfl mdA.il (Nat.le_trans (doneN_len _ _ _ _ _ _) (by omega)) mdA.ik
  have lB : (nB m0 key val).items.length ≤ 71 := Nat.le_trans (setR_len1 _ _) (by omega)
  have mdC : (nC m0 key val).mid 100 := alone_mid mdB hok.j _ _ _ _ rfl (Nat.le_trans (setR_len1 _ _) (by omega)) (Nat.le_trans (doneN_len _ _ _ _ _ _) (by omega)) (setR_keys mdB.ik (by show key.length ≤ _; omega))
  have hme : m0.me.id ≤ 18446744073709551615 := by rw [hm0]; exact ho.me.id
  have hcl : 0 ≤ m0.clock ∧ m0.clock ≤ 1099511627776 := by rw [hm0]; exact hc
  have hj0 : -9223372036854775808 ≤ m0.jobId := by rw [hm0]; exact ho.jobId.1
  have b1 := eBegin31 m0 1 key val (z_clik _ (md0.le (by omega)) hme hok.l hok.j hcl) (md0.le (by omega)) (by omega) (by omega) hj0
  have b2 := eBegin31 (nA m0 key val) 3 key [] (z_clik _ (mdA.le (by omega)) hme hok.l hok.j hcl) (mdA.le (by omega)) (by omega) (by simp) (next_lo _)
  have b3 := eBegin31 (nB m0 key val) 2 key [] (z_clik _ (mdB.le (by omega)) hme hok.l hok.j hcl) (mdB.le (by omega)) (by omega) (by simp) (next_lo _)
  have b4 := eBegin31 (nC m0 key val) 3 key [] (z_clik _ (mdC.le (by omega)) hme hok.l hok.j hcl) (mdC.le (by omega)) (by omega) (by simp) (next_lo _)
  rw [aloneA hok, begE_ok hok.j hok.r (by omega) hky hvl] at b1
  rw [aloneB hok, begE_ok (n := nA m0 key val) hok.j hok.r (by omega) hky (by simp)] at b2
  rw [aloneC hok, begE_ok (n := nB m0 key val) hok.j hok.r (by omega) hky (by simp)] at b3
  rw [aloneD hok, begE_ok (n := nC m0 key val) hok.j hok.r (by omega) hky (by simp)] at b4
  have rl := fun (m : Nd) (h : m.results.length ≤ 16) => (Nat.le_trans h (by omega) : m.results.length ≤ 1000000)
  have l1 := e13 (nA m0 key val) _ _ (doneN_last m0 1 key val (xA m0 key val) true) (rl _ (doneN_len _ _ _ _ _ _))
  have l2 := e13 (nB m0 key val) _ _ (doneN_last (nA m0 key val) 3 key [] (xA m0 key val) true) (rl _ (doneN_len _ _ _ _ _ _))
  have l3 := e13 (nC m0 key val) _ _ (doneN_last (nB m0 key val) 2 key [] (xB m0 key) false) (rl _ (doneN_len _ _ _ _ _ _))
  have l4 := e13 (nD m0 key val) _ _ (doneN_last (nC m0 key val) 3 key [] (xB m0 key) false) (rl _ (doneN_len _ _ _ _ _ _))
  have j1 : (nA m0 key val).jobs.length = 0 := by show m0.jobs.length = 0; rw [hok.j]; rfl
  have j1' : (0 < (nA m0 key val).jobs.length) = False := eq_false (by omega)
  have hxA : (xA m0 key val).n = (getR n.items key).1.n + 1 := by show (getR m0.items key).1.n + 1 = _; rw [hm0]
  have hxB : (xB m0 key).n = (getR n.items key).1.n + 1 + 1 := by show (getR m0.items key).1.n + 1 + 1 = _; rw [hm0]
  simp only [resR, newC_kind] at l1 l2 l3 l4
  have a1 : (xA m0 key val).v = val := rfl
  have a2 : (xA m0 key val).g = false := rfl
  have a3 : (xB m0 key).v = [] := rfl
  have a4 : (xB m0 key).g = true := rfl
  rw [hxA, a1, a2] at l1 l2
  rw [hxB, a3, a4] at l3 l4
  unfold tripB at b1 b2 b3 b4
  rw [Nd.cs] at b1 b2 b3 b4
  clear mdA mdB mdC md0 hxA hxB a1 a2 a3 a4 lB
  generalize nA m0 key val = dA at *
  generalize nB m0 key val = dB at *
  generalize nC m0 key val = dC at *
  generalize nD m0 key val = dD at *
  subst hm0
  simp only [List.map_nil] at b1
  have hver' : (1000 < (getR n.items key).1.n) = False := eq_false hver
  have hb1 : 0 ≤ (getR n.items key).1.n := gn.1
  have hb2 : (getR n.items key).1.n ≤ 1000 := by omega
  clear hok hit gn hver
  generalize getR n.items key = q at *
  obtain ⟨x, b⟩ := q
  simp only at hver' hroom hb1 hb2 l1 l2 l3 l4
  cases b with
  | true =>
    rw [fn_text (C := C4) Tryd.func3 rfl rfl Tryd.results3 (show (C4).M.loc 3 = _ from fq3.1) rfl rfl (by kernel_rfl)]
    simp -implicitDefEqProofs -dsimp +contextual (maxSteps := 9999999) (disch := first | omega | simp only [go_sem] <;> omega | refine ib ?_; kernel_rfl) only [go_sem, seval, ↓reduceIte, wk, gr, hu, ky, vl, sr, ge, hver', b1, b2, b3, b4, l1, l2, l3, l4, j1']
  | false =>
    have h16 := eq_false (show ¬ 16 ≤ n.items.length from fun h' => hroom ⟨rfl, h'⟩)
    rw [fn_text (C := C4) Tryd.func3 rfl rfl Tryd.results3 (show (C4).M.loc 3 = _ from fq3.1) rfl rfl (by kernel_rfl)]
    simp -implicitDefEqProofs -dsimp +contextual (maxSteps := 9999999) (disch := first | omega | simp only [go_sem] <;> omega | refine ib ?_; kernel_rfl) only [go_sem, seval, ↓reduceIte, wk, gr, hu, ky, vl, sr, ge, hver', h16, b1, b2, b3, b4, l1, l2, l3, l4, j1']

end Go.Proofs.YtnpkhdjgedeppaaDoor
namespace Go.Proofs.YtnpkhdjgedeppaaDoor
open Go.Am
set_option linter.unusedSimpArgs false
set_option linter.unusedVariables false
set_option maxRecDepth 100000
/-! What comes of a node can be compared. (Plain.) -/
structure Nd.cmp (n : Nd) : Prop where
  pl : n.pred.length ≤ 9223372036854775807
  ll : n.list.length ≤ 9223372036854775807
  fl : n.fingers.length ≤ 9223372036854775807
  sl : n.sessions.length ≤ 9223372036854775807
  dl : n.pends.length ≤ 9223372036854775807
  df : ∀ p ∈ n.pends, p.fit
  il : n.items.length ≤ 9223372036854775807
  jl : n.jobs.length ≤ 9223372036854775807
  ja : ∀ j ∈ n.jobs, j.asked.length ≤ 9223372036854775807
  wl : n.draws.length ≤ 9223372036854775807
  rl : n.results.length ≤ 9223372036854775807
theorem Nd.mid.cmp {n : Nd} {k : Nat} (h : n.mid k) (hk : k ≤ 9223372036854775807) (hd : ∀ p ∈ n.pends, p.fit) : n.cmp :=
  ⟨Nat.le_trans h.pl hk, Nat.le_trans h.ll hk, Nat.le_trans h.fl hk, Nat.le_trans h.sl hk, Nat.le_trans h.dl hk, hd, Nat.le_trans h.il hk, Nat.le_trans h.jl hk, fun j hj => Nat.le_trans (h.ja j hj) hk, Nat.le_trans h.wl hk, Nat.le_trans h.rl hk⟩
structure Nd.good (n : Nd) (k : Nat) : Prop where
  m : n.mid k
  d : ∀ p ∈ n.pends, p.fit
  j : ∀ j ∈ n.jobs, j.item.fit
def ActG (k : Nat) (l : List Ac) : Prop := l.length ≤ k ∧ ∀ a ∈ l, a.m.fit
theorem Nd.good.le {n : Nd} {k m : Nat} (h : n.good k) (hk : k ≤ m) : n.good m := ⟨h.m.le hk, h.d, h.j⟩
theorem ActG.le {l : List Ac} {k m : Nat} (h : ActG k l) (hk : k ≤ m) : ActG m l := ⟨Nat.le_trans h.1 hk, h.2⟩
theorem ActG.nil (k : Nat) : ActG k [] := ⟨Nat.zero_le _, fun a ha => by simp at ha⟩
theorem ActG.one {a : Ac} (h : a.m.fit) : ActG 1 [a] := ⟨Nat.le_refl _, fun b hb => by rw [List.mem_singleton] at hb; rw [hb]; exact h⟩
theorem ActG.app {a b : List Ac} {k m : Nat} (h1 : ActG k a) (h2 : ActG m b) : ActG (k + m) (a ++ b) :=
  ⟨by rw [List.length_append]; exact Nat.add_le_add h1.1 h2.1, fun x hx => by
    rcases List.mem_append.1 hx with hx | hx
    · exact h1.2 x hx
    · exact h2.2 x hx⟩
theorem doneA_fit (back : En) (rid : Int) (x : It) (e : Int) : (doneA back rid x e).m.fit :=
  ⟨Nat.zero_le _, Nat.zero_le _, Nat.zero_le _, Nat.zero_le _, fun e he => by simp [doneA, msZ] at he, fun x hx => by simp [doneA, msZ] at hx⟩
theorem copyA_fit (e : En) {x : It} (id : Int) (h : x.fit) : (copyA e x id).m.fit :=
  ⟨Nat.zero_le _, Nat.zero_le _, Nat.zero_le _, by show 1 ≤ 9223372036854775807; decide, fun e he => by simp [copyA, msZ] at he, fun y hy => by simp [copyA] at hy; rw [hy]; exact h⟩
theorem good_settle {n : Nd} {k : Nat} (id : Int) (x : It) (has : Bool) (e : Int) (h : n.good k) (hk : 16 ≤ k) : (settleR n id x has e).good k := by
  refine ⟨mid_settle id x has e h.m hk, ?_, ?_⟩
  · unfold settleR; split
    · exact h.d
    · exact h.d
  · unfold settleR; split
    · exact fun j hj => h.j j (List.mem_of_mem_eraseIdx hj)
    · exact h.j
theorem good_erase {n : Nd} {k : Nat} (i : Nat) (h : n.good k) : ({ n with jobs := n.jobs.eraseIdx i } : Nd).good k :=
  ⟨mid_erase i h.m, h.d, fun j hj => h.j j (List.mem_of_mem_eraseIdx hj)⟩
theorem good_set {n : Nd} {k : Nat} (i : Nat) (j : Jb) (h : n.good k) (ha : j.asked.length ≤ k) (hf : j.item.fit) : ({ n with jobs := n.jobs.set i j } : Nd).good k :=
  ⟨mid_set i j h.m ha, h.d, fun x hx => by
    rcases List.mem_or_eq_of_mem_set hx with hx | rfl
    · exact h.j x hx
    · exact hf⟩
theorem good_tell {n : Nd} {k : Nat} (back : En) (rid job : Int) (x : It) (has : Bool) (e : Int) (h : n.good k) (hk : 16 ≤ k) : (tellR n back rid job x has e).1.good k ∧ ActG 1 (tellR n back rid job x has e).2 := by
  unfold tellR; split
  · exact ⟨h, ActG.one (doneA_fit _ _ _ _)⟩
  · exact ⟨good_settle _ _ _ _ h hk, ActG.nil 1⟩
theorem askR_good (id : Int) : ∀ (l : List Pr) (j : Jb), j.item.fit → (askR id l j).1.asked.length ≤ j.asked.length + l.length ∧ (askR id l j).1.item = j.item ∧ ActG l.length (askR id l j).2
  | [], j, _ => ⟨Nat.le_refl _, rfl, ActG.nil 0⟩
  | p :: l, j, h => by
    unfold askR
    split
    · exact ⟨by simp, rfl, ActG.nil _⟩
    · split
      · have := askR_good id l j h
        exact ⟨Nat.le_trans this.1 (by simp), this.2.1, this.2.2.le (by simp)⟩
      · have := askR_good id l { j with waits := fewR j.waits + 1, asked := j.asked ++ [p.e.name] } h
        refine ⟨Nat.le_trans this.1 (by simp; omega), this.2.1, ?_⟩
        have := (ActG.one (copyA_fit p.e id h)).app this.2.2
        exact this.le (by simp; omega)
theorem good_moreFin {n : Nd} {k : Nat} (i : Nat) (id : Int) (j : Jb) (h : n.good k) (hk : 16 ≤ k) (ha : j.asked.length ≤ k) (hf : j.item.fit) : (moreFin n i (askR id n.list j)).1.good (k + k) ∧ ActG (k + 1) (moreFin n i (askR id n.list j)).2 := by
  have g := askR_good id n.list j hf
  have hl := h.m.ll
  unfold moreFin
  split
  · exact ⟨good_set i _ (h.le (by omega)) (Nat.le_trans g.1 (by omega)) (by rw [g.2.1]; exact hf), g.2.2.le (by omega)⟩
  · have t := good_tell (askR id n.list j).1.back (askR id n.list j).1.backRid (askR id n.list j).1.backJob (askR id n.list j).1.item (!(askR id n.list j).1.item.g) 0 (good_erase i h) hk
    exact ⟨t.1.le (by omega), (g.2.2.app t.2).le (by omega)⟩
theorem good_more {n : Nd} {k : Nat} (id : Int) (h : n.good k) (hk : 16 ≤ k) : (moreR n id).1.good (k + k) ∧ ActG (k + 1) (moreR n id).2 := by
  rcases copR_cases n.jobs id with ⟨i, hi, hc⟩ | hc
  · rw [moreR_at hi hc]
    exact good_moreFin i id _ h hk (h.m.ja _ (List.getElem_mem hi)) (h.j _ (List.getElem_mem hi))
  · rw [moreR_none hc]
    exact ⟨h.le (by omega), ActG.nil _⟩
theorem good_begun {n : Nd} {k : Nat} (key val : List UInt8) (gone : Bool) (back : En) (rid job : Int) (hk : key.length ≤ 9223372036854775807) (hv : val.length ≤ 9223372036854775807) (h : n.good k) (he : (putR n.items key val gone).2.2 = 0) : (begunR n key val gone back rid job).good (k + 1) := by
  refine ⟨mid_begun key val gone back rid job hk h.m, h.d, fun j hj => ?_⟩
  rcases List.mem_append.1 hj with hj | hj
  · exact h.j j hj
  · rw [List.mem_singleton] at hj
    rw [hj]
    show (putR n.items key val gone).2.1.fit
    unfold putR at he ⊢
    split
    · split
      · exact ⟨Nat.zero_le _, Nat.zero_le _⟩
      · split
        · exact ⟨Nat.zero_le _, Nat.zero_le _⟩
        · exact ⟨hk, by show (if gone = true then [] else val).length ≤ 9223372036854775807; split; exact Nat.zero_le _; exact hv⟩
    · exact ⟨Nat.zero_le _, Nat.zero_le _⟩
theorem good_begin {n : Nd} {k : Nat} (key val : List UInt8) (gone : Bool) (back : En) (rid job : Int) (hk : key.length ≤ 9223372036854775807) (hv : val.length ≤ 9223372036854775807) (h : n.good k) (hk2 : 16 ≤ k) : (beginR n key val gone back rid job).1.good (k + k + 2) ∧ ActG (k + 2) (beginR n key val gone back rid job).2 := by
  unfold beginR
  split
  · rename_i he
    have he : (putR n.items key val gone).2.2 = 0 := by
      unfold beginE at he; split at he
      · omega
      · exact he
    have g := good_more (nextI n.jobId) (good_begun key val gone back rid job hk hv h he) (by omega)
    exact ⟨g.1.le (by omega), g.2.le (by omega)⟩
  · have t := good_tell back rid job zeroIt false (beginE n key val gone) h hk2
    exact ⟨t.1.le (by omega), t.2.le (by omega)⟩

end Go.Proofs.YtnpkhdjgedeppaaDoor
namespace Go.Proofs.YtnpkhdjgedeppaaDoor
open Go.Am
set_option linter.unusedSimpArgs false
set_option linter.unusedVariables false
set_option maxRecDepth 100000
/-! Layer 31: what a failure leaves as it was. (Plain.) -/
attribute [local irreducible] distR idB sumB

def JQ (j : Jb) : Prop := j.key.length ≤ 10000 ∧ j.val.length ≤ 10000 ∧ -9223372036854775808 ≤ j.tries ∧ -9223372036854775808 ≤ j.hops
structure Kp (n m : Nd) : Prop where
  me : m.me = n.me
  li : m.list = n.list
  cl : m.clock = n.clock
  jq : ∀ j ∈ m.jobs, JQ j
theorem kp_settle {n m : Nd} (h : Kp n m) (id : Int) (x : It) (has : Bool) (e : Int) : Kp n (settleR m id x has e) := by
  unfold settleR
  split
  · exact ⟨h.me, h.li, h.cl, fun j hj => h.jq j (List.mem_of_mem_eraseIdx hj)⟩
  · exact h
theorem kp_tell {n m : Nd} (h : Kp n m) (back : En) (rid job : Int) (x : It) (has : Bool) (e : Int) : Kp n (tellR m back rid job x has e).1 := by
  unfold tellR
  split
  · exact h
  · exact kp_settle h _ _ _ _
theorem kp_set {n m : Nd} (h : Kp n m) (i : Nat) {j : Jb} (hj : JQ j) : Kp n { m with jobs := m.jobs.set i j } :=
  ⟨h.me, h.li, h.cl, fun x hx => by
    rcases List.mem_or_eq_of_mem_set hx with hx | rfl
    · exact h.jq x hx
    · exact hj⟩
theorem kp_erase {n m : Nd} (h : Kp n m) (i : Nat) : Kp n { m with jobs := m.jobs.eraseIdx i } :=
  ⟨h.me, h.li, h.cl, fun x hx => h.jq x (List.mem_of_mem_eraseIdx hx)⟩
theorem askR_q (id : Int) : ∀ (l : List Pr) (j : Jb), JQ j → JQ (askR id l j).1
  | [], _, h => h
  | p :: l, j, h => by
    unfold askR
    split
    · exact h
    · split
      · exact askR_q id l j h
      · exact askR_q id l { j with waits := fewR j.waits + 1, asked := j.asked ++ [p.e.name] } h
theorem kp_more {n m : Nd} (h : Kp n m) (id : Int) : Kp n (moreR m id).1 := by
  rcases copR_cases m.jobs id with ⟨i, hi, hc⟩ | hc
  · rw [moreR_at hi hc]
    have q := askR_q id m.list m.jobs[i] (h.jq _ (List.getElem_mem hi))
    unfold moreFin
    split
    · exact kp_set h i q
    · exact kp_tell (kp_erase h i) _ _ _ _ _ _
  · rw [moreR_none hc]; exact h
theorem kp_begin {n m : Nd} (h : Kp n m) (key val : List UInt8) (gone : Bool) (back : En) (rid job : Int) : Kp n (beginR m key val gone back rid job).1 := by
  unfold beginR
  split
  · refine kp_more (m := begunR m key val gone back rid job) ⟨h.me, h.li, h.cl, fun j hj => ?_⟩ _
    rcases List.mem_append.1 hj with hj | hj
    · exact h.jq j hj
    · rw [List.mem_singleton] at hj
      rw [hj]
      exact ⟨Nat.zero_le _, Nat.zero_le _, by show (-9223372036854775808 : Int) ≤ 0; decide, by show (-9223372036854775808 : Int) ≤ 0; decide⟩
  · exact kp_tell h _ _ _ _ _ _
theorem kp_seek {n m : Nd} (h : Kp n m) (i : Nat) (hi : i < m.jobs.length) (id : Int) : Kp n (seekC m i id).1 := by
  have hj := h.jq _ (List.getElem_mem hi)
  unfold seekC
  rw [jobG_at hi]
  split
  · split
    · exact kp_settle h _ _ _ _
    · exact kp_begin (kp_set h i (j := { m.jobs[i] with phase := 2 }) hj) _ _ _ _ _ _
  · exact kp_set h i (j := { m.jobs[i] with phase := 1, owner := _ }) hj
theorem kp_failed {n m : Nd} (h : Kp n m) (id : Int) : Kp n (failedC m id).1 := by
  rcases cliP_cases m.jobs id with ⟨i, hi, _, _, _, hc⟩ | ⟨hc, _⟩
  · rw [failedC_at hc]
    have hj := h.jq _ (List.getElem_mem hi)
    unfold againC
    rw [jobG_at hi]
    split
    · exact kp_settle h _ _ _ _
    · refine kp_seek (kp_set h i (j := { m.jobs[i] with tries := m.jobs[i].tries + 1 }) ⟨hj.1, hj.2.1, ?_, hj.2.2.2⟩) i (by simpa using hi) id
      show _ ≤ m.jobs[i].tries + 1
      have := hj.2.2.1
      omega
  · rw [failedC, hc, if_neg (by omega)]; exact h
theorem good_failed {n m : Nd} {k : Nat} (h : m.good k) (hk : 16 ≤ k) (q : Kp n m) (id : Int) : (failedC m id).1.good (k + k + 2) := by
  rcases cliP_cases m.jobs id with ⟨i, hi, _, _, _, hc⟩ | ⟨hc, _⟩
  · rw [failedC_at hc]
    have hj := q.jq _ (List.getElem_mem hi)
    have ha := h.m.ja _ (List.getElem_mem hi)
    have hf := h.j _ (List.getElem_mem hi)
    unfold againC
    rw [jobG_at hi]
    split
    · exact (good_settle _ _ _ _ h hk).le (by omega)
    · have g2 : ({ m with jobs := m.jobs.set i { m.jobs[i] with tries := m.jobs[i].tries + 1 } } : Nd).good k := good_set i _ h ha hf
      have hi2 : i < (m.jobs.set i { m.jobs[i] with tries := m.jobs[i].tries + 1 }).length := by simpa using hi
      unfold seekC
      rw [jobG_at hi2]
      simp only [List.getElem_set_self]
      split
      · split
        · exact (good_settle _ _ _ _ g2 hk).le (by omega)
        · exact (good_begin _ _ _ _ _ _ (Nat.le_trans hj.1 (by decide)) (Nat.le_trans hj.2.1 (by decide)) (good_set i { m.jobs[i] with tries := m.jobs[i].tries + 1, phase := 2 } g2 ha hf) hk).1
      · exact (good_set i { m.jobs[i] with tries := m.jobs[i].tries + 1, phase := 1, owner := _ } g2 ha hf).le (by omega)
  · rw [failedC, hc, if_neg (by omega)]; exact h.le (by omega)
def kb : Nat → Nat
  | 0 => 70
  | k + 1 => kb k + kb k + 2
theorem kb_lo : ∀ k, 16 ≤ kb k
  | 0 => by decide
  | k + 1 => by have := kb_lo k; show 16 ≤ kb k + kb k + 2; omega
theorem kb_hi {k : Nat} (h : k ≤ 4) : kb k ≤ 70000 := by
  have : k = 0 ∨ k = 1 ∨ k = 2 ∨ k = 3 ∨ k = 4 := by omega
  rcases this with rfl | rfl | rfl | rfl | rfl <;> decide

end Go.Proofs.YtnpkhdjgedeppaaDoor
namespace Go.Proofs.YtnpkhdjgedeppaaDoor
open Go.Am
set_option linter.unusedSimpArgs false
set_option linter.unusedVariables false
set_option maxRecDepth 100000
/-! Layer 31: the statement on a job that fails four times. -/
attribute [local irreducible] distR idB sumB

theorem kLoop_outs {C : Cf} {lo : Nat} {b : Code} {Q : Exit → Am.St → Option Res} {R : Option Res} (e e2 : Exit) (P P2 : (Nat → AVal) → Heap → Prop) {f : Nat → AVal} {H : Heap}
    (h1 : ∀ Q' : Exit → Am.St → Option Res, (∀ f H, P f H → Q' e ⟨f, H⟩ = R) → (∀ f H, P2 f H → Q' e2 ⟨f, H⟩ = R) → @kLoop f H ⟨(C, lo, b, Q')⟩ = R) (h2 : ∀ f H, P f H → Q e ⟨f, H⟩ = R) (h3 : ∀ f H, P2 f H → Q e2 ⟨f, H⟩ = R) : @kLoop f H ⟨(C, lo, b, Q)⟩ = R := h1 Q h2 h3

/-- The job at a place alone has the number, so far. -/
def UniqTo (l : List Jb) (id : Int) (i k : Nat) : Prop := ∀ (a : Nat) (ha : a < l.length), a < k → a ≠ i → l[a].id ≠ id
/-- The list of those behind: the node's own copy, or told. -/
def ListC (L : AVal) (m : Nd) (H : Heap) : Prop := L = .slice 8 (m.list.map Pr.cs) ∨ (∃ g : Nat, L = .osl 198 g 0 m.list.length ∧ H 198 = ⟨g, .live, 8, m.list.map Pr.cs, false⟩)
structure StC (n m : Nd) (id : Int) (k : Nat) : Prop where
  g : m.good (kb k)
  q : Kp n m
  s : (WaitR m id (k : Int) ∧ k ≤ 3) ∨ GoneR m id
theorem st_clik {n m : Nd} {id : Int} {k : Nat} (h : StC n m id k) (hk : k ≤ 4) (hme : n.me.id ≤ 18446744073709551615) (hli : ∀ p ∈ n.list, p.e.id ≤ 18446744073709551615) (hc : 0 ≤ n.clock ∧ n.clock ≤ 1099511627776) : CliK m :=
  ⟨h.g.m.le (Nat.le_trans (kb_hi hk) (by omega)), by rw [h.q.me]; exact hme, by rw [h.q.li]; exact hli, by rw [h.q.cl]; exact hc, fun j hj => ⟨(h.q.jq j hj).1, (h.q.jq j hj).2.1⟩, fun j hj => ⟨(h.q.jq j hj).2.2.1, (h.q.jq j hj).2.2.2⟩⟩

set_option maxHeartbeats 32000000 in
theorem e4 (n : Nd) (id : Int) (ho : n.ok) (hf : n.fit) (hid : -9223372036854775808 ≤ id ∧ id ≤ 9223372036854775807) : fn C4 4 [] [.agg [.str n.me.name, .int .u64 (n.me.id : Int), .int .i64 n.me.fr, .int .i64 n.me.un, .int .i64 n.me.ix, .str n.me.tag, .int .i64 n.clock, .str n.psk, .int .i64 n.gateI, .str n.gateK, .bool n.ready, .slice 8 (n.pred.map Pr.cs), .slice 8 (n.list.map Pr.cs), .slice 9 (n.fingers.map Fg.cs), .slice 20 (n.sessions.map Se.cs), .slice 23 (n.pends.map Pd.cs), .slice 4 (n.items.map It.cs), .slice 29 (n.jobs.map Jb.cs), .int .i64 n.rid, .int .i64 n.jobId, .slice 1 (n.draws.map u64Row), .slice 8 (n.results.map Rs.cs)], .int .i64 id] = some (.bool true, []) := by
  have wk := e5
  have gr := e6 n hf
  have hu := eHugeZ n
  have fi := e14 n.jobs id hf.jl
  rcases Bool.eq_false_or_eq_true (greatN n) with g | g
  · rw [g] at gr
    rw [fn_text (C := C4) Tryd.func4 rfl rfl Tryd.results4 (show (C4).M.loc 4 = _ from fq4.1) rfl rfl (by kernel_rfl)]
    simp -implicitDefEqProofs -dsimp +contextual (maxSteps := 9999999) (disch := first | omega | simp only [go_sem] <;> omega | refine ib ?_; kernel_rfl) only [go_sem, seval, ↓reduceIte, wk, gr, fi]
  rw [g] at gr
  by_cases hc : ¬ (0 ≤ n.clock ∧ n.clock ≤ 1099511627776)
  · rw [hugeT hc] at hu
    rw [fn_text (C := C4) Tryd.func4 rfl rfl Tryd.results4 (show (C4).M.loc 4 = _ from fq4.1) rfl rfl (by kernel_rfl)]
    simp -implicitDefEqProofs -dsimp +contextual (maxSteps := 9999999) (disch := first | omega | simp only [go_sem] <;> omega | refine ib ?_; kernel_rfl) only [go_sem, seval, ↓reduceIte, wk, gr, hu, fi]
  have hc := Decidable.not_not.1 hc
  rw [hugeF hc] at hu
  have sm := greatN_no g
  have hmid := gN_mid g
  have jl := hf.jl
  rcases findR_cases n.jobs id with ⟨i, hi, hjid, _, hfi⟩ | ⟨_, hfi⟩
  case inr =>
    rw [hfi] at fi
    rw [fn_text (C := C4) Tryd.func4 rfl rfl Tryd.results4 (show (C4).M.loc 4 = _ from fq4.1) rfl rfl (by kernel_rfl)]
    simp -implicitDefEqProofs -dsimp +contextual (maxSteps := 9999999) (disch := first | omega | simp only [go_sem] <;> omega | refine ib ?_; kernel_rfl) only [go_sem, seval, ↓reduceIte, wk, gr, hu, fi]
    done
  rw [hfi] at fi
  have row := jb_row n.jobs i hi
  have hi' := eq_false (show ¬ n.jobs.length ≤ i by omega)
  by_cases k1 : n.jobs[i].kind < 1
  · rw [fn_text (C := C4) Tryd.func4 rfl rfl Tryd.results4 (show (C4).M.loc 4 = _ from fq4.1) rfl rfl (by kernel_rfl)]
    simp -implicitDefEqProofs -dsimp +contextual (maxSteps := 9999999) (disch := first | omega | simp only [go_sem] <;> omega | refine ib ?_; kernel_rfl) only [go_sem, seval, ↓reduceIte, wk, gr, hu, fi, row, hi', k1, Nat.not_lt_zero]
  by_cases k2 : 3 < n.jobs[i].kind
  · rw [fn_text (C := C4) Tryd.func4 rfl rfl Tryd.results4 (show (C4).M.loc 4 = _ from fq4.1) rfl rfl (by kernel_rfl)]
    simp -implicitDefEqProofs -dsimp +contextual (maxSteps := 9999999) (disch := first | omega | simp only [go_sem] <;> omega | refine ib ?_; kernel_rfl) only [go_sem, seval, ↓reduceIte, wk, gr, hu, fi, row, hi', k1, k2, Nat.not_lt_zero]
  by_cases k3 : n.jobs[i].tries < 0
  · rw [fn_text (C := C4) Tryd.func4 rfl rfl Tryd.results4 (show (C4).M.loc 4 = _ from fq4.1) rfl rfl (by kernel_rfl)]
    simp -implicitDefEqProofs -dsimp +contextual (maxSteps := 9999999) (disch := first | omega | simp only [go_sem] <;> omega | refine ib ?_; kernel_rfl) only [go_sem, seval, ↓reduceIte, wk, gr, hu, fi, row, hi', k1, k2, k3, Nat.not_lt_zero]
  rw [fn_text (C := C4) Tryd.func4 rfl rfl Tryd.results4 (show (C4).M.loc 4 = _ from fq4.1) rfl rfl (by kernel_rfl)]
  simp -implicitDefEqProofs -dsimp +contextual (maxSteps := 9999999) (disch := first | omega | simp only [go_sem] <;> omega | refine ib ?_; kernel_rfl) only [go_sem, seval, ↓reduceIte, wk, gr, hu, fi, row, hi', k1, k2, k3, Nat.not_lt_zero]
  clear wk gr hu fi row
  refine kLoop_outs (.exit 0) .ret (fun f H => f 1 = .int .i64 id ∧ f 2 = .ptr 102 1 0 0 ∧ H 102 = ⟨1, .live, 22, [[.str n.me.name, .int .u64 (n.me.id : Int), .int .i64 n.me.fr, .int .i64 n.me.un, .int .i64 n.me.ix, .str n.me.tag, .int .i64 n.clock, .str n.psk, .int .i64 n.gateI, .str n.gateK, .bool n.ready, .slice 8 (n.pred.map Pr.cs), .slice 8 (n.list.map Pr.cs), .slice 9 (n.fingers.map Fg.cs), .slice 20 (n.sessions.map Se.cs), .slice 23 (n.pends.map Pd.cs), .slice 4 (n.items.map It.cs), .slice 29 (n.jobs.map Jb.cs), .int .i64 n.rid, .int .i64 n.jobId, .slice 1 (n.draws.map u64Row), .slice 8 (n.results.map Rs.cs)]], false⟩ ∧ (H 198).gen = 0 ∧ UniqTo n.jobs id i n.jobs.length) (fun f _ => f 4 = .bool true) ?_ ?_ ?_
  · intro Q hQ hR
    refine kFor n.jobs.length (fun k f H => f 1 = .int .i64 id ∧ f 2 = .ptr 102 1 0 0 ∧ f 5 = .int .i64 (i : Nat) ∧ f 61 = .slice 29 (n.jobs.map Jb.cs) ∧ f 62 = .int .i64 (n.jobs.length : Nat) ∧ f 63 = .int .i64 (k : Nat) ∧ H 102 = ⟨1, .live, 22, [[.str n.me.name, .int .u64 (n.me.id : Int), .int .i64 n.me.fr, .int .i64 n.me.un, .int .i64 n.me.ix, .str n.me.tag, .int .i64 n.clock, .str n.psk, .int .i64 n.gateI, .str n.gateK, .bool n.ready, .slice 8 (n.pred.map Pr.cs), .slice 8 (n.list.map Pr.cs), .slice 9 (n.fingers.map Fg.cs), .slice 20 (n.sessions.map Se.cs), .slice 23 (n.pends.map Pd.cs), .slice 4 (n.items.map It.cs), .slice 29 (n.jobs.map Jb.cs), .int .i64 n.rid, .int .i64 n.jobId, .slice 1 (n.draws.map u64Row), .slice 8 (n.results.map Rs.cs)]], false⟩ ∧ (H 198).gen = 0 ∧ UniqTo n.jobs id i k) ?_ ?_
      (by exact ⟨rfl, rfl, rfl, rfl, rfl, rfl, rfl, rfl, fun a ha hk => by omega⟩)
    · rintro k f H hk ⟨f1, f2, f5, f61, f62, f63, H2, H9, hq⟩ ih
      have row := jb_row n.jobs k hk
      by_cases hki : k = i
      · subst hki
        simp -implicitDefEqProofs -dsimp +contextual (maxSteps := 9999999) (disch := first | omega | simp only [go_sem] <;> omega | refine ib ?_; kernel_rfl) only [go_sem, seval, ↓reduceIte, f1, f2, f5, f61, f62, f63, H2, hk, row]
        (repeat' (refine kD_intro (fun _ => ?_) (fun _ => ?_)))
        all_goals first
          | exact hR _ _ rfl
          | exact ih _ _ ⟨f1, f2, f5, f61, f62, rfl, H2, H9, fun a ha h1 h2 => hq a ha (by omega) h2⟩
      · have hki' : ((k : Int) = (i : Int)) = False := eq_false (by omega)
        by_cases hj : n.jobs[k].id = id
        · simp -implicitDefEqProofs -dsimp +contextual (maxSteps := 9999999) (disch := first | omega | simp only [go_sem] <;> omega | refine ib ?_; kernel_rfl) only [go_sem, seval, ↓reduceIte, f1, f2, f5, f61, f62, f63, H2, hk, row, hki', hki, hj]
          exact hR _ _ rfl
        · have hj' := eq_false hj
          simp -implicitDefEqProofs -dsimp +contextual (maxSteps := 9999999) (disch := first | omega | simp only [go_sem] <;> omega | refine ib ?_; kernel_rfl) only [go_sem, seval, ↓reduceIte, f1, f2, f5, f61, f62, f63, H2, hk, row, hki', hki, hj']
          (repeat' (refine kD_intro (fun _ => ?_) (fun _ => ?_)))
          all_goals first
            | exact hR _ _ rfl
            | exact ih _ _ ⟨f1, f2, f5, f61, f62, rfl, H2, H9, fun a ha h1 h2 => by
                by_cases e : a = k
                · subst e; exact hj
                · exact hq a ha (by omega) h2⟩
    · rintro f H ⟨f1, f2, f5, f61, f62, f63, H2, H9, hq⟩
      simp -implicitDefEqProofs -dsimp +contextual (maxSteps := 9999999) (disch := first | omega | simp only [go_sem] <;> omega | refine ib ?_; kernel_rfl) only [go_sem, seval, ↓reduceIte, f1, f2, f5, f61, f62, f63]
      exact hQ _ _ ⟨f1, f2, H2, H9, hq⟩
  · rintro f H ⟨f1, f2, H2, H9, hq⟩
    have ll : n.list.length ≤ 40 := sm.ll
    simp -implicitDefEqProofs -dsimp +contextual (maxSteps := 9999999) (disch := first | omega | simp only [go_sem] <;> omega | refine ib ?_; kernel_rfl) only [go_sem, seval, ↓reduceIte, f1, f2, H2, H9, ll]
    obtain ⟨n0, hn0⟩ : ∃ n0 : Nd, n0 = { n with ready := false } := ⟨_, rfl⟩
    have g0 : n0.good 70 := by
      rw [hn0]
      exact ⟨⟨hmid.pl, hmid.ll, hmid.fl, hmid.sl, hmid.dl, hmid.il, hmid.jl, hmid.wl, hmid.rl, hmid.pe, hmid.pi, hmid.ja, hmid.ik⟩, hf.d, fun j hj => (hf.j j hj).ik⟩
    have jq0 : ∀ j ∈ n0.jobs, JQ j := by
      rw [hn0]
      intro j hj
      have s := sm.j j hj
      have o := ho.jobs j hj
      exact ⟨Nat.le_trans s.k (by omega), Nat.le_trans s.v (by omega), o.tries.1, o.hops.1⟩
    have st0 : StC n0 n0 id 0 := by
      refine ⟨g0, ⟨rfl, rfl, rfl, jq0⟩, .inl ⟨⟨n.jobs[i], ?_, ?_, ?_⟩, by omega⟩⟩
      · rw [hn0]; exact solo_of hi hjid fun k hk hne => hq k hk hk hne
      · exact (mineJ_iff _).2 (by omega)
      · show ((0 : Nat) : Int) ≤ n.jobs[i].tries; omega
    have hme : n0.me.id ≤ 18446744073709551615 := by rw [hn0]; exact ho.me.id
    have hli : ∀ p ∈ n0.list, p.e.id ≤ 18446744073709551615 := by rw [hn0]; exact fun p hp => (ho.list p hp).e.id
    have hcl : 0 ≤ n0.clock ∧ n0.clock ≤ 1099511627776 := by rw [hn0]; exact hc
    refine kLoop_outs (.exit 2) .ret (fun f H => f 1 = .int .i64 id ∧ f 2 = .ptr 102 1 0 0 ∧ ∃ (m : Nd) (L : AVal), m.mid 70000 ∧ GoneR m id ∧ ListC L m H ∧ H 102 = ⟨1, .live, 22, [[.str m.me.name, .int .u64 (m.me.id : Int), .int .i64 m.me.fr, .int .i64 m.me.un, .int .i64 m.me.ix, .str m.me.tag, .int .i64 m.clock, .str m.psk, .int .i64 m.gateI, .str m.gateK, .bool m.ready, .slice 8 (m.pred.map Pr.cs), L, .slice 9 (m.fingers.map Fg.cs), .slice 20 (m.sessions.map Se.cs), .slice 23 (m.pends.map Pd.cs), .slice 4 (m.items.map It.cs), .slice 29 (m.jobs.map Jb.cs), .int .i64 m.rid, .int .i64 m.jobId, .slice 1 (m.draws.map u64Row), .slice 8 (m.results.map Rs.cs)]], false⟩) (fun f _ => f 4 = .bool true) ?_ ?_ ?_
    · intro Q hQ hR
      refine kLoop_rec (fun (a : Nat × Nd) f H => a.1 ≤ 4 ∧ StC n0 a.2 id a.1 ∧ f 1 = .int .i64 id ∧ f 2 = .ptr 102 1 0 0 ∧ f 103 = .int .i64 (a.1 : Nat) ∧ ∃ L, ListC L a.2 H ∧ H 102 = ⟨1, .live, 22, [[.str a.2.me.name, .int .u64 (a.2.me.id : Int), .int .i64 a.2.me.fr, .int .i64 a.2.me.un, .int .i64 a.2.me.ix, .str a.2.me.tag, .int .i64 a.2.clock, .str a.2.psk, .int .i64 a.2.gateI, .str a.2.gateK, .bool a.2.ready, .slice 8 (a.2.pred.map Pr.cs), L, .slice 9 (a.2.fingers.map Fg.cs), .slice 20 (a.2.sessions.map Se.cs), .slice 23 (a.2.pends.map Pd.cs), .slice 4 (a.2.items.map It.cs), .slice 29 (a.2.jobs.map Jb.cs), .int .i64 a.2.rid, .int .i64 a.2.jobId, .slice 1 (a.2.draws.map u64Row), .slice 8 (a.2.results.map Rs.cs)]], false⟩) (fun a => 4 - a.1) (fun _ => _) ?_ (0, n0) _ _ (by
        refine ⟨by omega, st0, f1, f2, rfl, ?_⟩
        rw [hn0]
        exact ⟨_, .inr ⟨_, rfl, rfl⟩, rfl⟩)
      rintro ⟨k, m⟩ f H ⟨hk, hst, f1, f2, f103, L, hL, H2⟩ ih
      simp only at hk hst f103 hL H2 ih
      have hm : m.mid 70000 := hst.g.m.le (kb_hi hk)
      have mjl := hm.jl
      have mll := hm.ll
      have fi := e14 m.jobs id (by omega)
      by_cases hk4 : k < 4
      · rcases hst.s with ⟨hw, hk3⟩ | hgone
        · have ck := st_clik hst hk hme hli hcl
          have fa := eFailed m id ck
          have once := fails_once hw
          have g2 := good_failed hst.g (kb_lo k) hst.q id
          have q2 := kp_failed hst.q id
          obtain ⟨j, hs, _, _⟩ := hw.w
          obtain ⟨i2, hi2, hfi2, _⟩ := solo_find hs
          rw [hfi2] at fi
          clear hs ck
          generalize failedC m id = q at *
          obtain ⟨m2, acts⟩ := q
          simp only at once g2 q2 fa
          rw [Nd.cs] at fa
          have ih' := ih (k + 1, m2)
          simp only at ih'
          clear ih
          have m2l : m2.jobs.length ≤ 9223372036854775807 := Nat.le_trans g2.m.jl (by have := kb_hi hk; omega)
          have fi2 := e14 m2.jobs id m2l
          rcases once with ⟨i3, hi3, hf3, hp3⟩ | hgone | ⟨hk3', hw2⟩
          · -- it goes on here
            rw [hf3] at fi2
            have row := jb_row m2.jobs i3 hi3
            rcases hL with rfl | ⟨gl, rfl, hL⟩
            · simp -implicitDefEqProofs -dsimp +contextual (maxSteps := 9999999) (disch := first | omega | simp only [go_sem] <;> omega | refine ib ?_; kernel_rfl) only [go_sem, seval, ↓reduceIte, f1, f2, f103, hk4, H2, fi, fa, fi2, row, hi3, hp3, Nat.not_lt_zero]
              exact hR _ _ rfl
            · simp -implicitDefEqProofs -dsimp +contextual (maxSteps := 9999999) (disch := first | omega | simp only [go_sem] <;> omega | refine ib ?_; kernel_rfl) only [go_sem, seval, ↓reduceIte, f1, f2, f103, hk4, H2, hL, fi, fa, fi2, row, hi3, hp3, Nat.not_lt_zero]
              exact hR _ _ rfl
          · have hg1 := hgone.1
            rw [hg1] at fi2
            rcases hL with rfl | ⟨gl, rfl, hL⟩
            · simp -implicitDefEqProofs -dsimp +contextual (maxSteps := 9999999) (disch := first | omega | simp only [go_sem] <;> omega | refine ib ?_; kernel_rfl) only [go_sem, seval, ↓reduceIte, f1, f2, f103, hk4, H2, fi, fa, fi2, Nat.not_lt_zero]
              exact ih' _ _ ⟨by omega, ⟨g2, q2, .inr hgone⟩, f1, f2, rfl, _, .inl rfl, rfl⟩ (by omega)
            · simp -implicitDefEqProofs -dsimp +contextual (maxSteps := 9999999) (disch := first | omega | simp only [go_sem] <;> omega | refine ib ?_; kernel_rfl) only [go_sem, seval, ↓reduceIte, f1, f2, f103, hk4, H2, hL, fi, fa, fi2, Nat.not_lt_zero]
              exact ih' _ _ ⟨by omega, ⟨g2, q2, .inr hgone⟩, f1, f2, rfl, _, .inl rfl, rfl⟩ (by omega)
          · obtain ⟨j2, hs2, hm2, ht2⟩ := hw2.w
            obtain ⟨i3, hi3, hf3, hj3, _⟩ := solo_find hs2
            rw [hf3] at fi2
            have row := jb_row m2.jobs i3 hi3
            have hk3'' : k + 1 ≤ 3 := by omega
            have hw3 : WaitR m2 id ((k + 1 : Nat) : Int) := by
              have e : ((k + 1 : Nat) : Int) = (k : Int) + 1 := by omega
              rw [e]; exact hw2
            by_cases hp3 : m2.jobs[i3].phase = 2
            · rcases hL with rfl | ⟨gl, rfl, hL⟩
              · simp -implicitDefEqProofs -dsimp +contextual (maxSteps := 9999999) (disch := first | omega | simp only [go_sem] <;> omega | refine ib ?_; kernel_rfl) only [go_sem, seval, ↓reduceIte, f1, f2, f103, hk4, H2, fi, fa, fi2, row, hi3, hp3, Nat.not_lt_zero]
                exact hR _ _ rfl
              · simp -implicitDefEqProofs -dsimp +contextual (maxSteps := 9999999) (disch := first | omega | simp only [go_sem] <;> omega | refine ib ?_; kernel_rfl) only [go_sem, seval, ↓reduceIte, f1, f2, f103, hk4, H2, hL, fi, fa, fi2, row, hi3, hp3, Nat.not_lt_zero]
                exact hR _ _ rfl
            · have hp3' := eq_false hp3
              rcases hL with rfl | ⟨gl, rfl, hL⟩
              · simp -implicitDefEqProofs -dsimp +contextual (maxSteps := 9999999) (disch := first | omega | simp only [go_sem] <;> omega | refine ib ?_; kernel_rfl) only [go_sem, seval, ↓reduceIte, f1, f2, f103, hk4, H2, fi, fa, fi2, row, hi3, hp3', Nat.not_lt_zero]
                exact ih' _ _ ⟨by omega, ⟨g2, q2, .inl ⟨hw3, hk3''⟩⟩, f1, f2, rfl, _, .inl rfl, rfl⟩ (by omega)
              · simp -implicitDefEqProofs -dsimp +contextual (maxSteps := 9999999) (disch := first | omega | simp only [go_sem] <;> omega | refine ib ?_; kernel_rfl) only [go_sem, seval, ↓reduceIte, f1, f2, f103, hk4, H2, hL, fi, fa, fi2, row, hi3, hp3', Nat.not_lt_zero]
                exact ih' _ _ ⟨by omega, ⟨g2, q2, .inl ⟨hw3, hk3''⟩⟩, f1, f2, rfl, _, .inl rfl, rfl⟩ (by omega)
        · have hg1 := hgone.1
          rw [hg1] at fi
          clear ih
          simp -implicitDefEqProofs -dsimp +contextual (maxSteps := 9999999) (disch := first | omega | simp only [go_sem] <;> omega | refine ib ?_; kernel_rfl) only [go_sem, seval, ↓reduceIte, f1, f2, f103, hk4, H2, fi]
          exact hQ _ _ ⟨f1, f2, m, L, hm, hgone, hL, H2⟩
      · have hgone : GoneR m id := by
          rcases hst.s with ⟨_, hk3⟩ | h
          · omega
          · exact h
        clear ih
        simp -implicitDefEqProofs -dsimp +contextual (maxSteps := 9999999) (disch := first | omega | simp only [go_sem] <;> omega | refine ib ?_; kernel_rfl) only [go_sem, seval, ↓reduceIte, f1, f2, f103, hk4, H2]
        exact hQ _ _ ⟨f1, f2, m, L, hm, hgone, hL, H2⟩
    · rintro f H ⟨f1, f2, m, L, hm, ⟨hg1, l, r, hres, hr⟩, hL, H2⟩
      have mjl := hm.jl
      have mll := hm.ll
      have fi := e14 m.jobs id (by omega)
      rw [hg1] at fi
      have la := e13 m l r hres (Nat.le_trans hm.rl (by omega))
      rcases hL with rfl | ⟨gl, rfl, hL⟩
      · simp -implicitDefEqProofs -dsimp +contextual (maxSteps := 9999999) (disch := first | omega | simp only [go_sem] <;> omega | refine ib ?_; kernel_rfl) only [go_sem, seval, ↓reduceIte, f1, f2, H2, fi, la, hr]
      · simp -implicitDefEqProofs -dsimp +contextual (maxSteps := 9999999) (disch := first | omega | simp only [go_sem] <;> omega | refine ib ?_; kernel_rfl) only [go_sem, seval, ↓reduceIte, f1, f2, H2, hL, fi, la, hr]
    · intro f H h4
      simp -implicitDefEqProofs -dsimp +contextual (maxSteps := 9999999) (disch := first | omega | simp only [go_sem] <;> omega | refine ib ?_; kernel_rfl) only [go_sem, seval, ↓reduceIte, h4]
  · intro f H h4
    simp -implicitDefEqProofs -dsimp +contextual (maxSteps := 9999999) (disch := first | omega | simp only [go_sem] <;> omega | refine ib ?_; kernel_rfl) only [go_sem, seval, ↓reduceIte, h4]

end Go.Proofs.YtnpkhdjgedeppaaDoor
