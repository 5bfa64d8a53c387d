import Derived.Test.YtnpkhdjgedeppaaGreatDoorTSames
namespace Go.Proofs.YtnpkhdjgedeppaaGreatDoor
set_option maxHeartbeats 64000000
open Go.Am
set_option linter.unusedSimpArgs false
set_option linter.unusedVariables false
set_option maxRecDepth 100000
@[reducible] def uAn (n : Nd) (e : En) (m r : Ms) : AVal := .uptr [.str n.me.name, .int .u64 (n.me.id : Int), .int .i64 n.me.fr, .int .i64 n.me.un, .int .i64 n.me.ix, .str n.me.tag, .int .i64 n.clock, .str n.psk, .int .i64 n.gateI, .str n.gateK, .bool n.ready, .slice 8 (n.pred.map Pr.cs), .slice 8 (n.list.map Pr.cs), .slice 9 (n.fingers.map Fg.cs), .slice 20 (n.sessions.map Se.cs), .slice 23 (n.pends.map Pd.cs), .slice 4 (n.items.map It.cs), .slice 29 (n.jobs.map Jb.cs), .int .i64 n.rid, .int .i64 n.jobId, .slice 1 (n.draws.map u64Row), .slice 8 (n.results.map Rs.cs), .str e.name, .int .u64 (e.id : Int), .int .i64 e.fr, .int .i64 e.un, .int .i64 e.ix, .str e.tag, .int .i64 m.kind, .int .i64 m.rid, .int .i64 m.ver, .int .i64 m.err, .int .u64 (m.id : Int), .bool m.has, .bool m.gone, .str m.key, .str m.val, .slice 6 (m.ents.map En.cs), .slice 4 (m.items.map It.cs), .int .i64 r.kind, .int .i64 r.rid, .int .i64 r.ver, .int .i64 r.err, .int .u64 (r.id : Int), .bool r.has, .bool r.gone, .str r.key, .str r.val, .slice 6 (r.ents.map En.cs), .slice 4 (r.items.map It.cs)]
@[go_sem] theorem uAn_eq (n : Nd) (e : En) (m r : Ms) : uAn n e m r = .uptr [.str n.me.name, .int .u64 (n.me.id : Int), .int .i64 n.me.fr, .int .i64 n.me.un, .int .i64 n.me.ix, .str n.me.tag, .int .i64 n.clock, .str n.psk, .int .i64 n.gateI, .str n.gateK, .bool n.ready, .slice 8 (n.pred.map Pr.cs), .slice 8 (n.list.map Pr.cs), .slice 9 (n.fingers.map Fg.cs), .slice 20 (n.sessions.map Se.cs), .slice 23 (n.pends.map Pd.cs), .slice 4 (n.items.map It.cs), .slice 29 (n.jobs.map Jb.cs), .int .i64 n.rid, .int .i64 n.jobId, .slice 1 (n.draws.map u64Row), .slice 8 (n.results.map Rs.cs), .str e.name, .int .u64 (e.id : Int), .int .i64 e.fr, .int .i64 e.un, .int .i64 e.ix, .str e.tag, .int .i64 m.kind, .int .i64 m.rid, .int .i64 m.ver, .int .i64 m.err, .int .u64 (m.id : Int), .bool m.has, .bool m.gone, .str m.key, .str m.val, .slice 6 (m.ents.map En.cs), .slice 4 (m.items.map It.cs), .int .i64 r.kind, .int .i64 r.rid, .int .i64 r.ver, .int .i64 r.err, .int .u64 (r.id : Int), .bool r.has, .bool r.gone, .str r.key, .str r.val, .slice 6 (r.ents.map En.cs), .slice 4 (r.items.map It.cs)] := rfl
@[go_sem] theorem nl_lay : M.nl 110 = [] := Eq.trans rfl rfl
def mayM (n : Nd) (m r : Ms) : Ms := if mayE n m.key = 0 then r else { r with err := mayE n m.key }
theorem aMay (n : Nd) (e : En) (m r : Ms) (h : n.fine) (hk : m.key.length ≤ 10000) : fn C3 108 [] [(uAn n e m r)] = some (.bool (decide (mayE n m.key = 0)), [(uAn n e m ((mayM n m r)))]) := by
  rw [fn_text (C := C3) Tryz.func108 rfl rfl Tryz.results108 (show (C3).M.loc 108 = _ from fq108.1) rfl rfl (by kernel_rfl)]
  have e1 := ((c3_c2 38 (by decide) (by decide) _ _).trans (C2_C _ (by decide) _ _)).trans (e38 n m.key h hk)
  by_cases h1 : n.ready = true
  · have h1a : (n.ready = true) = True := eq_true h1
    have h1b : (n.ready = false) = False := by rw [h1]; simp
    by_cases h2 : ownsR n m.key = true
    · have hm : mayE n m.key = 0 := by rw [mayE, if_pos h1, if_pos h2]
      rw [h2] at e1
      rw [mayM, if_pos hm, hm]
      simp -implicitDefEqProofs -dsimp +contextual (maxSteps := 9999999) (disch := first | omega | simp only [go_sem] <;> omega | refine ib ?_; kernel_rfl) only [go_sem, seval, ↓reduceIte, e1, h1a, h1b]
    · have hm : mayE n m.key = 40 := by rw [mayE, if_pos h1, if_neg h2]
      rw [Bool.eq_false_iff.2 h2] at e1
      rw [mayM, if_neg (by rw [hm]; decide), hm]
      simp -implicitDefEqProofs -dsimp +contextual (maxSteps := 9999999) (disch := first | omega | simp only [go_sem] <;> omega | refine ib ?_; kernel_rfl) only [go_sem, seval, ↓reduceIte, e1, h1a, h1b]
  · have h1a : (n.ready = true) = False := eq_false h1
    have h1b : (n.ready = false) = True := by simp [h1]
    have hm : mayE n m.key = 41 := by rw [mayE, if_neg h1]
    rw [mayM, if_neg (by rw [hm]; decide), hm]
    simp -implicitDefEqProofs -dsimp +contextual (maxSteps := 9999999) (disch := first | omega | simp only [go_sem] <;> omega | refine ib ?_; kernel_rfl) only [go_sem, seval, ↓reduceIte, e1, h1a, h1b]
def gotN (n : Nd) (m r : Ms) : Ms := if mayE n m.key = 0 then gotM r (getR n.items m.key) else { r with err := mayE n m.key }
theorem aGet (n : Nd) (e : En) (m r : Ms) (h : n.fine) (hk : m.key.length ≤ 10000) (hl : n.items.length ≤ 9223372036854775807) : fn C3 172 [] [(uAn n e m r)] = some (.tup [], [(uAn n e m ((gotN n m r)))]) := by
  rw [fn_text (C := C3) Tryz.func172 rfl rfl Tryz.results172 (show (C3).M.loc 172 = _ from fq172.1) rfl rfl (by kernel_rfl)]
  have e0 := aMay n e m r h hk
  have e1 := ((c3_c2 151 (by decide) (by decide) _ _).trans (C2_C _ (by decide) _ _)).trans (e151 n.items m.key hl)
  by_cases hm : mayE n m.key = 0
  · rw [mayM, if_pos hm, hm] at e0
    rw [gotN, if_pos hm, gotM]
    generalize getR n.items m.key = q at *
    obtain ⟨x, b⟩ := q
    cases b with
    | true => simp -implicitDefEqProofs -dsimp +contextual (maxSteps := 9999999) (disch := first | omega | simp only [go_sem] <;> omega | refine ib ?_; kernel_rfl) only [go_sem, seval, ↓reduceIte, e0, e1]
    | false => simp -implicitDefEqProofs -dsimp +contextual (maxSteps := 9999999) (disch := first | omega | simp only [go_sem] <;> omega | refine ib ?_; kernel_rfl) only [go_sem, seval, ↓reduceIte, e0, e1]
  · rw [mayM, if_neg hm, decide_eq_false hm] at e0
    rw [gotN, if_neg hm]
    simp -implicitDefEqProofs -dsimp +contextual (maxSteps := 9999999) (disch := first | omega | simp only [go_sem] <;> omega | refine ib ?_; kernel_rfl) only [go_sem, seval, ↓reduceIte, e0]
end Go.Proofs.YtnpkhdjgedeppaaGreatDoor
namespace Go.Proofs.YtnpkhdjgedeppaaGreatDoor
set_option maxHeartbeats 64000000
open Go.Am
set_option linter.unusedSimpArgs false
set_option linter.unusedVariables false
set_option maxRecDepth 100000
attribute [local irreducible] distR idB sumB
@[go_sem] theorem e107 (k : Int) : fn C 107 [] [.int .i64 k] = some (.int .i64 (answerK k), []) := by
  by_cases h : k = 1 ∨ k = 3 ∨ k = 5 ∨ k = 6 ∨ k = 8 ∨ k = 10 ∨ k = 12 ∨ k = 14 ∨ k = 16
  · rcases h with rfl | rfl | rfl | rfl | rfl | rfl | rfl | rfl | rfl <;> (rw [fn_text Tryz.func107 rfl rfl Tryz.results107 fq107.1 rfl rfl (by kernel_rfl)]; simp -implicitDefEqProofs -dsimp +contextual (maxSteps := 9999999) (disch := first | omega | simp only [go_sem] <;> omega | refine ib ?_; kernel_rfl) only [go_sem, seval, ↓reduceIte]; try rfl)
  · simp only [not_or] at h
    obtain ⟨h1, h3, h5, h6, h8, h10, h12, h14, h16⟩ := h
    have ek : answerK k = 0 := by unfold answerK; simp [*]
    rw [ek]
    rw [fn_text Tryz.func107 rfl rfl Tryz.results107 fq107.1 rfl rfl (by kernel_rfl)]
    simp -implicitDefEqProofs -dsimp +contextual (maxSteps := 9999999) (disch := first | omega | simp only [go_sem] <;> omega | refine ib ?_; kernel_rfl) only [go_sem, seval, ↓reduceIte, h1, h3, h5, h6, h8, h10, h12, h14, h16]
structure AnsOk (n : Nd) (e : En) (m : Ms) : Prop where
  md : n.mid 80000
  f : n.fine
  e : e.fine
  key : m.key.length ≤ 10000
  val : m.val.length ≤ 9223372036854775807
  clock : 0 ≤ n.clock ∧ n.clock ≤ 1099511627776
  jobId : I64 n.jobId
  il : m.items.length ≤ 1000000
  ik : ∀ x ∈ m.items, x.k.length ≤ 9223372036854775807
  id : m.id ≤ 18446744073709551615
  nk : ∀ x ∈ n.items, x.k.length ≤ 10000
theorem addP_mem {me : En} {l : List Pr} {p x : Pr} (h : x ∈ addP me l p) : x ∈ l ∨ x = p := by
  unfold addP at h
  split at h
  · exact .inl h
  · split at h
    · exact .inl h
    · have h := List.mem_of_mem_take h
      rw [putP] at h
      rcases List.mem_append.1 h with h | h
      · exact .inl (List.mem_filter.1 (List.mem_of_mem_take h)).1
      · rcases List.mem_cons.1 h with h | h
        · exact .inr h
        · exact .inl (List.mem_filter.1 (List.mem_of_mem_drop h)).1
theorem dropP_len (l : List Pr) (name : List UInt8) : (dropP l name).length ≤ l.length := List.length_filter_le _ _
theorem addP_len (me : En) (l : List Pr) (p : Pr) : (addP me l p).length ≤ l.length + 1 := by
  unfold addP
  split
  · omega
  · split
    · omega
    · have := dropP_len l p.e.name
      rw [putP]
      simp only [List.length_take, List.length_append, List.length_cons, List.length_drop]
      omega
theorem heard_mid {n : Nd} {k : Nat} (e : En) (h : n.mid k) : (heardR n e).mid (k + 1) := by
  have m := h.le (Nat.le_succ k)
  have hl := addP_len n.me n.list (takenP n.gateI n.gateK e n.clock)
  have hll := h.ll
  unfold heardR
  split
  · exact ⟨m.pl, by show (addP _ _ _).length ≤ _; omega, m.fl, m.sl, m.dl, m.il, m.jl, m.wl, m.rl, m.pe, m.pi, m.ja, m.ik⟩
  · exact m
theorem heard_fine {n : Nd} {e : En} (h : n.fine) (he : e.fine) (hl : n.list.length < 100000) : (heardR n e).fine := by
  have hl' := addP_len n.me n.list (takenP n.gateI n.gateK e n.clock)
  unfold heardR
  split
  · rename_i hv
    refine ⟨h.me, h.gk, by show (addP _ _ _).length ≤ _; omega, h.pl, h.fl, fun p hp => ?_, h.pi⟩
    rcases addP_mem hp with hp | rfl
    · exact h.li p hp
    · rw [taken_id _ _ _ _ hv]; exact ⟨he.ok.id, Nat.le_trans he.n (by decide)⟩
  · exact h
theorem heard_rest (n : Nd) (e : En) : ∃ l, heardR n e = { n with list := l } := by
  unfold heardR; split
  · exact ⟨_, rfl⟩
  · exact ⟨n.list, rfl⟩
theorem ans_none {n : Nd} {e : En} {m : Ms} (h : answerK m.kind = 0) : answerR n e m = (n, []) := by rw [answerR, if_pos h]
theorem ans_else {n : Nd} {e : En} {m : Ms} (h0 : ¬ answerK m.kind = 0) (h : ¬ e.name = n.me.name) (k : ¬ m.kind = 16) : answerR n e m = replyR (heardR n e) e m { msZ with kind := answerK m.kind, rid := m.rid } := by
  rw [answerR, if_neg h0, if_neg h, if_neg k]
theorem reply10 {h : Nd} {e : En} {m r : Ms} (k : m.kind = 10) (c : mayE h m.key = 0) : replyR h e m r = (h, ansA e (gotM r (getR h.items m.key))) := by
  rw [replyR, if_neg (by omega), if_neg (by omega), if_neg (by omega), if_neg (by omega), if_pos k, if_pos c]
theorem reply10n {h : Nd} {e : En} {m r : Ms} (k : m.kind = 10) (c : ¬ mayE h m.key = 0) : replyR h e m r = (h, ansA e { r with err := mayE h m.key }) := by
  rw [replyR, if_neg (by omega), if_neg (by omega), if_neg (by omega), if_neg (by omega), if_pos k, if_neg c]
theorem ka10 : answerK 10 = 11 := rfl
def okC3 (f : FuncId) : Bool := decide (f ∉ [124, 122, 125]) && decide (f ∉ [34, 36, 30, 169, 170, 171, 172, 173, 174, 175, 176, 108, 110, 6, 5, 29]) && okC2 f
theorem c3_c (f : FuncId) (h : okC3 f = true) (ex ds) : fn C3 f ex ds = fn C f ex ds := by
  simp only [aNd, okC3, Bool.and_eq_true, decide_eq_true_eq] at h
  exact (c3_c2 f h.1.1 h.1.2 ex ds).trans (C2_C f h.2 ex ds)
theorem sAns10 (n : Nd) (e : En) (m : Ms) (h : AnsOk n e m) (kn : ¬ e.name = n.me.name) (k : m.kind = 10) : fn C3 30 [] [(aNd n), .agg [.str e.name, .int .u64 (e.id : Int), .int .i64 e.fr, .int .i64 e.un, .int .i64 e.ix, .str e.tag], .agg [.int .i64 m.kind, .int .i64 m.rid, .int .i64 m.ver, .int .i64 m.err, .int .u64 (m.id : Int), .bool m.has, .bool m.gone, .str m.key, .str m.val, .slice 6 (m.ents.map En.cs), .slice 4 (m.items.map It.cs)]] = some (pairC (answerR n e m), []) := by
  have e0 := (c3_c 107 (by decide) [] _).trans (e107 m.kind)
  rw [k, ka10] at e0
  have kn' := eq_false kn
  have cp := eCopy3 n (h.md.le (by omega))
  have e1 := eHeard n e (h.md.le (by omega)) h.f h.e
  have hm1 := heard_mid e h.md
  have hf1 := heard_fine h.f h.e (by have := h.md.ll; omega)
  have hr : (heardR n e).clock = n.clock ∧ (heardR n e).jobId = n.jobId ∧ (heardR n e).items = n.items := by
    obtain ⟨l, hl⟩ := heard_rest n e
    rw [hl]; exact ⟨rfl, rfl, rfl⟩
  obtain ⟨hc1, hj1, hi1⟩ := hr
  rw [ans_else (by rw [k]; decide) kn (by omega), k, ka10]
  generalize heardR n e = d at *
  have e3 := aGet d e m { msZ with kind := 11, rid := m.rid } hf1 h.key (Nat.le_trans hm1.il (by decide))
  by_cases c : mayE d m.key = 0
  · rw [gotN, if_pos c] at e3
    rw [reply10 k c]
    generalize gotM _ _ = r at *
    simp only [aNd, uAn, msZ, k, List.map_nil, Int.cast_ofNat_Int] at e3
    rw [fn_textN (C := C3) Tryz.func30 rfl rfl Tryz.results30 (show (C3).M.loc 30 = _ from fq30.1) rfl rfl (by kernel_rfl)]
    simp -implicitDefEqProofs -dsimp +contextual (maxSteps := 9999999) (disch := first | omega | simp only [go_sem] <;> omega | refine ib ?_; kernel_rfl) only [go_sem, seval, ↓reduceIte, e0, e1, cp, k, kn']
    rw [il_text (C := C3) Tryz.func110 rfl Tryz.results110 (show (C3).M.loc 110 = _ from fq110.1) (by kernel_rfl)]
    simp -implicitDefEqProofs -dsimp +contextual (maxSteps := 9999999) (disch := first | omega | simp only [go_sem] <;> omega | refine ib ?_; kernel_rfl) only [go_sem, seval, ↓reduceIte, e3, ansA]
  · rw [gotN, if_neg c] at e3
    rw [reply10n k c]
    generalize mayE d m.key = c0 at *
    simp only [aNd, uAn, msZ, k, List.map_nil, Int.cast_ofNat_Int] at e3
    rw [fn_textN (C := C3) Tryz.func30 rfl rfl Tryz.results30 (show (C3).M.loc 30 = _ from fq30.1) rfl rfl (by kernel_rfl)]
    simp -implicitDefEqProofs -dsimp +contextual (maxSteps := 9999999) (disch := first | omega | simp only [go_sem] <;> omega | refine ib ?_; kernel_rfl) only [go_sem, seval, ↓reduceIte, e0, e1, cp, k, kn']
    rw [il_text (C := C3) Tryz.func110 rfl Tryz.results110 (show (C3).M.loc 110 = _ from fq110.1) (by kernel_rfl)]
    simp -implicitDefEqProofs -dsimp +contextual (maxSteps := 9999999) (disch := first | omega | simp only [go_sem] <;> omega | refine ib ?_; kernel_rfl) only [go_sem, seval, ↓reduceIte, e3, ansA, msZ]
theorem eAnsNone (n : Nd) (e : En) (m : Ms) (h : AnsOk n e m) (k0 : answerK m.kind = 0) : fn C3 30 [] [(aNd n), .agg [.str e.name, .int .u64 (e.id : Int), .int .i64 e.fr, .int .i64 e.un, .int .i64 e.ix, .str e.tag], .agg [.int .i64 m.kind, .int .i64 m.rid, .int .i64 m.ver, .int .i64 m.err, .int .u64 (m.id : Int), .bool m.has, .bool m.gone, .str m.key, .str m.val, .slice 6 (m.ents.map En.cs), .slice 4 (m.items.map It.cs)]] = some (pairC (answerR n e m), []) := by
  have e0 := (c3_c 107 (by decide) [] _).trans (e107 m.kind)
  have cp := eCopy3 n (h.md.le (by omega))
  rw [ans_none k0]
  rw [k0] at e0
  rw [fn_textN (C := C3) Tryz.func30 rfl rfl Tryz.results30 (show (C3).M.loc 30 = _ from fq30.1) rfl rfl (by kernel_rfl)]
  simp -implicitDefEqProofs -dsimp +contextual (maxSteps := 9999999) (disch := first | omega | simp only [go_sem] <;> omega | refine ib ?_; kernel_rfl) only [go_sem, seval, ↓reduceIte, e0, cp]
theorem dropF_len (l : List Fg) (name : List UInt8) : (dropF l name).length = l.length := by simp [dropF]
theorem mid_forget {n : Nd} {k : Nat} (name : List UInt8) (m : n.mid k) : (forgetR n name).mid k :=
  ⟨Nat.le_trans (dropP_len _ _) m.pl, Nat.le_trans (dropP_len _ _) m.ll, by rw [forgetR]; show (dropF _ _).length ≤ k; rw [dropF_len]; exact m.fl, m.sl, m.dl, m.il, m.jl, m.wl, m.rl, m.pe, m.pi, m.ja, m.ik⟩
theorem good_forget {n : Nd} {k : Nat} (name : List UInt8) (h : n.good k) : (forgetR n name).good k := ⟨mid_forget name h.m, h.d, h.j⟩
theorem good_heard {n : Nd} {k : Nat} (e : En) (h : n.good k) : (heardR n e).good (k + 1) := by
  refine ⟨heard_mid e h.m, ?_, ?_⟩
  · obtain ⟨l, hl⟩ := heard_rest n e; rw [hl]; exact h.d
  · obtain ⟨l, hl⟩ := heard_rest n e; rw [hl]; exact h.j
structure Nd.fitE (n : Nd) : Prop where
  me : n.me.fit
  l : ∀ p ∈ n.list, p.e.fit
  p : ∀ p ∈ n.pred, p.e.fit
  i : ∀ x ∈ n.items, x.fit
theorem stateE_len (n : Nd) : (stateE n).length ≤ 1 + n.list.length := by
  rw [stateE]; simp; omega
theorem gN_fine {n : Nd} (g : greatN n = false) (ho : n.ok) : n.fine := by
  have s := greatN_no g
  have h1 := s.gk; have h2 := s.ll; have h3 := s.pl; have h4 := s.fl
  exact ⟨ho.me.id, by omega, by omega, by omega, by omega, fun p hp => ⟨(ho.list p hp).e.id, by have := (s.l p hp).n; omega⟩, fun p hp => (ho.pred p hp).e.id⟩
theorem gE_fine {e : En} (g : greatE e = false) (ho : e.ok) : e.fine := by
  have s := greatE_no g
  have h1 := s.n; have h2 := s.t
  exact ⟨ho, by omega, by omega⟩
@[go_sem] theorem c3_l29_Great (ex ds) : fn C3 10 ex ds = fn C 10 ex ds := c3_c _ (by decide) ex ds
@[go_sem] theorem c3_l11_Great (ex ds) : fn C3 22 ex ds = fn C 22 ex ds := c3_c _ (by decide) ex ds
@[go_sem] theorem c3_r30_Heard (ex ds) : fn C3 35 ex ds = fn C 35 ex ds := c3_c _ (by decide) ex ds
@[go_sem] theorem c3_r30_Forget (ex ds) : fn C3 37 ex ds = fn C 37 ex ds := c3_c _ (by decide) ex ds
@[go_sem] theorem c3_r30_Owns (ex ds) : fn C3 39 ex ds = fn C 39 ex ds := c3_c _ (by decide) ex ds
@[go_sem] theorem c3_r30_State (ex ds) : fn C3 33 ex ds = fn C 33 ex ds := c3_c _ (by decide) ex ds
@[go_sem] theorem c3_serve_Owns (ex ds) : fn C3 38 ex ds = fn C 38 ex ds := c3_c _ (by decide) ex ds
@[go_sem] theorem c3_serve_State (ex ds) : fn C3 32 ex ds = fn C 32 ex ds := c3_c _ (by decide) ex ds
@[go_sem] theorem c3_r29_Same (ex ds) : fn C3 18 ex ds = fn C 18 ex ds := c3_c _ (by decide) ex ds
@[go_sem] theorem c3_r11_Same (ex ds) : fn C3 40 ex ds = fn C 40 ex ds := c3_c _ (by decide) ex ds
def enA' : En := { enZ with name := [97] }
def ndA' : Nd := { ndZ with me := enA', ready := true }
def msG : Ms := { msZ with kind := 10, rid := 3, key := [107] }
theorem right_B : rightE enB = false := by simp [rightE, enB, enZ]
theorem heard_A : heardR ndA' enB = ndA' := by
  unfold heardR validR
  rw [right_B]
  rfl
theorem owns_A (k : List UInt8) : ownsR ndA' k = true := by
  unfold ownsR; exact decide_eq_true rfl
theorem w30a : answerR ndA' enB msG = (ndA', ansA enB { msZ with kind := 11, rid := 3 }) := by
  rw [ans_else (by decide) (by decide) (by decide), heard_A, reply10 rfl (by rw [mayE, if_pos (show ndA'.ready = true from rfl), if_pos (owns_A _)])]
  rfl
theorem w30b : answerR ndA' enB { msZ with kind := 2 } = (ndA', []) := ans_none rfl
theorem ndA'_mid : ndA'.mid 0 := ⟨Nat.zero_le _, Nat.zero_le _, Nat.zero_le _, Nat.zero_le _, Nat.zero_le _, Nat.zero_le _, Nat.zero_le _, Nat.zero_le _, Nat.zero_le _, fun p hp => by simp [ndA', ndZ] at hp, fun p hp => by simp [ndA', ndZ] at hp, fun p hp => by simp [ndA', ndZ] at hp, fun p hp => by simp [ndA', ndZ] at hp⟩
theorem ndA'_fine : ndA'.fine := ⟨by decide, by decide, by decide, by decide, by decide, fun p hp => by simp [ndA', ndZ] at hp, fun p hp => by simp [ndA', ndZ] at hp⟩
theorem enB_fine : enB.fine := ⟨⟨by decide, by decide, by decide, by decide, by decide, by decide, by decide⟩, by decide, by decide⟩
theorem ans_A (m : Ms) (h : m.key.length ≤ 10000) (h2 : m.val.length ≤ 9223372036854775807) (h3 : m.items = []) (h4 : m.id = 0) : AnsOk ndA' enB m :=
  ⟨ndA'_mid.le (by omega), ndA'_fine, enB_fine, h, h2, by decide, by decide, (by rw [h3]; decide), (fun x hx => by rw [h3] at hx; simp at hx), (by rw [h4]; decide), (fun x hx => by simp [ndA', ndZ] at hx)⟩
theorem e29 : fn C3 29 [] [] = some (.bool true, []) := by
  have b1 := sAns10 ndA' enB msG (ans_A _ (by decide) (by decide) rfl rfl) (by decide) rfl
  have b2 := eAnsNone ndA' enB { msZ with kind := 2 } (ans_A _ (by decide) (by decide) rfl rfl) rfl
  have b3 := e38 ndA' [107] ndA'_fine (by decide)
  rw [owns_A] at b3
  rw [w30a] at b1
  rw [w30b] at b2
  simp only [aNd, pairC, Nd.cs, ndA', enA', msG, ansA, ndZ, enZ, enB, msZ, List.map_nil, List.map_cons, En.cs, Ac.cs, Ms.cs, It.cs, strRow, Int.cast_ofNat_Int] at b1 b2 b3
  rw [fn_text (C := C3) Tryz.func29 rfl rfl Tryz.results29 (show (C3).M.loc 29 = _ from fq29.1) rfl rfl (by kernel_rfl)]
  simp -implicitDefEqProofs -dsimp +contextual (maxSteps := 9999999) (disch := first | omega | simp only [go_sem] <;> omega | refine ib ?_; kernel_rfl) only [go_sem, seval, ↓reduceIte, b1, b2, b3]
end Go.Proofs.YtnpkhdjgedeppaaGreatDoor
namespace Go.Proofs.YtnpkhdjgedeppaaGreatDoor
set_option maxHeartbeats 64000000
open Go.Am
set_option linter.unusedSimpArgs false
set_option linter.unusedVariables false
set_option maxRecDepth 100000
theorem gN_mid {n : Nd} (g : greatN n = false) : n.mid 70 := (greatN_no g).mid
theorem gN_good {n : Nd} (g : greatN n = false) (h : n.fit) : n.good 70 := ⟨gN_mid g, h.d, fun j hj => (h.j j hj).ik⟩
end Go.Proofs.YtnpkhdjgedeppaaGreatDoor
namespace Go.Proofs.YtnpkhdjgedeppaaGreatDoor
set_option maxHeartbeats 64000000
open Go.Am
set_option linter.unusedSimpArgs false
set_option linter.unusedVariables false
set_option maxRecDepth 100000
attribute [local irreducible] distR idB sumB
theorem e6 (n : Nd) (e : En) (name key : List UInt8) (ho : n.ok) (hf : n.fit) (he : e.ok) (hef : e.fit) (hn : name.length ≤ 9223372036854775807) (hk : key.length ≤ 9223372036854775807) : fn C3 6 [] [(aNd n), .agg [.str e.name, .int .u64 (e.id : Int), .int .i64 e.fr, .int .i64 e.un, .int .i64 e.ix, .str e.tag], .str name, .str key] = some (.bool true, []) := by
  have gr := e10 n hf
  have lg := e22 e hef.n hef.t
  have wk := e29
  rcases Bool.eq_false_or_eq_true (greatN n) with g | g
  · rw [g] at gr
    rw [fn_text (C := C3) Tryz.func6 rfl rfl Tryz.results6 (show (C3).M.loc 6 = _ from fq6.1) rfl rfl (by kernel_rfl)]
    simp -implicitDefEqProofs -dsimp +contextual (maxSteps := 9999999) (disch := first | omega | simp only [go_sem] <;> omega | refine ib ?_; kernel_rfl) only [go_sem, seval, ↓reduceIte, gr, wk]
  rw [g] at gr
  rcases Bool.eq_false_or_eq_true (greatE e) with ge | ge
  · rw [ge] at lg
    rw [fn_text (C := C3) Tryz.func6 rfl rfl Tryz.results6 (show (C3).M.loc 6 = _ from fq6.1) rfl rfl (by kernel_rfl)]
    simp -implicitDefEqProofs -dsimp +contextual (maxSteps := 9999999) (disch := first | omega | simp only [go_sem] <;> omega | refine ib ?_; kernel_rfl) only [go_sem, seval, ↓reduceIte, gr, wk, lg]
  rw [ge] at lg
  by_cases hn3 : 1000 < name.length
  · rw [fn_text (C := C3) Tryz.func6 rfl rfl Tryz.results6 (show (C3).M.loc 6 = _ from fq6.1) rfl rfl (by kernel_rfl)]
    simp -implicitDefEqProofs -dsimp +contextual (maxSteps := 9999999) (disch := first | omega | simp only [go_sem] <;> omega | refine ib ?_; kernel_rfl) only [go_sem, seval, ↓reduceIte, gr, wk, lg, hn3]
  by_cases hk3 : 300 < key.length
  · rw [fn_text (C := C3) Tryz.func6 rfl rfl Tryz.results6 (show (C3).M.loc 6 = _ from fq6.1) rfl rfl (by kernel_rfl)]
    simp -implicitDefEqProofs -dsimp +contextual (maxSteps := 9999999) (disch := first | omega | simp only [go_sem] <;> omega | refine ib ?_; kernel_rfl) only [go_sem, seval, ↓reduceIte, gr, wk, lg, hn3, hk3]
  have fi := gN_fine g ho
  have fe := gE_fine ge he
  have md : n.mid 100000 := (gN_mid g).le (by omega)
  have a1 := eHeard n e md fi fe
  have a2 := e35 n e fi fe
  have b1 := eForget n name md
  have b2 := e37 n name fi
  have c1 := e38 n key fi (by omega)
  have c2 := e39 n key fi (by omega)
  have d1 := e32 n fi
  have d2 := e33 n fi
  have hl := stateE_len n
  have d3 := e40 (stateE n) (stateE n) (by have := fi.ll; omega)
  rw [decide_eq_true rfl] at d3
  have ga := good_heard e (gN_good g hf)
  have gb := good_forget name (gN_good g hf)
  have s1 := eSame _ (ga.m.cmp (by decide) ga.d)
  have s2 := eSame _ (gb.m.cmp (by decide) gb.d)
  clear ga gb
  generalize heardR n e = p at *
  generalize forgetR n name = q at *
  generalize stateE n = es at *
  generalize stateH n = eh at *
  generalize ownsR n key = eo at *
  rw [fn_text (C := C3) Tryz.func6 rfl rfl Tryz.results6 (show (C3).M.loc 6 = _ from fq6.1) rfl rfl (by kernel_rfl)]
  simp -implicitDefEqProofs -dsimp +contextual (maxSteps := 9999999) (disch := first | omega | simp only [go_sem] <;> omega | refine ib ?_; kernel_rfl) only [go_sem, seval, ↓reduceIte, gr, wk, lg, hn3, hk3, a1, a2, b1, b2, c1, c2, d1, d2, d3, s1, s2]
end Go.Proofs.YtnpkhdjgedeppaaGreatDoor
