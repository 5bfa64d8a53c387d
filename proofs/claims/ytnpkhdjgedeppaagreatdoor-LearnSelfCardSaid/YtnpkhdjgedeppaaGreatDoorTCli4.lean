import Derived.Test.YtnpkhdjgedeppaaGreatDoorTCop14
import Derived.Lib.Mul64
namespace Go.Proofs.YtnpkhdjgedeppaaGreatDoor
set_option maxHeartbeats 64000000
open Go.Am
set_option linter.unusedSimpArgs false
set_option linter.unusedVariables false
set_option maxRecDepth 100000
attribute [local irreducible] distR idB sumB
theorem askR_len (id : Int) : ∀ (l : List Pr) (j : Jb), (askR id l j).2.length ≤ l.length
  | [], _ => Nat.le_refl _
  | p :: l, j => by
    unfold askR
    split
    · exact Nat.zero_le _
    · split
      · exact Nat.le_succ_of_le (askR_len id l j)
      · exact Nat.succ_le_succ (askR_len id l _)
theorem tell_len (n : Nd) (back : En) (rid job : Int) (x : It) (has : Bool) (e : Int) : (tellR n back rid job x has e).2.length ≤ 1 := by
  unfold tellR; split <;> simp
theorem begin_len (n : Nd) (key val : List UInt8) (gone : Bool) (back : En) (rid job : Int) : (beginR n key val gone back rid job).2.length ≤ n.list.length + 1 := by
  unfold beginR
  split
  · rcases copR_cases (begunR n key val gone back rid job).jobs (nextI n.jobId) with ⟨i, hi, hc⟩ | hc
    · rw [moreR_at hi hc]
      have h1 := askR_len (nextI n.jobId) (begunR n key val gone back rid job).list (begunR n key val gone back rid job).jobs[i]
      have h2 : (begunR n key val gone back rid job).list = n.list := rfl
      rw [h2] at h1 ⊢
      unfold moreFin
      split
      · exact Nat.le_succ_of_le h1
      · rw [List.length_append]
        exact Nat.add_le_add h1 (tell_len _ _ _ _ _ _ _)
    · rw [moreR_none hc]; exact Nat.zero_le _
  · exact Nat.le_trans (tell_len _ _ _ _ _ _ _) (by omega)
theorem WorkC.set {H H' : Heap} {n : Nd} {id : Int} {J : AVal} (h : WorkC H n id J) (i : Nat) (j' : Jb) (hj : H' 60109018 = ⟨1, .live, 29, (n.jobs.set i j').map Jb.cs, false⟩) (hf : ∀ o, o ≠ 60109018 → H' o = H o) : WorkC H' { n with jobs := n.jobs.set i j' } id J :=
  ⟨by rw [hf _ (by omega), h.w]; simp only [List.length_set], (hf _ (by omega)).trans h.v, (hf _ (by omega)).trans h.d, (hf _ (by omega)).trans h.s, (hf _ (by omega)).trans h.p, hj, (hf _ (by omega)).trans h.r⟩
theorem clik_set {n : Nd} (h : CliK n) (i : Nat) (j j' : Jb) (hj : j ∈ n.jobs) (ha : j'.asked = j.asked) (hk : j'.key = j.key) (hv : j'.val = j.val) (hi : -9223372036854775808 ≤ j'.tries ∧ -9223372036854775808 ≤ j'.hops) : CliK { n with jobs := n.jobs.set i j' } :=
  ⟨mid_setj i j j' h.md hj ha, h.me, h.li, h.clock, fun x hx => by
    rcases List.mem_or_eq_of_mem_set hx with hx | rfl
    · exact h.jk x hx
    · rw [hk, hv]; exact h.jk j hj, fun x hx => by
    rcases List.mem_or_eq_of_mem_set hx with hx | rfl
    · exact h.ji x hx
    · exact hi⟩
theorem il_seekC (n : Nd) (id : Int) (i : Nat) (hi : i < n.jobs.length) (hid : n.jobs[i].id = id) (h : CliK n) (H : Heap) (hW : WorkC H n id (.ptr 60109018 1 i 0)) (hF : FreshC H) (K : AVal × Heap → Option Res) (R : Option Res)
    (k : ∀ H', EndC (seekC n i id) H' → (∀ o, o < 60000 → H' o = H o) → K (.tup [], H') = R) : @kB _ _ (il C4 70 [.ptr 60111 1 0 0] H) ⟨K⟩ = R := by
  have hW' := hW
  obtain ⟨W1, W2, W3, W4, W5, W6, W7⟩ := hW'
  have jl := h.md.jl
  have il := h.md.il
  obtain ⟨k1, k2⟩ := h.jk _ (List.getElem_mem hi)
  have row := jb_row n.jobs i hi
  have hrow := fun J => set_at n.jobs i J hi
  have ow := e128 n.me n.list (keyI n.jobs[i].key) (idB_lt _) h.me (Nat.le_trans h.md.ll (by decide)) h.li
  have e3 := enEq (ownerR n.me n.list (keyI n.jobs[i].key)) n.me
  have ge := e151 n.items n.jobs[i].key (by omega)
  have g1 := hF 100102 (by omega) (by omega); have g2 := hF 100103 (by omega) (by omega); have g3 := hF 100105 (by omega) (by omega); have g4 := hF 100106 (by omega) (by omega)
  have be := (c4_c2 109 (by decide) [] _).trans (eBegin { n with jobs := n.jobs.set i { n.jobs[i] with phase := 2 } } n.jobs[i].key n.jobs[i].val (decide (n.jobs[i].kind = 2)) enZ 0 id ((mid_setj i n.jobs[i] { n.jobs[i] with phase := 2 } h.md (List.getElem_mem hi) rfl).le (show 80000 ≤ 90000 by omega)) (Nat.le_trans k1 (by decide)) h.clock)
  try simp only at be
  unfold seekC at k
  rw [jobG_at hi] at k
  by_cases ho : ownerR n.me n.list (keyI n.jobs[i].key) = n.me
  · rw [if_pos ho] at k
    have ho' := eq_true ho
    by_cases k3 : n.jobs[i].kind = 3
    · rw [if_pos k3] at k
      have hs := il_settleC n id i hi hid (h.md.le (by omega)) (getR n.items n.jobs[i].key).1 ((getR n.items n.jobs[i].key).2 && !(getR n.items n.jobs[i].key).1.g) 0
      generalize hj : n.jobs[i] = j at *
      generalize getR n.items j.key = q at *
      obtain ⟨x, b⟩ := q
      cases b
      all_goals
        simp only [Bool.true_and, Bool.false_and] at hs k
        rw [il_text (C := C4) Tryz.func70 rfl Tryz.results70 (show (C4).M.loc 70 = _ from fq70.1) (by kernel_rfl)]
        simp -implicitDefEqProofs -dsimp +contextual (maxSteps := 9999999) (disch := first | omega | simp only [go_sem] <;> omega | refine ib ?_; kernel_rfl) only [go_sem, seval, ↓reduceIte, W1, W2, W3, W4, W5, W6, W7, hi, row, ePlace, ow, e3, ho', k3, ge, g1, g2]
        refine hs _ (hW.far ?_) ?_ _ _ fun H' hE hfr => ?_
        · intro o ho; repeat (first | rfl | rw [Heap.set_ne _ _ (by omega)])
        · intro o ho; repeat (first | exact hF o (by omega) (by omega) | rw [Heap.set_ne _ _ (by omega)])
        simp -implicitDefEqProofs -dsimp +contextual (maxSteps := 9999999) (disch := first | omega | simp only [go_sem] <;> omega | refine ib ?_; kernel_rfl) only [go_sem, seval, ↓reduceIte]
        exact k _ hE (fun o ho => (hfr o ho).trans (by repeat (first | rfl | rw [Heap.set_ne _ _ (by omega)])))
    · rw [if_neg k3] at k
      have bl := begin_len { n with jobs := n.jobs.set i { n.jobs[i] with phase := 2 } } n.jobs[i].key n.jobs[i].val (decide (n.jobs[i].kind = 2)) enZ 0 id
      have ll := h.md.ll
      subst hid
      have k3' := eq_false k3
      generalize beginR _ _ _ _ _ _ _ = q at *
      obtain ⟨d, acts⟩ := q
      try simp only at bl
      simp only [enZ, Int.cast_ofNat_Int] at be
      unfold ndRes at be
      rw [Nd.ocs_eq] at be
      generalize hj : n.jobs[i] = j at *
      rw [il_text (C := C4) Tryz.func70 rfl Tryz.results70 (show (C4).M.loc 70 = _ from fq70.1) (by kernel_rfl)]
      simp -implicitDefEqProofs -dsimp +contextual (maxSteps := 9999999) (disch := first | omega | simp only [go_sem] <;> omega | refine ib ?_; kernel_rfl) only [go_sem, seval, ↓reduceIte, W1, W2, W3, W4, W5, W6, W7, row, hi, ePlace, ow, e3, ho', k3', g1, g2, g3, g4, rowsG_start, hrow, List.set_set, be]
      exact k _ ⟨100148001015, 100148001016, 100148001018, 100148001022, _, _, _, _, _, _, _, by omega, by omega, by omega, by omega, rfl, rfl, rfl, rfl, rfl, .inr ⟨100159, _, rfl, by omega, by omega, rfl⟩⟩ (fun o ho => by repeat (first | rfl | rw [Heap.set_ne _ _ (by omega)]))
  · rw [if_neg ho] at k
    have ho' := eq_false ho
    have ha := il_askC n id i hi hid (h.md.le (by omega)) k1 (ownerR n.me n.list (keyI n.jobs[i].key))
    generalize hj : n.jobs[i] = j at *
    generalize ownerR n.me n.list (keyI j.key) = o at *
    rw [il_text (C := C4) Tryz.func70 rfl Tryz.results70 (show (C4).M.loc 70 = _ from fq70.1) (by kernel_rfl)]
    simp -implicitDefEqProofs -dsimp +contextual (maxSteps := 9999999) (disch := first | omega | simp only [go_sem] <;> omega | refine ib ?_; kernel_rfl) only [go_sem, seval, ↓reduceIte, W1, W2, W3, W4, W5, W6, W7, row, hi, ePlace, ow, e3, ho', g1]
    refine ha _ (hW.far ?_) ?_ ?_ _ _ fun H' hE hfr => ?_
    · intro o ho; repeat (first | rfl | rw [Heap.set_ne _ _ (by omega)])
    · intro o ho; repeat (first | exact hF o (by omega) (by omega) | rw [Heap.set_ne _ _ (by omega)])
    · intro o ho; repeat (first | exact hF o (by omega) (by omega) | rw [Heap.set_ne _ _ (by omega)])
    simp -implicitDefEqProofs -dsimp +contextual (maxSteps := 9999999) (disch := first | omega | simp only [go_sem] <;> omega | refine ib ?_; kernel_rfl) only [go_sem, seval, ↓reduceIte]
    exact k _ hE (fun o ho => (hfr o ho).trans (by repeat (first | rfl | rw [Heap.set_ne _ _ (by omega)])))
theorem il_againC (n : Nd) (id why : Int) (i : Nat) (hi : i < n.jobs.length) (hid : n.jobs[i].id = id) (h : CliK n) (H : Heap) (hW : WorkC H n id (.ptr 60109018 1 i 0)) (hF : FreshC H) (K : AVal × Heap → Option Res) (R : Option Res)
    (k : ∀ H', EndC (againC n i id why) H' → (∀ o, o < 60000 → H' o = H o) → K (.tup [], H') = R) : @kB _ _ (il C4 103 [.ptr 60111 1 0 0, .int .i64 why] H) ⟨K⟩ = R := by
  have hW' := hW
  obtain ⟨W1, W2, W3, W4, W5, W6, W7⟩ := hW'
  have jl := h.md.jl
  have row := jb_row n.jobs i hi
  have hrow := fun J => set_at n.jobs i J hi
  have hf := il_failC n id i hi hid (h.md.le (by omega)) why
  have hs := fun H => il_seekC { n with jobs := n.jobs.set i { n.jobs[i] with tries := n.jobs[i].tries + 1 } } id i (by simpa using hi) (by simpa using hid) (clik_set h i n.jobs[i] _ (List.getElem_mem hi) rfl rfl rfl ⟨by show _ ≤ n.jobs[i].tries + 1; have := (h.ji _ (List.getElem_mem hi)).1; omega, (h.ji _ (List.getElem_mem hi)).2⟩) H
  have hji := h.ji _ (List.getElem_mem hi)
  unfold againC at k
  rw [jobG_at hi] at k
  by_cases ht : 3 ≤ n.jobs[i].tries
  · rw [if_pos ht] at k
    have ht' := eq_true ht
    generalize hj : n.jobs[i] = j at *
    rw [il_text (C := C4) Tryz.func103 rfl Tryz.results103 (show (C4).M.loc 103 = _ from fq103.1) (by kernel_rfl)]
    simp -implicitDefEqProofs -dsimp +contextual (maxSteps := 9999999) (disch := first | omega | simp only [go_sem] <;> omega | refine ib ?_; kernel_rfl) only [go_sem, seval, ↓reduceIte, W1, W2, W3, W4, W5, W6, W7, row, hi, ht']
    refine hf _ hW (hF.fre _ (by omega) (by omega)) _ _ fun H' hE hfr => ?_
    simp -implicitDefEqProofs -dsimp +contextual (maxSteps := 9999999) (disch := first | omega | simp only [go_sem] <;> omega | refine ib ?_; kernel_rfl) only [go_sem, seval, ↓reduceIte]
    exact k _ hE hfr
  · rw [if_neg ht] at k
    have ht' := eq_false ht
    generalize hj : n.jobs[i] = j at *
    rw [il_text (C := C4) Tryz.func103 rfl Tryz.results103 (show (C4).M.loc 103 = _ from fq103.1) (by kernel_rfl)]
    simp -implicitDefEqProofs -dsimp +contextual (maxSteps := 9999999) (disch := first | omega | simp only [go_sem] <;> omega | refine ib ?_; kernel_rfl) only [go_sem, seval, ↓reduceIte, W1, W2, W3, W4, W5, W6, W7, row, hi, ht', rowsG_start, hrow]
    refine hs _ (hW.set i _ ?_ ?_) ?_ _ _ fun H' hE hfr => ?_
    · rfl
    · intro o ho; exact Heap.set_ne _ _ ho
    · intro o h1 h2; rw [Heap.set_ne _ _ (by omega)]; exact hF o h1 h2
    simp -implicitDefEqProofs -dsimp +contextual (maxSteps := 9999999) (disch := first | omega | simp only [go_sem] <;> omega | refine ib ?_; kernel_rfl) only [go_sem, seval, ↓reduceIte]
    exact k _ hE (fun o ho => (hfr o ho).trans (Heap.set_ne _ _ (by omega)))
theorem cli_id {l : List Jb} {id : Int} {i : Nat} (hi : i < l.length) (hc : cliP l id = (i : Int)) : l[i].id = id := by
  rcases cliP_cases l id with ⟨i', hi', hid, _, _, hc'⟩ | ⟨hc', _⟩
  · obtain rfl : i' = i := by omega
    exact hid
  · omega
end Go.Proofs.YtnpkhdjgedeppaaGreatDoor
namespace Go.Proofs.YtnpkhdjgedeppaaGreatDoor
set_option maxHeartbeats 64000000
open Go.Am
set_option linter.unusedSimpArgs false
set_option linter.unusedVariables false
set_option maxRecDepth 100000
def AccE (f : Nat → AVal) (H : Heap) (t o st : Nat) (r : List (List AVal)) : Prop := ∃ g, f t = .osl o g 0 r.length ∧ H o = ⟨g, .live, st, r, false⟩
end Go.Proofs.YtnpkhdjgedeppaaGreatDoor
namespace Go.Proofs.YtnpkhdjgedeppaaGreatDoor
set_option maxHeartbeats 64000000
open Go.Am
set_option linter.unusedSimpArgs false
set_option linter.unusedVariables false
set_option maxRecDepth 100000
attribute [local irreducible] distR
def dropP (l : List Pr) (name : List UInt8) : List Pr := l.filter fun p => !decide (p.e.name = name)
theorem drop_succ (l : List Pr) (name : List UInt8) (i : Nat) (h : i < l.length) : dropP (l.take (i + 1)) name = dropP (l.take i) name ++ (if l[i].e.name = name then [] else [l[i]]) := by
  unfold dropP
  rw [List.take_succ_eq_append_getElem h, List.filter_append]
  congr 1
  by_cases e : l[i].e.name = name <;> simp [e]
theorem dropP_le (l : List Pr) (name : List UInt8) : (dropP l name).length ≤ l.length := List.length_filter_le _ _
end Go.Proofs.YtnpkhdjgedeppaaGreatDoor
namespace Go.Proofs.YtnpkhdjgedeppaaGreatDoor
set_option maxHeartbeats 64000000
open Go.Am
set_option linter.unusedSimpArgs false
set_option linter.unusedVariables false
set_option maxRecDepth 100000
def rightE (e : En) : Bool := nameR e.name && decide (0 ≤ e.fr) && decide (e.fr ≤ e.un) && decide (e.un ≤ 1073741824) && decide (0 ≤ e.ix) && decide (e.ix ≤ 64) && decide (e.tag.length = 32)
def signB (k : List UInt8) (e : En) : List UInt8 := macB k (bodyB e)
def validR (gi : Int) (gk : List UInt8) (e : En) (now : Int) : Int :=
  if rightE e = true then if e.ix < gi then 33 else if gi < e.ix then 34 else if e.tag = signB gk e then if now < e.fr ∨ e.un < now then 32 else 0 else 20 else 11
def takenP (gi : Int) (gk : List UInt8) (e : En) (now : Int) : Pr := if validR gi gk e now = 0 then ⟨e, now, gi⟩ else zeroPr
@[go_sem] theorem e200 (e : En) (hn : e.name.length ≤ 1000000000000) : fn C 200 [] [.agg [.str e.name, .int .u64 (e.id : Int), .int .i64 e.fr, .int .i64 e.un, .int .i64 e.ix, .str e.tag]] = some (.bool (rightE e), []) := by
  rw [fn_text Tryz.func200 rfl rfl Tryz.results200 fq200.1 rfl rfl (by kernel_rfl)]
  simp -implicitDefEqProofs -dsimp +contextual (maxSteps := 9999999) (disch := first | omega | simp only [go_sem] <;> omega | refine ib ?_; kernel_rfl) only [go_sem, seval, ↓reduceIte]
  (repeat' (refine kD_intro (fun _ => ?_) (fun _ => ?_))) <;> exact Res_bool (by simp [rightE, *])
@[go_sem] theorem e246 (k m t : List UInt8) (h : k.length ≤ 1000000) (hf : m.length ≤ 500000) (ht : t.length ≤ 1000000) : fn C 246 [] [.slice 1 (k.map byteRow), .slice 1 (m.map byteRow), .slice 1 (t.map byteRow)] = some (.bool (decide (macB k m = t)), []) := by
  rw [fn_text Tryz.func246 rfl rfl Tryz.results246 fq246.1 rfl rfl (by kernel_rfl)]
  have hl := macB_len k m
  simp -implicitDefEqProofs -dsimp +contextual (maxSteps := 9999999) (disch := first | omega | simp only [go_sem] <;> omega | refine ib ?_; kernel_rfl) only [go_sem, seval, ↓reduceIte]
@[go_sem] theorem e202 (k : List UInt8) (e : En) (h : e.ok) (hn : e.name.length ≤ 10000) (ht : e.tag.length ≤ 10000) (hk : k.length ≤ 10000) : fn C 202 [] [.str k, .agg [.str e.name, .int .u64 (e.id : Int), .int .i64 e.fr, .int .i64 e.un, .int .i64 e.ix, .str e.tag]] = some (.bool (decide (e.tag = signB k e)), []) := by
  rw [fn_text Tryz.func202 rfl rfl Tryz.results202 fq202.1 rfl rfl (by kernel_rfl)]
  have e1 := e192 e h (by omega)
  have e2 := e246 k (bodyB e) e.tag (by omega) (by rw [bodyB_len]; omega) (by omega)
  simp -implicitDefEqProofs -dsimp +contextual (maxSteps := 9999999) (disch := first | omega | simp only [go_sem] <;> omega | refine ib ?_; kernel_rfl) only [go_sem, seval, ↓reduceIte, e1, e2]
  refine Res_bool ?_
  rw [signB, decide_eq_true_iff, decide_eq_true_iff]
  exact eq_comm
@[go_sem] theorem e245 (a : Int) : fn C 245 [] [.int .i64 a] = some (.bool false, []) := by
  rw [fn_text Tryz.func245 rfl rfl Tryz.results245 fq245.1 rfl rfl (by kernel_rfl)]
  simp -implicitDefEqProofs -dsimp +contextual (maxSteps := 9999999) (disch := first | omega | simp only [go_sem] <;> omega | refine ib ?_; kernel_rfl) only [go_sem, seval, ↓reduceIte]
@[go_sem] theorem e201 (a b : Int) : fn C 201 [] [.int .i64 a, .int .i64 b] = some (.int .i64 (if a < b then -1 else if b < a then 1 else 0), []) := by
  rw [fn_text Tryz.func201 rfl rfl Tryz.results201 fq201.1 rfl rfl (by kernel_rfl)]
  by_cases h1 : a < b
  · simp -implicitDefEqProofs -dsimp +contextual (maxSteps := 9999999) (disch := first | omega | simp only [go_sem] <;> omega | refine ib ?_; kernel_rfl) only [go_sem, seval, ↓reduceIte, h1]
  · by_cases h2 : b < a
    · simp -implicitDefEqProofs -dsimp +contextual (maxSteps := 9999999) (disch := first | omega | simp only [go_sem] <;> omega | refine ib ?_; kernel_rfl) only [go_sem, seval, ↓reduceIte, h1, h2]
    · simp -implicitDefEqProofs -dsimp +contextual (maxSteps := 9999999) (disch := first | omega | simp only [go_sem] <;> omega | refine ib ?_; kernel_rfl) only [go_sem, seval, ↓reduceIte, h1, h2]
@[go_sem] theorem e134 (gi : Int) (gk : List UInt8) (e : En) (now : Int) (h : e.ok) (hn : e.name.length ≤ 10000) (ht : e.tag.length ≤ 10000) (hk : gk.length ≤ 10000) : fn C 134 [] [.agg [.int .i64 gi, .str gk], .agg [.str e.name, .int .u64 (e.id : Int), .int .i64 e.fr, .int .i64 e.un, .int .i64 e.ix, .str e.tag], .int .i64 now] = some (.int .i64 (validR gi gk e now), []) := by
  rw [fn_text Tryz.func134 rfl rfl Tryz.results134 fq134.1 rfl rfl (by kernel_rfl)]
  have e0 := e200 e (by omega)
  have e1 := e202 gk e h hn ht hk
  have e2 := e201 e.ix gi
  rw [validR]
  by_cases h0 : rightE e = true
  · by_cases h1 : e.ix < gi
    · simp only [h1, if_true] at e2
      simp -implicitDefEqProofs -dsimp +contextual (maxSteps := 9999999) (disch := first | omega | simp only [go_sem] <;> omega | refine ib ?_; kernel_rfl) only [go_sem, seval, ↓reduceIte, e0, e2, h0, h1]
    · by_cases h2 : gi < e.ix
      · simp only [h1, h2, if_true, if_false] at e2
        simp -implicitDefEqProofs -dsimp +contextual (maxSteps := 9999999) (disch := first | omega | simp only [go_sem] <;> omega | refine ib ?_; kernel_rfl) only [go_sem, seval, ↓reduceIte, e0, e2, h0, h1, h2]
      · simp only [h1, h2, if_false] at e2
        by_cases h3 : e.tag = signB gk e
        · rw [decide_eq_true h3] at e1
          rw [if_pos h3]
          by_cases h4 : now < e.fr
          · simp -implicitDefEqProofs -dsimp +contextual (maxSteps := 9999999) (disch := first | omega | simp only [go_sem] <;> omega | refine ib ?_; kernel_rfl) only [go_sem, seval, ↓reduceIte, e0, e1, e2, h0, h1, h2, h4]
          · by_cases h5 : e.un < now
            · simp -implicitDefEqProofs -dsimp +contextual (maxSteps := 9999999) (disch := first | omega | simp only [go_sem] <;> omega | refine ib ?_; kernel_rfl) only [go_sem, seval, ↓reduceIte, e0, e1, e2, h0, h1, h2, h4, h5]
            · simp -implicitDefEqProofs -dsimp +contextual (maxSteps := 9999999) (disch := first | omega | simp only [go_sem] <;> omega | refine ib ?_; kernel_rfl) only [go_sem, seval, ↓reduceIte, e0, e1, e2, h0, h1, h2, h4, h5]
        · rw [decide_eq_false h3] at e1
          rw [if_neg h3]
          simp -implicitDefEqProofs -dsimp +contextual (maxSteps := 9999999) (disch := first | omega | simp only [go_sem] <;> omega | refine ib ?_; kernel_rfl) only [go_sem, seval, ↓reduceIte, e0, e1, e2, h0, h1, h2]
  · simp -implicitDefEqProofs -dsimp +contextual (maxSteps := 9999999) (disch := first | omega | simp only [go_sem] <;> omega | refine ib ?_; kernel_rfl) only [go_sem, seval, ↓reduceIte, e0, h0]
@[go_sem] theorem e45 (gi : Int) (gk : List UInt8) (e : En) (now : Int) (h : e.ok) (hn : e.name.length ≤ 10000) (ht : e.tag.length ≤ 10000) (hk : gk.length ≤ 10000) : fn C 45 [] [.agg [.int .i64 gi, .str gk], .agg [.str e.name, .int .u64 (e.id : Int), .int .i64 e.fr, .int .i64 e.un, .int .i64 e.ix, .str e.tag], .int .i64 now] = some (.tup [.agg [.str (takenP gi gk e now).e.name, .int .u64 ((takenP gi gk e now).e.id : Int), .int .i64 (takenP gi gk e now).e.fr, .int .i64 (takenP gi gk e now).e.un, .int .i64 (takenP gi gk e now).e.ix, .str (takenP gi gk e now).e.tag, .int .i64 (takenP gi gk e now).since, .int .i64 (takenP gi gk e now).under], .int .i64 (validR gi gk e now)], []) := by
  rw [fn_text Tryz.func45 rfl rfl Tryz.results45 fq45.1 rfl rfl (by kernel_rfl)]
  have e0 := e134 gi gk e now h hn ht hk
  rw [takenP]
  by_cases h0 : validR gi gk e now = 0
  · simp -implicitDefEqProofs -dsimp +contextual (maxSteps := 9999999) (disch := first | omega | simp only [go_sem] <;> omega | refine ib ?_; kernel_rfl) only [go_sem, seval, ↓reduceIte, e0, h0]
  · simp -implicitDefEqProofs -dsimp +contextual (maxSteps := 9999999) (disch := first | omega | simp only [go_sem] <;> omega | refine ib ?_; kernel_rfl) only [go_sem, seval, ↓reduceIte, e0, h0]
    rfl
end Go.Proofs.YtnpkhdjgedeppaaGreatDoor
namespace Go.Proofs.YtnpkhdjgedeppaaGreatDoor
set_option maxHeartbeats 64000000
open Go.Am
set_option linter.unusedSimpArgs false
set_option linter.unusedVariables false
set_option maxRecDepth 100000
attribute [local irreducible] distR idB sumB
structure CliOk (n : Nd) : Prop where
  k : CliK n
  jobId : I64 n.jobId
end Go.Proofs.YtnpkhdjgedeppaaGreatDoor
namespace Go.Proofs.YtnpkhdjgedeppaaGreatDoor
set_option maxHeartbeats 64000000
open Go.Am
set_option linter.unusedSimpArgs false
set_option linter.unusedVariables false
set_option maxRecDepth 100000
def spanR (me : En) (l : List Pr) : Nat := match l.getLast? with | some p => distR me.id p.e.id | none => 0
def checkD (me : En) (l : List Pr) (key : Nat) (owner : En) : Int := if l.length = 0 then 0 else if spanR me l * 64 < distR key owner.id * l.length then 42 else 0
def farC (n : Nd) (key : Nat) (from_ owner : En) : Bool := decide (owner.name = n.me.name) || !decide (validR n.gateI n.gateK owner n.clock = 0) || !decide (distR key owner.id < distR key from_.id)
def foundJ (n : Nd) (i : Nat) (j : Jb) (id : Int) (from_ owner : En) : Nd × List Ac :=
  if owner.name = from_.name ∧ owner.id = from_.id then
    if checkD n.me n.list (keyI j.key) owner = 0 then ({ n with jobs := n.jobs.set i { j with phase := 2 } }, [⟨false, from_, actM j, 6, id⟩]) else failC n id 42
  else if 64 ≤ j.hops then failC n id 44
  else if farC n (keyI j.key) from_ owner = true then failC n id 42
  else askC n i { j with hops := j.hops + 1 } owner id
def foundC (n : Nd) (id : Int) (from_ owner : En) : Nd × List Ac :=
  if 0 ≤ cliP n.jobs id then
    if (jobG n.jobs (cliP n.jobs id).toNat).phase = 1 ∧ from_.name = (jobG n.jobs (cliP n.jobs id).toNat).owner.name ∧ from_.id = (jobG n.jobs (cliP n.jobs id).toNat).owner.id then foundJ n (cliP n.jobs id).toNat (jobG n.jobs (cliP n.jobs id).toNat) id from_ owner
    else (n, [])
  else (n, [])
def gotC (j : Jb) (m : Ms) : It × Bool :=
  if j.kind = 3 then (⟨j.key, m.val, m.ver, m.gone⟩, m.has && !m.gone) else if j.kind = 2 then (⟨j.key, [], m.ver, true⟩, false) else (⟨j.key, j.val, m.ver, false⟩, true)
def actedJ (n : Nd) (i : Nat) (j : Jb) (id : Int) (m : Ms) : Nd × List Ac :=
  if m.err = 40 ∨ m.err = 41 then againC n i id m.err else if m.err = 0 then (settleR n id (gotC j m).1 (gotC j m).2 0, []) else failC n id m.err
def actedC (n : Nd) (id : Int) (m : Ms) : Nd × List Ac :=
  if 0 ≤ cliP n.jobs id then if (jobG n.jobs (cliP n.jobs id).toNat).phase = 2 then actedJ n (cliP n.jobs id).toNat (jobG n.jobs (cliP n.jobs id).toNat) id m else (n, []) else (n, [])
end Go.Proofs.YtnpkhdjgedeppaaGreatDoor
namespace Go.Proofs.YtnpkhdjgedeppaaGreatDoor
set_option maxHeartbeats 64000000
open Go.Am
set_option linter.unusedSimpArgs false
set_option linter.unusedVariables false
set_option maxRecDepth 100000
attribute [local irreducible] distR idB sumB
theorem actedC_at {n : Nd} {id : Int} {i : Nat} {m : Ms} (hi : i < n.jobs.length) (h : cliP n.jobs id = (i : Int)) : actedC n id m = if n.jobs[i].phase = 2 then actedJ n i n.jobs[i] id m else (n, []) := by
  rw [actedC, h, if_pos (by omega), Int.toNat_natCast, jobG_at hi]
theorem actedC_none {n : Nd} {id : Int} {m : Ms} (h : cliP n.jobs id = -1) : actedC n id m = (n, []) := by
  rw [actedC, h, if_neg (by omega)]
def beforeR (me : En) (l : List Pr) : Nat := match l.getLast? with | some p => p.e.id | none => me.id
theorem span_eq (me : En) (l : List Pr) (h : ¬ l.length = 0) : spanR me l = distR me.id (beforeR me l) := by
  unfold spanR beforeR
  cases hl : l.getLast? with
  | none => exact absurd (by rw [List.getLast?_eq_none_iff.1 hl]; rfl) h
  | some p => rfl
theorem before_le (me : En) (l : List Pr) (hm : me.id ≤ 18446744073709551615) (hp : ∀ p ∈ l, p.e.id ≤ 18446744073709551615) : beforeR me l ≤ 18446744073709551615 := by
  unfold beforeR
  cases hl : l.getLast? with
  | none => exact hm
  | some p => exact hp p (List.mem_of_getLast? hl)
@[go_sem] theorem eqWho (a a' : List UInt8) (k k' : Int) : eqF E.P 8 191 (.agg [.str a, .int .u64 k]) (.agg [.str a', .int .u64 k']) = some (decide (a = a' ∧ k = k')) := by
  have u2 : E.P.underlying 9 = _ := Tryz.underlying9
  have u3 : E.P.underlying 22 = _ := Tryz.underlying22
  have u7 : E.P.underlying 191 = _ := Tryz.underlying191
  have hq : E.P.stoodInHeld 191 = false := by kernel_rfl
  simp [eqF, eqGo, u2, u3, u7, hq, tq9.1, tq9.2.1, tq22.1, tq22.2.1, mkV, beq_dec, Bool.and_assoc, ← Bool.decide_and]
@[go_sem] theorem e88 (a b : En) : fn C 88 [] [.agg [.str a.name, .int .u64 (a.id : Int), .int .i64 a.fr, .int .i64 a.un, .int .i64 a.ix, .str a.tag], .agg [.str b.name, .int .u64 (b.id : Int), .int .i64 b.fr, .int .i64 b.un, .int .i64 b.ix, .str b.tag]] = some (.bool (decide (a.name = b.name ∧ a.id = b.id)), []) := by
  rw [fn_text Tryz.func88 rfl rfl Tryz.results88 fq88.1 rfl rfl (by kernel_rfl)]
  simp -implicitDefEqProofs -dsimp +contextual (maxSteps := 9999999) (disch := first | omega | simp only [go_sem] <;> omega | refine ib ?_; kernel_rfl) only [go_sem, seval, ↓reduceIte]
theorem foundC_at {n : Nd} {id : Int} {i : Nat} {from_ owner : En} (hi : i < n.jobs.length) (h : cliP n.jobs id = (i : Int)) : foundC n id from_ owner = if n.jobs[i].phase = 1 ∧ from_.name = n.jobs[i].owner.name ∧ from_.id = n.jobs[i].owner.id then foundJ n i n.jobs[i] id from_ owner else (n, []) := by
  rw [foundC, h, if_pos (by omega), Int.toNat_natCast, jobG_at hi]
theorem foundC_none {n : Nd} {id : Int} {from_ owner : En} (h : cliP n.jobs id = -1) : foundC n id from_ owner = (n, []) := by
  rw [foundC, h, if_neg (by omega)]
theorem and32 (P : Program) (t : TypeId) (n : Nat) (h : n < 18446744073709551616) : binV P .and t (.int .u64 (n : Int)) (.int .u64 4294967295) = some (.int .u64 ((n % 4294967296 : Nat) : Int)) := by
  have e : binV P .and t (.int .u64 (n : Int)) (.int .u64 4294967295) = some (.int .u64 (IntKind.u64.wrap (((BitVec.ofInt 64 (n : Int)) &&& (BitVec.ofInt 64 ((4294967295 : Nat) : Int))).toNat : Int))) := rfl
  rw [e, BitVec.ofInt_natCast, BitVec.ofInt_natCast, BitVec.toNat_and, BitVec.toNat_ofNat, BitVec.toNat_ofNat, Nat.mod_eq_of_lt (show n < 2 ^ 64 by omega), show (4294967295 : Nat) % 2 ^ 64 = 2 ^ 32 - 1 by decide, Nat.and_two_pow_sub_one_eq_mod, IntKind.wrap_u64]
  congr 2; omega
theorem eMul64 (a b : Nat) (ha : a ≤ 18446744073709551615) (hb : b ≤ 18446744073709551615) : fn C 250 [] [.int .u64 (a : Int), .int .u64 (b : Int)] = some (.tup [.int .u64 ((a * b / 18446744073709551616 : Nat) : Int), .int .u64 ((a * b % 18446744073709551616 : Nat) : Int)], []) := by
  rw [fn_text Tryz.func250 rfl rfl Tryz.results250 fq250.1 rfl rfl (by kernel_rfl)]
  obtain ⟨m1, m2, m3, m4⟩ := Go.Lib.mul64_hi a b (by omega) (by omega)
  have m5 : a / 4294967296 * (b / 4294967296) ≤ 18446744065119617025 := Go.Lib.half_mul_le (by omega) (by omega)
  have m6 : a * b / 18446744073709551616 ≤ 18446744073709551615 := by
    have : a * b ≤ 18446744073709551615 * 18446744073709551615 := Nat.mul_le_mul ha hb
    omega
  have m7 : IntKind.u64.wrap ((a * b : Nat) : Int) = ((a * b % 18446744073709551616 : Nat) : Int) := by rw [IntKind.wrap_u64]; omega
  simp -implicitDefEqProofs -dsimp +contextual (maxSteps := 9999999) (disch := first | omega | simp only [go_sem] <;> omega | refine ib ?_; kernel_rfl) only [go_sem, seval, ↓reduceIte, and32, m7]
  rw [← m4]
theorem eTimes (a b : Nat) (ha : a ≤ 18446744073709551615) (hb : b ≤ 18446744073709551615) : fn C 214 [] [.int .u64 (a : Int), .int .u64 (b : Int)] = some (.agg [.int .u64 ((a * b / 18446744073709551616 : Nat) : Int), .int .u64 ((a * b % 18446744073709551616 : Nat) : Int)], []) := by
  have e1 := eMul64 a b ha hb
  rw [fn_text Tryz.func214 rfl rfl Tryz.results214 fq214.1 rfl rfl (by kernel_rfl)]
  simp -implicitDefEqProofs -dsimp +contextual (maxSteps := 9999999) (disch := first | omega | simp only [go_sem] <;> omega | refine ib ?_; kernel_rfl) only [go_sem, seval, ↓reduceIte, e1]
theorem eBefore (me : En) (l : List Pr) (hl : l.length ≤ 1000000) : fn C 251 [] [.agg [.str me.name, .int .u64 (me.id : Int), .int .i64 me.fr, .int .i64 me.un, .int .i64 me.ix, .str me.tag], .slice 8 (l.map Pr.cs)] = some (.int .u64 (beforeR me l : Int), []) := by
  unfold beforeR
  by_cases h0 : l.length = 0
  · have : l = [] := List.length_eq_zero_iff.1 h0
    subst this
    rw [fn_text Tryz.func251 rfl rfl Tryz.results251 fq251.1 rfl rfl (by kernel_rfl)]
    simp -implicitDefEqProofs -dsimp +contextual (maxSteps := 9999999) (disch := first | omega | simp only [go_sem] <;> omega | refine ib ?_; kernel_rfl) only [go_sem, seval, ↓reduceIte]
    rfl
  · have h0' := eq_false h0
    have hlt : l.length - 1 < l.length := by omega
    have e1 : (l.length : Int) - 1 = ((l.length - 1 : Nat) : Int) := by omega
    have row : (l.map Pr.cs)[l.length - 1]? = some [.str l[l.length - 1].e.name, .int .u64 (l[l.length - 1].e.id : Int), .int .i64 l[l.length - 1].e.fr, .int .i64 l[l.length - 1].e.un, .int .i64 l[l.length - 1].e.ix, .str l[l.length - 1].e.tag, .int .i64 l[l.length - 1].since, .int .i64 l[l.length - 1].under] := by rw [List.getElem?_map, List.getElem?_eq_getElem hlt]; rfl
    rw [List.getLast?_eq_getElem?, List.getElem?_eq_getElem hlt]
    rw [fn_text Tryz.func251 rfl rfl Tryz.results251 fq251.1 rfl rfl (by kernel_rfl)]
    simp -implicitDefEqProofs -dsimp +contextual (maxSteps := 9999999) (disch := first | omega | simp only [go_sem] <;> omega | refine ib ?_; kernel_rfl) only [go_sem, seval, ↓reduceIte, h0', e1, row, hlt]
theorem eAbove (x y : Nat) : fn C 215 [] [.agg [.int .u64 ((x / 18446744073709551616 : Nat) : Int), .int .u64 ((x % 18446744073709551616 : Nat) : Int)], .agg [.int .u64 ((y / 18446744073709551616 : Nat) : Int), .int .u64 ((y % 18446744073709551616 : Nat) : Int)]] = some (.bool (decide (y < x)), []) := by
  rw [fn_text Tryz.func215 rfl rfl Tryz.results215 fq215.1 rfl rfl (by kernel_rfl)]
  simp -implicitDefEqProofs -dsimp +contextual (maxSteps := 9999999) (disch := first | omega | simp only [go_sem] <;> omega | refine ib ?_; kernel_rfl) only [go_sem, seval, ↓reduceIte]
  (repeat' (refine kD_intro (fun _ => ?_) (fun _ => ?_))) <;> exact Res_bool (by simp only [decide_eq_true_eq]; omega)
theorem eSpanD (me : En) (l : List Pr) (hm : me.id ≤ 18446744073709551615) (hl : l.length ≤ 1000000) (hp : ∀ p ∈ l, p.e.id ≤ 18446744073709551615) (h0 : ¬ l.length = 0) : fn C 216 [] [.agg [.str me.name, .int .u64 (me.id : Int), .int .i64 me.fr, .int .i64 me.un, .int .i64 me.ix, .str me.tag], .slice 8 (l.map Pr.cs)] = some (.int .u64 (spanR me l : Int), []) := by
  have e1 := eBefore me l hl
  have e2 := e158 me.id (beforeR me l) hm (before_le me l hm hp)
  rw [span_eq me l h0]
  rw [fn_text Tryz.func216 rfl rfl Tryz.results216 fq216.1 rfl rfl (by kernel_rfl)]
  simp -implicitDefEqProofs -dsimp +contextual (maxSteps := 9999999) (disch := first | omega | simp only [go_sem] <;> omega | refine ib ?_; kernel_rfl) only [go_sem, seval, ↓reduceIte, e1, e2]
theorem eNear (me : En) (l : List Pr) (key : Nat) (owner : En) (hk : key ≤ 18446744073709551615) (hm : me.id ≤ 18446744073709551615) (ho : owner.id ≤ 18446744073709551615) (hl : l.length ≤ 1000000) (hp : ∀ p ∈ l, p.e.id ≤ 18446744073709551615) : fn C 157 [] [.agg [.str me.name, .int .u64 (me.id : Int), .int .i64 me.fr, .int .i64 me.un, .int .i64 me.ix, .str me.tag], .slice 8 (l.map Pr.cs), .int .u64 (key : Int), .agg [.str owner.name, .int .u64 (owner.id : Int), .int .i64 owner.fr, .int .i64 owner.un, .int .i64 owner.ix, .str owner.tag]] = some (.bool (decide (checkD me l key owner = 0)), []) := by
  unfold checkD
  by_cases h0 : l.length = 0
  · rw [if_pos h0]
    have h0' := eq_true h0
    rw [fn_text Tryz.func157 rfl rfl Tryz.results157 fq157.1 rfl rfl (by kernel_rfl)]
    simp -implicitDefEqProofs -dsimp +contextual (maxSteps := 9999999) (disch := first | omega | simp only [go_sem] <;> omega | refine ib ?_; kernel_rfl) only [go_sem, seval, ↓reduceIte, h0']
  · rw [if_neg h0]
    have h0' := eq_false h0
    have e1 := e158 key owner.id hk ho
    have e2 := eSpanD me l hm hl hp h0
    have d1 := distR_le key owner.id
    have d2 : spanR me l ≤ 18446744073709551615 := by rw [span_eq me l h0]; exact distR_le _ _
    have e3 := eTimes (distR key owner.id) l.length d1 (by omega)
    have e4 := eTimes (spanR me l) 64 d2 (by omega)
    have e5 := eAbove (distR key owner.id * l.length) (spanR me l * 64)
    simp only [Int.cast_ofNat_Int] at e4
    generalize distR key owner.id = a at *
    generalize spanR me l = b at *
    by_cases hx : b * 64 < a * l.length
    · rw [if_pos hx]
      rw [decide_eq_true hx] at e5
      rw [fn_text Tryz.func157 rfl rfl Tryz.results157 fq157.1 rfl rfl (by kernel_rfl)]
      simp -implicitDefEqProofs -dsimp +contextual (maxSteps := 9999999) (disch := first | omega | simp only [go_sem] <;> omega | refine ib ?_; kernel_rfl) only [go_sem, seval, ↓reduceIte, h0', e1, e2, e3, e4, e5]
    · rw [if_neg hx]
      rw [decide_eq_false hx] at e5
      rw [fn_text Tryz.func157 rfl rfl Tryz.results157 fq157.1 rfl rfl (by kernel_rfl)]
      simp -implicitDefEqProofs -dsimp +contextual (maxSteps := 9999999) (disch := first | omega | simp only [go_sem] <;> omega | refine ib ?_; kernel_rfl) only [go_sem, seval, ↓reduceIte, h0', e1, e2, e3, e4, e5]
theorem eCheckD (me : En) (l : List Pr) (key : Nat) (owner : En) (hk : key ≤ 18446744073709551615) (hm : me.id ≤ 18446744073709551615) (ho : owner.id ≤ 18446744073709551615) (hl : l.length ≤ 1000000) (hp : ∀ p ∈ l, p.e.id ≤ 18446744073709551615) : fn C 89 [] [.agg [.str me.name, .int .u64 (me.id : Int), .int .i64 me.fr, .int .i64 me.un, .int .i64 me.ix, .str me.tag], .slice 8 (l.map Pr.cs), .int .u64 (key : Int), .agg [.str owner.name, .int .u64 (owner.id : Int), .int .i64 owner.fr, .int .i64 owner.un, .int .i64 owner.ix, .str owner.tag]] = some (.int .i64 (checkD me l key owner), []) := by
  have e1 := eNear me l key owner hk hm ho hl hp
  have hc : checkD me l key owner = 0 ∨ checkD me l key owner = 42 := by unfold checkD; split; exact .inl rfl; split; exact .inr rfl; exact .inl rfl
  rcases hc with hc | hc <;> rw [hc] at e1 ⊢ <;> (rw [fn_text Tryz.func89 rfl rfl Tryz.results89 fq89.1 rfl rfl (by kernel_rfl)]; simp -implicitDefEqProofs -dsimp +contextual (maxSteps := 9999999) (disch := first | omega | simp only [go_sem] <;> omega | refine ib ?_; kernel_rfl) only [go_sem, seval, ↓reduceIte, e1])
def actN (n : Nd) (i : Nat) (j : Jb) (to : En) (id : Int) : Nd × List Ac := ({ n with jobs := n.jobs.set i { j with phase := 2 } }, [⟨false, to, actM j, 6, id⟩])
theorem il_actC (n : Nd) (id : Int) (i : Nat) (hi : i < n.jobs.length) (hid : n.jobs[i].id = id) (h : n.mid 1000000) (to : En) (H : Heap) (hW : WorkC H n id (.ptr 60109018 1 i 0)) (hF : FreR H 220000) (hG : FreR H 80000) (K : AVal × Heap → Option Res) (R : Option Res)
    (k : ∀ H', EndC (actN n i n.jobs[i] to id) H' → (∀ o, o < 60000 → H' o = H o) → K (.tup [], H') = R) : @kB _ _ (il C4 92 [.ptr 60111 1 0 0, .agg [.str to.name, .int .u64 (to.id : Int), .int .i64 to.fr, .int .i64 to.un, .int .i64 to.ix, .str to.tag]] H) ⟨K⟩ = R := by
  obtain ⟨W1, W2, W3, W4, W5, W6, W7⟩ := hW
  have jl := h.jl
  have row := jb_row n.jobs i hi
  have hrow := fun J => set_at n.jobs i J hi
  have g1 := hF 220103 (by omega); have g6 := hF 220104 (by omega)
  have g2 := hG 80105 (by omega); have g3 := hG 80106 (by omega); have g4 := hG 80118 (by omega); have g5 := hG 80119 (by omega)
  generalize hj : n.jobs[i] = j at *
  have jn : (actN n i j to id).1.jobs.length = n.jobs.length := by simp [actN]
  by_cases hk3 : j.kind = 3
  · have k3' := eq_true hk3
    rw [il_text (C := C4) Tryz.func92 rfl Tryz.results92 (show (C4).M.loc 92 = _ from fq92.1) (by kernel_rfl)]
    simp -implicitDefEqProofs -dsimp +contextual (maxSteps := 9999999) (disch := first | omega | simp only [go_sem] <;> omega | refine ib ?_; kernel_rfl) only [go_sem, seval, ↓reduceIte, W1, W2, W3, W4, W5, W6, W7, row, hi, g1, g6, rowsG_start, hrow, List.set_set, k3']
    rw [il_text (C := C4) Tryz.func149 rfl Tryz.results149 (show (C4).M.loc 149 = _ from fq149.1) (by kernel_rfl)]
    simp -implicitDefEqProofs -dsimp +contextual (maxSteps := 9999999) (disch := first | omega | simp only [go_sem] <;> omega | refine ib ?_; kernel_rfl) only [go_sem, seval, ↓reduceIte, W1, W2, W3, W4, W5, W6, W7, g2, g3, g4, g5]
    refine k _ ⟨60109015, 60109016, 60109018, 60109022, 1, 1, 1, 1, .ptr 60109018 1 i 0, .osl 80119 1 0 1, .fn (.func 149) [] [.ptr 60106 1 0 0, .ptr 60103 1 0 0], by omega, by omega, by omega, by omega, ?_, W4, W5, rfl, W7, .inr ⟨80119, 1, rfl, by omega, by omega, ?_⟩⟩ (fun o ho => by repeat (first | rfl | rw [Heap.set_ne _ _ (by omega)]))
    · simp only [jn]
      rfl
    · simp [actN, actM, hk3]
      rfl
  · have k3' := eq_false hk3
    rw [il_text (C := C4) Tryz.func92 rfl Tryz.results92 (show (C4).M.loc 92 = _ from fq92.1) (by kernel_rfl)]
    simp -implicitDefEqProofs -dsimp +contextual (maxSteps := 9999999) (disch := first | omega | simp only [go_sem] <;> omega | refine ib ?_; kernel_rfl) only [go_sem, seval, ↓reduceIte, W1, W2, W3, W4, W5, W6, W7, row, hi, g1, g6, rowsG_start, hrow, List.set_set, k3']
    rw [il_text (C := C4) Tryz.func149 rfl Tryz.results149 (show (C4).M.loc 149 = _ from fq149.1) (by kernel_rfl)]
    simp -implicitDefEqProofs -dsimp +contextual (maxSteps := 9999999) (disch := first | omega | simp only [go_sem] <;> omega | refine ib ?_; kernel_rfl) only [go_sem, seval, ↓reduceIte, W1, W2, W3, W4, W5, W6, W7, g2, g3, g4, g5]
    refine k _ ⟨60109015, 60109016, 60109018, 60109022, 1, 1, 1, 1, .ptr 60109018 1 i 0, .osl 80119 1 0 1, .fn (.func 149) [] [.ptr 60106 1 0 0, .ptr 60103 1 0 0], by omega, by omega, by omega, by omega, ?_, W4, W5, rfl, W7, .inr ⟨80119, 1, rfl, by omega, by omega, ?_⟩⟩ (fun o ho => by repeat (first | rfl | rw [Heap.set_ne _ _ (by omega)]))
    · simp only [jn]
      rfl
    · simp [actN, actM, hk3]
      rfl
theorem farC_eq (n : Nd) (key : Nat) (f o : En) : farC n key f o = (decide (o.name = n.me.name) || !decide (validR n.gateI n.gateK o n.clock = 0) || !decide (distR key o.id < distR key f.id)) := rfl
theorem il_nearerC (n : Nd) (id : Int) (i : Nat) (hi : i < n.jobs.length) (hk : n.jobs[i].key.length ≤ 10000) (from_ owner : En) (hf : from_.id ≤ 18446744073709551615) (ho1 : owner.ok) (ho2 : owner.name.length ≤ 10000) (ho3 : owner.tag.length ≤ 10000) (hgk : n.gateK.length ≤ 10000) (H : Heap) (hW : WorkC H n id (.ptr 60109018 1 i 0)) (hF : FreR H 240000) (K : AVal × Heap → Option Res) (R : Option Res)
    (k : ∀ H', (∀ o, (o < 240000 ∨ 260000 ≤ o) → H' o = H o) → K (.bool (!farC n (keyI n.jobs[i].key) from_ owner), H') = R) : @kB _ _ (il C4 93 [.ptr 60111 1 0 0, .agg [.str from_.name, .int .u64 (from_.id : Int), .int .i64 from_.fr, .int .i64 from_.un, .int .i64 from_.ix, .str from_.tag], .agg [.str owner.name, .int .u64 (owner.id : Int), .int .i64 owner.fr, .int .i64 owner.un, .int .i64 owner.ix, .str owner.tag]] H) ⟨K⟩ = R := by
  obtain ⟨W1, W2, W3, W4, W5, W6, W7⟩ := hW
  have row := jb_row n.jobs i hi
  have g1 := hF 240104 (by omega); have g2 := hF 240105 (by omega); have g3 := hF 240107 (by omega)
  have e1 := e45 n.gateI n.gateK owner n.clock ho1 ho2 ho3 hgk
  have e2 := e158 (keyI n.jobs[i].key) owner.id (idB_lt _) ho1.id
  have e3 := e158 (keyI n.jobs[i].key) from_.id (idB_lt _) hf
  rw [farC_eq] at k
  have pl := fun c0 c1 c2 c3 c4 c5 c6 c7 c8 c9 c10 c11 c12 c13 c14 c15 c16 c17 c18 c19 c20 c21 r0 r1 r2 r3 r4 r5 r7 r8 r9 r10 r11 r12 r13 r14 r15 r16 r17 r18 r19 r20 r21 r22 r23 r24 r25 r26 r27 r28 X F => ePlace c0 c1 c2 c3 c4 c5 c6 c7 c8 c9 c10 c11 c12 c13 c14 c15 c16 c17 c18 c19 c20 c21 r0 r1 r2 r3 r4 r5 r7 r8 r9 r10 r11 r12 r13 r14 r15 r16 r17 r18 r19 r20 r21 r22 r23 r24 r25 r26 r27 r28 X F n.jobs[i].key hk
  generalize hq : keyI n.jobs[i].key = q at *
  have hfr : ∀ (a b c : Am.Obj), ∀ o, (o < 240000 ∨ 260000 ≤ o) → (((H.set 240104 a).set 240105 b).set 240107 c) o = H o := fun a b c o ho => by rw [Heap.set_ne _ _ (by omega), Heap.set_ne _ _ (by omega), Heap.set_ne _ _ (by omega)]
  by_cases h1 : owner.name = n.me.name
  · have h1' := eq_true h1
    rw [il_text (C := C4) Tryz.func93 rfl Tryz.results93 (show (C4).M.loc 93 = _ from fq93.1) (by kernel_rfl)]
    simp -implicitDefEqProofs -dsimp +contextual (maxSteps := 9999999) (disch := first | omega | simp only [go_sem] <;> omega | refine ib ?_; kernel_rfl) only [go_sem, seval, ↓reduceIte, W1, W2, W3, W4, W5, W6, W7, row, hi, g1, g2, g3, e1, e2, e3, pl, h1']
    have fc : (!(decide (owner.name = n.me.name) || !decide (validR n.gateI n.gateK owner n.clock = 0) || !decide (distR q owner.id < distR q from_.id))) = false := by simp [h1]
    rw [fc] at k
    exact k _ (hfr _ _ _)
  · have h1' := eq_false h1
    by_cases h2 : validR n.gateI n.gateK owner n.clock = 0
    · have h2' := eq_true h2
      rw [il_text (C := C4) Tryz.func93 rfl Tryz.results93 (show (C4).M.loc 93 = _ from fq93.1) (by kernel_rfl)]
      simp -implicitDefEqProofs -dsimp +contextual (maxSteps := 9999999) (disch := first | omega | simp only [go_sem] <;> omega | refine ib ?_; kernel_rfl) only [go_sem, seval, ↓reduceIte, W1, W2, W3, W4, W5, W6, W7, row, hi, g1, g2, g3, e1, e2, e3, pl, h1', h2']
      have fc : (!(decide (owner.name = n.me.name) || !decide (validR n.gateI n.gateK owner n.clock = 0) || !decide (distR q owner.id < distR q from_.id))) = decide (distR q owner.id < distR q from_.id) := by simp [h1, h2]
      rw [fc] at k
      exact k _ (hfr _ _ _)
    · have h2' := eq_false h2
      rw [il_text (C := C4) Tryz.func93 rfl Tryz.results93 (show (C4).M.loc 93 = _ from fq93.1) (by kernel_rfl)]
      simp -implicitDefEqProofs -dsimp +contextual (maxSteps := 9999999) (disch := first | omega | simp only [go_sem] <;> omega | refine ib ?_; kernel_rfl) only [go_sem, seval, ↓reduceIte, W1, W2, W3, W4, W5, W6, W7, row, hi, g1, g2, g3, e1, e2, e3, pl, h1', h2']
      have fc : (!(decide (owner.name = n.me.name) || !decide (validR n.gateI n.gateK owner n.clock = 0) || !decide (distR q owner.id < distR q from_.id))) = false := by simp [h1, h2]
      rw [fc] at k
      exact k _ (hfr _ _ _)
theorem il_resultC (n : Nd) (id : Int) (i : Nat) (hi : i < n.jobs.length) (m : Ms) (H : Heap) (hW : WorkC H n id (.ptr 60109018 1 i 0)) (hF : FreR H 280000) (K : AVal × Heap → Option Res) (R : Option Res)
    (k : ∀ H', (∀ o, (o < 280000 ∨ 300000 ≤ o) → H' o = H o) → K (.tup [.agg (gotC n.jobs[i] m).1.cs, .bool (gotC n.jobs[i] m).2], H') = R) : @kB _ _ (il C4 104 [.ptr 60111 1 0 0, .agg [.int .i64 m.kind, .int .i64 m.rid, .int .i64 m.ver, .int .i64 m.err, .int .u64 (m.id : Int), .bool m.has, .bool m.gone, .str m.key, .str m.val, .slice 6 (m.ents.map En.cs), .slice 4 (m.items.map It.cs)]] H) ⟨K⟩ = R := by
  obtain ⟨W1, W2, W3, W4, W5, W6, W7⟩ := hW
  have row := jb_row n.jobs i hi
  have g1 := hF 280102 (by omega); have g2 := hF 280103 (by omega); have g3 := hF 280104 (by omega); have g4 := hF 280105 (by omega)
  unfold gotC at k
  generalize hj : n.jobs[i] = j at *
  by_cases k3 : j.kind = 3
  · rw [if_pos k3] at k
    have k3' := eq_true k3
    cases hh : m.has <;> rw [hh] at k <;> simp only [Bool.true_and, Bool.false_and] at k
    all_goals
      rw [il_text (C := C4) Tryz.func104 rfl Tryz.results104 (show (C4).M.loc 104 = _ from fq104.1) (by kernel_rfl)]
      simp -implicitDefEqProofs -dsimp +contextual (maxSteps := 9999999) (disch := first | omega | simp only [go_sem] <;> omega | refine ib ?_; kernel_rfl) only [go_sem, seval, ↓reduceIte, W1, W2, W3, W4, W5, W6, W7, row, hi, g1, g2, g3, g4, k3', hh]
      refine k _ (fun o ho => ?_)
      repeat (first | rfl | rw [Heap.set_ne _ _ (by omega)])
  · rw [if_neg k3] at k
    have k3' := eq_false k3
    by_cases k2 : j.kind = 2
    · rw [if_pos k2] at k
      have k2' := eq_true k2
      rw [il_text (C := C4) Tryz.func104 rfl Tryz.results104 (show (C4).M.loc 104 = _ from fq104.1) (by kernel_rfl)]
      simp -implicitDefEqProofs -dsimp +contextual (maxSteps := 9999999) (disch := first | omega | simp only [go_sem] <;> omega | refine ib ?_; kernel_rfl) only [go_sem, seval, ↓reduceIte, W1, W2, W3, W4, W5, W6, W7, row, hi, g1, g2, g3, g4, k2', k3']
      refine k _ (fun o ho => ?_)
      repeat (first | rfl | rw [Heap.set_ne _ _ (by omega)])
    · rw [if_neg k2] at k
      have k2' := eq_false k2
      rw [il_text (C := C4) Tryz.func104 rfl Tryz.results104 (show (C4).M.loc 104 = _ from fq104.1) (by kernel_rfl)]
      simp -implicitDefEqProofs -dsimp +contextual (maxSteps := 9999999) (disch := first | omega | simp only [go_sem] <;> omega | refine ib ?_; kernel_rfl) only [go_sem, seval, ↓reduceIte, W1, W2, W3, W4, W5, W6, W7, row, hi, g1, g2, g3, g4, k2', k3']
      refine k _ (fun o ho => ?_)
      repeat (first | rfl | rw [Heap.set_ne _ _ (by omega)])
theorem eActed (n : Nd) (id : Int) (m : Ms) (h : CliK n) : fn C4 25 [] [(aNd n), .int .i64 id, .agg [.int .i64 m.kind, .int .i64 m.rid, .int .i64 m.ver, .int .i64 m.err, .int .u64 (m.id : Int), .bool m.has, .bool m.gone, .str m.key, .str m.val, .slice 6 (m.ents.map En.cs), .slice 4 (m.items.map It.cs)]] = some (.tup [.agg (actedC n id m).1.cs, .slice 20 ((actedC n id m).2.map Ac.cs)], []) := by
  rw [fn_text (C := C4) Tryz.func25 rfl rfl Tryz.results25 (show (C4).M.loc 25 = _ from fq25.1) rfl rfl (by kernel_rfl)]
  simp -implicitDefEqProofs -dsimp +contextual (maxSteps := 9999999) (disch := first | omega | simp only [go_sem] <;> omega | refine ib ?_; kernel_rfl) only [go_sem, seval, ↓reduceIte]
  refine il_onC n id (h.md.le (by omega)) _ ?_ _ _ ?_ ?_
  · intro o ho; repeat (first | rfl | rw [Heap.set_ne _ _ (by omega)])
  · intro i H' hi hc W F hfr
    rw [actedC_at hi hc]
    have hid := cli_id hi hc
    have row := jb_row n.jobs i hi
    have b5 : H' 105 = ⟨1, .live, 11, [[.int .i64 m.kind, .int .i64 m.rid, .int .i64 m.ver, .int .i64 m.err, .int .u64 (m.id : Int), .bool m.has, .bool m.gone, .str m.key, .str m.val, .slice 6 (m.ents.map En.cs), .slice 4 (m.items.map It.cs)]], false⟩ := (hfr 105 (by omega)).trans rfl
    by_cases hp : n.jobs[i].phase = 2
    · rw [if_pos hp]
      have hp' := eq_true hp
      have W0 := W
      obtain ⟨W1, W2, W3, W4, W5, W6, W7⟩ := W0
      unfold actedJ
      by_cases he : m.err = 40 ∨ m.err = 41
      · rw [if_pos he]
        have ag := il_againC n id m.err i hi hid h
        rcases he with he | he
        all_goals
          simp -implicitDefEqProofs -dsimp +contextual (maxSteps := 9999999) (disch := first | omega | simp only [go_sem] <;> omega | refine ib ?_; kernel_rfl) only [go_sem, seval, ↓reduceIte, W1, W6, row, hi, hp', b5, he]
          rw [← he]
          refine ag _ W F _ _ fun H2 hE hfr2 => ?_
          obtain ⟨a, b, c, d, ga, gb, gc, gd, J, X, F', A1, A2, A3, A4, Y1, Y2, Y3, Y4, Y5, hX⟩ := hE
          have g4 : (H2 106).gen = 1 := by rw [hfr2 106 (by omega), hfr 106 (by omega)]; rfl
          have m4 : (H2 106).mode = .live := by rw [hfr2 106 (by omega), hfr 106 (by omega)]; rfl
          obtain ⟨r, hr, H4r⟩ : ∃ r : List AVal, r.length = 22 ∧ (H2 106).rows = [r] := by rw [hfr2 106 (by omega), hfr 106 (by omega)]; exact ⟨_, rfl, rfl⟩
          generalize againC n i id m.err = q at *
          obtain ⟨m', acts⟩ := q
          try simp only at Y1 Y2 Y3 Y4 Y5 hX
          have na : (a = 120102) = False := eq_false (by omega); have nb : (b = 120102) = False := eq_false (by omega); have nc : (c = 120102) = False := eq_false (by omega); have nd : (d = 120102) = False := eq_false (by omega)
          have na' : (a = 106) = False := eq_false (by omega); have nb' : (b = 106) = False := eq_false (by omega); have nc' : (c = 106) = False := eq_false (by omega); have nd' : (d = 106) = False := eq_false (by omega)
          rcases hX with ⟨rfl, rfl⟩ | ⟨x, gx, rfl, hx1, hx2, hX⟩
          · simp -implicitDefEqProofs -dsimp +contextual (maxSteps := 9999999) (disch := first | omega | simp only [go_sem] <;> omega | refine ib ?_; kernel_rfl) only [go_sem, seval, ↓reduceIte]
            rw [il_text (C := C4) Tryz.func71 rfl Tryz.results71 (show (C4).M.loc 71 = _ from fq71.1) (by kernel_rfl)]
            simp -implicitDefEqProofs -dsimp +contextual (maxSteps := 9999999) (disch := first | omega | simp only [go_sem] <;> omega | refine ib ?_; kernel_rfl) only [go_sem, seval, ↓reduceIte, Y1, Y2, Y3, Y4, Y5, g4, m4, hr, H4r, na, nb, nc, nd, na', nb', nc', nd']
          · have nx : (x = 120102) = False := eq_false (by omega); have nx' : (x = 106) = False := eq_false (by omega)
            simp -implicitDefEqProofs -dsimp +contextual (maxSteps := 9999999) (disch := first | omega | simp only [go_sem] <;> omega | refine ib ?_; kernel_rfl) only [go_sem, seval, ↓reduceIte]
            rw [il_text (C := C4) Tryz.func71 rfl Tryz.results71 (show (C4).M.loc 71 = _ from fq71.1) (by kernel_rfl)]
            simp -implicitDefEqProofs -dsimp +contextual (maxSteps := 9999999) (disch := first | omega | simp only [go_sem] <;> omega | refine ib ?_; kernel_rfl) only [go_sem, seval, ↓reduceIte, Y1, Y2, Y3, Y4, Y5, g4, m4, hr, H4r, na, nb, nc, nd, na', nb', nc', nd', nx, nx', hX]
      · rw [if_neg he]
        have he1 := eq_false (fun h' => he (.inl h'))
        have he2 := eq_false (fun h' => he (.inr h'))
        by_cases h0 : m.err = 0
        · rw [if_pos h0]
          have rs := il_resultC n id i hi m
          have st := il_settleC n id i hi hid (h.md.le (by omega)) (gotC n.jobs[i] m).1 (gotC n.jobs[i] m).2 0
          have h0' := eq_true h0
          simp -implicitDefEqProofs -dsimp +contextual (maxSteps := 9999999) (disch := first | omega | simp only [go_sem] <;> omega | refine ib ?_; kernel_rfl) only [go_sem, seval, ↓reduceIte, W1, W6, row, hi, hp', b5, he1, he2, h0']
          refine rs _ W (F.fre _ (by omega) (by omega)) _ _ fun H3 hfr3 => ?_
          have hfr' := fun o (ho : o < 60000) => (hfr3 o (by omega)).trans (hfr o ho)
          have g10 := (hfr3 110 (by omega)).trans (hfr 110 (by omega))
          generalize (gotC n.jobs[i] m).1 = x at *
          generalize (gotC n.jobs[i] m).2 = hs at *
          simp -implicitDefEqProofs -dsimp +contextual (maxSteps := 9999999) (disch := first | omega | simp only [go_sem] <;> omega | refine ib ?_; kernel_rfl) only [go_sem, seval, ↓reduceIte]
          refine st _ (W.far ?_) ?_ _ _ fun H2 hE hfr2 => ?_
          · intro o ho; exact (Heap.set_ne _ _ (by omega)).trans (hfr3 o (by omega))
          · intro o ho; exact (Heap.set_ne _ _ (by omega)).trans <| (hfr3 o (by omega)).trans (F o (by omega) (by omega))
          obtain ⟨a, b, c, d, ga, gb, gc, gd, J, X, F', A1, A2, A3, A4, Y1, Y2, Y3, Y4, Y5, hX⟩ := hE
          have g4 : (H2 106).gen = 1 := by rw [hfr2 106 (by omega), Heap.set_ne _ _ (by omega), hfr' 106 (by omega)]; rfl
          have m4 : (H2 106).mode = .live := by rw [hfr2 106 (by omega), Heap.set_ne _ _ (by omega), hfr' 106 (by omega)]; rfl
          obtain ⟨r, hr, H4r⟩ : ∃ r : List AVal, r.length = 22 ∧ (H2 106).rows = [r] := by rw [hfr2 106 (by omega), Heap.set_ne _ _ (by omega), hfr' 106 (by omega)]; exact ⟨_, rfl, rfl⟩
          generalize settleR n id x hs 0 = m' at *
          try simp only at Y1 Y2 Y3 Y4 Y5 hX
          have na : (a = 120102) = False := eq_false (by omega); have nb : (b = 120102) = False := eq_false (by omega); have nc : (c = 120102) = False := eq_false (by omega); have nd : (d = 120102) = False := eq_false (by omega)
          have na' : (a = 106) = False := eq_false (by omega); have nb' : (b = 106) = False := eq_false (by omega); have nc' : (c = 106) = False := eq_false (by omega); have nd' : (d = 106) = False := eq_false (by omega)
          rcases hX with ⟨rfl, _⟩ | ⟨x, gx, rfl, hx1, hx2, hX⟩
          · simp -implicitDefEqProofs -dsimp +contextual (maxSteps := 9999999) (disch := first | omega | simp only [go_sem] <;> omega | refine ib ?_; kernel_rfl) only [go_sem, seval, ↓reduceIte]
            rw [il_text (C := C4) Tryz.func71 rfl Tryz.results71 (show (C4).M.loc 71 = _ from fq71.1) (by kernel_rfl)]
            simp -implicitDefEqProofs -dsimp +contextual (maxSteps := 9999999) (disch := first | omega | simp only [go_sem] <;> omega | refine ib ?_; kernel_rfl) only [go_sem, seval, ↓reduceIte, Y1, Y2, Y3, Y4, Y5, g4, m4, hr, H4r, na, nb, nc, nd, na', nb', nc', nd']
          · have nx : (x = 120102) = False := eq_false (by omega); have nx' : (x = 106) = False := eq_false (by omega)
            simp -implicitDefEqProofs -dsimp +contextual (maxSteps := 9999999) (disch := first | omega | simp only [go_sem] <;> omega | refine ib ?_; kernel_rfl) only [go_sem, seval, ↓reduceIte]
            rw [il_text (C := C4) Tryz.func71 rfl Tryz.results71 (show (C4).M.loc 71 = _ from fq71.1) (by kernel_rfl)]
            simp -implicitDefEqProofs -dsimp +contextual (maxSteps := 9999999) (disch := first | omega | simp only [go_sem] <;> omega | refine ib ?_; kernel_rfl) only [go_sem, seval, ↓reduceIte, Y1, Y2, Y3, Y4, Y5, g4, m4, hr, H4r, na, nb, nc, nd, na', nb', nc', nd', nx, nx', hX]
        · rw [if_neg h0]
          have h0' := eq_false h0
          have fl := il_failC n id i hi hid (h.md.le (by omega)) m.err
          simp -implicitDefEqProofs -dsimp +contextual (maxSteps := 9999999) (disch := first | omega | simp only [go_sem] <;> omega | refine ib ?_; kernel_rfl) only [go_sem, seval, ↓reduceIte, W1, W6, row, hi, hp', b5, he1, he2, h0']
          refine fl _ W (F.fre _ (by omega) (by omega)) _ _ fun H2 hE hfr2 => ?_
          obtain ⟨a, b, c, d, ga, gb, gc, gd, J, X, F', A1, A2, A3, A4, Y1, Y2, Y3, Y4, Y5, hX⟩ := hE
          have g4 : (H2 106).gen = 1 := by rw [hfr2 106 (by omega), hfr 106 (by omega)]; rfl
          have m4 : (H2 106).mode = .live := by rw [hfr2 106 (by omega), hfr 106 (by omega)]; rfl
          obtain ⟨r, hr, H4r⟩ : ∃ r : List AVal, r.length = 22 ∧ (H2 106).rows = [r] := by rw [hfr2 106 (by omega), hfr 106 (by omega)]; exact ⟨_, rfl, rfl⟩
          generalize failC n id m.err = q at *
          obtain ⟨m', acts⟩ := q
          try simp only at Y1 Y2 Y3 Y4 Y5 hX
          have na : (a = 120102) = False := eq_false (by omega); have nb : (b = 120102) = False := eq_false (by omega); have nc : (c = 120102) = False := eq_false (by omega); have nd : (d = 120102) = False := eq_false (by omega)
          have na' : (a = 106) = False := eq_false (by omega); have nb' : (b = 106) = False := eq_false (by omega); have nc' : (c = 106) = False := eq_false (by omega); have nd' : (d = 106) = False := eq_false (by omega)
          rcases hX with ⟨rfl, rfl⟩ | ⟨x, gx, rfl, hx1, hx2, hX⟩
          · simp -implicitDefEqProofs -dsimp +contextual (maxSteps := 9999999) (disch := first | omega | simp only [go_sem] <;> omega | refine ib ?_; kernel_rfl) only [go_sem, seval, ↓reduceIte]
            rw [il_text (C := C4) Tryz.func71 rfl Tryz.results71 (show (C4).M.loc 71 = _ from fq71.1) (by kernel_rfl)]
            simp -implicitDefEqProofs -dsimp +contextual (maxSteps := 9999999) (disch := first | omega | simp only [go_sem] <;> omega | refine ib ?_; kernel_rfl) only [go_sem, seval, ↓reduceIte, Y1, Y2, Y3, Y4, Y5, g4, m4, hr, H4r, na, nb, nc, nd, na', nb', nc', nd']
          · have nx : (x = 120102) = False := eq_false (by omega); have nx' : (x = 106) = False := eq_false (by omega)
            simp -implicitDefEqProofs -dsimp +contextual (maxSteps := 9999999) (disch := first | omega | simp only [go_sem] <;> omega | refine ib ?_; kernel_rfl) only [go_sem, seval, ↓reduceIte]
            rw [il_text (C := C4) Tryz.func71 rfl Tryz.results71 (show (C4).M.loc 71 = _ from fq71.1) (by kernel_rfl)]
            simp -implicitDefEqProofs -dsimp +contextual (maxSteps := 9999999) (disch := first | omega | simp only [go_sem] <;> omega | refine ib ?_; kernel_rfl) only [go_sem, seval, ↓reduceIte, Y1, Y2, Y3, Y4, Y5, g4, m4, hr, H4r, na, nb, nc, nd, na', nb', nc', nd', nx, nx', hX]
    · rw [if_neg hp]
      have hp' := eq_false hp
      have W0 := W
      obtain ⟨W1, W2, W3, W4, W5, W6, W7⟩ := W0
      simp -implicitDefEqProofs -dsimp +contextual (maxSteps := 9999999) (disch := first | omega | simp only [go_sem] <;> omega | refine ib ?_; kernel_rfl) only [go_sem, seval, ↓reduceIte, W1, W6, row, hi, hp']
      obtain ⟨Y1, W2, W3, Y2, Y3, Y4, Y5⟩ := W
      have f1 := F 120102 (by omega) (by omega)
      have g4 : (H' 106).gen = 1 := by rw [hfr 106 (by omega)]; rfl
      have m4 : (H' 106).mode = .live := by rw [hfr 106 (by omega)]; rfl
      obtain ⟨r, hr, H4r⟩ : ∃ r : List AVal, r.length = 22 ∧ (H' 106).rows = [r] := by rw [hfr 106 (by omega)]; exact ⟨_, rfl, rfl⟩
      try simp -implicitDefEqProofs -dsimp +contextual (maxSteps := 9999999) (disch := first | omega | simp only [go_sem] <;> omega | refine ib ?_; kernel_rfl) only [go_sem, seval, ↓reduceIte]
      rw [il_text (C := C4) Tryz.func71 rfl Tryz.results71 (show (C4).M.loc 71 = _ from fq71.1) (by kernel_rfl)]
      simp -implicitDefEqProofs -dsimp +contextual (maxSteps := 9999999) (disch := first | omega | simp only [go_sem] <;> omega | refine ib ?_; kernel_rfl) only [go_sem, seval, ↓reduceIte, Y1, Y2, Y3, Y4, Y5, g4, m4, hr, H4r]
  · intro H' hc W F hfr
    rw [actedC_none hc]
    obtain ⟨Y1, W2, W3, Y2, Y3, Y4, Y5⟩ := W
    have f1 := F 120102 (by omega) (by omega)
    have g4 : (H' 106).gen = 1 := by rw [hfr 106 (by omega)]; rfl
    have m4 : (H' 106).mode = .live := by rw [hfr 106 (by omega)]; rfl
    obtain ⟨r, hr, H4r⟩ : ∃ r : List AVal, r.length = 22 ∧ (H' 106).rows = [r] := by rw [hfr 106 (by omega)]; exact ⟨_, rfl, rfl⟩
    try simp -implicitDefEqProofs -dsimp +contextual (maxSteps := 9999999) (disch := first | omega | simp only [go_sem] <;> omega | refine ib ?_; kernel_rfl) only [go_sem, seval, ↓reduceIte]
    rw [il_text (C := C4) Tryz.func71 rfl Tryz.results71 (show (C4).M.loc 71 = _ from fq71.1) (by kernel_rfl)]
    simp -implicitDefEqProofs -dsimp +contextual (maxSteps := 9999999) (disch := first | omega | simp only [go_sem] <;> omega | refine ib ?_; kernel_rfl) only [go_sem, seval, ↓reduceIte, Y1, Y2, Y3, Y4, Y5, g4, m4, hr, H4r]
theorem eFound (n : Nd) (id : Int) (from_ owner : En) (h : CliK n) (hf : from_.id ≤ 18446744073709551615) (ho1 : owner.ok) (ho2 : owner.name.length ≤ 10000) (ho3 : owner.tag.length ≤ 10000) (hgk : n.gateK.length ≤ 10000) : fn C4 23 [] [(aNd n), .int .i64 id, .agg [.str from_.name, .int .u64 (from_.id : Int), .int .i64 from_.fr, .int .i64 from_.un, .int .i64 from_.ix, .str from_.tag], .agg [.str owner.name, .int .u64 (owner.id : Int), .int .i64 owner.fr, .int .i64 owner.un, .int .i64 owner.ix, .str owner.tag]] = some (.tup [.agg (foundC n id from_ owner).1.cs, .slice 20 ((foundC n id from_ owner).2.map Ac.cs)], []) := by
  rw [fn_text (C := C4) Tryz.func23 rfl rfl Tryz.results23 (show (C4).M.loc 23 = _ from fq23.1) rfl rfl (by kernel_rfl)]
  simp -implicitDefEqProofs -dsimp +contextual (maxSteps := 9999999) (disch := first | omega | simp only [go_sem] <;> omega | refine ib ?_; kernel_rfl) only [go_sem, seval, ↓reduceIte]
  refine il_onC n id (h.md.le (by omega)) _ ?_ _ _ ?_ ?_
  · intro o ho; repeat (first | rfl | rw [Heap.set_ne _ _ (by omega)])
  · intro i H' hi hc W F hfr
    rw [foundC_at hi hc]
    have hid := cli_id hi hc
    have row := jb_row n.jobs i hi
    have hrow := fun J => set_at n.jobs i J hi
    have b6 : H' 106 = ⟨1, .live, 6, [[.str from_.name, .int .u64 (from_.id : Int), .int .i64 from_.fr, .int .i64 from_.un, .int .i64 from_.ix, .str from_.tag]], false⟩ := (hfr 106 (by omega)).trans rfl
    have b7 : H' 107 = ⟨1, .live, 6, [[.str owner.name, .int .u64 (owner.id : Int), .int .i64 owner.fr, .int .i64 owner.un, .int .i64 owner.ix, .str owner.tag]], false⟩ := (hfr 107 (by omega)).trans rfl
    obtain ⟨k1, k2⟩ := h.jk _ (List.getElem_mem hi)
    have w1 := e88 from_ n.jobs[i].owner
    have w2 := e88 owner from_
    have pl := fun c0 c1 c2 c3 c4 c5 c6 c7 c8 c9 c10 c11 c12 c13 c14 c15 c16 c17 c18 c19 c20 c21 r0 r1 r2 r3 r4 r5 r7 r8 r9 r10 r11 r12 r13 r14 r15 r16 r17 r18 r19 r20 r21 r22 r23 r24 r25 r26 r27 r28 X F => ePlace c0 c1 c2 c3 c4 c5 c6 c7 c8 c9 c10 c11 c12 c13 c14 c15 c16 c17 c18 c19 c20 c21 r0 r1 r2 r3 r4 r5 r7 r8 r9 r10 r11 r12 r13 r14 r15 r16 r17 r18 r19 r20 r21 r22 r23 r24 r25 r26 r27 r28 X F n.jobs[i].key k1
    have e2 := eCheckD n.me n.list (keyI n.jobs[i].key) owner (idB_lt _) h.me ho1.id (Nat.le_trans h.md.ll (by decide)) h.li
    have W0 := W
    obtain ⟨W1, W2, W3, W4, W5, W6, W7⟩ := W0
    have jl := h.md.jl
    have hji := h.ji _ (List.getElem_mem hi)
    have ac := il_actC n id i hi hid (h.md.le (by omega)) from_
    have fl := fun e => il_failC n id i hi hid (h.md.le (by omega)) e
    have nr := il_nearerC n id i hi k1 from_ owner hf ho1 ho2 ho3 hgk
    have ak := fun H => il_askC { n with jobs := n.jobs.set i { n.jobs[i] with hops := n.jobs[i].hops + 1 } } id i (by simpa using hi) (by simpa using hid) ((mid_setj i n.jobs[i] { n.jobs[i] with hops := n.jobs[i].hops + 1 } h.md (List.getElem_mem hi) rfl).le (by omega)) (by simpa using k1) owner H
    by_cases hp : n.jobs[i].phase = 1
    · have hp' := eq_true hp
      by_cases hw : from_.name = n.jobs[i].owner.name ∧ from_.id = n.jobs[i].owner.id
      · rw [if_pos ⟨hp, hw⟩]
        rw [decide_eq_true hw] at w1
        unfold foundJ
        by_cases ho : owner.name = from_.name ∧ owner.id = from_.id
        · rw [if_pos ho]
          rw [decide_eq_true ho] at w2
          by_cases hch : checkD n.me n.list (keyI n.jobs[i].key) owner = 0
          · rw [if_pos hch]
            rw [hch] at e2
            have ea : ((({ n with jobs := n.jobs.set i { n.jobs[i] with phase := 2 } } : Nd), [(⟨false, from_, actM n.jobs[i], 6, id⟩ : Ac)]) : Nd × List Ac) = actN n i n.jobs[i] from_ id := rfl
            rw [ea]
            clear ea
            generalize hj : n.jobs[i] = j at *
            simp -implicitDefEqProofs -dsimp +contextual (maxSteps := 9999999) (disch := first | omega | simp only [go_sem] <;> omega | refine ib ?_; kernel_rfl) only [go_sem, seval, ↓reduceIte, W1, W2, W3, W4, W5, W6, W7, row, hi, b6, b7, hp', w1, w2, pl, e2]
            refine ac _ W (F.fre _ (by omega) (by omega)) (F.fre _ (by omega) (by omega)) _ _ fun H2 hE hfr2 => ?_
            obtain ⟨a, b, c, d, ga, gb, gc, gd, J, X, F', A1, A2, A3, A4, Y1, Y2, Y3, Y4, Y5, hX⟩ := hE
            have g4 : (H2 108).gen = 1 := by rw [hfr2 108 (by omega), hfr 108 (by omega)]; rfl
            have m4 : (H2 108).mode = .live := by rw [hfr2 108 (by omega), hfr 108 (by omega)]; rfl
            obtain ⟨r, hr, H4r⟩ : ∃ r : List AVal, r.length = 22 ∧ (H2 108).rows = [r] := by rw [hfr2 108 (by omega), hfr 108 (by omega)]; exact ⟨_, rfl, rfl⟩
            generalize actN n i j from_ id = q at *
            obtain ⟨m', acts⟩ := q
            try simp only at Y1 Y2 Y3 Y4 Y5 hX
            have na : (a = 120102) = False := eq_false (by omega); have nb : (b = 120102) = False := eq_false (by omega); have nc : (c = 120102) = False := eq_false (by omega); have nd : (d = 120102) = False := eq_false (by omega)
            have na' : (a = 108) = False := eq_false (by omega); have nb' : (b = 108) = False := eq_false (by omega); have nc' : (c = 108) = False := eq_false (by omega); have nd' : (d = 108) = False := eq_false (by omega)
            rcases hX with ⟨rfl, rfl⟩ | ⟨x, gx, rfl, hx1, hx2, hX⟩
            · simp -implicitDefEqProofs -dsimp +contextual (maxSteps := 9999999) (disch := first | omega | simp only [go_sem] <;> omega | refine ib ?_; kernel_rfl) only [go_sem, seval, ↓reduceIte]
              rw [il_text (C := C4) Tryz.func71 rfl Tryz.results71 (show (C4).M.loc 71 = _ from fq71.1) (by kernel_rfl)]
              simp -implicitDefEqProofs -dsimp +contextual (maxSteps := 9999999) (disch := first | omega | simp only [go_sem] <;> omega | refine ib ?_; kernel_rfl) only [go_sem, seval, ↓reduceIte, Y1, Y2, Y3, Y4, Y5, g4, m4, hr, H4r, na, nb, nc, nd, na', nb', nc', nd']
            · have nx : (x = 120102) = False := eq_false (by omega); have nx' : (x = 108) = False := eq_false (by omega)
              simp -implicitDefEqProofs -dsimp +contextual (maxSteps := 9999999) (disch := first | omega | simp only [go_sem] <;> omega | refine ib ?_; kernel_rfl) only [go_sem, seval, ↓reduceIte]
              rw [il_text (C := C4) Tryz.func71 rfl Tryz.results71 (show (C4).M.loc 71 = _ from fq71.1) (by kernel_rfl)]
              simp -implicitDefEqProofs -dsimp +contextual (maxSteps := 9999999) (disch := first | omega | simp only [go_sem] <;> omega | refine ib ?_; kernel_rfl) only [go_sem, seval, ↓reduceIte, Y1, Y2, Y3, Y4, Y5, g4, m4, hr, H4r, na, nb, nc, nd, na', nb', nc', nd', nx, nx', hX]
          · rw [if_neg hch]
            have h42 : checkD n.me n.list (keyI n.jobs[i].key) owner = 42 := by
              unfold checkD at hch ⊢
              split
              · rename_i h0; exact absurd (if_pos h0) hch
              · rename_i h0
                rw [if_neg h0] at hch
                split
                · rfl
                · rename_i h1; exact absurd (if_neg h1) hch
            rw [h42] at e2
            generalize hj : n.jobs[i] = j at *
            simp -implicitDefEqProofs -dsimp +contextual (maxSteps := 9999999) (disch := first | omega | simp only [go_sem] <;> omega | refine ib ?_; kernel_rfl) only [go_sem, seval, ↓reduceIte, W1, W2, W3, W4, W5, W6, W7, row, hi, b6, b7, hp', w1, w2, pl, e2]
            refine fl _ _ W (F.fre _ (by omega) (by omega)) _ _ fun H2 hE hfr2 => ?_
            obtain ⟨a, b, c, d, ga, gb, gc, gd, J, X, F', A1, A2, A3, A4, Y1, Y2, Y3, Y4, Y5, hX⟩ := hE
            have g4 : (H2 108).gen = 1 := by rw [hfr2 108 (by omega), hfr 108 (by omega)]; rfl
            have m4 : (H2 108).mode = .live := by rw [hfr2 108 (by omega), hfr 108 (by omega)]; rfl
            obtain ⟨r, hr, H4r⟩ : ∃ r : List AVal, r.length = 22 ∧ (H2 108).rows = [r] := by rw [hfr2 108 (by omega), hfr 108 (by omega)]; exact ⟨_, rfl, rfl⟩
            generalize failC n id 42 = q at *
            obtain ⟨m', acts⟩ := q
            try simp only at Y1 Y2 Y3 Y4 Y5 hX
            have na : (a = 120102) = False := eq_false (by omega); have nb : (b = 120102) = False := eq_false (by omega); have nc : (c = 120102) = False := eq_false (by omega); have nd : (d = 120102) = False := eq_false (by omega)
            have na' : (a = 108) = False := eq_false (by omega); have nb' : (b = 108) = False := eq_false (by omega); have nc' : (c = 108) = False := eq_false (by omega); have nd' : (d = 108) = False := eq_false (by omega)
            rcases hX with ⟨rfl, rfl⟩ | ⟨x, gx, rfl, hx1, hx2, hX⟩
            · simp -implicitDefEqProofs -dsimp +contextual (maxSteps := 9999999) (disch := first | omega | simp only [go_sem] <;> omega | refine ib ?_; kernel_rfl) only [go_sem, seval, ↓reduceIte]
              rw [il_text (C := C4) Tryz.func71 rfl Tryz.results71 (show (C4).M.loc 71 = _ from fq71.1) (by kernel_rfl)]
              simp -implicitDefEqProofs -dsimp +contextual (maxSteps := 9999999) (disch := first | omega | simp only [go_sem] <;> omega | refine ib ?_; kernel_rfl) only [go_sem, seval, ↓reduceIte, Y1, Y2, Y3, Y4, Y5, g4, m4, hr, H4r, na, nb, nc, nd, na', nb', nc', nd']
            · have nx : (x = 120102) = False := eq_false (by omega); have nx' : (x = 108) = False := eq_false (by omega)
              simp -implicitDefEqProofs -dsimp +contextual (maxSteps := 9999999) (disch := first | omega | simp only [go_sem] <;> omega | refine ib ?_; kernel_rfl) only [go_sem, seval, ↓reduceIte]
              rw [il_text (C := C4) Tryz.func71 rfl Tryz.results71 (show (C4).M.loc 71 = _ from fq71.1) (by kernel_rfl)]
              simp -implicitDefEqProofs -dsimp +contextual (maxSteps := 9999999) (disch := first | omega | simp only [go_sem] <;> omega | refine ib ?_; kernel_rfl) only [go_sem, seval, ↓reduceIte, Y1, Y2, Y3, Y4, Y5, g4, m4, hr, H4r, na, nb, nc, nd, na', nb', nc', nd', nx, nx', hX]
        · rw [if_neg ho]
          rw [decide_eq_false ho] at w2
          by_cases h64 : 64 ≤ n.jobs[i].hops
          · rw [if_pos h64]
            generalize hj : n.jobs[i] = j at *
            simp -implicitDefEqProofs -dsimp +contextual (maxSteps := 9999999) (disch := first | omega | simp only [go_sem] <;> omega | refine ib ?_; kernel_rfl) only [go_sem, seval, ↓reduceIte, W1, W2, W3, W4, W5, W6, W7, row, hi, b6, b7, hp', w1, w2, h64]
            refine fl _ _ W (F.fre _ (by omega) (by omega)) _ _ fun H2 hE hfr2 => ?_
            obtain ⟨a, b, c, d, ga, gb, gc, gd, J, X, F', A1, A2, A3, A4, Y1, Y2, Y3, Y4, Y5, hX⟩ := hE
            have g4 : (H2 108).gen = 1 := by rw [hfr2 108 (by omega), hfr 108 (by omega)]; rfl
            have m4 : (H2 108).mode = .live := by rw [hfr2 108 (by omega), hfr 108 (by omega)]; rfl
            obtain ⟨r, hr, H4r⟩ : ∃ r : List AVal, r.length = 22 ∧ (H2 108).rows = [r] := by rw [hfr2 108 (by omega), hfr 108 (by omega)]; exact ⟨_, rfl, rfl⟩
            generalize failC n id 44 = q at *
            obtain ⟨m', acts⟩ := q
            try simp only at Y1 Y2 Y3 Y4 Y5 hX
            have na : (a = 120102) = False := eq_false (by omega); have nb : (b = 120102) = False := eq_false (by omega); have nc : (c = 120102) = False := eq_false (by omega); have nd : (d = 120102) = False := eq_false (by omega)
            have na' : (a = 108) = False := eq_false (by omega); have nb' : (b = 108) = False := eq_false (by omega); have nc' : (c = 108) = False := eq_false (by omega); have nd' : (d = 108) = False := eq_false (by omega)
            rcases hX with ⟨rfl, rfl⟩ | ⟨x, gx, rfl, hx1, hx2, hX⟩
            · simp -implicitDefEqProofs -dsimp +contextual (maxSteps := 9999999) (disch := first | omega | simp only [go_sem] <;> omega | refine ib ?_; kernel_rfl) only [go_sem, seval, ↓reduceIte]
              rw [il_text (C := C4) Tryz.func71 rfl Tryz.results71 (show (C4).M.loc 71 = _ from fq71.1) (by kernel_rfl)]
              simp -implicitDefEqProofs -dsimp +contextual (maxSteps := 9999999) (disch := first | omega | simp only [go_sem] <;> omega | refine ib ?_; kernel_rfl) only [go_sem, seval, ↓reduceIte, Y1, Y2, Y3, Y4, Y5, g4, m4, hr, H4r, na, nb, nc, nd, na', nb', nc', nd']
            · have nx : (x = 120102) = False := eq_false (by omega); have nx' : (x = 108) = False := eq_false (by omega)
              simp -implicitDefEqProofs -dsimp +contextual (maxSteps := 9999999) (disch := first | omega | simp only [go_sem] <;> omega | refine ib ?_; kernel_rfl) only [go_sem, seval, ↓reduceIte]
              rw [il_text (C := C4) Tryz.func71 rfl Tryz.results71 (show (C4).M.loc 71 = _ from fq71.1) (by kernel_rfl)]
              simp -implicitDefEqProofs -dsimp +contextual (maxSteps := 9999999) (disch := first | omega | simp only [go_sem] <;> omega | refine ib ?_; kernel_rfl) only [go_sem, seval, ↓reduceIte, Y1, Y2, Y3, Y4, Y5, g4, m4, hr, H4r, na, nb, nc, nd, na', nb', nc', nd', nx, nx', hX]
          · rw [if_neg h64]
            have h64' := eq_false h64
            generalize hj : n.jobs[i] = j at *
            simp -implicitDefEqProofs -dsimp +contextual (maxSteps := 9999999) (disch := first | omega | simp only [go_sem] <;> omega | refine ib ?_; kernel_rfl) only [go_sem, seval, ↓reduceIte, W1, W2, W3, W4, W5, W6, W7, row, hi, b6, b7, hp', w1, w2, h64']
            refine nr _ W (F.fre _ (by omega) (by omega)) _ _ fun H3 hfr3 => ?_
            have hfr' := fun o (ho : o < 60000) => (hfr3 o (by omega)).trans (hfr o ho)
            have W' : WorkC H3 n id (.ptr 60109018 1 i 0) := W.far fun o ho => hfr3 o (by omega)
            have F' : ∀ lo, 80000 ≤ lo → lo ≤ 220000 → FreR H3 lo := fun lo l1 l2 o ho => (hfr3 o (by omega)).trans (F o (by omega) (by omega))
            by_cases hfar : farC n (keyI j.key) from_ owner = true
            · rw [if_pos hfar]
              rw [hfar]
              simp -implicitDefEqProofs -dsimp +contextual (maxSteps := 9999999) (disch := first | omega | simp only [go_sem] <;> omega | refine ib ?_; kernel_rfl) only [go_sem, seval, ↓reduceIte]
              refine fl _ _ W' (F' _ (by omega) (by omega)) _ _ fun H2 hE hfr2 => ?_
              obtain ⟨a, b, c, d, ga, gb, gc, gd, J, X, F', A1, A2, A3, A4, Y1, Y2, Y3, Y4, Y5, hX⟩ := hE
              have g4 : (H2 108).gen = 1 := by rw [hfr2 108 (by omega), hfr' 108 (by omega)]; rfl
              have m4 : (H2 108).mode = .live := by rw [hfr2 108 (by omega), hfr' 108 (by omega)]; rfl
              obtain ⟨r, hr, H4r⟩ : ∃ r : List AVal, r.length = 22 ∧ (H2 108).rows = [r] := by rw [hfr2 108 (by omega), hfr' 108 (by omega)]; exact ⟨_, rfl, rfl⟩
              generalize failC n id 42 = q at *
              obtain ⟨m', acts⟩ := q
              try simp only at Y1 Y2 Y3 Y4 Y5 hX
              have na : (a = 120102) = False := eq_false (by omega); have nb : (b = 120102) = False := eq_false (by omega); have nc : (c = 120102) = False := eq_false (by omega); have nd : (d = 120102) = False := eq_false (by omega)
              have na' : (a = 108) = False := eq_false (by omega); have nb' : (b = 108) = False := eq_false (by omega); have nc' : (c = 108) = False := eq_false (by omega); have nd' : (d = 108) = False := eq_false (by omega)
              rcases hX with ⟨rfl, rfl⟩ | ⟨x, gx, rfl, hx1, hx2, hX⟩
              · simp -implicitDefEqProofs -dsimp +contextual (maxSteps := 9999999) (disch := first | omega | simp only [go_sem] <;> omega | refine ib ?_; kernel_rfl) only [go_sem, seval, ↓reduceIte]
                rw [il_text (C := C4) Tryz.func71 rfl Tryz.results71 (show (C4).M.loc 71 = _ from fq71.1) (by kernel_rfl)]
                simp -implicitDefEqProofs -dsimp +contextual (maxSteps := 9999999) (disch := first | omega | simp only [go_sem] <;> omega | refine ib ?_; kernel_rfl) only [go_sem, seval, ↓reduceIte, Y1, Y2, Y3, Y4, Y5, g4, m4, hr, H4r, na, nb, nc, nd, na', nb', nc', nd']
              · have nx : (x = 120102) = False := eq_false (by omega); have nx' : (x = 108) = False := eq_false (by omega)
                simp -implicitDefEqProofs -dsimp +contextual (maxSteps := 9999999) (disch := first | omega | simp only [go_sem] <;> omega | refine ib ?_; kernel_rfl) only [go_sem, seval, ↓reduceIte]
                rw [il_text (C := C4) Tryz.func71 rfl Tryz.results71 (show (C4).M.loc 71 = _ from fq71.1) (by kernel_rfl)]
                simp -implicitDefEqProofs -dsimp +contextual (maxSteps := 9999999) (disch := first | omega | simp only [go_sem] <;> omega | refine ib ?_; kernel_rfl) only [go_sem, seval, ↓reduceIte, Y1, Y2, Y3, Y4, Y5, g4, m4, hr, H4r, na, nb, nc, nd, na', nb', nc', nd', nx, nx', hX]
            · rw [if_neg hfar]
              rw [Bool.eq_false_iff.2 hfar]
              have c7 : H3 107 = ⟨1, .live, 6, [[.str owner.name, .int .u64 (owner.id : Int), .int .i64 owner.fr, .int .i64 owner.un, .int .i64 owner.ix, .str owner.tag]], false⟩ := (hfr3 107 (by omega)).trans b7
              have W0 := W'
              obtain ⟨V1, V2, V3, V4, V5, V6, V7⟩ := W0
              simp -implicitDefEqProofs -dsimp +contextual (maxSteps := 9999999) (disch := first | omega | simp only [go_sem] <;> omega | refine ib ?_; kernel_rfl) only [go_sem, seval, ↓reduceIte, V1, V2, V3, V4, V5, V6, V7, row, hi, c7, rowsG_start, hrow]
              refine ak _ (W'.set i _ ?_ ?_) ?_ ?_ _ _ fun H2 hE hfr2 => ?_
              · rfl
              · intro o ho; exact Heap.set_ne _ _ ho
              · intro o ho; rw [Heap.set_ne _ _ (by omega)]; exact F' _ (by omega) (by omega) o ho
              · intro o ho; rw [Heap.set_ne _ _ (by omega)]; exact F' _ (by omega) (by omega) o ho
              have hE : EndC (askC n i { j with hops := j.hops + 1 } owner id) H2 := by
                have := hE
                simp only [aNd, askC, List.getElem_set_self, List.set_set] at this
                exact this
              obtain ⟨a, b, c, d, ga, gb, gc, gd, J, X, F', A1, A2, A3, A4, Y1, Y2, Y3, Y4, Y5, hX⟩ := hE
              have g4 : (H2 108).gen = 1 := by rw [hfr2 108 (by omega), Heap.set_ne _ _ (by omega), hfr' 108 (by omega)]; rfl
              have m4 : (H2 108).mode = .live := by rw [hfr2 108 (by omega), Heap.set_ne _ _ (by omega), hfr' 108 (by omega)]; rfl
              obtain ⟨r, hr, H4r⟩ : ∃ r : List AVal, r.length = 22 ∧ (H2 108).rows = [r] := by rw [hfr2 108 (by omega), Heap.set_ne _ _ (by omega), hfr' 108 (by omega)]; exact ⟨_, rfl, rfl⟩
              generalize askC n i { j with hops := j.hops + 1 } owner id = q at *
              obtain ⟨m', acts⟩ := q
              try simp only at Y1 Y2 Y3 Y4 Y5 hX
              have na : (a = 120102) = False := eq_false (by omega); have nb : (b = 120102) = False := eq_false (by omega); have nc : (c = 120102) = False := eq_false (by omega); have nd : (d = 120102) = False := eq_false (by omega)
              have na' : (a = 108) = False := eq_false (by omega); have nb' : (b = 108) = False := eq_false (by omega); have nc' : (c = 108) = False := eq_false (by omega); have nd' : (d = 108) = False := eq_false (by omega)
              rcases hX with ⟨rfl, rfl⟩ | ⟨x, gx, rfl, hx1, hx2, hX⟩
              · simp -implicitDefEqProofs -dsimp +contextual (maxSteps := 9999999) (disch := first | omega | simp only [go_sem] <;> omega | refine ib ?_; kernel_rfl) only [go_sem, seval, ↓reduceIte]
                rw [il_text (C := C4) Tryz.func71 rfl Tryz.results71 (show (C4).M.loc 71 = _ from fq71.1) (by kernel_rfl)]
                simp -implicitDefEqProofs -dsimp +contextual (maxSteps := 9999999) (disch := first | omega | simp only [go_sem] <;> omega | refine ib ?_; kernel_rfl) only [go_sem, seval, ↓reduceIte, Y1, Y2, Y3, Y4, Y5, g4, m4, hr, H4r, na, nb, nc, nd, na', nb', nc', nd']
              · have nx : (x = 120102) = False := eq_false (by omega); have nx' : (x = 108) = False := eq_false (by omega)
                simp -implicitDefEqProofs -dsimp +contextual (maxSteps := 9999999) (disch := first | omega | simp only [go_sem] <;> omega | refine ib ?_; kernel_rfl) only [go_sem, seval, ↓reduceIte]
                rw [il_text (C := C4) Tryz.func71 rfl Tryz.results71 (show (C4).M.loc 71 = _ from fq71.1) (by kernel_rfl)]
                simp -implicitDefEqProofs -dsimp +contextual (maxSteps := 9999999) (disch := first | omega | simp only [go_sem] <;> omega | refine ib ?_; kernel_rfl) only [go_sem, seval, ↓reduceIte, Y1, Y2, Y3, Y4, Y5, g4, m4, hr, H4r, na, nb, nc, nd, na', nb', nc', nd', nx, nx', hX]
      · rw [if_neg (fun h' => hw h'.2)]
        rw [decide_eq_false hw] at w1
        generalize hj : n.jobs[i] = j at *
        simp -implicitDefEqProofs -dsimp +contextual (maxSteps := 9999999) (disch := first | omega | simp only [go_sem] <;> omega | refine ib ?_; kernel_rfl) only [go_sem, seval, ↓reduceIte, W1, W2, W3, W4, W5, W6, W7, row, hi, b6, b7, hp', w1]
        obtain ⟨Y1, W2, W3, Y2, Y3, Y4, Y5⟩ := W
        have f1 := F 120102 (by omega) (by omega)
        have g4 : (H' 108).gen = 1 := by rw [hfr 108 (by omega)]; rfl
        have m4 : (H' 108).mode = .live := by rw [hfr 108 (by omega)]; rfl
        obtain ⟨r, hr, H4r⟩ : ∃ r : List AVal, r.length = 22 ∧ (H' 108).rows = [r] := by rw [hfr 108 (by omega)]; exact ⟨_, rfl, rfl⟩
        try simp -implicitDefEqProofs -dsimp +contextual (maxSteps := 9999999) (disch := first | omega | simp only [go_sem] <;> omega | refine ib ?_; kernel_rfl) only [go_sem, seval, ↓reduceIte]
        rw [il_text (C := C4) Tryz.func71 rfl Tryz.results71 (show (C4).M.loc 71 = _ from fq71.1) (by kernel_rfl)]
        simp -implicitDefEqProofs -dsimp +contextual (maxSteps := 9999999) (disch := first | omega | simp only [go_sem] <;> omega | refine ib ?_; kernel_rfl) only [go_sem, seval, ↓reduceIte, Y1, Y2, Y3, Y4, Y5, g4, m4, hr, H4r]
    · rw [if_neg (fun h' => hp h'.1)]
      have hp' := eq_false hp
      generalize hj : n.jobs[i] = j at *
      simp -implicitDefEqProofs -dsimp +contextual (maxSteps := 9999999) (disch := first | omega | simp only [go_sem] <;> omega | refine ib ?_; kernel_rfl) only [go_sem, seval, ↓reduceIte, W1, W2, W3, W4, W5, W6, W7, row, hi, b6, b7, hp']
      obtain ⟨Y1, W2, W3, Y2, Y3, Y4, Y5⟩ := W
      have f1 := F 120102 (by omega) (by omega)
      have g4 : (H' 108).gen = 1 := by rw [hfr 108 (by omega)]; rfl
      have m4 : (H' 108).mode = .live := by rw [hfr 108 (by omega)]; rfl
      obtain ⟨r, hr, H4r⟩ : ∃ r : List AVal, r.length = 22 ∧ (H' 108).rows = [r] := by rw [hfr 108 (by omega)]; exact ⟨_, rfl, rfl⟩
      try simp -implicitDefEqProofs -dsimp +contextual (maxSteps := 9999999) (disch := first | omega | simp only [go_sem] <;> omega | refine ib ?_; kernel_rfl) only [go_sem, seval, ↓reduceIte]
      rw [il_text (C := C4) Tryz.func71 rfl Tryz.results71 (show (C4).M.loc 71 = _ from fq71.1) (by kernel_rfl)]
      simp -implicitDefEqProofs -dsimp +contextual (maxSteps := 9999999) (disch := first | omega | simp only [go_sem] <;> omega | refine ib ?_; kernel_rfl) only [go_sem, seval, ↓reduceIte, Y1, Y2, Y3, Y4, Y5, g4, m4, hr, H4r]
  · intro H' hc W F hfr
    rw [foundC_none hc]
    obtain ⟨Y1, W2, W3, Y2, Y3, Y4, Y5⟩ := W
    have f1 := F 120102 (by omega) (by omega)
    have g4 : (H' 108).gen = 1 := by rw [hfr 108 (by omega)]; rfl
    have m4 : (H' 108).mode = .live := by rw [hfr 108 (by omega)]; rfl
    obtain ⟨r, hr, H4r⟩ : ∃ r : List AVal, r.length = 22 ∧ (H' 108).rows = [r] := by rw [hfr 108 (by omega)]; exact ⟨_, rfl, rfl⟩
    try simp -implicitDefEqProofs -dsimp +contextual (maxSteps := 9999999) (disch := first | omega | simp only [go_sem] <;> omega | refine ib ?_; kernel_rfl) only [go_sem, seval, ↓reduceIte]
    rw [il_text (C := C4) Tryz.func71 rfl Tryz.results71 (show (C4).M.loc 71 = _ from fq71.1) (by kernel_rfl)]
    simp -implicitDefEqProofs -dsimp +contextual (maxSteps := 9999999) (disch := first | omega | simp only [go_sem] <;> omega | refine ib ?_; kernel_rfl) only [go_sem, seval, ↓reduceIte, Y1, Y2, Y3, Y4, Y5, g4, m4, hr, H4r]
end Go.Proofs.YtnpkhdjgedeppaaGreatDoor
namespace Go.Proofs.YtnpkhdjgedeppaaGreatDoor
set_option maxHeartbeats 64000000
open Go.Am
set_option linter.unusedSimpArgs false
set_option linter.unusedVariables false
set_option maxRecDepth 100000
end Go.Proofs.YtnpkhdjgedeppaaGreatDoor
namespace Go.Proofs.YtnpkhdjgedeppaaGreatDoor
set_option maxHeartbeats 64000000
open Go.Am
set_option linter.unusedSimpArgs false
set_option linter.unusedVariables false
set_option maxRecDepth 100000
attribute [local irreducible] distR idB sumB
structure AloneOk (n : Nd) (key val : List UInt8) : Prop where
  l : n.list = []
  j : n.jobs = []
  r : n.ready = true
  k : keyR key = true
  v : val.length ≤ 32
  room : (getR n.items key).2 = true ∨ n.items.length < 16
  n0 : 0 ≤ (getR n.items key).1.n
  n1 : (getR n.items key).1.n ≤ 1000
end Go.Proofs.YtnpkhdjgedeppaaGreatDoor
namespace Go.Proofs.YtnpkhdjgedeppaaGreatDoor
set_option maxHeartbeats 64000000
open Go.Am
set_option linter.unusedSimpArgs false
set_option linter.unusedVariables false
set_option maxRecDepth 100000
def resG (r : Rs) : Bool := decide (300 < r.key.length) || decide (300 < r.val.length)
@[go_sem] theorem e10 (n : Nd) (h : n.fit) : fn C 10 [] [.agg [.str n.me.name, .int .u64 (n.me.id : Int), .int .i64 n.me.fr, .int .i64 n.me.un, .int .i64 n.me.ix, .str n.me.tag, .int .i64 n.clock, .str n.psk, .int .i64 n.gateI, .str n.gateK, .bool n.ready, .slice 8 (n.pred.map Pr.cs), .slice 8 (n.list.map Pr.cs), .slice 9 (n.fingers.map Fg.cs), .slice 20 (n.sessions.map Se.cs), .slice 23 (n.pends.map Pd.cs), .slice 4 (n.items.map It.cs), .slice 29 (n.jobs.map Jb.cs), .int .i64 n.rid, .int .i64 n.jobId, .slice 1 (n.draws.map u64Row), .slice 8 (n.results.map Rs.cs)]] = some (.bool (greatN n), []) := by
  rw [fn_text Tryz.func10 rfl rfl Tryz.results10 fq10.1 rfl rfl (by kernel_rfl)]
  have hme1 := h.me.n
  have hme2 := h.me.t
  obtain ⟨h1, h2, h3, h4, h5, h6, h7, h8, h9, h10, h11, h12, h13, h14, h15, h16, h17, h18, h19, h20⟩ := h
  rcases Bool.eq_false_or_eq_true (greatE n.me) with b1 | b1
  · simp -implicitDefEqProofs -dsimp +contextual (maxSteps := 9999999) (disch := first | omega | simp only [go_sem] <;> omega | refine ib ?_; kernel_rfl) only [go_sem, seval, ↓reduceIte, b1]
    simp [greatN, b1]
  by_cases b2 : 300 < n.psk.length
  · simp -implicitDefEqProofs -dsimp +contextual (maxSteps := 9999999) (disch := first | omega | simp only [go_sem] <;> omega | refine ib ?_; kernel_rfl) only [go_sem, seval, ↓reduceIte, b1, b2]
    simp [greatN, b2]
  by_cases b3 : 300 < n.gateK.length
  · simp -implicitDefEqProofs -dsimp +contextual (maxSteps := 9999999) (disch := first | omega | simp only [go_sem] <;> omega | refine ib ?_; kernel_rfl) only [go_sem, seval, ↓reduceIte, b1, b2, b3]
    simp [greatN, b3]
  rcases Bool.eq_false_or_eq_true (greatPs n.pred) with b4 | b4
  · simp -implicitDefEqProofs -dsimp +contextual (maxSteps := 9999999) (disch := first | omega | simp only [go_sem] <;> omega | refine ib ?_; kernel_rfl) only [go_sem, seval, ↓reduceIte, b1, b2, b3, b4, h5]
    simp [greatN, b4]
  rcases Bool.eq_false_or_eq_true (greatPs n.list) with b5 | b5
  · simp -implicitDefEqProofs -dsimp +contextual (maxSteps := 9999999) (disch := first | omega | simp only [go_sem] <;> omega | refine ib ?_; kernel_rfl) only [go_sem, seval, ↓reduceIte, b1, b2, b3, b4, b5, h5, h7]
    simp [greatN, b5]
  by_cases b6 : 70 < n.fingers.length
  · simp -implicitDefEqProofs -dsimp +contextual (maxSteps := 9999999) (disch := first | omega | simp only [go_sem] <;> omega | refine ib ?_; kernel_rfl) only [go_sem, seval, ↓reduceIte, b1, b2, b3, b4, b5, b6, h5, h7]
    simp [greatN, b6]
  rcases Bool.eq_false_or_eq_true (greatSs n.sessions) with b7 | b7
  · simp -implicitDefEqProofs -dsimp +contextual (maxSteps := 9999999) (disch := first | omega | simp only [go_sem] <;> omega | refine ib ?_; kernel_rfl) only [go_sem, seval, ↓reduceIte, b1, b2, b3, b4, b5, b6, b7, h5, h7, h11]
    simp [greatN, b7]
  rcases Bool.eq_false_or_eq_true (greatPds n.pends) with b8 | b8
  · simp -implicitDefEqProofs -dsimp +contextual (maxSteps := 9999999) (disch := first | omega | simp only [go_sem] <;> omega | refine ib ?_; kernel_rfl) only [go_sem, seval, ↓reduceIte, b1, b2, b3, b4, b5, b6, b7, b8, h5, h7, h11, h13]
    simp [greatN, b8]
  rcases Bool.eq_false_or_eq_true (greatIs n.items) with b9 | b9
  · simp -implicitDefEqProofs -dsimp +contextual (maxSteps := 9999999) (disch := first | omega | simp only [go_sem] <;> omega | refine ib ?_; kernel_rfl) only [go_sem, seval, ↓reduceIte, b1, b2, b3, b4, b5, b6, b7, b8, b9, h5, h7, h11, h13, h15]
    simp [greatN, b9]
  by_cases b10 : 20 < n.jobs.length
  · simp -implicitDefEqProofs -dsimp +contextual (maxSteps := 9999999) (disch := first | omega | simp only [go_sem] <;> omega | refine ib ?_; kernel_rfl) only [go_sem, seval, ↓reduceIte, b1, b2, b3, b4, b5, b6, b7, b8, b9, b10, h5, h7, h11, h13, h15]
    simp [greatN, b10]
  by_cases b11 : 60 < n.draws.length
  · simp -implicitDefEqProofs -dsimp +contextual (maxSteps := 9999999) (disch := first | omega | simp only [go_sem] <;> omega | refine ib ?_; kernel_rfl) only [go_sem, seval, ↓reduceIte, b1, b2, b3, b4, b5, b6, b7, b8, b9, b10, b11, h5, h7, h11, h13, h15]
    simp [greatN, b11]
  by_cases b12 : 40 < n.results.length
  · simp -implicitDefEqProofs -dsimp +contextual (maxSteps := 9999999) (disch := first | omega | simp only [go_sem] <;> omega | refine ib ?_; kernel_rfl) only [go_sem, seval, ↓reduceIte, b1, b2, b3, b4, b5, b6, b7, b8, b9, b10, b11, b12, h5, h7, h11, h13, h15]
    simp [greatN, b12]
  simp -implicitDefEqProofs -dsimp +contextual (maxSteps := 9999999) (disch := first | omega | simp only [go_sem] <;> omega | refine ib ?_; kernel_rfl) only [go_sem, seval, ↓reduceIte, b1, b2, b3, b4, b5, b6, b7, b8, b9, b10, b11, b12, h5, h7, h11, h13, h15]
  refine kFor n.fingers.length (fun i f H => f 1 = .ptr 101 1 0 0 ∧ f 3 = .int .i64 (i : Nat) ∧ H 101 = ⟨1, .live, 22, [n.cs], false⟩ ∧ (n.fingers.take i).any (fun x => greatE x.p.e) = false) ?_ ?_ ⟨rfl, rfl, rfl, rfl⟩
  · rintro i f H hi ⟨f1, f3, hH, ha⟩ ih
    have k1 := (h9 _ (List.getElem_mem hi)).l.n
    have k2 := (h9 _ (List.getElem_mem hi)).l.t
    simp -implicitDefEqProofs -dsimp +contextual (maxSteps := 9999999) (disch := first | omega | simp only [go_sem] <;> omega | refine ib ?_; kernel_rfl) only [go_sem, seval, ↓reduceIte, f1, f3, hH, hi, Nd.cs]
    (repeat' (refine kD_intro (fun _ => ?_) (fun _ => ?_)))
    · rename_i g; simp [greatN, any_at (p := fun x : Fg => greatE x.p.e) hi g]
    · rename_i g; exact ih _ _ ⟨f1, rfl, hH, any_take hi ha (by simpa using g)⟩
  rintro f H ⟨f1, f3, hH, ha⟩
  simp -implicitDefEqProofs -dsimp +contextual (maxSteps := 9999999) (disch := first | omega | simp only [go_sem] <;> omega | refine ib ?_; kernel_rfl) only [go_sem, seval, ↓reduceIte, f1, f3, hH, Nd.cs]
  have a1 := any_end ha
  refine kFor n.jobs.length (fun i f H => f 1 = .ptr 101 1 0 0 ∧ f 4 = .int .i64 (i : Nat) ∧ H 101 = ⟨1, .live, 22, [n.cs], false⟩ ∧ (n.jobs.take i).any greatJ = false) ?_ ?_ ⟨f1, rfl, hH, rfl⟩
  · rintro i f H hi ⟨f1, f4, hH, ha⟩ ih
    obtain ⟨k1, k2, ⟨k3, k4⟩, ⟨k5, k6⟩, ⟨k7, k8⟩, k9, k10⟩ := h17 _ (List.getElem_mem hi)
    have big : greatJ n.jobs[i] = true → greatN n = true := fun g => by simp [greatN, any_at hi g]
    by_cases c1 : 300 < n.jobs[i].key.length
    · simp -implicitDefEqProofs -dsimp +contextual (maxSteps := 9999999) (disch := first | omega | simp only [go_sem] <;> omega | refine ib ?_; kernel_rfl) only [go_sem, seval, ↓reduceIte, f1, f4, hH, hi, Nd.cs, c1]
      rw [big (by simp [greatJ, c1])]
    by_cases c2 : 300 < n.jobs[i].val.length
    · simp -implicitDefEqProofs -dsimp +contextual (maxSteps := 9999999) (disch := first | omega | simp only [go_sem] <;> omega | refine ib ?_; kernel_rfl) only [go_sem, seval, ↓reduceIte, f1, f4, hH, hi, Nd.cs, c1, c2]
      rw [big (by simp [greatJ, c2])]
    by_cases c3 : 300 < n.jobs[i].item.k.length
    · simp -implicitDefEqProofs -dsimp +contextual (maxSteps := 9999999) (disch := first | omega | simp only [go_sem] <;> omega | refine ib ?_; kernel_rfl) only [go_sem, seval, ↓reduceIte, f1, f4, hH, hi, Nd.cs, c1, c2, c3]
      rw [big (by simp [greatJ, c3])]
    by_cases c4 : 300 < n.jobs[i].item.v.length
    · simp -implicitDefEqProofs -dsimp +contextual (maxSteps := 9999999) (disch := first | omega | simp only [go_sem] <;> omega | refine ib ?_; kernel_rfl) only [go_sem, seval, ↓reduceIte, f1, f4, hH, hi, Nd.cs, c1, c2, c3, c4]
      rw [big (by simp [greatJ, c4])]
    rcases Bool.eq_false_or_eq_true (greatE n.jobs[i].owner) with c5 | c5
    · simp -implicitDefEqProofs -dsimp +contextual (maxSteps := 9999999) (disch := first | omega | simp only [go_sem] <;> omega | refine ib ?_; kernel_rfl) only [go_sem, seval, ↓reduceIte, f1, f4, hH, hi, Nd.cs, c1, c2, c3, c4, c5]
      rw [big (by simp [greatJ, c5])]
    rcases Bool.eq_false_or_eq_true (greatE n.jobs[i].back) with c6 | c6
    · simp -implicitDefEqProofs -dsimp +contextual (maxSteps := 9999999) (disch := first | omega | simp only [go_sem] <;> omega | refine ib ?_; kernel_rfl) only [go_sem, seval, ↓reduceIte, f1, f4, hH, hi, Nd.cs, c1, c2, c3, c4, c5, c6]
      rw [big (by simp [greatJ, c6])]
    by_cases c7 : 30 < n.jobs[i].asked.length
    · simp -implicitDefEqProofs -dsimp +contextual (maxSteps := 9999999) (disch := first | omega | simp only [go_sem] <;> omega | refine ib ?_; kernel_rfl) only [go_sem, seval, ↓reduceIte, f1, f4, hH, hi, Nd.cs, c1, c2, c3, c4, c5, c6, c7]
      rw [big (by simp [greatJ, c7])]
    simp -implicitDefEqProofs -dsimp +contextual (maxSteps := 9999999) (disch := first | omega | simp only [go_sem] <;> omega | refine ib ?_; kernel_rfl) only [go_sem, seval, ↓reduceIte, f1, f4, hH, hi, Nd.cs, c1, c2, c3, c4, c5, c6, c7]
    refine kFor n.jobs[i].asked.length (fun k f H => f 1 = .ptr 101 1 0 0 ∧ f 4 = .int .i64 (i : Nat) ∧ f 6 = .int .i64 (k : Nat) ∧ H 101 = ⟨1, .live, 22, [n.cs], false⟩ ∧ (∃ g, f 5 = .ptr 105 g 0 0 ∧ H 105 = ⟨g, .live, 29, [n.jobs[i].cs], false⟩) ∧ (n.jobs[i].asked.take k).any (fun a => decide (1000 < a.length)) = false) ?_ ?_ ⟨f1, f4, rfl, by simp [Heap.set, hH], ⟨_, rfl, rfl⟩, rfl⟩
    · rintro k f H hk ⟨f1, f4, f6, hH, ⟨g, f5, hG⟩, hb⟩ ih2
      have q1 := k10 _ (List.getElem_mem hk)
      simp -implicitDefEqProofs -dsimp +contextual (maxSteps := 9999999) (disch := first | omega | simp only [go_sem] <;> omega | refine ib ?_; kernel_rfl) only [go_sem, seval, ↓reduceIte, f1, f4, f5, f6, hH, hG, hk, hi]
      (repeat' (refine kD_intro (fun _ => ?_) (fun _ => ?_)))
      · rename_i g'; rw [big (by simp [greatJ, any_at (p := fun a : List UInt8 => decide (1000 < a.length)) hk (by simpa using g')])]
      · rename_i g'; exact ih2 _ _ ⟨f1, f4, rfl, hH, ⟨g, f5, hG⟩, any_take hk hb (by simpa using g')⟩
    · rintro f H ⟨f1, f4, f6, hH, ⟨g, f5, hG⟩, hb⟩
      simp -implicitDefEqProofs -dsimp +contextual (maxSteps := 9999999) (disch := first | omega | simp only [go_sem] <;> omega | refine ib ?_; kernel_rfl) only [go_sem, seval, ↓reduceIte, f1, f4, f5, f6, hH, hG, hi]
      exact ih _ _ ⟨f1, rfl, hH, any_take hi ha (by simp [greatJ, c1, c2, c3, c4, c5, c6, c7, any_end hb])⟩
  rintro f H ⟨f1, f4, hH, ha⟩
  simp -implicitDefEqProofs -dsimp +contextual (maxSteps := 9999999) (disch := first | omega | simp only [go_sem] <;> omega | refine ib ?_; kernel_rfl) only [go_sem, seval, ↓reduceIte, f1, f4, hH, Nd.cs]
  have a2 := any_end ha
  refine kFor n.results.length (fun i f H => f 1 = .ptr 101 1 0 0 ∧ f 7 = .int .i64 (i : Nat) ∧ H 101 = ⟨1, .live, 22, [n.cs], false⟩ ∧ (n.results.take i).any resG = false) ?_ ?_ ⟨f1, rfl, hH, rfl⟩
  · rintro i f H hi ⟨f1, f7, hH, ha⟩ ih
    have k1 := (h20 _ (List.getElem_mem hi)).k
    have k2 := (h20 _ (List.getElem_mem hi)).v
    have big : resG n.results[i] = true → greatN n = true := fun g => by
      have := any_at hi g
      unfold resG at this
      simp [greatN, this]
    simp -implicitDefEqProofs -dsimp +contextual (maxSteps := 9999999) (disch := first | omega | simp only [go_sem] <;> omega | refine ib ?_; kernel_rfl) only [go_sem, seval, ↓reduceIte, f1, f7, hH, hi, Nd.cs]
    (repeat' (refine kD_intro (fun _ => ?_) (fun _ => ?_)))
    · rename_i g; rw [big (by simp [resG, g])]
    · rename_i g g'; rw [big (by simp [resG, g'])]
    · rename_i g g'; exact ih _ _ ⟨f1, rfl, hH, any_take hi ha (by simp [resG]; omega)⟩
  rintro f H ⟨f1, f7, hH, ha⟩
  simp -implicitDefEqProofs -dsimp +contextual (maxSteps := 9999999) (disch := first | omega | simp only [go_sem] <;> omega | refine ib ?_; kernel_rfl) only [go_sem, seval, ↓reduceIte, f1, f7, hH, Nd.cs]
  have a3 := any_end ha
  unfold resG at a3
  simp [greatN, b1, b2, b3, b4, b5, b6, b7, b8, b9, b10, b11, b12, a1, a2, a3]
theorem Shs_split : ∀ {a b : List Shp} {xs : List AVal}, Shs (a ++ b) xs → ∃ x y, xs = x ++ y ∧ Shs a x ∧ Shs b y
  | [], _, xs, h => ⟨[], xs, rfl, rfl, h⟩
  | c :: a, b, xs, h => by
    simp only [List.cons_append, Shs] at h
    obtain ⟨v, as', rfl, h1, h2⟩ := h
    obtain ⟨x, y, rfl, h3, h4⟩ := Shs_split h2
    exact ⟨v :: x, y, rfl, by simp only [Shs]; exact ⟨v, x, rfl, h1, h3⟩, h4⟩
theorem rdU {z : Int} (h : (Lit.int .u64 z).wf = true) : ∃ n : Nat, z = (n : Int) ∧ n ≤ 18446744073709551615 := by
  have h := wf_u64 h
  obtain ⟨n, rfl⟩ := Int.eq_ofNat_of_zero_le h.1
  exact ⟨n, rfl, by omega⟩
theorem rdStr {xs : List AVal} (h : Shs [.s] xs) : ∃ l : List UInt8, xs = strRow l ∧ l.length ≤ 9223372036854775807 := by
  simp only [Shs, Sh] at h
  obtain ⟨_, _, rfl, ⟨l, rfl, hl⟩, rfl⟩ := h
  exact ⟨l, rfl, hl⟩
theorem rdNat {xs : List AVal} (h : Shs [.i .u64] xs) : ∃ n : Nat, xs = u64Row n ∧ n ≤ 18446744073709551615 := by
  simp only [Shs, Sh] at h
  obtain ⟨_, _, rfl, ⟨z, rfl, hz⟩, rfl⟩ := h
  obtain ⟨n, rfl, hn⟩ := rdU hz
  exact ⟨n, rfl, hn⟩
structure Wn.ok (x : Wn) : Prop where
  top : I64 x.top
  low : U64 x.low
  high : U64 x.high
def Wn.cs (x : Wn) : List AVal := [.int .i64 x.top, .int .u64 (x.low : Int), .int .u64 (x.high : Int)]
def shEn : List Shp := [.s, .i .u64, .i .i64, .i .i64, .i .i64, .s]
theorem rdEn {xs : List AVal} (h : Shs shEn xs) : ∃ x : En, xs = x.cs ∧ x.ok ∧ x.fit := by
  unfold shEn at h
  have p0 := h
  simp only [Shs, Sh] at p0
  obtain ⟨_, _, rfl, ⟨v_name, rfl, t_name⟩, _, _, rfl, ⟨v_id, rfl, k_id⟩, _, _, rfl, ⟨v_fr, rfl, k_fr⟩, _, _, rfl, ⟨v_un, rfl, k_un⟩, _, _, rfl, ⟨v_ix, rfl, k_ix⟩, _, _, rfl, ⟨v_tag, rfl, t_tag⟩, rfl⟩ := p0
  obtain ⟨v_id, rfl, u_id⟩ := rdU k_id
  have k_fr := wf_i64 k_fr
  have k_un := wf_i64 k_un
  have k_ix := wf_i64 k_ix
  exact ⟨⟨v_name, v_id, v_fr, v_un, v_ix, v_tag⟩, rfl, ⟨u_id, k_fr.1, k_fr.2, k_un.1, k_un.2, k_ix.1, k_ix.2⟩, ⟨t_name, t_tag⟩⟩
def shPr : List Shp := shEn ++ [.i .i64, .i .i64]
theorem rdPr {xs : List AVal} (h : Shs shPr xs) : ∃ x : Pr, xs = x.cs ∧ x.ok ∧ x.fit := by
  unfold shPr at h
  obtain ⟨x1, y1, rfl, p0, p1⟩ := Shs_split h
  obtain ⟨v_e, rfl, k_e, t_e⟩ := rdEn p0
  simp only [Shs, Sh] at p1
  obtain ⟨_, _, rfl, ⟨v_since, rfl, k_since⟩, _, _, rfl, ⟨v_under, rfl, k_under⟩, rfl⟩ := p1
  have k_since := wf_i64 k_since
  have k_under := wf_i64 k_under
  exact ⟨⟨v_e, v_since, v_under⟩, rfl, ⟨k_e, k_since.1, k_since.2, k_under.1, k_under.2⟩, ⟨t_e⟩⟩
def shFg : List Shp := [.i .i64] ++ shPr
theorem rdFg {xs : List AVal} (h : Shs shFg xs) : ∃ x : Fg, xs = x.cs ∧ x.ok ∧ x.p.fit := by
  unfold shFg at h
  obtain ⟨x1, y1, rfl, p0, p1⟩ := Shs_split h
  simp only [Shs, Sh] at p0
  obtain ⟨_, _, rfl, ⟨v_bit, rfl, k_bit⟩, rfl⟩ := p0
  have k_bit := wf_i64 k_bit
  obtain ⟨v_p, rfl, k_p, t_p⟩ := rdPr p1
  exact ⟨⟨v_bit, v_p⟩, rfl, ⟨k_bit, k_p⟩, t_p⟩
def shIt : List Shp := [.s, .s, .i .i64, .b]
theorem rdIt {xs : List AVal} (h : Shs shIt xs) : ∃ x : It, xs = x.cs ∧ x.ok ∧ x.fit := by
  unfold shIt at h
  have p0 := h
  simp only [Shs, Sh] at p0
  obtain ⟨_, _, rfl, ⟨v_k, rfl, t_k⟩, _, _, rfl, ⟨v_v, rfl, t_v⟩, _, _, rfl, ⟨v_n, rfl, k_n⟩, _, _, rfl, ⟨v_g, rfl⟩, rfl⟩ := p0
  have k_n := wf_i64 k_n
  exact ⟨⟨v_k, v_v, v_n, v_g⟩, rfl, ⟨k_n⟩, ⟨t_k, t_v⟩⟩
def shWn : List Shp := [.i .i64, .i .u64, .i .u64]
theorem rdWn {xs : List AVal} (h : Shs shWn xs) : ∃ x : Wn, xs = x.cs ∧ x.ok ∧ True := by
  unfold shWn at h
  have p0 := h
  simp only [Shs, Sh] at p0
  obtain ⟨_, _, rfl, ⟨v_top, rfl, k_top⟩, _, _, rfl, ⟨v_low, rfl, k_low⟩, _, _, rfl, ⟨v_high, rfl, k_high⟩, rfl⟩ := p0
  have k_top := wf_i64 k_top
  obtain ⟨v_low, rfl, u_low⟩ := rdU k_low
  obtain ⟨v_high, rfl, u_high⟩ := rdU k_high
  exact ⟨⟨v_top, v_low, v_high⟩, rfl, ⟨k_top, u_low, u_high⟩, trivial⟩
def shSe : List Shp := [.i .u64, .i .u64] ++ shEn ++ [.i .i64, .i .i64, .s, .s, .i .i64, .i .i64, .i .i64, .i .i64] ++ shWn ++ [.i .i64]
theorem rdSe {xs : List AVal} (h : Shs shSe xs) : ∃ x : Se, xs = x.cs ∧ x.ok ∧ x.fit := by
  unfold shSe at h
  obtain ⟨x4, y4, rfl, h4, p4⟩ := Shs_split h
  obtain ⟨x3, y3, rfl, h3, p3⟩ := Shs_split h4
  obtain ⟨x2, y2, rfl, h2, p2⟩ := Shs_split h3
  obtain ⟨x1, y1, rfl, p0, p1⟩ := Shs_split h2
  simp only [Shs, Sh] at p0
  obtain ⟨_, _, rfl, ⟨v_id, rfl, k_id⟩, _, _, rfl, ⟨v_nonce, rfl, k_nonce⟩, rfl⟩ := p0
  obtain ⟨v_id, rfl, u_id⟩ := rdU k_id
  obtain ⟨v_nonce, rfl, u_nonce⟩ := rdU k_nonce
  obtain ⟨v_peer, rfl, k_peer, t_peer⟩ := rdEn p1
  simp only [Shs, Sh] at p2
  obtain ⟨_, _, rfl, ⟨v_role, rfl, k_role⟩, _, _, rfl, ⟨v_state, rfl, k_state⟩, _, _, rfl, ⟨v_send, rfl, t_send⟩, _, _, rfl, ⟨v_hear, rfl, t_hear⟩, _, _, rfl, ⟨v_epoch, rfl, k_epoch⟩, _, _, rfl, ⟨v_count, rfl, k_count⟩, _, _, rfl, ⟨v_since, rfl, k_since⟩, _, _, rfl, ⟨v_seq, rfl, k_seq⟩, rfl⟩ := p2
  have k_role := wf_i64 k_role
  have k_state := wf_i64 k_state
  have k_epoch := wf_i64 k_epoch
  have k_count := wf_i64 k_count
  have k_since := wf_i64 k_since
  have k_seq := wf_i64 k_seq
  obtain ⟨v_seen, rfl, k_seen, t_seen⟩ := rdWn p3
  simp only [Shs, Sh] at p4
  obtain ⟨_, _, rfl, ⟨v_used, rfl, k_used⟩, rfl⟩ := p4
  have k_used := wf_i64 k_used
  exact ⟨⟨v_id, v_nonce, v_peer, v_role, v_state, v_send, v_hear, v_epoch, v_count, v_since, v_seq, v_seen, v_used⟩, rfl, ⟨u_id, u_nonce, k_peer, k_role, k_state, k_epoch, k_count, k_since, k_seq, k_seen.top, k_seen.low, k_seen.high, k_used⟩, ⟨t_peer, t_send, t_hear⟩⟩
def shMs : List Shp := [.i .i64, .i .i64, .i .i64, .i .i64, .i .u64, .b, .b, .s, .s, .sl 6 shEn, .sl 4 shIt]
theorem rdMs {xs : List AVal} (h : Shs shMs xs) : ∃ x : Ms, xs = x.cs ∧ x.ok ∧ x.fit := by
  unfold shMs at h
  have p0 := h
  simp only [Shs, Sh] at p0
  obtain ⟨_, _, rfl, ⟨v_kind, rfl, k_kind⟩, _, _, rfl, ⟨v_rid, rfl, k_rid⟩, _, _, rfl, ⟨v_ver, rfl, k_ver⟩, _, _, rfl, ⟨v_err, rfl, k_err⟩, _, _, rfl, ⟨v_id, rfl, k_id⟩, _, _, rfl, ⟨v_has, rfl⟩, _, _, rfl, ⟨v_gone, rfl⟩, _, _, rfl, ⟨v_key, rfl, t_key⟩, _, _, rfl, ⟨v_val, rfl, t_val⟩, _, _, rfl, ⟨v_ents, rfl, n_ents, r_ents⟩, _, _, rfl, ⟨v_items, rfl, n_items, r_items⟩, rfl⟩ := p0
  have k_kind := wf_i64 k_kind
  have k_rid := wf_i64 k_rid
  have k_ver := wf_i64 k_ver
  have k_err := wf_i64 k_err
  obtain ⟨v_id, rfl, u_id⟩ := rdU k_id
  obtain ⟨v_ents, rfl, q_ents⟩ := rows_map En.cs (fun x => x.ok ∧ x.fit) (fun r hr => rdEn (r_ents r hr))
  rw [List.length_map] at n_ents
  obtain ⟨v_items, rfl, q_items⟩ := rows_map It.cs (fun x => x.ok ∧ x.fit) (fun r hr => rdIt (r_items r hr))
  rw [List.length_map] at n_items
  exact ⟨⟨v_kind, v_rid, v_ver, v_err, v_id, v_has, v_gone, v_key, v_val, v_ents, v_items⟩, rfl, ⟨k_kind, k_rid, k_ver, k_err, u_id, fun x hx => (q_ents x hx).1, fun x hx => (q_items x hx).1⟩, ⟨t_key, t_val, n_ents, n_items, fun x hx => (q_ents x hx).2, fun x hx => (q_items x hx).2⟩⟩
def shPd : List Shp := [.i .i64, .i .i64, .i .i64, .i .i64, .i .i64, .i .u64] ++ shEn ++ shMs
theorem rdPd {xs : List AVal} (h : Shs shPd xs) : ∃ x : Pd, xs = x.cs ∧ x.ok ∧ x.fit := by
  unfold shPd at h
  obtain ⟨x2, y2, rfl, h2, p2⟩ := Shs_split h
  obtain ⟨x1, y1, rfl, p0, p1⟩ := Shs_split h2
  simp only [Shs, Sh] at p0
  obtain ⟨_, _, rfl, ⟨v_rid, rfl, k_rid⟩, _, _, rfl, ⟨v_why, rfl, k_why⟩, _, _, rfl, ⟨v_job, rfl, k_job⟩, _, _, rfl, ⟨v_til, rfl, k_til⟩, _, _, rfl, ⟨v_tries, rfl, k_tries⟩, _, _, rfl, ⟨v_session, rfl, k_session⟩, rfl⟩ := p0
  have k_rid := wf_i64 k_rid
  have k_why := wf_i64 k_why
  have k_job := wf_i64 k_job
  have k_til := wf_i64 k_til
  have k_tries := wf_i64 k_tries
  obtain ⟨v_session, rfl, u_session⟩ := rdU k_session
  obtain ⟨v_to, rfl, k_to, t_to⟩ := rdEn p1
  obtain ⟨v_m, rfl, k_m, t_m⟩ := rdMs p2
  exact ⟨⟨v_rid, v_why, v_job, v_til, v_tries, v_session, v_to, v_m⟩, rfl, ⟨k_rid, k_why, k_job, k_til, k_tries, u_session, k_to, k_m⟩, ⟨t_to, t_m⟩⟩
def shJb : List Shp := [.i .i64, .i .i64, .i .i64, .i .i64, .i .i64, .i .i64, .s, .s] ++ shEn ++ shIt ++ [.i .i64, .i .i64, .sl 1 [.s]] ++ shEn ++ [.i .i64, .i .i64]
theorem rdJb {xs : List AVal} (h : Shs shJb xs) : ∃ x : Jb, xs = x.cs ∧ x.ok ∧ x.fit := by
  unfold shJb at h
  obtain ⟨x5, y5, rfl, h5, p5⟩ := Shs_split h
  obtain ⟨x4, y4, rfl, h4, p4⟩ := Shs_split h5
  obtain ⟨x3, y3, rfl, h3, p3⟩ := Shs_split h4
  obtain ⟨x2, y2, rfl, h2, p2⟩ := Shs_split h3
  obtain ⟨x1, y1, rfl, p0, p1⟩ := Shs_split h2
  simp only [Shs, Sh] at p0
  obtain ⟨_, _, rfl, ⟨v_id, rfl, k_id⟩, _, _, rfl, ⟨v_kind, rfl, k_kind⟩, _, _, rfl, ⟨v_phase, rfl, k_phase⟩, _, _, rfl, ⟨v_hops, rfl, k_hops⟩, _, _, rfl, ⟨v_tries, rfl, k_tries⟩, _, _, rfl, ⟨v_til, rfl, k_til⟩, _, _, rfl, ⟨v_key, rfl, t_key⟩, _, _, rfl, ⟨v_val, rfl, t_val⟩, rfl⟩ := p0
  have k_id := wf_i64 k_id
  have k_kind := wf_i64 k_kind
  have k_phase := wf_i64 k_phase
  have k_hops := wf_i64 k_hops
  have k_tries := wf_i64 k_tries
  have k_til := wf_i64 k_til
  obtain ⟨v_owner, rfl, k_owner, t_owner⟩ := rdEn p1
  obtain ⟨v_item, rfl, k_item, t_item⟩ := rdIt p2
  simp only [Shs, Sh] at p3
  obtain ⟨_, _, rfl, ⟨v_acks, rfl, k_acks⟩, _, _, rfl, ⟨v_waits, rfl, k_waits⟩, _, _, rfl, ⟨v_asked, rfl, n_asked, r_asked⟩, rfl⟩ := p3
  have k_acks := wf_i64 k_acks
  have k_waits := wf_i64 k_waits
  obtain ⟨v_asked, rfl, t_asked⟩ := rows_map strRow (fun l => l.length ≤ 9223372036854775807) (fun r hr => rdStr (r_asked r hr))
  rw [List.length_map] at n_asked
  obtain ⟨v_back, rfl, k_back, t_back⟩ := rdEn p4
  simp only [Shs, Sh] at p5
  obtain ⟨_, _, rfl, ⟨v_backRid, rfl, k_backRid⟩, _, _, rfl, ⟨v_backJob, rfl, k_backJob⟩, rfl⟩ := p5
  have k_backRid := wf_i64 k_backRid
  have k_backJob := wf_i64 k_backJob
  exact ⟨⟨v_id, v_kind, v_phase, v_hops, v_tries, v_til, v_key, v_val, v_owner, v_item, v_acks, v_waits, v_asked, v_back, v_backRid, v_backJob⟩, rfl, ⟨k_id, k_kind, k_phase, k_hops, k_tries, k_til, k_owner, k_item, k_acks, k_waits, k_back, k_backRid, k_backJob⟩, ⟨t_key, t_val, t_item, t_owner, t_back, n_asked, t_asked⟩⟩
def shRs : List Shp := [.i .i64, .i .i64, .i .i64, .s, .s, .b, .b, .i .i64]
theorem rdRs {xs : List AVal} (h : Shs shRs xs) : ∃ x : Rs, xs = x.cs ∧ x.ok ∧ x.fit := by
  unfold shRs at h
  have p0 := h
  simp only [Shs, Sh] at p0
  obtain ⟨_, _, rfl, ⟨v_job, rfl, k_job⟩, _, _, rfl, ⟨v_kind, rfl, k_kind⟩, _, _, rfl, ⟨v_ver, rfl, k_ver⟩, _, _, rfl, ⟨v_key, rfl, t_key⟩, _, _, rfl, ⟨v_val, rfl, t_val⟩, _, _, rfl, ⟨v_has, rfl⟩, _, _, rfl, ⟨v_gone, rfl⟩, _, _, rfl, ⟨v_err, rfl, k_err⟩, rfl⟩ := p0
  have k_job := wf_i64 k_job
  have k_kind := wf_i64 k_kind
  have k_ver := wf_i64 k_ver
  have k_err := wf_i64 k_err
  exact ⟨⟨v_job, v_kind, v_ver, v_key, v_val, v_has, v_gone, v_err⟩, rfl, ⟨k_job.1, k_job.2, k_kind.1, k_kind.2, k_ver.1, k_ver.2, k_err.1, k_err.2⟩, ⟨t_key, t_val⟩⟩
def shNd : List Shp := shEn ++ [.i .i64, .s, .i .i64, .s, .b, .sl 8 shPr, .sl 8 shPr, .sl 9 shFg, .sl 20 shSe, .sl 23 shPd, .sl 4 shIt, .sl 29 shJb, .i .i64, .i .i64, .sl 1 [.i .u64], .sl 8 shRs]
theorem rdNd {xs : List AVal} (h : Shs shNd xs) : ∃ x : Nd, xs = x.cs ∧ x.ok ∧ x.fit := by
  unfold shNd at h
  obtain ⟨x1, y1, rfl, p0, p1⟩ := Shs_split h
  obtain ⟨v_me, rfl, k_me, t_me⟩ := rdEn p0
  simp only [Shs, Sh] at p1
  obtain ⟨_, _, rfl, ⟨v_clock, rfl, k_clock⟩, _, _, rfl, ⟨v_psk, rfl, t_psk⟩, _, _, rfl, ⟨v_gateI, rfl, k_gateI⟩, _, _, rfl, ⟨v_gateK, rfl, t_gateK⟩, _, _, rfl, ⟨v_ready, rfl⟩, _, _, rfl, ⟨v_pred, rfl, n_pred, r_pred⟩, _, _, rfl, ⟨v_list, rfl, n_list, r_list⟩, _, _, rfl, ⟨v_fingers, rfl, n_fingers, r_fingers⟩, _, _, rfl, ⟨v_sessions, rfl, n_sessions, r_sessions⟩, _, _, rfl, ⟨v_pends, rfl, n_pends, r_pends⟩, _, _, rfl, ⟨v_items, rfl, n_items, r_items⟩, _, _, rfl, ⟨v_jobs, rfl, n_jobs, r_jobs⟩, _, _, rfl, ⟨v_rid, rfl, k_rid⟩, _, _, rfl, ⟨v_jobId, rfl, k_jobId⟩, _, _, rfl, ⟨v_draws, rfl, n_draws, r_draws⟩, _, _, rfl, ⟨v_results, rfl, n_results, r_results⟩, rfl⟩ := p1
  have k_clock := wf_i64 k_clock
  have k_gateI := wf_i64 k_gateI
  obtain ⟨v_pred, rfl, q_pred⟩ := rows_map Pr.cs (fun x => x.ok ∧ x.fit) (fun r hr => rdPr (r_pred r hr))
  rw [List.length_map] at n_pred
  obtain ⟨v_list, rfl, q_list⟩ := rows_map Pr.cs (fun x => x.ok ∧ x.fit) (fun r hr => rdPr (r_list r hr))
  rw [List.length_map] at n_list
  obtain ⟨v_fingers, rfl, q_fingers⟩ := rows_map Fg.cs (fun x => x.ok ∧ x.p.fit) (fun r hr => rdFg (r_fingers r hr))
  rw [List.length_map] at n_fingers
  obtain ⟨v_sessions, rfl, q_sessions⟩ := rows_map Se.cs (fun x => x.ok ∧ x.fit) (fun r hr => rdSe (r_sessions r hr))
  rw [List.length_map] at n_sessions
  obtain ⟨v_pends, rfl, q_pends⟩ := rows_map Pd.cs (fun x => x.ok ∧ x.fit) (fun r hr => rdPd (r_pends r hr))
  rw [List.length_map] at n_pends
  obtain ⟨v_items, rfl, q_items⟩ := rows_map It.cs (fun x => x.ok ∧ x.fit) (fun r hr => rdIt (r_items r hr))
  rw [List.length_map] at n_items
  obtain ⟨v_jobs, rfl, q_jobs⟩ := rows_map Jb.cs (fun x => x.ok ∧ x.fit) (fun r hr => rdJb (r_jobs r hr))
  rw [List.length_map] at n_jobs
  have k_rid := wf_i64 k_rid
  have k_jobId := wf_i64 k_jobId
  obtain ⟨v_draws, rfl, k_draws⟩ := rows_map u64Row U64 (fun r hr => rdNat (r_draws r hr))
  rw [List.length_map] at n_draws
  obtain ⟨v_results, rfl, q_results⟩ := rows_map Rs.cs (fun x => x.ok ∧ x.fit) (fun r hr => rdRs (r_results r hr))
  rw [List.length_map] at n_results
  exact ⟨⟨v_me, v_clock, v_psk, v_gateI, v_gateK, v_ready, v_pred, v_list, v_fingers, v_sessions, v_pends, v_items, v_jobs, v_rid, v_jobId, v_draws, v_results⟩, rfl, ⟨k_me, k_clock, k_gateI, fun x hx => (q_pred x hx).1, fun x hx => (q_list x hx).1, fun x hx => (q_fingers x hx).1, fun x hx => (q_sessions x hx).1, fun x hx => (q_pends x hx).1, fun x hx => (q_items x hx).1, fun x hx => (q_jobs x hx).1, k_rid, k_jobId, k_draws, fun x hx => (q_results x hx).1⟩, ⟨t_me, t_psk, t_gateK, n_pred, fun x hx => (q_pred x hx).2, n_list, fun x hx => (q_list x hx).2, n_fingers, fun x hx => (q_fingers x hx).2, n_sessions, fun x hx => (q_sessions x hx).2, n_pends, fun x hx => (q_pends x hx).2, n_items, fun x hx => (q_items x hx).2, n_jobs, fun x hx => (q_jobs x hx).2, n_draws, n_results, fun x hx => (q_results x hx).2⟩⟩
theorem Fg.eq_iff (x y : Fg) : x = y ↔ x.bit = y.bit ∧ (x.p.e.name = y.p.e.name ∧ x.p.e.id = y.p.e.id ∧ x.p.e.fr = y.p.e.fr ∧ x.p.e.un = y.p.e.un ∧ x.p.e.ix = y.p.e.ix ∧ x.p.e.tag = y.p.e.tag) ∧ x.p.since = y.p.since ∧ x.p.under = y.p.under := by
  obtain ⟨_, ⟨⟨⟩, _, _⟩⟩ := x; obtain ⟨_, ⟨⟨⟩, _, _⟩⟩ := y; simp
theorem Pr.eq_iff (x y : Pr) : x = y ↔ (x.e.name = y.e.name ∧ x.e.id = y.e.id ∧ x.e.fr = y.e.fr ∧ x.e.un = y.e.un ∧ x.e.ix = y.e.ix ∧ x.e.tag = y.e.tag) ∧ x.since = y.since ∧ x.under = y.under := by
  obtain ⟨⟨⟩, _, _⟩ := x; obtain ⟨⟨⟩, _, _⟩ := y; simp
theorem Rs.eq_iff (x y : Rs) : x = y ↔ x.job = y.job ∧ x.kind = y.kind ∧ x.ver = y.ver ∧ x.key = y.key ∧ x.val = y.val ∧ x.has = y.has ∧ x.gone = y.gone ∧ x.err = y.err := by
  cases x; cases y; simp
theorem Se.eq_iff (x y : Se) : x = y ↔ x.id = y.id ∧ x.nonce = y.nonce ∧ (x.peer.name = y.peer.name ∧ x.peer.id = y.peer.id ∧ x.peer.fr = y.peer.fr ∧ x.peer.un = y.peer.un ∧ x.peer.ix = y.peer.ix ∧ x.peer.tag = y.peer.tag) ∧ x.role = y.role ∧ x.state = y.state ∧ x.send = y.send ∧ x.hear = y.hear ∧ x.epoch = y.epoch ∧ x.count = y.count ∧ x.since = y.since ∧ x.seq = y.seq ∧ (x.seen.top = y.seen.top ∧ x.seen.low = y.seen.low ∧ x.seen.high = y.seen.high) ∧ x.used = y.used := by
  obtain ⟨_, _, ⟨⟩, _, _, _, _, _, _, _, _, ⟨⟩, _⟩ := x; obtain ⟨_, _, ⟨⟩, _, _, _, _, _, _, _, _, ⟨⟩, _⟩ := y; simp
theorem Ms.eq_iff (x y : Ms) : x = y ↔ x.kind = y.kind ∧ x.rid = y.rid ∧ x.ver = y.ver ∧ x.err = y.err ∧ x.id = y.id ∧ x.has = y.has ∧ x.gone = y.gone ∧ x.key = y.key ∧ x.val = y.val ∧ x.ents = y.ents ∧ x.items = y.items := by
  cases x; cases y; simp
theorem Pd.eq_iff (x y : Pd) : x = y ↔ x.rid = y.rid ∧ x.why = y.why ∧ x.job = y.job ∧ x.til = y.til ∧ x.tries = y.tries ∧ x.session = y.session ∧ x.to = y.to ∧ x.m = y.m := by
  cases x; cases y; simp
theorem Jb.eq_iff (x y : Jb) : x = y ↔ x.asked = y.asked ∧ (x.id = y.id ∧ x.kind = y.kind ∧ x.phase = y.phase ∧ x.hops = y.hops ∧ x.tries = y.tries ∧ x.til = y.til ∧ x.key = y.key ∧ x.val = y.val) ∧ x.owner = y.owner ∧ x.item = y.item ∧ x.acks = y.acks ∧ x.waits = y.waits ∧ x.back = y.back ∧ x.backRid = y.backRid ∧ x.backJob = y.backJob :=
  ⟨fun h => by subst h; simp, fun h => by cases x; cases y; simp_all⟩
structure Nd.cmp (n : Nd) : Prop where
  pl : n.pred.length ≤ 9223372036854775807
  ll : n.list.length ≤ 9223372036854775807
  fl : n.fingers.length ≤ 9223372036854775807
  sl : n.sessions.length ≤ 9223372036854775807
  dl : n.pends.length ≤ 9223372036854775807
  df : ∀ p ∈ n.pends, p.fit
  il : n.items.length ≤ 9223372036854775807
  jl : n.jobs.length ≤ 9223372036854775807
  ja : ∀ j ∈ n.jobs, j.asked.length ≤ 9223372036854775807
  wl : n.draws.length ≤ 9223372036854775807
  rl : n.results.length ≤ 9223372036854775807
theorem Nd.mid.cmp {n : Nd} {k : Nat} (h : n.mid k) (hk : k ≤ 9223372036854775807) (hd : ∀ p ∈ n.pends, p.fit) : n.cmp :=
  ⟨Nat.le_trans h.pl hk, Nat.le_trans h.ll hk, Nat.le_trans h.fl hk, Nat.le_trans h.sl hk, Nat.le_trans h.dl hk, hd, Nat.le_trans h.il hk, Nat.le_trans h.jl hk, fun j hj => Nat.le_trans (h.ja j hj) hk, Nat.le_trans h.wl hk, Nat.le_trans h.rl hk⟩
structure Nd.good (n : Nd) (k : Nat) : Prop where
  m : n.mid k
  d : ∀ p ∈ n.pends, p.fit
  j : ∀ j ∈ n.jobs, j.item.fit
def ActG (k : Nat) (l : List Ac) : Prop := l.length ≤ k ∧ ∀ a ∈ l, a.m.fit
theorem Nd.good.le {n : Nd} {k m : Nat} (h : n.good k) (hk : k ≤ m) : n.good m := ⟨h.m.le hk, h.d, h.j⟩
theorem ActG.le {l : List Ac} {k m : Nat} (h : ActG k l) (hk : k ≤ m) : ActG m l := ⟨Nat.le_trans h.1 hk, h.2⟩
theorem ActG.nil (k : Nat) : ActG k [] := ⟨Nat.zero_le _, fun a ha => by simp at ha⟩
theorem ActG.one {a : Ac} (h : a.m.fit) : ActG 1 [a] := ⟨Nat.le_refl _, fun b hb => by rw [List.mem_singleton] at hb; rw [hb]; exact h⟩
theorem ActG.app {a b : List Ac} {k m : Nat} (h1 : ActG k a) (h2 : ActG m b) : ActG (k + m) (a ++ b) :=
  ⟨by rw [List.length_append]; exact Nat.add_le_add h1.1 h2.1, fun x hx => by
    rcases List.mem_append.1 hx with hx | hx
    · exact h1.2 x hx
    · exact h2.2 x hx⟩
theorem doneA_fit (back : En) (rid : Int) (x : It) (e : Int) : (doneA back rid x e).m.fit :=
  ⟨Nat.zero_le _, Nat.zero_le _, Nat.zero_le _, Nat.zero_le _, fun e he => by simp [doneA, msZ] at he, fun x hx => by simp [doneA, msZ] at hx⟩
theorem copyA_fit (e : En) {x : It} (id : Int) (h : x.fit) : (copyA e x id).m.fit :=
  ⟨Nat.zero_le _, Nat.zero_le _, Nat.zero_le _, by show 1 ≤ 9223372036854775807; decide, fun e he => by simp [copyA, msZ] at he, fun y hy => by simp [copyA] at hy; rw [hy]; exact h⟩
theorem good_settle {n : Nd} {k : Nat} (id : Int) (x : It) (has : Bool) (e : Int) (h : n.good k) (hk : 16 ≤ k) : (settleR n id x has e).good k := by
  refine ⟨mid_settle id x has e h.m hk, ?_, ?_⟩
  · unfold settleR; split
    · exact h.d
    · exact h.d
  · unfold settleR; split
    · exact fun j hj => h.j j (List.mem_of_mem_eraseIdx hj)
    · exact h.j
theorem good_erase {n : Nd} {k : Nat} (i : Nat) (h : n.good k) : ({ n with jobs := n.jobs.eraseIdx i } : Nd).good k :=
  ⟨mid_erase i h.m, h.d, fun j hj => h.j j (List.mem_of_mem_eraseIdx hj)⟩
theorem good_set {n : Nd} {k : Nat} (i : Nat) (j : Jb) (h : n.good k) (ha : j.asked.length ≤ k) (hf : j.item.fit) : ({ n with jobs := n.jobs.set i j } : Nd).good k :=
  ⟨mid_set i j h.m ha, h.d, fun x hx => by
    rcases List.mem_or_eq_of_mem_set hx with hx | rfl
    · exact h.j x hx
    · exact hf⟩
theorem good_tell {n : Nd} {k : Nat} (back : En) (rid job : Int) (x : It) (has : Bool) (e : Int) (h : n.good k) (hk : 16 ≤ k) : (tellR n back rid job x has e).1.good k ∧ ActG 1 (tellR n back rid job x has e).2 := by
  unfold tellR; split
  · exact ⟨h, ActG.one (doneA_fit _ _ _ _)⟩
  · exact ⟨good_settle _ _ _ _ h hk, ActG.nil 1⟩
theorem askR_good (id : Int) : ∀ (l : List Pr) (j : Jb), j.item.fit → (askR id l j).1.asked.length ≤ j.asked.length + l.length ∧ (askR id l j).1.item = j.item ∧ ActG l.length (askR id l j).2
  | [], j, _ => ⟨Nat.le_refl _, rfl, ActG.nil 0⟩
  | p :: l, j, h => by
    unfold askR
    split
    · exact ⟨by simp, rfl, ActG.nil _⟩
    · split
      · have := askR_good id l j h
        exact ⟨Nat.le_trans this.1 (by simp), this.2.1, this.2.2.le (by simp)⟩
      · have := askR_good id l { j with waits := fewR j.waits + 1, asked := j.asked ++ [p.e.name] } h
        refine ⟨Nat.le_trans this.1 (by simp; omega), this.2.1, ?_⟩
        have := (ActG.one (copyA_fit p.e id h)).app this.2.2
        exact this.le (by simp; omega)
theorem good_moreFin {n : Nd} {k : Nat} (i : Nat) (id : Int) (j : Jb) (h : n.good k) (hk : 16 ≤ k) (ha : j.asked.length ≤ k) (hf : j.item.fit) : (moreFin n i (askR id n.list j)).1.good (k + k) ∧ ActG (k + 1) (moreFin n i (askR id n.list j)).2 := by
  have g := askR_good id n.list j hf
  have hl := h.m.ll
  unfold moreFin
  split
  · exact ⟨good_set i _ (h.le (by omega)) (Nat.le_trans g.1 (by omega)) (by rw [g.2.1]; exact hf), g.2.2.le (by omega)⟩
  · have t := good_tell (askR id n.list j).1.back (askR id n.list j).1.backRid (askR id n.list j).1.backJob (askR id n.list j).1.item (!(askR id n.list j).1.item.g) 0 (good_erase i h) hk
    exact ⟨t.1.le (by omega), (g.2.2.app t.2).le (by omega)⟩
theorem good_more {n : Nd} {k : Nat} (id : Int) (h : n.good k) (hk : 16 ≤ k) : (moreR n id).1.good (k + k) ∧ ActG (k + 1) (moreR n id).2 := by
  rcases copR_cases n.jobs id with ⟨i, hi, hc⟩ | hc
  · rw [moreR_at hi hc]
    exact good_moreFin i id _ h hk (h.m.ja _ (List.getElem_mem hi)) (h.j _ (List.getElem_mem hi))
  · rw [moreR_none hc]
    exact ⟨h.le (by omega), ActG.nil _⟩
theorem good_came {n : Nd} {k : Nat} (id : Int) (t : Bool) (h : n.good k) (hk : 16 ≤ k) : (cameR n id t).1.good (k + k) ∧ ActG (k + 1) (cameR n id t).2 := by
  unfold cameR
  rcases copR_cases n.jobs id with ⟨i, hi, hc⟩ | hc
  · rw [hc, if_pos (by omega), Int.toNat_natCast, jobG_at hi]
    exact good_more id (good_set i _ h (show n.jobs[i].asked.length ≤ k from h.m.ja _ (List.getElem_mem hi)) (show n.jobs[i].item.fit from h.j _ (List.getElem_mem hi))) hk
  · rw [hc, if_neg (by omega)]
    exact ⟨h.le (by omega), ActG.nil _⟩
theorem good_begun {n : Nd} {k : Nat} (key val : List UInt8) (gone : Bool) (back : En) (rid job : Int) (hk : key.length ≤ 9223372036854775807) (hv : val.length ≤ 9223372036854775807) (h : n.good k) (he : (putR n.items key val gone).2.2 = 0) : (begunR n key val gone back rid job).good (k + 1) := by
  refine ⟨mid_begun key val gone back rid job hk h.m, h.d, fun j hj => ?_⟩
  rcases List.mem_append.1 hj with hj | hj
  · exact h.j j hj
  · rw [List.mem_singleton] at hj
    rw [hj]
    show (putR n.items key val gone).2.1.fit
    unfold putR at he ⊢
    split
    · split
      · exact ⟨Nat.zero_le _, Nat.zero_le _⟩
      · split
        · exact ⟨Nat.zero_le _, Nat.zero_le _⟩
        · exact ⟨hk, by show (if gone = true then [] else val).length ≤ 9223372036854775807; split; exact Nat.zero_le _; exact hv⟩
    · exact ⟨Nat.zero_le _, Nat.zero_le _⟩
theorem good_begin {n : Nd} {k : Nat} (key val : List UInt8) (gone : Bool) (back : En) (rid job : Int) (hk : key.length ≤ 9223372036854775807) (hv : val.length ≤ 9223372036854775807) (h : n.good k) (hk2 : 16 ≤ k) : (beginR n key val gone back rid job).1.good (k + k + 2) ∧ ActG (k + 2) (beginR n key val gone back rid job).2 := by
  unfold beginR
  split
  · rename_i he
    have he : (putR n.items key val gone).2.2 = 0 := by
      unfold beginE at he; split at he
      · omega
      · exact he
    have g := good_more (nextI n.jobId) (good_begun key val gone back rid job hk hv h he) (by omega)
    exact ⟨g.1.le (by omega), g.2.le (by omega)⟩
  · have t := good_tell back rid job zeroIt false (beginE n key val gone) h hk2
    exact ⟨t.1.le (by omega), t.2.le (by omega)⟩
theorem gN_mid {n : Nd} (g : greatN n = false) : n.mid 70 := (greatN_no g).mid
theorem gN_good {n : Nd} (g : greatN n = false) (h : n.fit) : n.good 70 := ⟨gN_mid g, h.d, fun j hj => (h.j j hj).ik⟩
theorem hugeT {n : Nd} (h : ¬ (0 ≤ n.clock ∧ n.clock ≤ 1099511627776)) : (decide (n.clock < 0) || decide (1099511627776 < n.clock)) = true := by simp; omega
end Go.Proofs.YtnpkhdjgedeppaaGreatDoor
namespace Go.Proofs.YtnpkhdjgedeppaaGreatDoor
set_option maxHeartbeats 64000000
open Go.Am
set_option linter.unusedSimpArgs false
set_option linter.unusedVariables false
set_option maxRecDepth 100000
attribute [local irreducible] distR idB sumB
end Go.Proofs.YtnpkhdjgedeppaaGreatDoor
namespace Go.Proofs.YtnpkhdjgedeppaaGreatDoor
set_option maxHeartbeats 64000000
open Go.Am
set_option linter.unusedSimpArgs false
set_option linter.unusedVariables false
set_option maxRecDepth 100000
theorem e11 (n : Nd) (m : Ms) (h : m.fit) : fn C 11 [] [(aNd n), .agg [.int .i64 m.kind, .int .i64 m.rid, .int .i64 m.ver, .int .i64 m.err, .int .u64 (m.id : Int), .bool m.has, .bool m.gone, .str m.key, .str m.val, .slice 6 (m.ents.map En.cs), .slice 4 (m.items.map It.cs)]] = some (.bool (decide (n.clock < 0) || decide (1099511627776 < n.clock) || greatM m), []) := by
  rw [fn_text Tryz.func11 rfl rfl Tryz.results11 fq11.1 rfl rfl (by kernel_rfl)]
  simp -implicitDefEqProofs -dsimp +contextual (maxSteps := 9999999) (disch := first | omega | simp only [go_sem] <;> omega | refine ib ?_; kernel_rfl) only [go_sem, seval, ↓reduceIte]
  (repeat' (refine kD_intro (fun _ => ?_) (fun _ => ?_))) <;> exact Res_bool (by simp [*])
end Go.Proofs.YtnpkhdjgedeppaaGreatDoor
namespace Go.Proofs.YtnpkhdjgedeppaaGreatDoor
set_option maxHeartbeats 64000000
open Go.Am
set_option linter.unusedSimpArgs false
set_option linter.unusedVariables false
set_option maxRecDepth 100000
attribute [local irreducible] distR idB sumB
theorem findM_fit (k : List UInt8) : (findM k).fit := ⟨Nat.zero_le _, Nat.zero_le _, Nat.zero_le _, Nat.zero_le _, fun e he => by simp [findM, msZ] at he, fun x hx => by simp [findM, msZ] at hx⟩
theorem good_seekC {n : Nd} {k : Nat} (h : n.good k) (hk : 16 ≤ k) (i : Nat) (hi : i < n.jobs.length) (id : Int) (hj : n.jobs[i].key.length ≤ 9223372036854775807 ∧ n.jobs[i].val.length ≤ 9223372036854775807) : (seekC n i id).1.good (k + k + 2) ∧ ActG (k + k + 2) (seekC n i id).2 := by
  have ha := h.m.ja _ (List.getElem_mem hi)
  have hf := h.j _ (List.getElem_mem hi)
  unfold seekC
  rw [jobG_at hi]
  split
  · split
    · exact ⟨(good_settle _ _ _ _ h hk).le (by omega), ActG.nil _⟩
    · have b := good_begin n.jobs[i].key n.jobs[i].val (decide (n.jobs[i].kind = 2)) enZ 0 id hj.1 hj.2 (good_set i { n.jobs[i] with phase := 2 } h ha hf) hk
      exact ⟨b.1, b.2.le (by omega)⟩
  · exact ⟨(good_set i { n.jobs[i] with phase := 1, owner := _ } h ha hf).le (by omega), (ActG.one (findM_fit _)).le (by omega)⟩
theorem actM_fit (j : Jb) (hk : j.key.length ≤ 9223372036854775807) (hv : j.val.length ≤ 9223372036854775807) : (actM j).fit := by
  unfold actM
  split
  · exact ⟨hk, Nat.zero_le _, Nat.zero_le _, Nat.zero_le _, fun e he => by simp [msZ] at he, fun x hx => by simp [msZ] at hx⟩
  · exact ⟨hk, hv, Nat.zero_le _, Nat.zero_le _, fun e he => by simp [msZ] at he, fun x hx => by simp [msZ] at hx⟩
theorem good_failC {n : Nd} {k : Nat} (h : n.good k) (hk : 16 ≤ k) (id e : Int) : (failC n id e).1.good (k + k + 2) ∧ ActG (k + k + 2) (failC n id e).2 :=
  ⟨(good_settle _ _ _ _ h hk).le (by omega), ActG.nil _⟩
theorem good_againC {n : Nd} {k : Nat} (h : n.good k) (hk : 16 ≤ k) (i : Nat) (hi : i < n.jobs.length) (id why : Int) (hj : n.jobs[i].key.length ≤ 9223372036854775807 ∧ n.jobs[i].val.length ≤ 9223372036854775807) : (againC n i id why).1.good (k + k + 2) ∧ ActG (k + k + 2) (againC n i id why).2 := by
  have ha := h.m.ja _ (List.getElem_mem hi)
  have hf := h.j _ (List.getElem_mem hi)
  unfold againC
  rw [jobG_at hi]
  split
  · exact good_failC h hk id why
  · exact good_seekC (good_set i { n.jobs[i] with tries := n.jobs[i].tries + 1 } h ha hf) hk i (by simpa using hi) id (by simpa using hj)
theorem good_foundC {n : Nd} {k : Nat} (h : n.good k) (hk : 16 ≤ k) (id : Int) (from_ owner : En) (hj : ∀ j ∈ n.jobs, j.key.length ≤ 9223372036854775807 ∧ j.val.length ≤ 9223372036854775807) : (foundC n id from_ owner).1.good (k + k + 2) ∧ ActG (k + k + 2) (foundC n id from_ owner).2 := by
  rcases cliP_cases n.jobs id with ⟨i, hi, _, _, _, hc⟩ | ⟨hc, _⟩
  · rw [foundC_at hi hc]
    have ha := h.m.ja _ (List.getElem_mem hi)
    have hf := h.j _ (List.getElem_mem hi)
    obtain ⟨j1, j2⟩ := hj _ (List.getElem_mem hi)
    split
    · unfold foundJ
      split
      · split
        · exact ⟨(good_set i { n.jobs[i] with phase := 2 } h ha hf).le (by omega), (ActG.one (actM_fit _ j1 j2)).le (by omega)⟩
        · exact good_failC h hk id 42
      · split
        · exact good_failC h hk id 44
        · split
          · exact good_failC h hk id 42
          · exact ⟨(good_set i { n.jobs[i] with hops := n.jobs[i].hops + 1, phase := 1, owner := owner } h ha hf).le (by omega), (ActG.one (findM_fit _)).le (by omega)⟩
    · exact ⟨h.le (by omega), ActG.nil _⟩
  · rw [foundC_none hc]
    exact ⟨h.le (by omega), ActG.nil _⟩
theorem good_actedC {n : Nd} {k : Nat} (h : n.good k) (hk : 16 ≤ k) (id : Int) (m : Ms) (hj : ∀ j ∈ n.jobs, j.key.length ≤ 9223372036854775807 ∧ j.val.length ≤ 9223372036854775807) : (actedC n id m).1.good (k + k + 2) ∧ ActG (k + k + 2) (actedC n id m).2 := by
  rcases cliP_cases n.jobs id with ⟨i, hi, _, _, _, hc⟩ | ⟨hc, _⟩
  · rw [actedC_at hi hc]
    split
    · unfold actedJ
      split
      · exact good_againC h hk i hi id m.err (hj _ (List.getElem_mem hi))
      · split
        · exact ⟨(good_settle _ _ _ _ h hk).le (by omega), ActG.nil _⟩
        · exact good_failC h hk id m.err
    · exact ⟨h.le (by omega), ActG.nil _⟩
  · rw [actedC_none hc]
    exact ⟨h.le (by omega), ActG.nil _⟩
end Go.Proofs.YtnpkhdjgedeppaaGreatDoor
namespace Go.Proofs.YtnpkhdjgedeppaaGreatDoor
set_option maxHeartbeats 64000000
open Go.Am
set_option linter.unusedSimpArgs false
set_option linter.unusedVariables false
set_option maxRecDepth 100000
theorem eTaken (n : Nd) (id e : Int) (h : n.mid 100000) : fn C2 243 [] [(aNd n), .int .i64 id, .int .i64 e] = ndRes (cameR n id (decide (e = 0))) := by
  have ca := eCame n id (decide (e = 0)) h
  generalize cameR n id (decide (e = 0)) = q at ca ⊢
  obtain ⟨m, acts⟩ := q
  unfold ndRes at ca ⊢
  rw [Nd.ocs_eq] at ca ⊢
  rw [fn_text Tryz.func243 rfl rfl Tryz.results243 fq243.1 rfl rfl (by kernel_rfl)]
  simp -implicitDefEqProofs -dsimp +contextual (maxSteps := 9999999) (disch := first | omega | simp only [go_sem] <;> omega | refine ib ?_; kernel_rfl) only [go_sem, seval, ↓reduceIte, ca]
end Go.Proofs.YtnpkhdjgedeppaaGreatDoor
