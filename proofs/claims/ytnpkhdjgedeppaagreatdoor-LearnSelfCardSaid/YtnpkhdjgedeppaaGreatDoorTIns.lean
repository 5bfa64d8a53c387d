import Derived.Test.YtnpkhdjgedeppaaGreatDoorTCli4
import Derived.Test.YtnpkhdjgedeppaaGreatDoorRm
namespace Go.Proofs.YtnpkhdjgedeppaaGreatDoor
set_option maxHeartbeats 64000000
open Go.Am
set_option linter.unusedSimpArgs false
set_option linter.unusedVariables false
set_option maxRecDepth 100000
def insO : List Nat → List AVal → Option Res := fun _ ds => match ds with
  | [.usl 8 es, .int .i64 i, .usl 8 [p]] => gu (0 ≤ i ∧ i.toNat ≤ es.length) (gu (es.length ≤ 1000000) (gu (ones es = true ∧ es.all clos = true) (gu (p.length = 8 ∧ ones [p] = true ∧ [p].all clos = true) (some (.slice 8 (es.take i.toNat ++ p :: es.drop i.toNat), [])))))
  | _ => none
noncomputable def ownI : Own := fun f => none
noncomputable def CI : Cf := ⟨E, M, ownI⟩
@[go_sem] theorem CI_E : CI.E = E := rfl
@[go_sem] theorem CI_M : CI.M = M := rfl
@[go_sem] theorem CI_X : CI.X = ownI := rfl
@[go_sem] theorem goOv : E.P.goFn 236 = false := by kernel_rfl
@[go_sem] theorem nlIns : M.nl 186 = [] := by kernel_rfl
theorem exOv : E.P.exFn 236 = true := by kernel_rfl
@[go_sem] theorem exOv' : E.P.exFn 236 = true := exOv
theorem ovOk : OvF E.P 236 := ⟨_, 27, 4, 74, 8, Tryz.func236, by kernel_rfl, by kernel_rfl, by kernel_rfl, by kernel_rfl, by kernel_rfl, fun w => run_szO (by kernel_rfl)⟩
@[go_sem ↓] theorem ilOv {o1 g1 i1 n1 o2 g2 i2 n2 : Nat} {H : Heap} (K : AVal × Heap → Option Res) : @kB _ _ (il CI 236 [.osl o1 g1 i1 n1, .osl o2 g2 i2 n2] H) ⟨K⟩ =
    @kG _ (¬ o1 = o2) _ ⟨@kG _ (1 ≤ n1) _ ⟨@kG _ (1 ≤ n2) _ ⟨@kG _ ((H o1).gen = g1) _ ⟨@kG _ ((H o1).mode = .live) _ ⟨@kG _ (2 ≤ (H o1).st) _ ⟨@kG _ ((H o2).gen = g2) _ ⟨@kG _ ((H o2).mode = .live) _ ⟨@kG _ (2 ≤ (H o2).st) _ ⟨K (.bool false, H)⟩⟩⟩⟩⟩⟩⟩⟩⟩ := il_ov (C := CI) exOv ovOk K
theorem all_takeP {es : List (List AVal)} {i : Nat} (h : es.all clos = true) : (es.take i).all clos = true := List.all_eq_true.2 fun r hr => List.all_eq_true.1 h r (List.mem_of_mem_take hr)
theorem all_dropP {es : List (List AVal)} {i : Nat} (h : es.all clos = true) : (es.drop i).all clos = true := List.all_eq_true.2 fun r hr => List.all_eq_true.1 h r (List.mem_of_mem_drop hr)
theorem insFull (es : List (List AVal)) (p : List AVal) (i : Nat) (hi : i ≤ es.length) (hl : es.length ≤ 1000000) (h1 : ones es = true) (h2 : es.all clos = true) (h3 : p.length = 8) (h4 : ones [p] = true) (h5 : [p].all clos = true) :
    fnR CI 186 0 [.usl 8 es, .int .i64 i, .usl 8 [p]] = some (.slice 8 (es.take i ++ p :: es.drop i), []) := by
  rw [fnR_text (C := CI) Tryz.func186 rfl Tryz.results186 fq186.1 rfl rfl (by kernel_rfl)]
  by_cases h : i = es.length
  · subst h
    simp -implicitDefEqProofs -dsimp +contextual (maxSteps := 9999999) (disch := first | omega | simp only [go_sem] <;> omega | refine ib ?_; kernel_rfl) only [go_sem, seval, ↓reduceIte, h1, h2, h3, h4, h5, roomH]
  · have h6 : ones (es.drop i) = true := List.all_eq_true.2 fun r hr => List.all_eq_true.1 h1 r (List.mem_of_mem_drop hr)
    simp -implicitDefEqProofs -dsimp +contextual (maxSteps := 9999999) (disch := first | omega | simp only [go_sem] <;> omega | refine ib ?_; kernel_rfl) only [go_sem, seval, ↓reduceIte, h, hi, h1, h2, h3, h4, h5, h6, roomH]
    rw [if_pos (by omega), if_pos ⟨all_takeP h2, all_dropP h2⟩]
    simp
theorem roomRows {α : Type} (es R : List α) (p : α) (i : Nat) (hi : i < es.length) : List.take (es.length + 1) (List.take i (List.take (i + 1) (es ++ R) ++ List.drop i es ++ List.drop (i + 1 + (es.length - i)) (es ++ R)) ++ [p] ++
    List.drop (i + 1) (List.take (i + 1) (es ++ R) ++ List.drop i es ++ List.drop (i + 1 + (es.length - i)) (es ++ R))) = es.take i ++ p :: es.drop i := by
  generalize List.drop (i + 1 + (es.length - i)) (es ++ R) = Y
  have hl : (List.take (i + 1) (es ++ R)).length = i + 1 := by simp; omega
  have e1 : List.take i (List.take (i + 1) (es ++ R) ++ List.drop i es ++ Y) = es.take i := by
    rw [List.append_assoc, List.take_append_of_le_length (by omega), List.take_take, Nat.min_eq_left (by omega), List.take_append_of_le_length (by omega)]
  have e2 : List.drop (i + 1) (List.take (i + 1) (es ++ R) ++ List.drop i es ++ Y) = List.drop i es ++ Y := by
    rw [List.append_assoc, List.drop_left' hl]
  rw [e1, e2, ← List.append_assoc, List.take_left' (by simp; omega)]
  simp
theorem insRoom (es : List (List AVal)) (p : List AVal) (i n : Nat) (hn : 1 ≤ n) (hi : i ≤ es.length) (hl : es.length ≤ 1000000) (h1 : ones es = true) (h2 : es.all clos = true) (h3 : p.length = 8) (h4 : ones [p] = true) (h5 : [p].all clos = true) :
    fnR CI 186 n [.usl 8 es, .int .i64 i, .usl 8 [p]] = some (.slice 8 (es.take i ++ p :: es.drop i), []) := by
  rw [fnR_text (C := CI) Tryz.func186 rfl Tryz.results186 fq186.1 rfl rfl (by kernel_rfl)]
  have h6 : ones (es.drop i) = true := List.all_eq_true.2 fun r hr => List.all_eq_true.1 h1 r (List.mem_of_mem_drop hr)
  by_cases h : i = es.length
  · subst h
    simp -implicitDefEqProofs -dsimp +contextual (maxSteps := 9999999) (disch := first | omega | simp only [go_sem] <;> omega | refine ib ?_; kernel_rfl) only [go_sem, seval, ↓reduceIte, h1, h2, h3, h4, h5, roomH]
  · have h7 : List.take (es.length - i) (List.take (es.length + 1 - i) (List.drop i (es ++ List.replicate n (junkRow 8)))) = List.drop i es := by
      rw [List.take_take, Nat.min_eq_left (by omega), List.drop_append_of_le_length hi, List.take_append_of_le_length (by simp), List.take_of_length_le (by simp)]
    simp -implicitDefEqProofs -dsimp +contextual (maxSteps := 9999999) (disch := first | omega | simp only [go_sem] <;> omega | refine ib ?_; kernel_rfl) only [go_sem, seval, ↓reduceIte, h, hi, h1, h2, h3, h4, h5, h6, h7, roomH]
    rw [roomRows es (List.replicate n (junkRow 8)) p i (by omega)]
    rw [if_pos]
    rw [List.all_append, all_takeP h2, List.all_cons, all_dropP h2]
    simpa using h5
theorem ownI_ok : OwnOk E ownI := fun f g ex ds q hf _ => by cases hf
theorem insO_ok : ∀ ex ds q, insO ex ds = some q → SpecX E ex 186 ds q.1 q.2 := by
  intro ex ds q hq
  unfold insO at hq
  split at hq
  · rename_i es i p
    simp only [gu_some, Option.some.injEq] at hq
    obtain ⟨⟨h1, h2⟩, h3, ⟨h4, h5⟩, ⟨h6, h7, h8⟩, rfl⟩ := hq
    intro S w xs U _ hG hst hor hU hUb
    obtain ⟨i, rfl⟩ := Int.eq_ofNat_of_zero_le h1
    have hor' := hor
    obtain ⟨x, ys, U1, U2, rfl, rfl, ⟨a, cap, rfl, hle, _⟩, _⟩ := hor'
    have hi : i ≤ es.length := h2
    have hrun : fnR CI 186 (cap - es.length) [.usl 8 es, .int .i64 i, .usl 8 [p]] = some (.slice 8 (es.take i ++ p :: es.drop i), []) := by
      by_cases hn : cap - es.length = 0
      · rw [hn]; exact insFull es p i hi h3 h4 h5 h6 h7 h8
      · exact insRoom es p i _ (by omega) hi h3 h4 h5 h6 h7 h8
    exact fnR_sound (C := CI) mixed ownI_ok hrun (fun a' k cap' he => by
      simp only [List.getElem?_cons_zero, Option.some.injEq, Value.slice.injEq] at he
      obtain ⟨_, rfl, rfl⟩ := he
      omega) hG hst hor hU hUb
  · cases hq
noncomputable def ownP : Own := fun f => if f = 54 then some (cloneUO 8) else if f = 55 then some (cloneUO 9) else if f = 186 then some insO
  else if f ∈ [188, 124, 125, 122] then none else some (fun ex ds => fn C f ex ds)
theorem ownP_ok : OwnOk E ownP := by
  intro f g ex ds q hf hg
  unfold ownP at hf
  split at hf
  · rename_i e
    subst e
    simp only [Option.some.injEq] at hf
    subst hf
    exact cloneUO_ok own_54_0 own_54 ex ds q hg
  · split at hf
    · rename_i e
      subst e
      simp only [Option.some.injEq] at hf
      subst hf
      exact cloneUO_ok own_55_0 own_55 ex ds q hg
    · split at hf
      · rename_i e
        subst e
        simp only [Option.some.injEq] at hf
        subst hf
        exact insO_ok ex ds q hg
      · split at hf
        · cases hf
        · simp only [Option.some.injEq] at hf
          subst hf
          exact fnE_sound mixed own_ok hg
noncomputable def CP : Cf := ⟨E, M, ownP⟩
@[go_sem] theorem CP_E : CP.E = E := rfl
@[go_sem] theorem CP_M : CP.M = M := rfl
@[go_sem] theorem cpClone (es : List (List AVal)) : fn CP 54 [] [.slice 8 es] = gu (okRows es = true) (some (.usl 8 es, [])) := by
  rw [fn_own (g := cloneUO 8) (by show ownP 54 = _; unfold ownP; rw [if_pos rfl])]
  simp [cloneUO, gu]
@[go_sem] theorem cpIns (es : List (List AVal)) (i : Int) (p : List AVal) : fn CP 186 [] [.usl 8 es, .int .i64 i, .usl 8 [p]] = gu (0 ≤ i ∧ i.toNat ≤ es.length) (gu (es.length ≤ 1000000) (gu (ones es = true ∧ es.all clos = true) (gu (p.length = 8 ∧ ones [p] = true ∧ [p].all clos = true) (some (.slice 8 (es.take i.toNat ++ p :: es.drop i.toNat), []))))) := by
  rw [fn_own (g := insO) (by show ownP 186 = _; unfold ownP; rw [if_neg (by decide), if_neg (by decide), if_pos rfl])]
  rfl
theorem cp_fn (f : FuncId) (h1 : f ≠ 54) (h2 : f ≠ 55) (h4 : f ≠ 186) (h3 : f ∉ [188, 124, 125, 122]) (ex ds) : fn CP f ex ds = fn C f ex ds :=
  fn_own (g := fun ex ds => fn C f ex ds) (by show ownP f = _; unfold ownP; rw [if_neg h1, if_neg h2, if_neg h4, if_neg h3]) ex ds
@[go_sem] theorem cp_idx (ex ds) : fn CP 206 ex ds = fn C 206 ex ds := cp_fn _ (by decide) (by decide) (by decide) (by decide) ex ds
@[go_sem] theorem cp_drop1 (ex ds) : fn CP 189 ex ds = fn C 189 ex ds := cp_fn _ (by decide) (by decide) (by decide) (by decide) ex ds
@[go_sem] theorem e189 (p : Pr) (name : List UInt8) : fn C 189 [] [.agg [.str p.e.name, .int .u64 (p.e.id : Int), .int .i64 p.e.fr, .int .i64 p.e.un, .int .i64 p.e.ix, .str p.e.tag, .int .i64 p.since, .int .i64 p.under], .iptr [.str name]] = some (.bool (decide (p.e.name = name)), []) := by
  rw [fn_text Tryz.func189 rfl rfl Tryz.results189 fq189.1 rfl rfl (by kernel_rfl)]
  simp -implicitDefEqProofs -dsimp +contextual (maxSteps := 9999999) (disch := first | omega | simp only [go_sem] <;> omega | refine ib ?_; kernel_rfl) only [go_sem, seval, ↓reduceIte]
def nmB (name : List UInt8) (p : Pr) : Bool := decide (p.e.name = name)
@[go_sem] theorem eIdxDrop (l : List Pr) (name : List UInt8) (hl : l.length ≤ 9223372036854775807) : fn C 206 [] [.slice 8 (l.map Pr.cs), .fn (.func 189) [] [.iptr [.str name]]] = some (.int .i64 (placeG (nmB name) l), []) := by
  rw [fn_text Tryz.func206 rfl rfl Tryz.results206 fq206.1 rfl rfl (by kernel_rfl)]
  simp -implicitDefEqProofs -dsimp +contextual (maxSteps := 9999999) (disch := first | omega | simp only [go_sem] <;> omega | refine ib ?_; kernel_rfl) only [go_sem, seval, ↓reduceIte]
  refine kFor l.length (fun i f H => f 0 = .slice 8 (l.map Pr.cs) ∧ f 1 = .fn (.func 189) [] [.iptr [.str name]] ∧ f 7 = .int .i64 l.length ∧ f 8 = .int .i64 (i : Nat) ∧ H = Heap.nil ∧ (l.take i).any (nmB name) = false) ?_ ?_ (by exact ⟨rfl, rfl, rfl, rfl, rfl, rfl⟩)
  · rintro i f _ hi ⟨f0, f1, f7, f8, rfl, ha⟩ ih
    have row := pr_row l i hi
    simp -implicitDefEqProofs -dsimp +contextual (maxSteps := 9999999) (disch := first | omega | simp only [go_sem] <;> omega | refine ib ?_; kernel_rfl) only [go_sem, seval, ↓reduceIte, f0, f1, f7, f8, hi, row]
    (repeat' (refine kD_intro (fun _ => ?_) (fun _ => ?_)))
    · rename_i h; rw [placeG_at hi ha (by simp [nmB, h])]
    · rename_i h; exact ih _ _ ⟨f0, f1, f7, rfl, rfl, any_take hi ha (by simp [nmB, h])⟩
  · rintro f _ ⟨f0, f1, f7, f8, rfl, ha⟩
    simp -implicitDefEqProofs -dsimp +contextual (maxSteps := 9999999) (disch := first | omega | simp only [go_sem] <;> omega | refine ib ?_; kernel_rfl) only [go_sem, seval, ↓reduceIte, f0, f1, f7, f8]
    rw [placeG_none (any_end ha)]
theorem dropP_none {l : List Pr} {name : List UInt8} (h : l.any (nmB name) = false) : dropP l name = l := by
  unfold dropP
  rw [List.filter_eq_self]
  intro p hp
  have := any_mem h p hp
  simpa [nmB] using this
def delR (l : List Pr) (name : List UInt8) (j : Nat) : List Pr := dropP (l.take j) name ++ l.drop (dropP (l.take j) name).length
theorem dropP_take_le (l : List Pr) (name : List UInt8) (j : Nat) : (dropP (l.take j) name).length ≤ j := Nat.le_trans (dropP_le _ _) (by simp; omega)
theorem delR_len (l : List Pr) (name : List UInt8) (j : Nat) (hj : j ≤ l.length) : (delR l name j).length = l.length := by
  have := dropP_take_le l name j
  simp [delR]; omega
theorem delR_at (l : List Pr) (name : List UInt8) (j : Nat) (hj : j < l.length) : (delR l name j)[j]? = some l[j] := by
  have h := dropP_take_le l name j
  unfold delR
  rw [List.getElem?_append_right h, List.getElem?_drop, show (dropP (l.take j) name).length + (j - (dropP (l.take j) name).length) = j by omega, List.getElem?_eq_getElem hj]
theorem delR_set (l : List Pr) (name : List UInt8) (j : Nat) (hj : j < l.length) (h : ¬ l[j].e.name = name) : (delR l name j).set (dropP (l.take j) name).length l[j] = delR l name (j + 1) := by
  have hk := dropP_take_le l name j
  have hs := drop_succ l name j hj
  rw [if_neg h] at hs
  unfold delR
  rw [hs, List.set_append_right _ _ (Nat.le_refl _), Nat.sub_self, List.length_append, List.length_singleton, List.append_assoc]
  congr 1
  rw [List.drop_eq_getElem_cons (show (dropP (l.take j) name).length < l.length by omega)]
  rfl
theorem delR_skip (l : List Pr) (name : List UInt8) (j : Nat) (hj : j < l.length) (h : l[j].e.name = name) : delR l name j = delR l name (j + 1) := by
  have hs := drop_succ l name j hj
  rw [if_pos h, List.append_nil] at hs
  unfold delR
  rw [hs]
theorem delR_start {l : List Pr} {name : List UInt8} {i : Nat} (hi : i < l.length) (hn : (l.take i).any (nmB name) = false) (h : nmB name l[i] = true) : delR l name (i + 1) = l ∧ (dropP (l.take (i + 1)) name).length = i := by
  have hs := drop_succ l name i hi
  have hd : dropP (l.take i) name = l.take i := dropP_none hn
  rw [if_pos (by simpa [nmB] using h), List.append_nil, hd] at hs
  have hl : (l.take i).length = i := by rw [List.length_take]; omega
  refine ⟨?_, by rw [hs, hl]⟩
  unfold delR
  rw [hs, hl, List.take_append_drop]
theorem eDelFunc (l : List Pr) (name : List UInt8) (hl : l.length ≤ 1000000) : fn CP 188 [] [.usl 8 (l.map Pr.cs), .fn (.func 189) [] [.iptr [.str name]]] = some (.usl 8 ((dropP l name).map Pr.cs), []) := by
  rw [fn_text (C := CP) Tryz.func188 rfl rfl Tryz.results188 fq188.1 rfl rfl (by kernel_rfl)]
  have ix := eIdxDrop l name (by omega)
  rcases placeG_cases (nmB name) l with ⟨i, hi, h1, h2, h3⟩ | ⟨h2, h3⟩
  · rw [h3] at ix
    obtain ⟨s1, s2⟩ := delR_start hi h2 h1
    simp -implicitDefEqProofs -dsimp +contextual (maxSteps := 9999999) (disch := first | omega | simp only [go_sem] <;> omega | refine ib ?_; kernel_rfl) only [go_sem, seval, ↓reduceIte, ix, hi]
    refine kFor (l.length - (i + 1)) (fun m f H => f 0 = .osl 1 1 0 l.length ∧ f 1 = .fn (.func 189) [] [.iptr [.str name]] ∧ f 5 = .int .i64 ((dropP (l.take (i + 1 + m)) name).length : Nat) ∧ f 6 = .int .i64 ((i + 1 + m : Nat) : Int) ∧ H 1 = ⟨1, .live, 8, (delR l name (i + 1 + m)).map Pr.cs, false⟩) ?_ ?_ ?_
    · rintro m f H hm ⟨f0, f1, f5, f6, hH⟩ ih
      have hj : i + 1 + m < l.length := by omega
      have row : ((delR l name (i + 1 + m)).map Pr.cs)[i + 1 + m]? = some [.str l[i + 1 + m].e.name, .int .u64 (l[i + 1 + m].e.id : Int), .int .i64 l[i + 1 + m].e.fr, .int .i64 l[i + 1 + m].e.un, .int .i64 l[i + 1 + m].e.ix, .str l[i + 1 + m].e.tag, .int .i64 l[i + 1 + m].since, .int .i64 l[i + 1 + m].under] := by
        rw [List.getElem?_map, delR_at l name _ hj]; rfl
      have hk := dropP_take_le l name (i + 1 + m)
      have hd := delR_len l name (i + 1 + m) (by omega)
      by_cases e : l[i + 1 + m].e.name = name
      · have sk := delR_skip l name _ hj e
        have hs := drop_succ l name _ hj
        rw [if_pos e, List.append_nil] at hs
        rw [sk] at hH row hd
        rw [← hs] at f5 hk
        generalize delR l name (i + 1 + m + 1) = D at *
        generalize dropP (l.take (i + 1 + m + 1)) name = P at *
        have e' := eq_true e
        simp -implicitDefEqProofs -dsimp +contextual (maxSteps := 9999999) (disch := first | omega | simp only [go_sem] <;> omega | refine ib ?_; kernel_rfl) only [go_sem, seval, ↓reduceIte, f0, f1, f5, f6, hH, hj, row, hd, e']
        exact ih _ _ ⟨f0, f1, f5, rfl, by simp [Heap.set, hH]⟩
      · have st := delR_set l name _ hj e
        have hs := drop_succ l name _ hj
        rw [if_neg e] at hs
        have hs2 : (dropP (l.take (i + 1 + m + 1)) name).length = (dropP (l.take (i + 1 + m)) name).length + 1 := by rw [hs]; simp
        have st2 : ((delR l name (i + 1 + m)).map Pr.cs).set (dropP (l.take (i + 1 + m)) name).length l[i + 1 + m].cs = (delR l name (i + 1 + m + 1)).map Pr.cs := by rw [← st, List.map_set]
        have e' := eq_false e
        simp -implicitDefEqProofs -dsimp +contextual (maxSteps := 9999999) (disch := first | omega | simp only [go_sem] <;> omega | refine ib ?_; kernel_rfl) only [go_sem, seval, ↓reduceIte, f0, f1, f5, f6, hH, hj, row, hd, e']
        refine ih _ _ ⟨f0, f1, ?_, rfl, ?_⟩
        · rw [show i + 1 + (m + 1) = i + 1 + m + 1 from rfl, hs2]; rfl
        · rw [show i + 1 + (m + 1) = i + 1 + m + 1 from rfl, ← st2]; rfl
    · rintro f H ⟨f0, f1, f5, f6, hH⟩
      have em : i + 1 + (l.length - (i + 1)) = l.length := by omega
      rw [em, List.take_length] at f5
      rw [em] at hH f6
      have hd := delR_len l name l.length (Nat.le_refl _)
      have dl := dropP_le l name
      have tk : (delR l name l.length).take (dropP l name).length = dropP l name := by
        unfold delR
        rw [List.take_length, List.take_left]
      generalize delR l name l.length = D at *
      generalize hP : dropP l name = P at *
      have c1 : ¬ P.length + (l.length - P.length) + (D.length - (P.length + (l.length - P.length))) < P.length := by omega
      simp -implicitDefEqProofs -dsimp +contextual (maxSteps := 9999999) (disch := first | omega | simp only [go_sem] <;> omega | refine ib ?_; kernel_rfl) only [go_sem, seval, ↓reduceIte, f0, f1, f5, f6, hH, hd, dl, tk, c1]
      rw [if_pos (by omega)]
    · exact ⟨rfl, rfl, by rw [Nat.add_zero, s2]; rfl, rfl, by rw [Nat.add_zero, s1]; rfl⟩
  · rw [h3] at ix
    simp -implicitDefEqProofs -dsimp +contextual (maxSteps := 9999999) (disch := first | omega | simp only [go_sem] <;> omega | refine ib ?_; kernel_rfl) only [go_sem, seval, ↓reduceIte, ix]
    rw [dropP_none h2]
@[go_sem] theorem cp_del (l : List Pr) (name : List UInt8) (hl : l.length ≤ 1000000) : fn CP 188 [] [.usl 8 (l.map Pr.cs), .fn (.func 189) [] [.iptr [.str name]]] = some (.usl 8 ((dropP l name).map Pr.cs), []) := eDelFunc l name hl
theorem eDropP (l : List Pr) (name : List UInt8) (hl : l.length ≤ 1000000) : fn CP 124 [] [.slice 8 (l.map Pr.cs), .str name] = some (.usl 8 ((dropP l name).map Pr.cs), []) := by
  rw [fn_text (C := CP) Tryz.func124 rfl rfl Tryz.results124 fq124.1 rfl rfl (by kernel_rfl)]
  simp -implicitDefEqProofs -dsimp +contextual (maxSteps := 9999999) (disch := first | omega | simp only [go_sem] <;> omega | refine ib ?_; kernel_rfl) only [go_sem, seval, ↓reduceIte]
end Go.Proofs.YtnpkhdjgedeppaaGreatDoor
namespace Go.Proofs.YtnpkhdjgedeppaaGreatDoor
set_option maxHeartbeats 64000000
open Go.Am
set_option linter.unusedSimpArgs false
set_option linter.unusedVariables false
set_option maxRecDepth 100000
attribute [local irreducible] distR
def atP (me : En) (p : Pr) : List Pr → Nat
  | [] => 0
  | x :: l => if aheadR me x p = true then atP me p l + 1 else 0
def putP (me : En) (l : List Pr) (p : Pr) : List Pr := l.take (atP me p l) ++ p :: l.drop (atP me p l)
def addP (me : En) (l : List Pr) (p : Pr) : List Pr :=
  if p.e.name = me.name then l else if l.any (fun x => decide (x.e = p.e)) = true then l else (putP me (dropP l p.e.name) p).take 7
theorem atP_eq (me : En) (p : Pr) (l : List Pr) (i : Nat) (hi : i ≤ l.length) (h : ∀ j (hj : j < l.length), j < i → aheadR me l[j] p = true) (hn : ∀ hj : i < l.length, aheadR me l[i] p = false) : atP me p l = i := by
  induction l generalizing i with
  | nil => simp at hi; simp [atP, hi]
  | cons x r ih =>
    cases i with
    | zero => have := hn (by simp); simp at this; simp [atP, this]
    | succ i =>
      have h0 := h 0 (by simp) (by omega)
      simp at h0
      simp only [atP, h0, if_true]
      rw [ih i (by simpa using hi) (fun j hj hji => h (j + 1) (by simpa using hj) (by omega)) (fun hj => hn (by simpa using hj))]
theorem entry_eq (x y : En) : (x.name = y.name ∧ x.id = y.id ∧ x.fr = y.fr ∧ x.un = y.un ∧ x.ix = y.ix ∧ x.tag = y.tag) = (x = y) := propext (En.eq_iff x y).symm
def putX (r : List Pr) (i : Nat) (p : Pr) : List Pr := r.take i ++ [p] ++ r.drop i
theorem putX_rows (r : List Pr) (i : Nat) (p : Pr) : (r.take i).map Pr.cs ++ [[.str p.e.name, .int .u64 (p.e.id : Int), .int .i64 p.e.fr, .int .i64 p.e.un, .int .i64 p.e.ix, .str p.e.tag, .int .i64 p.since, .int .i64 p.under]] ++ (r.drop i).map Pr.cs = (putX r i p).map Pr.cs := by
  rw [putX, List.map_append, List.map_append]; rfl
theorem putX_len (r : List Pr) (i : Nat) (p : Pr) (hi : i ≤ r.length) : (putX r i p).length = r.length + 1 := by simp [putX]; omega
theorem addP_end (me : En) (l : List Pr) (p : Pr) (i : Nat) (h1 : ¬ p.e.name = me.name) (h2 : l.any (fun x => decide (x.e = p.e)) = false) (ha : atP me p (dropP l p.e.name) = i) :
    addP me l p = (putX (dropP l p.e.name) i p).take 7 := by
  rw [addP, if_neg h1, h2, if_neg (by simp), putP, ha, putX, List.append_assoc]; rfl
@[go_sem] theorem e184 (x p : Pr) : fn C 184 [] [.agg [.str x.e.name, .int .u64 (x.e.id : Int), .int .i64 x.e.fr, .int .i64 x.e.un, .int .i64 x.e.ix, .str x.e.tag, .int .i64 x.since, .int .i64 x.under], .iptr [.str p.e.name, .int .u64 (p.e.id : Int), .int .i64 p.e.fr, .int .i64 p.e.un, .int .i64 p.e.ix, .str p.e.tag, .int .i64 p.since, .int .i64 p.under]] = some (.bool (decide (x.e = p.e)), []) := by
  rw [fn_text Tryz.func184 rfl rfl Tryz.results184 fq184.1 rfl rfl (by kernel_rfl)]
  have eqv := entry_eq x.e p.e
  simp -implicitDefEqProofs -dsimp +contextual (maxSteps := 9999999) (disch := first | omega | simp only [go_sem] <;> omega | refine ib ?_; kernel_rfl) only [go_sem, seval, ↓reduceIte, eqv]
def eqPB (p x : Pr) : Bool := decide (x.e = p.e)
@[go_sem] theorem eIdxAdd (l : List Pr) (p : Pr) (hl : l.length ≤ 9223372036854775807) : fn C 206 [] [.slice 8 (l.map Pr.cs), .fn (.func 184) [] [.iptr [.str p.e.name, .int .u64 (p.e.id : Int), .int .i64 p.e.fr, .int .i64 p.e.un, .int .i64 p.e.ix, .str p.e.tag, .int .i64 p.since, .int .i64 p.under]]] = some (.int .i64 (placeG (eqPB p) l), []) := by
  rw [fn_text Tryz.func206 rfl rfl Tryz.results206 fq206.1 rfl rfl (by kernel_rfl)]
  simp -implicitDefEqProofs -dsimp +contextual (maxSteps := 9999999) (disch := first | omega | simp only [go_sem] <;> omega | refine ib ?_; kernel_rfl) only [go_sem, seval, ↓reduceIte]
  refine kFor l.length (fun i f H => f 0 = .slice 8 (l.map Pr.cs) ∧ f 1 = .fn (.func 184) [] [.iptr [.str p.e.name, .int .u64 (p.e.id : Int), .int .i64 p.e.fr, .int .i64 p.e.un, .int .i64 p.e.ix, .str p.e.tag, .int .i64 p.since, .int .i64 p.under]] ∧ f 7 = .int .i64 l.length ∧ f 8 = .int .i64 (i : Nat) ∧ H = Heap.nil ∧ (l.take i).any (eqPB p) = false) ?_ ?_ (by exact ⟨rfl, rfl, rfl, rfl, rfl, rfl⟩)
  · rintro i f _ hi ⟨f0, f1, f7, f8, rfl, ha⟩ ih
    have row := pr_row l i hi
    have e1 := e184 l[i] p
    by_cases h : l[i].e = p.e
    · rw [decide_eq_true h] at e1
      simp -implicitDefEqProofs -dsimp +contextual (maxSteps := 9999999) (disch := first | omega | simp only [go_sem] <;> omega | refine ib ?_; kernel_rfl) only [go_sem, seval, ↓reduceIte, f0, f1, f7, f8, hi, row, e1]
      rw [placeG_at hi ha (by simp [eqPB, h])]
    · rw [decide_eq_false h] at e1
      simp -implicitDefEqProofs -dsimp +contextual (maxSteps := 9999999) (disch := first | omega | simp only [go_sem] <;> omega | refine ib ?_; kernel_rfl) only [go_sem, seval, ↓reduceIte, f0, f1, f7, f8, hi, row, e1]
      exact ih _ _ ⟨f0, f1, f7, rfl, rfl, any_take hi ha (by simp [eqPB, h])⟩
  · rintro f _ ⟨f0, f1, f7, f8, rfl, ha⟩
    simp -implicitDefEqProofs -dsimp +contextual (maxSteps := 9999999) (disch := first | omega | simp only [go_sem] <;> omega | refine ib ?_; kernel_rfl) only [go_sem, seval, ↓reduceIte, f0, f1, f7, f8]
    rw [placeG_none (any_end ha)]
@[go_sem] theorem eHasAdd (l : List Pr) (p : Pr) (hl : l.length ≤ 9223372036854775807) : fn C 138 [] [.slice 8 (l.map Pr.cs), .fn (.func 184) [] [.iptr [.str p.e.name, .int .u64 (p.e.id : Int), .int .i64 p.e.fr, .int .i64 p.e.un, .int .i64 p.e.ix, .str p.e.tag, .int .i64 p.since, .int .i64 p.under]]] = some (.bool (l.any (eqPB p)), []) := by
  rw [fn_text Tryz.func138 rfl rfl Tryz.results138 fq138.1 rfl rfl (by kernel_rfl)]
  have e1 := eIdxAdd l p hl
  rcases placeG_cases (eqPB p) l with ⟨j, hj, hq, hn, hp⟩ | ⟨hn, hp⟩
  · rw [hp] at e1
    have ha : l.any (eqPB p) = true := List.any_eq_true.2 ⟨_, List.getElem_mem hj, hq⟩
    rw [ha]
    simp -implicitDefEqProofs -dsimp +contextual (maxSteps := 9999999) (disch := first | omega | simp only [go_sem] <;> omega | refine ib ?_; kernel_rfl) only [go_sem, seval, ↓reduceIte, e1]
  · rw [hp] at e1
    rw [hn]
    simp -implicitDefEqProofs -dsimp +contextual (maxSteps := 9999999) (disch := first | omega | simp only [go_sem] <;> omega | refine ib ?_; kernel_rfl) only [go_sem, seval, ↓reduceIte, e1]
@[go_sem] theorem cp_has (ex ds) : fn CP 138 ex ds = fn C 138 ex ds := cp_fn _ (by decide) (by decide) (by decide) (by decide) ex ds
@[go_sem] theorem cp_ahead (ex ds) : fn CP 185 ex ds = fn C 185 ex ds := cp_fn _ (by decide) (by decide) (by decide) (by decide) ex ds
theorem take7 (X : List Pr) : List.take (if 7 < X.length then (7 : Int) else (X.length : Int)).toNat X = List.take 7 X := by
  split
  · rfl
  · rename_i h
    rw [Int.toNat_natCast, List.take_of_length_le (Nat.le_refl _), List.take_of_length_le (by omega)]
theorem insE (r : List Pr) (p : Pr) (i : Nat) (hi : i ≤ r.length) (hl : r.length ≤ 100000) : fn CP 186 [] [.usl 8 (r.map Pr.cs), .int .i64 (i : Nat), .usl 8 [[.str p.e.name, .int .u64 (p.e.id : Int), .int .i64 p.e.fr, .int .i64 p.e.un, .int .i64 p.e.ix, .str p.e.tag, .int .i64 p.since, .int .i64 p.under]]] = some (.slice 8 ((putX r i p).map Pr.cs), []) := by
  rw [cpIns]
  simp only [gu]
  rw [if_pos ⟨by omega, by simpa using hi⟩, if_pos (by rw [List.length_map]; omega), if_pos ⟨Pr_ones r, Pr_clos r⟩, if_pos ⟨rfl, Pr_ones [p], Pr_clos [p]⟩, ← putX_rows]
  simp
theorem eAddP (me : En) (l : List Pr) (p : Pr) (hl : l.length ≤ 100000) (hm : me.id ≤ 18446744073709551615) (hi : p.e.id ≤ 18446744073709551615) (hn : p.e.name.length ≤ 9223372036854775807) (hp : ∀ x ∈ l, x.e.id ≤ 18446744073709551615 ∧ x.e.name.length ≤ 9223372036854775807) : fn CP 122 [] [.agg [.str me.name, .int .u64 (me.id : Int), .int .i64 me.fr, .int .i64 me.un, .int .i64 me.ix, .str me.tag], .slice 8 (l.map Pr.cs), .agg [.str p.e.name, .int .u64 (p.e.id : Int), .int .i64 p.e.fr, .int .i64 p.e.un, .int .i64 p.e.ix, .str p.e.tag, .int .i64 p.since, .int .i64 p.under]] = some (.slice 8 ((addP me l p).map Pr.cs), []) := by
  rw [fn_text (C := CP) Tryz.func122 rfl rfl Tryz.results122 fq122.1 rfl rfl (by kernel_rfl)]
  by_cases h1 : p.e.name = me.name
  · have h1' := eq_true h1
    simp -implicitDefEqProofs -dsimp +contextual (maxSteps := 9999999) (disch := first | omega | simp only [go_sem] <;> omega | refine ib ?_; kernel_rfl) only [go_sem, seval, ↓reduceIte, h1']
    rw [addP, if_pos h1]
  have h1' := eq_false h1
  have hc := eHasAdd l p (Nat.le_trans hl (by decide))
  cases hq : l.any (eqPB p) with
  | true =>
    rw [hq] at hc
    simp -implicitDefEqProofs -dsimp +contextual (maxSteps := 9999999) (disch := first | omega | simp only [go_sem] <;> omega | refine ib ?_; kernel_rfl) only [go_sem, seval, ↓reduceIte, h1', hc]
    have hq' : l.any (fun x => decide (x.e = p.e)) = true := hq
    rw [addP, if_neg h1, if_pos hq']
  | false =>
    rw [hq] at hc
    have dr := eDropP l p.e.name (by omega)
    have dle := dropP_le l p.e.name
    have dm : ∀ x ∈ dropP l p.e.name, x.e.id ≤ 18446744073709551615 ∧ x.e.name.length ≤ 9223372036854775807 := fun x hx => hp x ((List.mem_filter.1 hx).1)
    have hq' : l.any (fun x => decide (x.e = p.e)) = false := hq
    simp -implicitDefEqProofs -dsimp +contextual (maxSteps := 9999999) (disch := first | omega | simp only [go_sem] <;> omega | refine ib ?_; kernel_rfl) only [go_sem, seval, ↓reduceIte, h1', hc, dr]
    generalize hr : dropP l p.e.name = r at *
    refine kFor r.length (fun i f H => f 3 = .ptr 103 1 0 0 ∧ f 5 = .ptr 105 1 0 0 ∧ f 8 = .osl 128 1 0 r.length ∧ f 9 = .int .i64 (i : Nat) ∧ H 103 = ⟨1, .live, 6, [me.cs], false⟩ ∧ H 105 = ⟨1, .live, 8, [p.cs], false⟩ ∧ H 128 = ⟨1, .live, 8, r.map Pr.cs, false⟩ ∧ ∀ j (hj : j < r.length), j < i → aheadR me r[j] p = true) ?_ ?_ (by exact ⟨rfl, rfl, rfl, rfl, rfl, rfl, rfl, fun j _ hj => by omega⟩)
    · rintro i f H hlt ⟨f3, f5, f8, f9, H3, H5, H8, hb⟩ ih
      have row := pr_row r i hlt
      have d1 := dm _ (List.getElem_mem hlt)
      have e1 := e185 me r[i] p hm d1.1 hi
      cases hA : aheadR me r[i] p with
      | true =>
        rw [hA] at e1
        simp -implicitDefEqProofs -dsimp +contextual (maxSteps := 9999999) (disch := first | omega | simp only [go_sem] <;> omega | refine ib ?_; kernel_rfl) only [go_sem, seval, ↓reduceIte, f3, f5, f8, f9, H3, H5, H8, hlt, row, e1]
        refine ih _ _ ⟨f3, f5, f8, rfl, H3, H5, H8, fun j hj hji => ?_⟩
        by_cases e : j = i
        · subst e; exact hA
        · exact hb j hj (by omega)
      | false =>
        rw [hA] at e1
        have fin := addP_end me l p i h1 hq' (by rw [hr]; exact atP_eq me p r i (by omega) hb (fun _ => hA))
        rw [hr] at fin
        rw [fin]
        have hx := putX_len r i p (by omega)
        have e2 := insE r p i (by omega) (by omega)
        simp -implicitDefEqProofs -dsimp +contextual (maxSteps := 9999999) (disch := first | omega | simp only [go_sem] <;> omega | refine ib ?_; kernel_rfl) only [go_sem, seval, ↓reduceIte, f3, f5, f8, f9, H3, H5, H8, hlt, row, e1, e2]
        rw [take7]
    · rintro f H ⟨f3, f5, f8, f9, H3, H5, H8, hb⟩
      have fin := addP_end me l p r.length h1 hq' (by rw [hr]; exact atP_eq me p r r.length (Nat.le_refl _) hb (fun hj => absurd hj (by omega)))
      rw [hr] at fin
      rw [fin]
      have hx := putX_len r r.length p (Nat.le_refl _)
      have e2 := insE r p r.length (Nat.le_refl _) (by omega)
      simp -implicitDefEqProofs -dsimp +contextual (maxSteps := 9999999) (disch := first | omega | simp only [go_sem] <;> omega | refine ib ?_; kernel_rfl) only [go_sem, seval, ↓reduceIte, f3, f5, f8, f9, H3, H5, H8, Nat.lt_irrefl, e2]
      rw [take7]
end Go.Proofs.YtnpkhdjgedeppaaGreatDoor
namespace Go.Proofs.YtnpkhdjgedeppaaGreatDoor
set_option maxHeartbeats 64000000
open Go.Am
set_option linter.unusedSimpArgs false
set_option linter.unusedVariables false
set_option maxRecDepth 100000
def heardR (n : Nd) (from_ : En) : Nd := if validR n.gateI n.gateK from_ n.clock = 0 then { n with list := addP n.me n.list (takenP n.gateI n.gateK from_ n.clock) } else n
def answerK (kind : Int) : Int := if kind = 1 ∨ kind = 5 ∨ kind = 16 then 2 else if kind = 3 ∨ kind = 6 ∨ kind = 8 ∨ kind = 10 ∨ kind = 12 ∨ kind = 14 then kind + 1 else 0
structure En.fine (e : En) : Prop where
  ok : e.ok
  n : e.name.length ≤ 10000
  t : e.tag.length ≤ 10000
structure Nd.fine (n : Nd) : Prop where
  me : n.me.id ≤ 18446744073709551615
  gk : n.gateK.length ≤ 10000
  ll : n.list.length ≤ 100000
  pl : n.pred.length ≤ 100000
  fl : n.fingers.length ≤ 100000
  li : ∀ p ∈ n.list, p.e.id ≤ 18446744073709551615 ∧ p.e.name.length ≤ 9223372036854775807
  pi : ∀ p ∈ n.pred, p.e.id ≤ 18446744073709551615
end Go.Proofs.YtnpkhdjgedeppaaGreatDoor
namespace Go.Proofs.YtnpkhdjgedeppaaGreatDoor
set_option maxHeartbeats 64000000
open Go.Am
set_option linter.unusedSimpArgs false
set_option linter.unusedVariables false
set_option maxRecDepth 100000
attribute [local irreducible] distR idB sumB
theorem taken_id (gi : Int) (gk : List UInt8) (e : En) (now : Int) (h : validR gi gk e now = 0) : takenP gi gk e now = ⟨e, now, gi⟩ := by rw [takenP, if_pos h]
end Go.Proofs.YtnpkhdjgedeppaaGreatDoor
namespace Go.Proofs.YtnpkhdjgedeppaaGreatDoor
set_option maxHeartbeats 64000000
open Go.Am
set_option linter.unusedSimpArgs false
set_option linter.unusedVariables false
set_option maxRecDepth 100000
noncomputable def own3 : Own := fun f => if f ∈ [124, 122, 125] then some (fun ex ds => fn CP f ex ds)
  else if f ∈ [34, 36, 30, 169, 170, 171, 172, 173, 174, 175, 176, 108, 110, 6, 5, 29] then none
  else some (fun ex ds => fn C2 f ex ds)
theorem own3_ok : OwnOk E own3 := by
  intro f g ex ds q hf hg
  unfold own3 at hf
  split at hf
  · simp only [aNd, Option.some.injEq] at hf
    subst hf
    exact fnE_sound mixed ownP_ok hg
  · split at hf
    · cases hf
    · simp only [aNd, Option.some.injEq] at hf
      subst hf
      exact fnE_sound mixed own2_ok hg
noncomputable def C3 : Cf := ⟨E, M, own3⟩
@[go_sem] theorem C3_E : C3.E = E := rfl
@[go_sem] theorem C3_M : C3.M = M := rfl
theorem c3_cp (f : FuncId) (h : f ∈ [124, 122, 125]) (ex ds) : fn C3 f ex ds = fn CP f ex ds :=
  fn_own (g := fun ex ds => fn CP f ex ds) (by show own3 f = _; unfold own3; rw [if_pos h]) ex ds
theorem c3_c2 (f : FuncId) (h1 : f ∉ [124, 122, 125]) (h2 : f ∉ [34, 36, 30, 169, 170, 171, 172, 173, 174, 175, 176, 108, 110, 6, 5, 29]) (ex ds) : fn C3 f ex ds = fn C2 f ex ds :=
  fn_own (g := fun ex ds => fn C2 f ex ds) (by show own3 f = _; unfold own3; rw [if_neg h1, if_neg h2]) ex ds
theorem eCopy3 (n : Nd) (h : n.mid 1000000) : fn C3 13 [] [(aNd n)] = some (.agg [.str n.me.name, .int .u64 (n.me.id : Int), .int .i64 n.me.fr, .int .i64 n.me.un, .int .i64 n.me.ix, .str n.me.tag, .int .i64 n.clock, .str n.psk, .int .i64 n.gateI, .str n.gateK, .bool n.ready, .slice 8 (n.pred.map Pr.cs), .slice 8 (n.list.map Pr.cs), .slice 9 (n.fingers.map Fg.cs), .usl 20 (n.sessions.map Se.cs), .usl 23 (n.pends.map Pd.cs), .slice 4 (n.items.map It.cs), .usl 29 (n.jobs.map Jb.cs), .int .i64 n.rid, .int .i64 n.jobId, .slice 1 (n.draws.map u64Row), .usl 8 (n.results.map Rs.cs)], []) :=
  (c3_c2 13 (by decide) (by decide) [] [(aNd n)]).trans ((C2_C 13 (by decide) [] [(aNd n)]).trans (e13 n h))
theorem eHeard (n : Nd) (e : En) (h : n.mid 100000) (hf : n.fine) (he : e.fine) : fn C3 34 [] [(aNd n), .agg [.str e.name, .int .u64 (e.id : Int), .int .i64 e.fr, .int .i64 e.un, .int .i64 e.ix, .str e.tag]] = some (.agg [.str (heardR n e).me.name, .int .u64 ((heardR n e).me.id : Int), .int .i64 (heardR n e).me.fr, .int .i64 (heardR n e).me.un, .int .i64 (heardR n e).me.ix, .str (heardR n e).me.tag, .int .i64 (heardR n e).clock, .str (heardR n e).psk, .int .i64 (heardR n e).gateI, .str (heardR n e).gateK, .bool (heardR n e).ready, .slice 8 ((heardR n e).pred.map Pr.cs), .slice 8 ((heardR n e).list.map Pr.cs), .slice 9 ((heardR n e).fingers.map Fg.cs), .slice 20 ((heardR n e).sessions.map Se.cs), .slice 23 ((heardR n e).pends.map Pd.cs), .slice 4 ((heardR n e).items.map It.cs), .slice 29 ((heardR n e).jobs.map Jb.cs), .int .i64 (heardR n e).rid, .int .i64 (heardR n e).jobId, .slice 1 ((heardR n e).draws.map u64Row), .slice 8 ((heardR n e).results.map Rs.cs)], []) := by
  rw [fn_text (C := C3) Tryz.func34 rfl rfl Tryz.results34 fq34.1 rfl rfl (by kernel_rfl)]
  have e0 := eCopy3 n (h.le (by omega))
  have e1 := ((c3_c2 45 (by decide) (by decide) _ _).trans (C2_C _ (by decide) _ _)).trans (e45 n.gateI n.gateK e n.clock he.ok he.n he.t hf.gk)
  rw [heardR]
  by_cases hv : validR n.gateI n.gateK e n.clock = 0
  · have tk := taken_id _ _ _ _ hv
    rw [hv, tk] at e1
    have e2 := (c3_cp 122 (by decide) _ _).trans (eAddP n.me n.list ⟨e, n.clock, n.gateI⟩ hf.ll hf.me he.ok.id (Nat.le_trans he.n (by decide)) hf.li)
    rw [if_pos hv, tk]
    simp -implicitDefEqProofs -dsimp +contextual (maxSteps := 9999999) (disch := first | omega | simp only [go_sem] <;> omega | refine ib ?_; kernel_rfl) only [go_sem, seval, ↓reduceIte, e0, e1, e2]
  · have hv' := eq_false hv
    simp -implicitDefEqProofs -dsimp +contextual (maxSteps := 9999999) (disch := first | omega | simp only [go_sem] <;> omega | refine ib ?_; kernel_rfl) only [go_sem, seval, ↓reduceIte, e0, e1, hv']
end Go.Proofs.YtnpkhdjgedeppaaGreatDoor
namespace Go.Proofs.YtnpkhdjgedeppaaGreatDoor
set_option maxHeartbeats 64000000
open Go.Am
set_option linter.unusedSimpArgs false
set_option linter.unusedVariables false
set_option maxRecDepth 100000
attribute [local irreducible] distR idB sumB
@[go_sem] theorem e107 (k : Int) : fn C 107 [] [.int .i64 k] = some (.int .i64 (answerK k), []) := by
  by_cases h : k = 1 ∨ k = 3 ∨ k = 5 ∨ k = 6 ∨ k = 8 ∨ k = 10 ∨ k = 12 ∨ k = 14 ∨ k = 16
  · rcases h with rfl | rfl | rfl | rfl | rfl | rfl | rfl | rfl | rfl <;> (rw [fn_text Tryz.func107 rfl rfl Tryz.results107 fq107.1 rfl rfl (by kernel_rfl)]; simp -implicitDefEqProofs -dsimp +contextual (maxSteps := 9999999) (disch := first | omega | simp only [go_sem] <;> omega | refine ib ?_; kernel_rfl) only [go_sem, seval, ↓reduceIte]; try rfl)
  · simp only [not_or] at h
    obtain ⟨h1, h3, h5, h6, h8, h10, h12, h14, h16⟩ := h
    have ek : answerK k = 0 := by unfold answerK; simp [*]
    rw [ek]
    rw [fn_text Tryz.func107 rfl rfl Tryz.results107 fq107.1 rfl rfl (by kernel_rfl)]
    simp -implicitDefEqProofs -dsimp +contextual (maxSteps := 9999999) (disch := first | omega | simp only [go_sem] <;> omega | refine ib ?_; kernel_rfl) only [go_sem, seval, ↓reduceIte, h1, h3, h5, h6, h8, h10, h12, h14, h16]
structure AnsOk (n : Nd) (e : En) (m : Ms) : Prop where
  md : n.mid 80000
  f : n.fine
  e : e.fine
  key : m.key.length ≤ 10000
  val : m.val.length ≤ 9223372036854775807
  clock : 0 ≤ n.clock ∧ n.clock ≤ 1099511627776
  jobId : I64 n.jobId
  il : m.items.length ≤ 1000000
  ik : ∀ x ∈ m.items, x.k.length ≤ 9223372036854775807
  id : m.id ≤ 18446744073709551615
  nk : ∀ x ∈ n.items, x.k.length ≤ 10000
theorem addP_mem {me : En} {l : List Pr} {p x : Pr} (h : x ∈ addP me l p) : x ∈ l ∨ x = p := by
  unfold addP at h
  split at h
  · exact .inl h
  · split at h
    · exact .inl h
    · have h := List.mem_of_mem_take h
      rw [putP] at h
      rcases List.mem_append.1 h with h | h
      · exact .inl (List.mem_filter.1 (List.mem_of_mem_take h)).1
      · rcases List.mem_cons.1 h with h | h
        · exact .inr h
        · exact .inl (List.mem_filter.1 (List.mem_of_mem_drop h)).1
theorem dropP_len (l : List Pr) (name : List UInt8) : (dropP l name).length ≤ l.length := List.length_filter_le _ _
theorem addP_len (me : En) (l : List Pr) (p : Pr) : (addP me l p).length ≤ l.length + 1 := by
  unfold addP
  split
  · omega
  · split
    · omega
    · have := dropP_len l p.e.name
      rw [putP]
      simp only [List.length_take, List.length_append, List.length_cons, List.length_drop]
      omega
theorem heard_mid {n : Nd} {k : Nat} (e : En) (h : n.mid k) : (heardR n e).mid (k + 1) := by
  have m := h.le (Nat.le_succ k)
  have hl := addP_len n.me n.list (takenP n.gateI n.gateK e n.clock)
  have hll := h.ll
  unfold heardR
  split
  · exact ⟨m.pl, by show (addP _ _ _).length ≤ _; omega, m.fl, m.sl, m.dl, m.il, m.jl, m.wl, m.rl, m.pe, m.pi, m.ja, m.ik⟩
  · exact m
theorem heard_rest (n : Nd) (e : En) : ∃ l, heardR n e = { n with list := l } := by
  unfold heardR; split
  · exact ⟨_, rfl⟩
  · exact ⟨n.list, rfl⟩
theorem good_heard {n : Nd} {k : Nat} (e : En) (h : n.good k) : (heardR n e).good (k + 1) := by
  refine ⟨heard_mid e h.m, ?_, ?_⟩
  · obtain ⟨l, hl⟩ := heard_rest n e; rw [hl]; exact h.d
  · obtain ⟨l, hl⟩ := heard_rest n e; rw [hl]; exact h.j
theorem cmp_items {n : Nd} {k : Nat} (l : List It) (h : n.good k) (hk : k ≤ 9223372036854775807) (hl : l.length ≤ 9223372036854775807) : ({ n with items := l } : Nd).cmp := by
  have c := h.m.cmp hk h.d
  exact ⟨c.pl, c.ll, c.fl, c.sl, c.dl, c.df, hl, c.jl, c.ja, c.wl, c.rl⟩
theorem gN_fine {n : Nd} (g : greatN n = false) (ho : n.ok) : n.fine := by
  have s := greatN_no g
  have h1 := s.gk; have h2 := s.ll; have h3 := s.pl; have h4 := s.fl
  exact ⟨ho.me.id, by omega, by omega, by omega, by omega, fun p hp => ⟨(ho.list p hp).e.id, by have := (s.l p hp).n; omega⟩, fun p hp => (ho.pred p hp).e.id⟩
theorem gE_fine {e : En} (g : greatE e = false) (ho : e.ok) : e.fine := by
  have s := greatE_no g
  have h1 := s.n; have h2 := s.t
  exact ⟨ho, by omega, by omega⟩
end Go.Proofs.YtnpkhdjgedeppaaGreatDoor
namespace Go.Proofs.YtnpkhdjgedeppaaGreatDoor
set_option maxHeartbeats 64000000
open Go.Am
set_option linter.unusedSimpArgs false
set_option linter.unusedVariables false
set_option maxRecDepth 100000
def knownL (l : List Pr) (e : En) : Bool := l.any fun q => decide (q.e = e)
def askedL (l : List Ac) (name : List UInt8) : Bool := l.any fun a => decide (a.to.name = name)
def hasPd (l : List Pd) (why : Int) (name : List UInt8) : Bool := l.any fun p => decide (p.why = why) && decide (p.to.name = name)
def pingA (e : En) : Ac := ⟨false, e, { msZ with kind := 1 }, 3, 0⟩
def meetB (n : Nd) (out : List Ac) (e : En) : Bool := !decide (e.name = n.me.name) && !knownL n.list e && !askedL out e.name && !hasPd n.pends 3 e.name
def meetP (n : Nd) (out : List Ac) (e : En) : List Ac := if meetB n out e = true then out ++ [pingA e] else out
def meetS (n : Nd) (out : List Ac) (e : En) : List Ac := if validR n.gateI n.gateK e n.clock = 0 then meetP n out e else out
def meetR (n : Nd) (l : List En) : List Ac := l.foldl (meetS n) []
def handR (n : Nd) (m : Ms) : Nd := if m.err = 0 then { n with items := (mergeR n.items m.items).1, ready := true } else n
def answerL (n : Nd) (p : Pd) (from_ : En) (m : Ms) : Nd × List Ac :=
  if answerK p.m.kind = 0 then (n, []) else if answerK p.m.kind = m.kind then
    if p.why = 2 then (n, meetR n m.ents)
    else if p.why = 3 then (heardR n from_, [])
    else if p.why = 5 then (match m.ents with | [e] => foundC n p.job from_ e | _ => (n, []))
    else if p.why = 6 then actedC n p.job m
    else if p.why = 7 then cameR n p.job (decide (m.err = 0))
    else if p.why = 9 then (handR n m, [])
    else (n, [])
  else (n, [])
def thoseR (gi : Int) (gk : List UInt8) (now : Int) (l : List En) : List Pr := (l.filter fun e => decide (validR gi gk e now = 0)).map fun e => ⟨e, now, gi⟩
theorem those_take (gi : Int) (gk : List UInt8) (now : Int) (l : List En) (i : Nat) (h : i < l.length) : thoseR gi gk now (l.take (i + 1)) = if validR gi gk l[i] now = 0 then thoseR gi gk now (l.take i) ++ [⟨l[i], now, gi⟩] else thoseR gi gk now (l.take i) := by
  unfold thoseR
  rw [List.take_succ_eq_append_getElem h, List.filter_append, List.map_append]
  split
  · rename_i hv; simp [hv]
  · rename_i hv; simp [hv]
theorem those_len (gi : Int) (gk : List UInt8) (now : Int) (l : List En) : (thoseR gi gk now l).length ≤ l.length := by
  unfold thoseR; rw [List.length_map]; exact List.length_filter_le ..
theorem those_meet (n : Nd) (l : List En) : ((thoseR n.gateI n.gateK n.clock l).map Pr.e).foldl (meetP n) [] = meetR n l := by
  have e : (thoseR n.gateI n.gateK n.clock l).map Pr.e = l.filter fun e => decide (validR n.gateI n.gateK e n.clock = 0) := by
    unfold thoseR; rw [List.map_map]; exact List.map_id _
  rw [e, List.foldl_filter]
  unfold meetR
  congr 1
  funext out e
  unfold meetS
  simp only [decide_eq_true_eq]
def metR (n : Nd) (ps : List Pr) : List Ac := (ps.map Pr.e).foldl (meetP n) []
theorem metR_take (n : Nd) (ps : List Pr) (i : Nat) (h : i < ps.length) : metR n (ps.take (i + 1)) = meetP n (metR n (ps.take i)) ps[i].e := by
  unfold metR
  rw [List.take_succ_eq_append_getElem h, List.map_append, List.foldl_append]; rfl
theorem meetR_take (n : Nd) (l : List En) (i : Nat) (h : i < l.length) : meetR n (l.take (i + 1)) = meetS n (meetR n (l.take i)) l[i] := by
  unfold meetR
  rw [List.take_succ_eq_append_getElem h, List.foldl_append]; rfl
theorem meetP_len (n : Nd) (out : List Ac) (e : En) : (meetP n out e).length ≤ out.length + 1 := by
  unfold meetP; split
  · simp
  · omega
theorem metR_len (n : Nd) (ps : List Pr) (i : Nat) : (metR n (ps.take i)).length ≤ i := by
  induction i with
  | zero => simp [metR]
  | succ i ih =>
    by_cases h : i < ps.length
    · rw [metR_take n ps i h]
      exact Nat.le_trans (meetP_len ..) (by omega)
    · rw [List.take_of_length_le (by omega)] at ih ⊢; omega
theorem meetR_len (n : Nd) (l : List En) (i : Nat) : (meetR n (l.take i)).length ≤ i := by
  induction i with
  | zero => simp [meetR]
  | succ i ih =>
    by_cases h : i < l.length
    · rw [meetR_take n l i h]
      unfold meetS
      split
      · exact Nat.le_trans (meetP_len ..) (by omega)
      · omega
    · rw [List.take_of_length_le (by omega)] at ih ⊢; omega
end Go.Proofs.YtnpkhdjgedeppaaGreatDoor
namespace Go.Proofs.YtnpkhdjgedeppaaGreatDoor
set_option maxHeartbeats 64000000
open Go.Am
set_option linter.unusedSimpArgs false
set_option linter.unusedVariables false
set_option maxRecDepth 100000
attribute [local irreducible] distR idB sumB validR
def knB (e : En) (x : Pr) : Bool := decide (x.e = e)
def akB (name : List UInt8) (a : Ac) : Bool := decide (a.to.name = name)
def pdB (q : Int × List UInt8) (p : Pd) : Bool := decide (p.why = q.1) && decide (p.to.name = q.2)
theorem e139 (e : En) (x : Pr) : fn C 139 [] [.agg [.str x.e.name, .int .u64 (x.e.id : Int), .int .i64 x.e.fr, .int .i64 x.e.un, .int .i64 x.e.ix, .str x.e.tag, .int .i64 x.since, .int .i64 x.under], .iptr [.str e.name, .int .u64 (e.id : Int), .int .i64 e.fr, .int .i64 e.un, .int .i64 e.ix, .str e.tag]] = some (.bool (knB e x), []) := by
  have eqv := entry_eq x.e e
  rw [fn_text Tryz.func139 rfl rfl Tryz.results139 fq139.1 rfl rfl (by kernel_rfl)]
  simp -implicitDefEqProofs -dsimp +contextual (maxSteps := 9999999) (disch := first | omega | simp only [go_sem] <;> omega | refine ib ?_; kernel_rfl) only [go_sem, seval, ↓reduceIte, eqv]
  rfl
theorem e141 (e : En) (a : Ac) : fn C 141 [] [.agg [.bool a.ans, .str a.to.name, .int .u64 (a.to.id : Int), .int .i64 a.to.fr, .int .i64 a.to.un, .int .i64 a.to.ix, .str a.to.tag, .int .i64 a.m.kind, .int .i64 a.m.rid, .int .i64 a.m.ver, .int .i64 a.m.err, .int .u64 (a.m.id : Int), .bool a.m.has, .bool a.m.gone, .str a.m.key, .str a.m.val, .slice 6 (a.m.ents.map En.cs), .slice 4 (a.m.items.map It.cs), .int .i64 a.why, .int .i64 a.job], .iptr [.str e.name, .int .u64 (e.id : Int), .int .i64 e.fr, .int .i64 e.un, .int .i64 e.ix, .str e.tag]] = some (.bool (akB e.name a), []) := by
  rw [fn_text Tryz.func141 rfl rfl Tryz.results141 fq141.1 rfl rfl (by kernel_rfl)]
  simp -implicitDefEqProofs -dsimp +contextual (maxSteps := 9999999) (disch := first | omega | simp only [go_sem] <;> omega | refine ib ?_; kernel_rfl) only [go_sem, seval, ↓reduceIte]
  rfl
theorem e209 (q : Int × List UInt8) (p : Pd) : fn C 209 [] [.agg [.int .i64 p.rid, .int .i64 p.why, .int .i64 p.job, .int .i64 p.til, .int .i64 p.tries, .int .u64 (p.session : Int), .str p.to.name, .int .u64 (p.to.id : Int), .int .i64 p.to.fr, .int .i64 p.to.un, .int .i64 p.to.ix, .str p.to.tag, .int .i64 p.m.kind, .int .i64 p.m.rid, .int .i64 p.m.ver, .int .i64 p.m.err, .int .u64 (p.m.id : Int), .bool p.m.has, .bool p.m.gone, .str p.m.key, .str p.m.val, .slice 6 (p.m.ents.map En.cs), .slice 4 (p.m.items.map It.cs)], .iptr [.int .i64 q.1], .iptr [.str q.2]] = some (.bool (pdB q p), []) := by
  rw [fn_text Tryz.func209 rfl rfl Tryz.results209 fq209.1 rfl rfl (by kernel_rfl)]
  simp -implicitDefEqProofs -dsimp +contextual (maxSteps := 9999999) (disch := first | omega | simp only [go_sem] <;> omega | refine ib ?_; kernel_rfl) only [go_sem, seval, ↓reduceIte]
  (repeat' (refine kD_intro (fun _ => ?_) (fun _ => ?_))) <;> exact Res_bool (by simp [pdB, *])
theorem eIdxKnown (e : En) (l : List Pr) (hl : l.length ≤ 9223372036854775807) : fn C 206 [] [.slice 8 (l.map Pr.cs), .fn (.func 139) [] [.iptr [.str e.name, .int .u64 (e.id : Int), .int .i64 e.fr, .int .i64 e.un, .int .i64 e.ix, .str e.tag]]] = some (.int .i64 (placeG (knB e) l), []) := by
  rw [fn_text Tryz.func206 rfl rfl Tryz.results206 fq206.1 rfl rfl (by kernel_rfl)]
  simp -implicitDefEqProofs -dsimp +contextual (maxSteps := 9999999) (disch := first | omega | simp only [go_sem] <;> omega | refine ib ?_; kernel_rfl) only [go_sem, seval, ↓reduceIte]
  refine kFor l.length (fun i f H => f 0 = .slice 8 (l.map Pr.cs) ∧ f 1 = .fn (.func 139) [] [.iptr [.str e.name, .int .u64 (e.id : Int), .int .i64 e.fr, .int .i64 e.un, .int .i64 e.ix, .str e.tag]] ∧ f 7 = .int .i64 l.length ∧ f 8 = .int .i64 (i : Nat) ∧ H = Heap.nil ∧ (l.take i).any (knB e) = false) ?_ ?_ (by exact ⟨rfl, rfl, rfl, rfl, rfl, rfl⟩)
  · rintro i f _ hi ⟨f0, f1, f7, f8, rfl, ha⟩ ih
    have row : (l.map Pr.cs)[i]? = some [.str l[i].e.name, .int .u64 (l[i].e.id : Int), .int .i64 l[i].e.fr, .int .i64 l[i].e.un, .int .i64 l[i].e.ix, .str l[i].e.tag, .int .i64 l[i].since, .int .i64 l[i].under] := by rw [List.getElem?_map, List.getElem?_eq_getElem hi]; rfl
    have e1 := e139 e l[i]
    cases h : knB e l[i] with
    | true =>
      rw [h] at e1
      simp -implicitDefEqProofs -dsimp +contextual (maxSteps := 9999999) (disch := first | omega | simp only [go_sem] <;> omega | refine ib ?_; kernel_rfl) only [go_sem, seval, ↓reduceIte, f0, f1, f7, f8, hi, row, e1]
      rw [placeG_at hi ha h]
    | false =>
      rw [h] at e1
      simp -implicitDefEqProofs -dsimp +contextual (maxSteps := 9999999) (disch := first | omega | simp only [go_sem] <;> omega | refine ib ?_; kernel_rfl) only [go_sem, seval, ↓reduceIte, f0, f1, f7, f8, hi, row, e1]
      exact ih _ _ ⟨f0, f1, f7, rfl, rfl, any_take hi ha h⟩
  · rintro f _ ⟨f0, f1, f7, f8, rfl, ha⟩
    simp -implicitDefEqProofs -dsimp +contextual (maxSteps := 9999999) (disch := first | omega | simp only [go_sem] <;> omega | refine ib ?_; kernel_rfl) only [go_sem, seval, ↓reduceIte, f0, f1, f7, f8]
    rw [placeG_none (any_end ha)]
theorem eHasKnown (e : En) (l : List Pr) (hl : l.length ≤ 9223372036854775807) : fn C 138 [] [.slice 8 (l.map Pr.cs), .fn (.func 139) [] [.iptr [.str e.name, .int .u64 (e.id : Int), .int .i64 e.fr, .int .i64 e.un, .int .i64 e.ix, .str e.tag]]] = some (.bool (l.any (knB e)), []) := by
  rw [fn_text Tryz.func138 rfl rfl Tryz.results138 fq138.1 rfl rfl (by kernel_rfl)]
  rcases placeG_cases (knB e) l with ⟨j, hj, hq, hn, hp⟩ | ⟨hn, hp⟩
  · have e1 : fn C 206 [] [.slice 8 (l.map Pr.cs), .fn (.func 139) [] [.iptr [.str e.name, .int .u64 (e.id : Int), .int .i64 e.fr, .int .i64 e.un, .int .i64 e.ix, .str e.tag]]] = some (.int .i64 j, []) := by rw [← hp]; exact eIdxKnown _ l hl
    have ha : l.any (knB e) = true := List.any_eq_true.2 ⟨_, List.getElem_mem hj, hq⟩
    rw [ha]
    simp -implicitDefEqProofs -dsimp +contextual (maxSteps := 9999999) (disch := first | omega | simp only [go_sem] <;> omega | refine ib ?_; kernel_rfl) only [go_sem, seval, ↓reduceIte, e1]
  · have e1 : fn C 206 [] [.slice 8 (l.map Pr.cs), .fn (.func 139) [] [.iptr [.str e.name, .int .u64 (e.id : Int), .int .i64 e.fr, .int .i64 e.un, .int .i64 e.ix, .str e.tag]]] = some (.int .i64 (-1), []) := by rw [← hp]; exact eIdxKnown _ l hl
    rw [hn]
    simp -implicitDefEqProofs -dsimp +contextual (maxSteps := 9999999) (disch := first | omega | simp only [go_sem] <;> omega | refine ib ?_; kernel_rfl) only [go_sem, seval, ↓reduceIte, e1]
theorem eIdxAsked (e : En) (l : List Ac) (hl : l.length ≤ 9223372036854775807) : fn C 207 [] [.slice 20 (l.map Ac.cs), .fn (.func 141) [] [.iptr [.str e.name, .int .u64 (e.id : Int), .int .i64 e.fr, .int .i64 e.un, .int .i64 e.ix, .str e.tag]]] = some (.int .i64 (placeG (akB e.name) l), []) := by
  rw [fn_text Tryz.func207 rfl rfl Tryz.results207 fq207.1 rfl rfl (by kernel_rfl)]
  simp -implicitDefEqProofs -dsimp +contextual (maxSteps := 9999999) (disch := first | omega | simp only [go_sem] <;> omega | refine ib ?_; kernel_rfl) only [go_sem, seval, ↓reduceIte]
  refine kFor l.length (fun i f H => f 0 = .slice 20 (l.map Ac.cs) ∧ f 1 = .fn (.func 141) [] [.iptr [.str e.name, .int .u64 (e.id : Int), .int .i64 e.fr, .int .i64 e.un, .int .i64 e.ix, .str e.tag]] ∧ f 7 = .int .i64 l.length ∧ f 8 = .int .i64 (i : Nat) ∧ H = Heap.nil ∧ (l.take i).any (akB e.name) = false) ?_ ?_ (by exact ⟨rfl, rfl, rfl, rfl, rfl, rfl⟩)
  · rintro i f _ hi ⟨f0, f1, f7, f8, rfl, ha⟩ ih
    have row : (l.map Ac.cs)[i]? = some [.bool l[i].ans, .str l[i].to.name, .int .u64 (l[i].to.id : Int), .int .i64 l[i].to.fr, .int .i64 l[i].to.un, .int .i64 l[i].to.ix, .str l[i].to.tag, .int .i64 l[i].m.kind, .int .i64 l[i].m.rid, .int .i64 l[i].m.ver, .int .i64 l[i].m.err, .int .u64 (l[i].m.id : Int), .bool l[i].m.has, .bool l[i].m.gone, .str l[i].m.key, .str l[i].m.val, .slice 6 (l[i].m.ents.map En.cs), .slice 4 (l[i].m.items.map It.cs), .int .i64 l[i].why, .int .i64 l[i].job] := by rw [List.getElem?_map, List.getElem?_eq_getElem hi]; rfl
    have e1 := e141 e l[i]
    cases h : akB e.name l[i] with
    | true =>
      rw [h] at e1
      simp -implicitDefEqProofs -dsimp +contextual (maxSteps := 9999999) (disch := first | omega | simp only [go_sem] <;> omega | refine ib ?_; kernel_rfl) only [go_sem, seval, ↓reduceIte, f0, f1, f7, f8, hi, row, e1]
      rw [placeG_at hi ha h]
    | false =>
      rw [h] at e1
      simp -implicitDefEqProofs -dsimp +contextual (maxSteps := 9999999) (disch := first | omega | simp only [go_sem] <;> omega | refine ib ?_; kernel_rfl) only [go_sem, seval, ↓reduceIte, f0, f1, f7, f8, hi, row, e1]
      exact ih _ _ ⟨f0, f1, f7, rfl, rfl, any_take hi ha h⟩
  · rintro f _ ⟨f0, f1, f7, f8, rfl, ha⟩
    simp -implicitDefEqProofs -dsimp +contextual (maxSteps := 9999999) (disch := first | omega | simp only [go_sem] <;> omega | refine ib ?_; kernel_rfl) only [go_sem, seval, ↓reduceIte, f0, f1, f7, f8]
    rw [placeG_none (any_end ha)]
theorem eHasAsked (e : En) (l : List Ac) (hl : l.length ≤ 9223372036854775807) : fn C 140 [] [.slice 20 (l.map Ac.cs), .fn (.func 141) [] [.iptr [.str e.name, .int .u64 (e.id : Int), .int .i64 e.fr, .int .i64 e.un, .int .i64 e.ix, .str e.tag]]] = some (.bool (l.any (akB e.name)), []) := by
  rw [fn_text Tryz.func140 rfl rfl Tryz.results140 fq140.1 rfl rfl (by kernel_rfl)]
  rcases placeG_cases (akB e.name) l with ⟨j, hj, hq, hn, hp⟩ | ⟨hn, hp⟩
  · have e1 : fn C 207 [] [.slice 20 (l.map Ac.cs), .fn (.func 141) [] [.iptr [.str e.name, .int .u64 (e.id : Int), .int .i64 e.fr, .int .i64 e.un, .int .i64 e.ix, .str e.tag]]] = some (.int .i64 j, []) := by rw [← hp]; exact eIdxAsked _ l hl
    have ha : l.any (akB e.name) = true := List.any_eq_true.2 ⟨_, List.getElem_mem hj, hq⟩
    rw [ha]
    simp -implicitDefEqProofs -dsimp +contextual (maxSteps := 9999999) (disch := first | omega | simp only [go_sem] <;> omega | refine ib ?_; kernel_rfl) only [go_sem, seval, ↓reduceIte, e1]
  · have e1 : fn C 207 [] [.slice 20 (l.map Ac.cs), .fn (.func 141) [] [.iptr [.str e.name, .int .u64 (e.id : Int), .int .i64 e.fr, .int .i64 e.un, .int .i64 e.ix, .str e.tag]]] = some (.int .i64 (-1), []) := by rw [← hp]; exact eIdxAsked _ l hl
    rw [hn]
    simp -implicitDefEqProofs -dsimp +contextual (maxSteps := 9999999) (disch := first | omega | simp only [go_sem] <;> omega | refine ib ?_; kernel_rfl) only [go_sem, seval, ↓reduceIte, e1]
theorem eIdxPend (q : Int × List UInt8) (l : List Pd) (hl : l.length ≤ 9223372036854775807) : fn C 247 [] [.slice 23 (l.map Pd.cs), .fn (.func 209) [] [.iptr [.int .i64 q.1], .iptr [.str q.2]]] = some (.int .i64 (placeG (pdB q) l), []) := by
  rw [fn_text Tryz.func247 rfl rfl Tryz.results247 fq247.1 rfl rfl (by kernel_rfl)]
  simp -implicitDefEqProofs -dsimp +contextual (maxSteps := 9999999) (disch := first | omega | simp only [go_sem] <;> omega | refine ib ?_; kernel_rfl) only [go_sem, seval, ↓reduceIte]
  refine kFor l.length (fun i f H => f 0 = .slice 23 (l.map Pd.cs) ∧ f 1 = .fn (.func 209) [] [.iptr [.int .i64 q.1], .iptr [.str q.2]] ∧ f 7 = .int .i64 l.length ∧ f 8 = .int .i64 (i : Nat) ∧ H = Heap.nil ∧ (l.take i).any (pdB q) = false) ?_ ?_ (by exact ⟨rfl, rfl, rfl, rfl, rfl, rfl⟩)
  · rintro i f _ hi ⟨f0, f1, f7, f8, rfl, ha⟩ ih
    have row : (l.map Pd.cs)[i]? = some [.int .i64 l[i].rid, .int .i64 l[i].why, .int .i64 l[i].job, .int .i64 l[i].til, .int .i64 l[i].tries, .int .u64 (l[i].session : Int), .str l[i].to.name, .int .u64 (l[i].to.id : Int), .int .i64 l[i].to.fr, .int .i64 l[i].to.un, .int .i64 l[i].to.ix, .str l[i].to.tag, .int .i64 l[i].m.kind, .int .i64 l[i].m.rid, .int .i64 l[i].m.ver, .int .i64 l[i].m.err, .int .u64 (l[i].m.id : Int), .bool l[i].m.has, .bool l[i].m.gone, .str l[i].m.key, .str l[i].m.val, .slice 6 (l[i].m.ents.map En.cs), .slice 4 (l[i].m.items.map It.cs)] := by rw [List.getElem?_map, List.getElem?_eq_getElem hi]; rfl
    have e1 := e209 q l[i]
    cases h : pdB q l[i] with
    | true =>
      rw [h] at e1
      simp -implicitDefEqProofs -dsimp +contextual (maxSteps := 9999999) (disch := first | omega | simp only [go_sem] <;> omega | refine ib ?_; kernel_rfl) only [go_sem, seval, ↓reduceIte, f0, f1, f7, f8, hi, row, e1]
      rw [placeG_at hi ha h]
    | false =>
      rw [h] at e1
      simp -implicitDefEqProofs -dsimp +contextual (maxSteps := 9999999) (disch := first | omega | simp only [go_sem] <;> omega | refine ib ?_; kernel_rfl) only [go_sem, seval, ↓reduceIte, f0, f1, f7, f8, hi, row, e1]
      exact ih _ _ ⟨f0, f1, f7, rfl, rfl, any_take hi ha h⟩
  · rintro f _ ⟨f0, f1, f7, f8, rfl, ha⟩
    simp -implicitDefEqProofs -dsimp +contextual (maxSteps := 9999999) (disch := first | omega | simp only [go_sem] <;> omega | refine ib ?_; kernel_rfl) only [go_sem, seval, ↓reduceIte, f0, f1, f7, f8]
    rw [placeG_none (any_end ha)]
theorem eHasPend (q : Int × List UInt8) (l : List Pd) (hl : l.length ≤ 9223372036854775807) : fn C 208 [] [.slice 23 (l.map Pd.cs), .fn (.func 209) [] [.iptr [.int .i64 q.1], .iptr [.str q.2]]] = some (.bool (l.any (pdB q)), []) := by
  rw [fn_text Tryz.func208 rfl rfl Tryz.results208 fq208.1 rfl rfl (by kernel_rfl)]
  rcases placeG_cases (pdB q) l with ⟨j, hj, hq, hn, hp⟩ | ⟨hn, hp⟩
  · have e1 : fn C 247 [] [.slice 23 (l.map Pd.cs), .fn (.func 209) [] [.iptr [.int .i64 q.1], .iptr [.str q.2]]] = some (.int .i64 j, []) := by rw [← hp]; exact eIdxPend _ l hl
    have ha : l.any (pdB q) = true := List.any_eq_true.2 ⟨_, List.getElem_mem hj, hq⟩
    rw [ha]
    simp -implicitDefEqProofs -dsimp +contextual (maxSteps := 9999999) (disch := first | omega | simp only [go_sem] <;> omega | refine ib ?_; kernel_rfl) only [go_sem, seval, ↓reduceIte, e1]
  · have e1 : fn C 247 [] [.slice 23 (l.map Pd.cs), .fn (.func 209) [] [.iptr [.int .i64 q.1], .iptr [.str q.2]]] = some (.int .i64 (-1), []) := by rw [← hp]; exact eIdxPend _ l hl
    rw [hn]
    simp -implicitDefEqProofs -dsimp +contextual (maxSteps := 9999999) (disch := first | omega | simp only [go_sem] <;> omega | refine ib ?_; kernel_rfl) only [go_sem, seval, ↓reduceIte, e1]
theorem e142 (l : List Pd) (why : Int) (name : List UInt8) (hl : l.length ≤ 9223372036854775807) : fn C 142 [] [.slice 23 (l.map Pd.cs), .int .i64 why, .str name] = some (.bool (hasPd l why name), []) := by
  have e1 : fn C 208 [] [.slice 23 (l.map Pd.cs), .fn (.func 209) [] [.iptr [.int .i64 why], .iptr [.str name]]] = some (.bool (hasPd l why name), []) := eHasPend (why, name) l hl
  rw [fn_text Tryz.func142 rfl rfl Tryz.results142 fq142.1 rfl rfl (by kernel_rfl)]
  simp -implicitDefEqProofs -dsimp +contextual (maxSteps := 9999999) (disch := first | omega | simp only [go_sem] <;> omega | refine ib ?_; kernel_rfl) only [go_sem, seval, ↓reduceIte, e1]
theorem e205 (gi : Int) (gk : List UInt8) (now : Int) (e : En) (h : e.fine) (hk : gk.length ≤ 10000) : fn C 205 [] [.agg [.str e.name, .int .u64 (e.id : Int), .int .i64 e.fr, .int .i64 e.un, .int .i64 e.ix, .str e.tag], .iptr [.int .i64 gi, .str gk], .iptr [.int .i64 now]] = some (.tup [.agg [.str (takenP gi gk e now).e.name, .int .u64 ((takenP gi gk e now).e.id : Int), .int .i64 (takenP gi gk e now).e.fr, .int .i64 (takenP gi gk e now).e.un, .int .i64 (takenP gi gk e now).e.ix, .str (takenP gi gk e now).e.tag, .int .i64 (takenP gi gk e now).since, .int .i64 (takenP gi gk e now).under], .int .i64 (validR gi gk e now)], []) := by
  have e1 := e45 gi gk e now h.ok h.n h.t hk
  rw [fn_text Tryz.func205 rfl rfl Tryz.results205 fq205.1 rfl rfl (by kernel_rfl)]
  simp -implicitDefEqProofs -dsimp +contextual (maxSteps := 9999999) (disch := first | omega | simp only [go_sem] <;> omega | refine ib ?_; kernel_rfl) only [go_sem, seval, ↓reduceIte, e1]
theorem e204 (gi : Int) (gk : List UInt8) (now : Int) (l : List En) (hl : l.length ≤ 1000000) (h : ∀ e ∈ l, e.fine) (hk : gk.length ≤ 10000) : fn C 204 [] [.slice 6 (l.map En.cs), .fn (.func 205) [] [.iptr [.int .i64 gi, .str gk], .iptr [.int .i64 now]]] = some (.slice 8 ((thoseR gi gk now l).map Pr.cs), []) := by
  rw [fn_textN Tryz.func204 rfl rfl Tryz.results204 fq204.1 rfl rfl (by kernel_rfl)]
  simp -implicitDefEqProofs -dsimp +contextual (maxSteps := 9999999) (disch := first | omega | simp only [go_sem] <;> omega | refine ib ?_; kernel_rfl) only [go_sem, seval, ↓reduceIte]
  refine kFor l.length (fun i f H => f 1 = .fn (.func 205) [] [.iptr [.int .i64 gi, .str gk], .iptr [.int .i64 now]] ∧ f 10 = .slice 6 (l.map En.cs) ∧ f 11 = .int .i64 l.length ∧ f 12 = .int .i64 (i : Nat) ∧ AccE f H 5 105 8 ((thoseR gi gk now (l.take i)).map Pr.cs)) ?_ ?_ (by exact ⟨rfl, rfl, rfl, rfl, ⟨_, rfl, rfl⟩⟩)
  · rintro i f H hi ⟨f1, f10, f11, f12, g, f5, hA⟩ ih
    have row : (l.map En.cs)[i]? = some [.str l[i].name, .int .u64 (l[i].id : Int), .int .i64 l[i].fr, .int .i64 l[i].un, .int .i64 l[i].ix, .str l[i].tag] := by rw [List.getElem?_map, List.getElem?_eq_getElem hi]; rfl
    have e1 := e205 gi gk now l[i] (h _ (List.getElem_mem hi)) hk
    have hm := those_take gi gk now l i hi
    have hn : ((thoseR gi gk now (l.take i)).map Pr.cs).length ≤ 1000000 := by rw [List.length_map]; exact Nat.le_trans (those_len ..) (by simp; omega)
    by_cases hv : validR gi gk l[i] now = 0
    · rw [if_pos hv] at hm
      have tk : takenP gi gk l[i] now = ⟨l[i], now, gi⟩ := by rw [takenP, if_pos hv]
      rw [tk, hv] at e1
      have hm2 := congrArg (List.map Pr.cs) hm
      rw [List.map_append] at hm2
      rw [hm2] at ih
      generalize (thoseR gi gk now (l.take i)).map Pr.cs = r at *
      simp -implicitDefEqProofs -dsimp +contextual (maxSteps := 9999999) (disch := first | omega | simp only [go_sem] <;> omega | refine ib ?_; kernel_rfl) only [go_sem, seval, ↓reduceIte, f1, f10, f11, f12, f5, hA, hi, row, e1]
      exact ih _ _ ⟨f1, f10, f11, rfl, ⟨_, by rw [List.length_append]; rfl, rfl⟩⟩
    · rw [if_neg hv] at hm
      have hv' := eq_false hv
      rw [hm] at ih
      generalize (thoseR gi gk now (l.take i)).map Pr.cs = r at *
      generalize validR gi gk l[i] now = v at *
      simp -implicitDefEqProofs -dsimp +contextual (maxSteps := 9999999) (disch := first | omega | simp only [go_sem] <;> omega | refine ib ?_; kernel_rfl) only [go_sem, seval, ↓reduceIte, f1, f10, f11, f12, f5, hA, hi, row, e1, hv']
      exact ih _ _ ⟨f1, f10, f11, rfl, ⟨_, f5, hA⟩⟩
  · rintro f H ⟨f1, f10, f11, f12, g, f5, hA⟩
    rw [List.take_length] at f5 hA
    simp -implicitDefEqProofs -dsimp +contextual (maxSteps := 9999999) (disch := first | omega | simp only [go_sem] <;> omega | refine ib ?_; kernel_rfl) only [go_sem, seval, ↓reduceIte, f1, f10, f11, f12, f5, hA]
theorem e137 (gi : Int) (gk : List UInt8) (now : Int) (l : List En) (hl : l.length ≤ 1000000) (h : ∀ e ∈ l, e.fine) (hk : gk.length ≤ 10000) : fn C 137 [] [.agg [.int .i64 gi, .str gk], .slice 6 (l.map En.cs), .int .i64 now] = some (.slice 8 ((thoseR gi gk now l).map Pr.cs), []) := by
  have e1 := e204 gi gk now l hl h hk
  rw [fn_text Tryz.func137 rfl rfl Tryz.results137 fq137.1 rfl rfl (by kernel_rfl)]
  simp -implicitDefEqProofs -dsimp +contextual (maxSteps := 9999999) (disch := first | omega | simp only [go_sem] <;> omega | refine ib ?_; kernel_rfl) only [go_sem, seval, ↓reduceIte, e1]
theorem askedL_eq (l : List Ac) (name : List UInt8) : l.any (akB name) = askedL l name := rfl
theorem knownL_eq (l : List Pr) (e : En) : l.any (knB e) = knownL l e := rfl
theorem e48 (n : Nd) (l : List En) (hn : n.mid 100000) (hl : l.length ≤ 100000) (h : ∀ e ∈ l, e.fine) (hk : n.gateK.length ≤ 10000) : fn C 48 [] [(aNd n), .slice 6 (l.map En.cs)] = some (.slice 20 ((meetR n l).map Ac.cs), []) := by
  have e0 := e137 n.gateI n.gateK n.clock l (by omega) h hk
  have hll := hn.ll
  have hdl := hn.dl
  rw [← those_meet, show ((thoseR n.gateI n.gateK n.clock l).map Pr.e).foldl (meetP n) [] = metR n (thoseR n.gateI n.gateK n.clock l) from rfl]
  have hT : (thoseR n.gateI n.gateK n.clock l).length ≤ 100000 := Nat.le_trans (those_len ..) hl
  generalize thoseR n.gateI n.gateK n.clock l = T at *
  rw [fn_textN Tryz.func48 rfl rfl Tryz.results48 fq48.1 rfl rfl (by kernel_rfl)]
  simp -implicitDefEqProofs -dsimp +contextual (maxSteps := 9999999) (disch := first | omega | simp only [go_sem] <;> omega | refine ib ?_; kernel_rfl) only [go_sem, seval, ↓reduceIte, e0]
  refine kFor T.length (fun i f H => f 2 = .ptr 102 1 0 0 ∧ f 16 = .slice 8 (T.map Pr.cs) ∧ f 17 = .int .i64 T.length ∧ f 18 = .int .i64 (i : Nat) ∧ H 102 = ⟨1, .live, 22, [[.str n.me.name, .int .u64 (n.me.id : Int), .int .i64 n.me.fr, .int .i64 n.me.un, .int .i64 n.me.ix, .str n.me.tag, .int .i64 n.clock, .str n.psk, .int .i64 n.gateI, .str n.gateK, .bool n.ready, .slice 8 (n.pred.map Pr.cs), .slice 8 (n.list.map Pr.cs), .slice 9 (n.fingers.map Fg.cs), .slice 20 (n.sessions.map Se.cs), .slice 23 (n.pends.map Pd.cs), .slice 4 (n.items.map It.cs), .slice 29 (n.jobs.map Jb.cs), .int .i64 n.rid, .int .i64 n.jobId, .slice 1 (n.draws.map u64Row), .slice 8 (n.results.map Rs.cs)]], false⟩ ∧ AccE f H 5 105 20 ((metR n (T.take i)).map Ac.cs)) ?_ ?_ (by exact ⟨rfl, rfl, rfl, rfl, rfl, ⟨_, rfl, rfl⟩⟩)
  · rintro i f H hi ⟨f2, f16, f17, f18, hN, g, f5, hA⟩ ih
    have row : (T.map Pr.cs)[i]? = some [.str T[i].e.name, .int .u64 (T[i].e.id : Int), .int .i64 T[i].e.fr, .int .i64 T[i].e.un, .int .i64 T[i].e.ix, .str T[i].e.tag, .int .i64 T[i].since, .int .i64 T[i].under] := by rw [List.getElem?_map, List.getElem?_eq_getElem hi]; rfl
    have hm := metR_take n T i hi
    have hR := metR_len n T i
    have h1 := eHasKnown T[i].e n.list (by omega)
    rw [knownL_eq] at h1
    generalize metR n (T.take i) = R at *
    have h2 := eHasAsked T[i].e R (by omega)
    rw [askedL_eq] at h2
    have h3 := e142 n.pends 3 T[i].e.name (by omega)
    rw [hm] at ih
    unfold meetP meetB at ih
    generalize hp : T[i] = p at *
    by_cases c1 : p.e.name = n.me.name
    · have c1' := eq_true c1
      rw [decide_eq_true c1] at ih
      generalize knownL n.list p.e = b1 at *
      generalize askedL R p.e.name = b2 at *
      simp -implicitDefEqProofs -dsimp +contextual (maxSteps := 9999999) (disch := first | omega | simp only [go_sem] <;> omega | refine ib ?_; kernel_rfl) only [go_sem, seval, ↓reduceIte, f2, f16, f17, f18, hN, f5, hA, hi, row, h1, h2, c1']
      refine ih _ _ ⟨f2, f16, f17, rfl, hN, ⟨_, f5, hA⟩⟩
    · have c1' := eq_false c1
      rw [decide_eq_false c1] at ih
      generalize knownL n.list p.e = b1 at *
      generalize askedL R p.e.name = b2 at *
      generalize hasPd n.pends 3 p.e.name = b3 at *
      cases b1 <;> cases b2 <;> cases b3
      all_goals simp only [Bool.not_true, Bool.not_false, Bool.and_true, Bool.and_false, Bool.true_and, Bool.false_and, if_true, if_false, Bool.false_eq_true] at ih
      · rw [List.map_append] at ih
        have hn' : (R.map Ac.cs).length ≤ 1000000 := by simp; omega
        have hcl : (R.map Ac.cs).all clos = true := Ac_clos R
        generalize R.map Ac.cs = r at *
        simp -implicitDefEqProofs -dsimp +contextual (maxSteps := 9999999) (disch := first | omega | simp only [go_sem] <;> omega | refine ib ?_; kernel_rfl) only [go_sem, seval, ↓reduceIte, f2, f16, f17, f18, hN, f5, hA, hi, row, h1, h2, h3, c1', hcl]
        refine ih _ _ ?_
        exact ⟨f2, f16, f17, rfl, hN, ⟨_, by rw [List.length_append]; rfl, rfl⟩⟩
      all_goals
        simp -implicitDefEqProofs -dsimp +contextual (maxSteps := 9999999) (disch := first | omega | simp only [go_sem] <;> omega | refine ib ?_; kernel_rfl) only [go_sem, seval, ↓reduceIte, f2, f16, f17, f18, hN, f5, hA, hi, row, h1, h2, h3, c1']
        exact ih _ _ ⟨f2, f16, f17, rfl, hN, ⟨_, f5, hA⟩⟩
  · rintro f H ⟨f2, f16, f17, f18, hN, g, f5, hA⟩
    rw [List.take_length] at f5 hA
    simp -implicitDefEqProofs -dsimp +contextual (maxSteps := 9999999) (disch := first | omega | simp only [go_sem] <;> omega | refine ib ?_; kernel_rfl) only [go_sem, seval, ↓reduceIte, f2, f16, f17, f18, hN, f5, hA]
noncomputable def own5 : Own := fun f => if f ∈ [34, 36] then some (fun ex ds => fn C3 f ex ds)
  else if f ∈ [194, 195, 196, 197, 43, 46, 7, 8, 9, 42] then none
  else some (fun ex ds => fn C4 f ex ds)
theorem own5_ok : OwnOk E own5 := by
  intro f g ex ds q hf hg
  unfold own5 at hf
  split at hf
  · simp only [aNd, Option.some.injEq] at hf
    subst hf
    exact fnE_sound mixed own3_ok hg
  · split at hf
    · cases hf
    · simp only [aNd, Option.some.injEq] at hf
      subst hf
      exact fnE_sound mixed own4_ok hg
noncomputable def C5 : Cf := ⟨E, M, own5⟩
@[go_sem] theorem C5_E : C5.E = E := rfl
@[go_sem] theorem C5_M : C5.M = M := rfl
theorem c5_c3 (f : FuncId) (h : f ∈ [34, 36]) (ex ds) : fn C5 f ex ds = fn C3 f ex ds :=
  fn_own (g := fun ex ds => fn C3 f ex ds) (by show own5 f = _; unfold own5; rw [if_pos h]) ex ds
theorem c5_c4 (f : FuncId) (h1 : f ∉ [34, 36]) (h2 : f ∉ [194, 195, 196, 197, 43, 46, 7, 8, 9, 42]) (ex ds) : fn C5 f ex ds = fn C4 f ex ds :=
  fn_own (g := fun ex ds => fn C4 f ex ds) (by show own5 f = _; unfold own5; rw [if_neg h1, if_neg h2]) ex ds
def okC5 (f : FuncId) : Bool := decide (f ∉ [34, 36]) && decide (f ∉ [194, 195, 196, 197, 43, 46, 7, 8, 9, 42]) && okC4 f
theorem c5_c (f : FuncId) (h : okC5 f = true) (ex ds) : fn C5 f ex ds = fn C f ex ds := by
  simp only [aNd, okC5, Bool.and_eq_true, decide_eq_true_eq] at h
  exact (c5_c4 f h.1.1 h.1.2 ex ds).trans (c4_c f h.2 ex ds)
@[go_sem] theorem c5_learn_does (ex ds) : fn C5 132 ex ds = fn C 132 ex ds := c5_c _ (by decide) ex ds
@[go_sem] theorem c5_learn_check (ex ds) : fn C5 193 ex ds = fn C 193 ex ds := c5_c _ (by decide) ex ds
@[go_sem] theorem c5_learn_hand (ex ds) : fn C5 198 ex ds = fn C 198 ex ds := c5_c _ (by decide) ex ds
@[go_sem] theorem c5_learn_nothing (ex ds) : fn C5 131 ex ds = fn C 131 ex ds := c5_c _ (by decide) ex ds
@[go_sem] theorem c5_msg_Answer (ex ds) : fn C5 107 ex ds = fn C 107 ex ds := c5_c _ (by decide) ex ds
structure LrnOk (n : Nd) (e : En) (m : Ms) : Prop where
  o : CliOk n
  f : n.fine
  l : n.list.length ≤ 1000
  e : e.fine
  el : m.ents.length ≤ 1000
  ef : ∀ x ∈ m.ents, x.fine
  il : m.items.length ≤ 1000000
  ik : ∀ x ∈ m.items, x.k.length ≤ 9223372036854775807
  nk : ∀ x ∈ n.items, x.k.length ≤ 9223372036854775807
@[reducible] def nwA (n : Nd) (p : Pd) (e : En) (m : Ms) : AVal := .agg [.str n.me.name, .int .u64 (n.me.id : Int), .int .i64 n.me.fr, .int .i64 n.me.un, .int .i64 n.me.ix, .str n.me.tag, .int .i64 n.clock, .str n.psk, .int .i64 n.gateI, .str n.gateK, .bool n.ready, .slice 8 (n.pred.map Pr.cs), .slice 8 (n.list.map Pr.cs), .slice 9 (n.fingers.map Fg.cs), .slice 20 (n.sessions.map Se.cs), .slice 23 (n.pends.map Pd.cs), .slice 4 (n.items.map It.cs), .slice 29 (n.jobs.map Jb.cs), .int .i64 n.rid, .int .i64 n.jobId, .slice 1 (n.draws.map u64Row), .slice 8 (n.results.map Rs.cs), .int .i64 p.rid, .int .i64 p.why, .int .i64 p.job, .int .i64 p.til, .int .i64 p.tries, .int .u64 (p.session : Int), .str p.to.name, .int .u64 (p.to.id : Int), .int .i64 p.to.fr, .int .i64 p.to.un, .int .i64 p.to.ix, .str p.to.tag, .int .i64 p.m.kind, .int .i64 p.m.rid, .int .i64 p.m.ver, .int .i64 p.m.err, .int .u64 (p.m.id : Int), .bool p.m.has, .bool p.m.gone, .str p.m.key, .str p.m.val, .slice 6 (p.m.ents.map En.cs), .slice 4 (p.m.items.map It.cs), .str e.name, .int .u64 (e.id : Int), .int .i64 e.fr, .int .i64 e.un, .int .i64 e.ix, .str e.tag, .int .i64 m.kind, .int .i64 m.rid, .int .i64 m.ver, .int .i64 m.err, .int .u64 (m.id : Int), .bool m.has, .bool m.gone, .str m.key, .str m.val, .slice 6 (m.ents.map En.cs), .slice 4 (m.items.map It.cs)]
@[go_sem] theorem nwA_eq (n : Nd) (p : Pd) (e : En) (m : Ms) : nwA n p e m = .agg [.str n.me.name, .int .u64 (n.me.id : Int), .int .i64 n.me.fr, .int .i64 n.me.un, .int .i64 n.me.ix, .str n.me.tag, .int .i64 n.clock, .str n.psk, .int .i64 n.gateI, .str n.gateK, .bool n.ready, .slice 8 (n.pred.map Pr.cs), .slice 8 (n.list.map Pr.cs), .slice 9 (n.fingers.map Fg.cs), .slice 20 (n.sessions.map Se.cs), .slice 23 (n.pends.map Pd.cs), .slice 4 (n.items.map It.cs), .slice 29 (n.jobs.map Jb.cs), .int .i64 n.rid, .int .i64 n.jobId, .slice 1 (n.draws.map u64Row), .slice 8 (n.results.map Rs.cs), .int .i64 p.rid, .int .i64 p.why, .int .i64 p.job, .int .i64 p.til, .int .i64 p.tries, .int .u64 (p.session : Int), .str p.to.name, .int .u64 (p.to.id : Int), .int .i64 p.to.fr, .int .i64 p.to.un, .int .i64 p.to.ix, .str p.to.tag, .int .i64 p.m.kind, .int .i64 p.m.rid, .int .i64 p.m.ver, .int .i64 p.m.err, .int .u64 (p.m.id : Int), .bool p.m.has, .bool p.m.gone, .str p.m.key, .str p.m.val, .slice 6 (p.m.ents.map En.cs), .slice 4 (p.m.items.map It.cs), .str e.name, .int .u64 (e.id : Int), .int .i64 e.fr, .int .i64 e.un, .int .i64 e.ix, .str e.tag, .int .i64 m.kind, .int .i64 m.rid, .int .i64 m.ver, .int .i64 m.err, .int .u64 (m.id : Int), .bool m.has, .bool m.gone, .str m.key, .str m.val, .slice 6 (m.ents.map En.cs), .slice 4 (m.items.map It.cs)] := rfl
theorem eDoes2 : fn C 132 [] [.int .i64 2] = some (.fn (.func 193) [] [], []) := by
  rw [fn_text Tryz.func132 rfl rfl Tryz.results132 fq132.1 rfl rfl (by kernel_rfl)]
  simp -implicitDefEqProofs -dsimp +contextual (maxSteps := 9999999) (disch := first | omega | simp only [go_sem] <;> omega | refine ib ?_; kernel_rfl) only [go_sem, seval, ↓reduceIte]
theorem eDoes3 : fn C 132 [] [.int .i64 3] = some (.fn (.func 194) [] [], []) := by
  rw [fn_text Tryz.func132 rfl rfl Tryz.results132 fq132.1 rfl rfl (by kernel_rfl)]
  simp -implicitDefEqProofs -dsimp +contextual (maxSteps := 9999999) (disch := first | omega | simp only [go_sem] <;> omega | refine ib ?_; kernel_rfl) only [go_sem, seval, ↓reduceIte]
theorem eDoes5 : fn C 132 [] [.int .i64 5] = some (.fn (.func 195) [] [], []) := by
  rw [fn_text Tryz.func132 rfl rfl Tryz.results132 fq132.1 rfl rfl (by kernel_rfl)]
  simp -implicitDefEqProofs -dsimp +contextual (maxSteps := 9999999) (disch := first | omega | simp only [go_sem] <;> omega | refine ib ?_; kernel_rfl) only [go_sem, seval, ↓reduceIte]
theorem eDoes6 : fn C 132 [] [.int .i64 6] = some (.fn (.func 196) [] [], []) := by
  rw [fn_text Tryz.func132 rfl rfl Tryz.results132 fq132.1 rfl rfl (by kernel_rfl)]
  simp -implicitDefEqProofs -dsimp +contextual (maxSteps := 9999999) (disch := first | omega | simp only [go_sem] <;> omega | refine ib ?_; kernel_rfl) only [go_sem, seval, ↓reduceIte]
theorem eDoes7 : fn C 132 [] [.int .i64 7] = some (.fn (.func 197) [] [], []) := by
  rw [fn_text Tryz.func132 rfl rfl Tryz.results132 fq132.1 rfl rfl (by kernel_rfl)]
  simp -implicitDefEqProofs -dsimp +contextual (maxSteps := 9999999) (disch := first | omega | simp only [go_sem] <;> omega | refine ib ?_; kernel_rfl) only [go_sem, seval, ↓reduceIte]
theorem eDoes9 : fn C 132 [] [.int .i64 9] = some (.fn (.func 198) [] [], []) := by
  rw [fn_text Tryz.func132 rfl rfl Tryz.results132 fq132.1 rfl rfl (by kernel_rfl)]
  simp -implicitDefEqProofs -dsimp +contextual (maxSteps := 9999999) (disch := first | omega | simp only [go_sem] <;> omega | refine ib ?_; kernel_rfl) only [go_sem, seval, ↓reduceIte]
theorem eDoes0 (w : Int) (h2 : (w = 2) = False) (h3 : (w = 3) = False) (h5 : (w = 5) = False) (h6 : (w = 6) = False) (h7 : (w = 7) = False) (h9 : (w = 9) = False) : fn C 132 [] [.int .i64 w] = some (.fn (.func 131) [] [], []) := by
  rw [fn_text Tryz.func132 rfl rfl Tryz.results132 fq132.1 rfl rfl (by kernel_rfl)]
  simp -implicitDefEqProofs -dsimp +contextual (maxSteps := 9999999) (disch := first | omega | simp only [go_sem] <;> omega | refine ib ?_; kernel_rfl) only [go_sem, seval, ↓reduceIte, h2, h3, h5, h6, h7, h9]
theorem eN0 (n : Nd) (p : Pd) (e : En) (m : Ms) (h : n.mid 1000000) : fn C 131 [] [nwA n p e m] = some (pairC (n, []), []) := by
  have cp := e13 n h
  rw [fn_text Tryz.func131 rfl rfl Tryz.results131 fq131.1 rfl rfl (by kernel_rfl)]
  simp -implicitDefEqProofs -dsimp +contextual (maxSteps := 9999999) (disch := first | omega | simp only [go_sem] <;> omega | refine ib ?_; kernel_rfl) only [go_sem, seval, ↓reduceIte, cp]
theorem eN2 (n : Nd) (p : Pd) (e : En) (m : Ms) (h : LrnOk n e m) : fn C 193 [] [nwA n p e m] = some (pairC (n, meetR n m.ents), []) := by
  have cp := e13 n (h.o.k.md.le (by omega))
  have me := e48 n m.ents (h.o.k.md.le (by omega)) (Nat.le_trans h.el (by omega)) h.ef h.f.gk
  generalize meetR n m.ents = R at *
  rw [fn_text Tryz.func193 rfl rfl Tryz.results193 fq193.1 rfl rfl (by kernel_rfl)]
  simp -implicitDefEqProofs -dsimp +contextual (maxSteps := 9999999) (disch := first | omega | simp only [go_sem] <;> omega | refine ib ?_; kernel_rfl) only [go_sem, seval, ↓reduceIte, cp, me]
theorem eN3 (n : Nd) (p : Pd) (e : En) (m : Ms) (h : LrnOk n e m) : fn C5 194 [] [nwA n p e m] = some (pairC (heardR n e, []), []) := by
  have he := (c5_c3 34 (by decide) _ _).trans (eHeard n e (h.o.k.md.le (by omega)) h.f h.e)
  generalize heardR n e = d at *
  rw [fn_text (C := C5) Tryz.func194 rfl rfl Tryz.results194 (show (C5).M.loc 194 = _ from fq194.1) rfl rfl (by kernel_rfl)]
  simp -implicitDefEqProofs -dsimp +contextual (maxSteps := 9999999) (disch := first | omega | simp only [go_sem] <;> omega | refine ib ?_; kernel_rfl) only [go_sem, seval, ↓reduceIte, he]
def findL (n : Nd) (p : Pd) (e : En) (m : Ms) : Nd × List Ac := match m.ents with | [x] => foundC n p.job e x | _ => (n, [])
theorem findL_one {n : Nd} {p : Pd} {e x : En} {m : Ms} (h : m.ents = [x]) : findL n p e m = foundC n p.job e x := by unfold findL; rw [h]
theorem findL_no {n : Nd} {p : Pd} {e : En} {m : Ms} (h : ¬ m.ents.length = 1) : findL n p e m = (n, []) := by
  unfold findL
  split
  · rename_i x hx; rw [hx] at h; exact absurd rfl h
  · rfl
theorem eN5 (n : Nd) (p : Pd) (e : En) (m : Ms) (h : LrnOk n e m) : fn C5 195 [] [nwA n p e m] = some (pairC (findL n p e m), []) := by
  by_cases hl : m.ents.length = 1
  · obtain ⟨x, hx⟩ := List.length_eq_one_iff.1 hl
    have xf := h.ef x (by rw [hx]; exact List.mem_singleton.2 rfl)
    have fo := (c5_c4 23 (by decide) (by decide) _ _).trans (eFound n p.job e x h.o.k h.e.ok.id xf.ok xf.n xf.t h.f.gk)
    rw [findL_one hx]
    generalize foundC n p.job e x = q at *
    obtain ⟨d, acts⟩ := q
    simp only [aNd, Nd.cs] at fo
    rw [fn_text (C := C5) Tryz.func195 rfl rfl Tryz.results195 (show (C5).M.loc 195 = _ from fq195.1) rfl rfl (by kernel_rfl)]
    simp -implicitDefEqProofs -dsimp +contextual (maxSteps := 9999999) (disch := first | omega | simp only [go_sem] <;> omega | refine ib ?_; kernel_rfl) only [go_sem, seval, ↓reduceIte, hx, fo]
  · rw [findL_no hl]
    have hl' := eq_false hl
    have n0 := eN0 n p e m (h.o.k.md.le (by omega))
    rw [fn_text (C := C5) Tryz.func195 rfl rfl Tryz.results195 (show (C5).M.loc 195 = _ from fq195.1) rfl rfl (by kernel_rfl)]
    simp -implicitDefEqProofs -dsimp +contextual (maxSteps := 9999999) (disch := first | omega | simp only [go_sem] <;> omega | refine ib ?_; kernel_rfl) only [go_sem, seval, ↓reduceIte, hl', n0]
theorem eN6 (n : Nd) (p : Pd) (e : En) (m : Ms) (h : LrnOk n e m) : fn C5 196 [] [nwA n p e m] = some (pairC (actedC n p.job m), []) := by
  have fo := (c5_c4 25 (by decide) (by decide) _ _).trans (eActed n p.job m h.o.k)
  generalize actedC n p.job m = q at *
  obtain ⟨d, acts⟩ := q
  simp only [aNd, Nd.cs] at fo
  rw [fn_text (C := C5) Tryz.func196 rfl rfl Tryz.results196 (show (C5).M.loc 196 = _ from fq196.1) rfl rfl (by kernel_rfl)]
  simp -implicitDefEqProofs -dsimp +contextual (maxSteps := 9999999) (disch := first | omega | simp only [go_sem] <;> omega | refine ib ?_; kernel_rfl) only [go_sem, seval, ↓reduceIte, fo]
theorem eN7 (n : Nd) (p : Pd) (e : En) (m : Ms) (h : LrnOk n e m) : fn C5 197 [] [nwA n p e m] = some (pairC (cameR n p.job (decide (m.err = 0))), []) := by
  have fo := ((c5_c4 243 (by decide) (by decide) _ _).trans (c4_c2 243 (by decide) _ _)).trans (eTaken n p.job m.err (h.o.k.md.le (by omega)))
  generalize cameR n p.job (decide (m.err = 0)) = q at *
  obtain ⟨d, acts⟩ := q
  unfold ndRes at fo
  rw [Nd.ocs_eq] at fo
  rw [fn_text (C := C5) Tryz.func197 rfl rfl Tryz.results197 (show (C5).M.loc 197 = _ from fq197.1) rfl rfl (by kernel_rfl)]
  simp -implicitDefEqProofs -dsimp +contextual (maxSteps := 9999999) (disch := first | omega | simp only [go_sem] <;> omega | refine ib ?_; kernel_rfl) only [go_sem, seval, ↓reduceIte, fo]
theorem eN9 (n : Nd) (p : Pd) (e : En) (m : Ms) (h : LrnOk n e m) : fn C 198 [] [nwA n p e m] = some (pairC (handR n m, []), []) := by
  have cp := e13 n (h.o.k.md.le (by omega))
  have e1 := e229 n.items m.items (Nat.le_trans h.o.k.md.il (by omega)) h.il h.ik
  unfold handR
  by_cases h0 : m.err = 0
  · rw [if_pos h0]
    have h0' := eq_true h0
    rw [fn_text Tryz.func198 rfl rfl Tryz.results198 fq198.1 rfl rfl (by kernel_rfl)]
    simp -implicitDefEqProofs -dsimp +contextual (maxSteps := 9999999) (disch := first | omega | simp only [go_sem] <;> omega | refine ib ?_; kernel_rfl) only [go_sem, seval, ↓reduceIte, cp, e1, h0']
  · rw [if_neg h0]
    have h0' := eq_false h0
    rw [fn_text Tryz.func198 rfl rfl Tryz.results198 fq198.1 rfl rfl (by kernel_rfl)]
    simp -implicitDefEqProofs -dsimp +contextual (maxSteps := 9999999) (disch := first | omega | simp only [go_sem] <;> omega | refine ib ?_; kernel_rfl) only [go_sem, seval, ↓reduceIte, cp, e1, h0']
theorem ansL_none {n : Nd} {p : Pd} {e : En} {m : Ms} (h : answerK p.m.kind = 0 ∨ ¬ answerK p.m.kind = m.kind) : answerL n p e m = (n, []) := by
  unfold answerL
  rcases h with h | h
  · rw [if_pos h]
  · by_cases h0 : answerK p.m.kind = 0
    · rw [if_pos h0]
    · rw [if_neg h0, if_neg h]
def whyL (n : Nd) (p : Pd) (e : En) (m : Ms) : Nd × List Ac :=
  if p.why = 2 then (n, meetR n m.ents)
  else if p.why = 3 then (heardR n e, [])
  else if p.why = 5 then findL n p e m
  else if p.why = 6 then actedC n p.job m
  else if p.why = 7 then cameR n p.job (decide (m.err = 0))
  else if p.why = 9 then (handR n m, [])
  else (n, [])
theorem ansL_why {n : Nd} {p : Pd} {e : En} {m : Ms} (h0 : ¬ answerK p.m.kind = 0) (h : answerK p.m.kind = m.kind) : answerL n p e m = whyL n p e m := by
  unfold answerL; rw [if_neg h0, if_pos h]; rfl
theorem eAnswerL (n : Nd) (p : Pd) (e : En) (m : Ms) (h : LrnOk n e m) : fn C5 43 [] [(aNd n), .agg [.int .i64 p.rid, .int .i64 p.why, .int .i64 p.job, .int .i64 p.til, .int .i64 p.tries, .int .u64 (p.session : Int), .str p.to.name, .int .u64 (p.to.id : Int), .int .i64 p.to.fr, .int .i64 p.to.un, .int .i64 p.to.ix, .str p.to.tag, .int .i64 p.m.kind, .int .i64 p.m.rid, .int .i64 p.m.ver, .int .i64 p.m.err, .int .u64 (p.m.id : Int), .bool p.m.has, .bool p.m.gone, .str p.m.key, .str p.m.val, .slice 6 (p.m.ents.map En.cs), .slice 4 (p.m.items.map It.cs)], .agg [.str e.name, .int .u64 (e.id : Int), .int .i64 e.fr, .int .i64 e.un, .int .i64 e.ix, .str e.tag], .agg [.int .i64 m.kind, .int .i64 m.rid, .int .i64 m.ver, .int .i64 m.err, .int .u64 (m.id : Int), .bool m.has, .bool m.gone, .str m.key, .str m.val, .slice 6 (m.ents.map En.cs), .slice 4 (m.items.map It.cs)]] = some (pairC (answerL n p e m), []) := by
  have k0 := e107 p.m.kind
  have n0 := eN0 n p e m (h.o.k.md.le (by omega))
  unfold pairC at n0
  by_cases h0 : answerK p.m.kind = 0
  · rw [ansL_none (.inl h0)]
    rw [h0] at k0
    rw [fn_text (C := C5) Tryz.func43 rfl rfl Tryz.results43 (show (C5).M.loc 43 = _ from fq43.1) rfl rfl (by kernel_rfl)]
    simp -implicitDefEqProofs -dsimp +contextual (maxSteps := 9999999) (disch := first | omega | simp only [go_sem] <;> omega | refine ib ?_; kernel_rfl) only [go_sem, seval, ↓reduceIte, k0, n0]
  have h0' := eq_false h0
  by_cases h1 : answerK p.m.kind = m.kind
  · rw [ansL_why h0 h1]
    have h1' := eq_true h1
    generalize answerK p.m.kind = kk at *
    unfold whyL
    by_cases h2 : p.why = 2
    · rw [if_pos h2]
      have dv := eDoes2
      rw [← h2] at dv
      have nv := eN2 n p e m h
      generalize ((n, meetR n m.ents) : Nd × List Ac) = q at nv ⊢
      obtain ⟨d, acts⟩ := q
      unfold pairC at nv
      simp only [aNd, Nd.cs] at nv
      rw [fn_text (C := C5) Tryz.func43 rfl rfl Tryz.results43 (show (C5).M.loc 43 = _ from fq43.1) rfl rfl (by kernel_rfl)]
      simp -implicitDefEqProofs -dsimp +contextual (maxSteps := 9999999) (disch := first | omega | simp only [go_sem] <;> omega | refine ib ?_; kernel_rfl) only [go_sem, seval, ↓reduceIte, k0, h0', h1', dv, nv]
    rw [if_neg h2]
    by_cases h3 : p.why = 3
    · rw [if_pos h3]
      have dv := eDoes3
      rw [← h3] at dv
      have nv := eN3 n p e m h
      generalize ((heardR n e, []) : Nd × List Ac) = q at nv ⊢
      obtain ⟨d, acts⟩ := q
      unfold pairC at nv
      simp only [aNd, Nd.cs] at nv
      rw [fn_text (C := C5) Tryz.func43 rfl rfl Tryz.results43 (show (C5).M.loc 43 = _ from fq43.1) rfl rfl (by kernel_rfl)]
      simp -implicitDefEqProofs -dsimp +contextual (maxSteps := 9999999) (disch := first | omega | simp only [go_sem] <;> omega | refine ib ?_; kernel_rfl) only [go_sem, seval, ↓reduceIte, k0, h0', h1', dv, nv]
    rw [if_neg h3]
    by_cases h5 : p.why = 5
    · rw [if_pos h5]
      have dv := eDoes5
      rw [← h5] at dv
      have nv := eN5 n p e m h
      generalize (findL n p e m : Nd × List Ac) = q at nv ⊢
      obtain ⟨d, acts⟩ := q
      unfold pairC at nv
      simp only [aNd, Nd.cs] at nv
      rw [fn_text (C := C5) Tryz.func43 rfl rfl Tryz.results43 (show (C5).M.loc 43 = _ from fq43.1) rfl rfl (by kernel_rfl)]
      simp -implicitDefEqProofs -dsimp +contextual (maxSteps := 9999999) (disch := first | omega | simp only [go_sem] <;> omega | refine ib ?_; kernel_rfl) only [go_sem, seval, ↓reduceIte, k0, h0', h1', dv, nv]
    rw [if_neg h5]
    by_cases h6 : p.why = 6
    · rw [if_pos h6]
      have dv := eDoes6
      rw [← h6] at dv
      have nv := eN6 n p e m h
      generalize (actedC n p.job m : Nd × List Ac) = q at nv ⊢
      obtain ⟨d, acts⟩ := q
      unfold pairC at nv
      simp only [aNd, Nd.cs] at nv
      rw [fn_text (C := C5) Tryz.func43 rfl rfl Tryz.results43 (show (C5).M.loc 43 = _ from fq43.1) rfl rfl (by kernel_rfl)]
      simp -implicitDefEqProofs -dsimp +contextual (maxSteps := 9999999) (disch := first | omega | simp only [go_sem] <;> omega | refine ib ?_; kernel_rfl) only [go_sem, seval, ↓reduceIte, k0, h0', h1', dv, nv]
    rw [if_neg h6]
    by_cases h7 : p.why = 7
    · rw [if_pos h7]
      have dv := eDoes7
      rw [← h7] at dv
      have nv := eN7 n p e m h
      generalize (cameR n p.job (decide (m.err = 0)) : Nd × List Ac) = q at nv ⊢
      obtain ⟨d, acts⟩ := q
      unfold pairC at nv
      simp only [aNd, Nd.cs] at nv
      rw [fn_text (C := C5) Tryz.func43 rfl rfl Tryz.results43 (show (C5).M.loc 43 = _ from fq43.1) rfl rfl (by kernel_rfl)]
      simp -implicitDefEqProofs -dsimp +contextual (maxSteps := 9999999) (disch := first | omega | simp only [go_sem] <;> omega | refine ib ?_; kernel_rfl) only [go_sem, seval, ↓reduceIte, k0, h0', h1', dv, nv]
    rw [if_neg h7]
    by_cases h9 : p.why = 9
    · rw [if_pos h9]
      have dv := eDoes9
      rw [← h9] at dv
      have nv := eN9 n p e m h
      generalize ((handR n m, []) : Nd × List Ac) = q at nv ⊢
      obtain ⟨d, acts⟩ := q
      unfold pairC at nv
      simp only [aNd, Nd.cs] at nv
      rw [fn_text (C := C5) Tryz.func43 rfl rfl Tryz.results43 (show (C5).M.loc 43 = _ from fq43.1) rfl rfl (by kernel_rfl)]
      simp -implicitDefEqProofs -dsimp +contextual (maxSteps := 9999999) (disch := first | omega | simp only [go_sem] <;> omega | refine ib ?_; kernel_rfl) only [go_sem, seval, ↓reduceIte, k0, h0', h1', dv, nv]
    rw [if_neg h9]
    have dv := eDoes0 p.why (eq_false h2) (eq_false h3) (eq_false h5) (eq_false h6) (eq_false h7) (eq_false h9)
    rw [fn_text (C := C5) Tryz.func43 rfl rfl Tryz.results43 (show (C5).M.loc 43 = _ from fq43.1) rfl rfl (by kernel_rfl)]
    simp -implicitDefEqProofs -dsimp +contextual (maxSteps := 9999999) (disch := first | omega | simp only [go_sem] <;> omega | refine ib ?_; kernel_rfl) only [go_sem, seval, ↓reduceIte, k0, h0', h1', dv, n0]
  · rw [ansL_none (.inr h1)]
    have h1' := eq_false h1
    generalize answerK p.m.kind = kk at *
    rw [fn_text (C := C5) Tryz.func43 rfl rfl Tryz.results43 (show (C5).M.loc 43 = _ from fq43.1) rfl rfl (by kernel_rfl)]
    simp -implicitDefEqProofs -dsimp +contextual (maxSteps := 9999999) (disch := first | omega | simp only [go_sem] <;> omega | refine ib ?_; kernel_rfl) only [go_sem, seval, ↓reduceIte, k0, h0', h1', n0]
end Go.Proofs.YtnpkhdjgedeppaaGreatDoor
namespace Go.Proofs.YtnpkhdjgedeppaaGreatDoor
set_option maxHeartbeats 64000000
open Go.Am
set_option linter.unusedSimpArgs false
set_option linter.unusedVariables false
set_option maxRecDepth 100000
attribute [local irreducible] distR idB sumB
theorem e130 (k : List UInt8) (e : En) (h : e.ok) (hn : e.name.length ≤ 10000) (hk : k.length ≤ 10000) : fn C 130 [] [.str k, .agg [.str e.name, .int .u64 (e.id : Int), .int .i64 e.fr, .int .i64 e.un, .int .i64 e.ix, .str e.tag]] = some (.agg [.str e.name, .int .u64 (e.id : Int), .int .i64 e.fr, .int .i64 e.un, .int .i64 e.ix, .str (signB k e)], []) := by
  have e1 := e192 e h (by omega)
  have e2 := e191 k (bodyB e) (by omega) (by rw [bodyB_len]; omega)
  rw [signB]
  rw [fn_text Tryz.func130 rfl rfl Tryz.results130 fq130.1 rfl rfl (by kernel_rfl)]
  simp -implicitDefEqProofs -dsimp +contextual (maxSteps := 9999999) (disch := first | omega | simp only [go_sem] <;> omega | refine ib ?_; kernel_rfl) only [go_sem, seval, ↓reduceIte, e1, e2]
abbrev keyW : List UInt8 := [107, 101, 121]
def enW (T : List UInt8) : En := { enZ with name := [98], un := 9, tag := T }
def enV : En := { enZ with name := [97] }
def ndW : Nd := { ndZ with me := enV, gateK := keyW, clock := 3 }
def pdW : Pd := ⟨0, 2, 0, 0, 0, 0, enZ, { msZ with kind := 3 }⟩
def msW (T : List UInt8) : Ms := { msZ with kind := 4, ents := [enW T, enW T, enV] }
theorem valid_W (T : List UInt8) (hT : T = signB keyW (enW [])) : validR 0 keyW (enW T) 3 = 0 := by
  have hl : T.length = 32 := by rw [hT]; exact macB_len _ _
  have hr : rightE (enW T) = true := by
    unfold rightE
    have : decide ((enW T).tag.length = 32) = true := decide_eq_true hl
    rw [this]
    rfl
  have hs : (enW T).tag = signB keyW (enW T) := hT
  unfold validR
  rw [if_pos hr, if_neg (show ¬ (enW T).ix < 0 by show ¬ (0 : Int) < 0; decide), if_neg (show ¬ 0 < (enW T).ix by show ¬ (0 : Int) < 0; decide), if_pos hs, if_neg (show ¬ (3 < (enW T).fr ∨ (enW T).un < 3) by show ¬ ((3 : Int) < 0 ∨ (9 : Int) < 3); decide)]
theorem valid_V : ¬ validR 0 keyW enV 3 = 0 := by
  have hr : ¬ rightE enV = true := by decide
  unfold validR
  rw [if_neg hr]
  decide
theorem w32a (T : List UInt8) (hT : T = signB keyW (enW [])) : answerL ndW pdW (enW T) (msW T) = (ndW, [pingA (enW T)]) := by
  rw [ansL_why (show ¬ answerK 3 = 0 by decide) (show answerK 3 = 4 by decide)]
  unfold whyL
  rw [if_pos (show pdW.why = 2 from rfl)]
  show (ndW, meetS ndW (meetS ndW (meetS ndW [] (enW T)) (enW T)) enV) = _
  have hv : validR ndW.gateI ndW.gateK (enW T) ndW.clock = 0 := valid_W T hT
  have s1 : meetS ndW [] (enW T) = [pingA (enW T)] := by
    unfold meetS meetP
    rw [if_pos hv, if_pos (by rfl)]
    rfl
  have s2 : meetS ndW [pingA (enW T)] (enW T) = [pingA (enW T)] := by
    unfold meetS meetP
    have hb : meetB ndW [pingA (enW T)] (enW T) = false := rfl
    rw [if_pos hv, hb]
    rfl
  have s3 : meetS ndW [pingA (enW T)] enV = [pingA (enW T)] := by
    unfold meetS
    rw [if_neg (show ¬ validR ndW.gateI ndW.gateK enV ndW.clock = 0 from valid_V)]
  rw [s1, s2, s3]
theorem w32b (T : List UInt8) : answerL ndW pdW (enW T) { msZ with kind := 2 } = (ndW, []) := ansL_none (.inr (by decide))
theorem ndW_mid : ndW.mid 0 := by
  refine ⟨Nat.zero_le _, Nat.zero_le _, Nat.zero_le _, Nat.zero_le _, Nat.zero_le _, Nat.zero_le _, Nat.zero_le _, Nat.zero_le _, Nat.zero_le _, fun p hp => ?_, fun p hp => ?_, fun p hp => ?_, fun p hp => ?_⟩ <;> simp [ndW, ndZ] at hp
theorem ndW_fine : ndW.fine := ⟨by decide, by decide, by decide, by decide, by decide, fun p hp => by simp [ndW, ndZ] at hp, fun p hp => by simp [ndW, ndZ] at hp⟩
theorem ndW_ok : CliOk ndW := ⟨⟨ndW_mid.le (by omega), by decide, fun p hp => by simp [ndW, ndZ] at hp, by decide, fun p hp => by simp [ndW, ndZ] at hp, fun p hp => by simp [ndW, ndZ] at hp⟩, by decide⟩
theorem enV_fine : enV.fine := ⟨⟨by decide, by decide, by decide, by decide, by decide, by decide, by decide⟩, by decide, by decide⟩
theorem enW_ok (T : List UInt8) : (enW T).ok := ⟨by show 0 ≤ 18446744073709551615; decide, by show _ ≤ (0 : Int); decide, by show (0 : Int) ≤ _; decide, by show _ ≤ (9 : Int); decide, by show (9 : Int) ≤ _; decide, by show _ ≤ (0 : Int); decide, by show (0 : Int) ≤ _; decide⟩
theorem enW_fine (T : List UInt8) (hT : T.length = 32) : (enW T).fine := ⟨enW_ok T, by show 1 ≤ 10000; decide, by show T.length ≤ 10000; omega⟩
theorem lrn_W (T : List UInt8) (hT : T.length = 32) (m : Ms) (h1 : m.ents.length ≤ 1000) (h2 : ∀ x ∈ m.ents, x = enW T ∨ x = enV) (h3 : m.items = []) : LrnOk ndW (enW T) m :=
  ⟨ndW_ok, ndW_fine, by decide, enW_fine T hT, h1, fun x hx => by
    rcases h2 x hx with rfl | rfl
    · exact enW_fine T hT
    · exact enV_fine, (by rw [h3]; decide), (fun x hx => by rw [h3] at hx; simp at hx), (fun x hx => by simp [ndW, ndZ] at hx)⟩
theorem e42 : fn C5 42 [] [] = some (.bool true, []) := by
  obtain ⟨T, hT⟩ : ∃ T, T = signB keyW (enW []) := ⟨_, rfl⟩
  have hl : T.length = 32 := by rw [hT]; exact macB_len _ _
  have s1 := (c5_c 130 (by decide) _ _).trans (e130 keyW (enW []) (enW_ok []) (by decide) (by decide))
  rw [← hT] at s1
  have b1 := eAnswerL ndW pdW (enW T) (msW T) (lrn_W T hl _ (by show 3 ≤ 1000; decide) (fun x hx => by simp [msW] at hx; omega) rfl)
  have b2 := eAnswerL ndW pdW (enW T) { msZ with kind := 2 } (lrn_W T hl _ (by show 0 ≤ 1000; decide) (fun x hx => by simp [msZ] at hx) rfl)
  rw [w32a T hT] at b1
  rw [w32b T] at b2
  have eqv := entry_eq (enW T) (enW T)
  clear hT
  simp only [aNd, pairC, Nd.cs, ndW, pdW, enW, enV, msW, pingA, ndZ, enZ, msZ, List.map_nil, List.map_cons, En.cs, Ac.cs, Ms.cs, It.cs, Pd.cs, strRow, Int.cast_ofNat_Int] at b1 b2 s1
  rw [fn_text (C := C5) Tryz.func42 rfl rfl Tryz.results42 (show (C5).M.loc 42 = _ from fq42.1) rfl rfl (by kernel_rfl)]
  simp -implicitDefEqProofs -dsimp +contextual (maxSteps := 9999999) (disch := first | omega | simp only [go_sem] <;> omega | refine ib ?_; kernel_rfl) only [go_sem, seval, ↓reduceIte, b1, b2, s1]
theorem meetR_mem {n : Nd} {a : Ac} : ∀ (l : List En) (out : List Ac), a ∈ l.foldl (meetS n) out → a ∈ out ∨ ∃ e ∈ l, a = pingA e ∧ validR n.gateI n.gateK e n.clock = 0
  | [], out, h => .inl h
  | e :: l, out, h => by
    rcases meetR_mem l _ h with h | ⟨x, hx, h⟩
    · unfold meetS at h
      split at h
      · rename_i hv
        unfold meetP at h
        split at h
        · rcases List.mem_append.1 h with h | h
          · exact .inl h
          · exact .inr ⟨e, List.mem_cons_self .., List.mem_singleton.1 h, hv⟩
        · exact .inl h
      · exact .inl h
    · exact .inr ⟨x, List.mem_cons_of_mem _ hx, h⟩
theorem pingA_fit (e : En) : (pingA e).m.fit := ⟨Nat.zero_le _, Nat.zero_le _, Nat.zero_le _, Nat.zero_le _, fun e he => by simp [pingA, msZ] at he, fun x hx => by simp [pingA, msZ] at hx⟩
theorem meetR_good (n : Nd) (l : List En) : ActG l.length (meetR n l) := by
  refine ⟨by have := meetR_len n l l.length; rwa [List.take_length] at this, fun a ha => ?_⟩
  rcases meetR_mem l [] ha with h | ⟨e, _, rfl, _⟩
  · simp at h
  · exact pingA_fit e
theorem good_why {n : Nd} {p : Pd} {e : En} {m : Ms} (g : n.good 70) (h : LrnOk n e m) (jm : ∀ j ∈ n.jobs, j.key.length ≤ 9223372036854775807 ∧ j.val.length ≤ 9223372036854775807) : (answerL n p e m).1.cmp ∧ ActG 2000 (answerL n p e m).2 := by
  have c : n.cmp := g.m.cmp (by decide) g.d
  have N : ActG 2000 [] := ActG.nil _
  have K : ∀ {q : Nd × List Ac}, q.1.good (70 + 70 + 2) ∧ ActG (70 + 70 + 2) q.2 → q.1.cmp ∧ ActG 2000 q.2 := fun h => ⟨h.1.m.cmp (by decide) h.1.d, h.2.le (by omega)⟩
  by_cases h0 : answerK p.m.kind = 0
  · rw [ansL_none (.inl h0)]; exact ⟨c, N⟩
  by_cases h1 : answerK p.m.kind = m.kind
  · rw [ansL_why h0 h1]
    unfold whyL
    split
    · exact ⟨c, (meetR_good n m.ents).le (Nat.le_trans h.el (by omega))⟩
    split
    · have g2 := good_heard e g
      exact ⟨g2.m.cmp (by decide) g2.d, N⟩
    split
    · by_cases hl : m.ents.length = 1
      · obtain ⟨x, hx⟩ := List.length_eq_one_iff.1 hl
        rw [findL_one hx]
        exact K (good_foundC g (by omega) p.job e x jm)
      · rw [findL_no hl]; exact ⟨c, N⟩
    split
    · exact K (good_actedC g (by omega) p.job m jm)
    split
    · have b := good_came p.job (decide (m.err = 0)) g (by omega)
      exact ⟨b.1.m.cmp (by decide) b.1.d, b.2.le (by omega)⟩
    split
    · unfold handR
      split
      · have hl := mergeR_len n.items m.items
        have h1 := g.m.il
        have h2 := h.il
        have c' := cmp_items (n := n) (mergeR n.items m.items).1 g (by decide) (by omega)
        exact ⟨⟨c'.pl, c'.ll, c'.fl, c'.sl, c'.dl, c'.df, c'.il, c'.jl, c'.ja, c'.wl, c'.rl⟩, N⟩
      · exact ⟨c, N⟩
    · exact ⟨c, N⟩
  · rw [ansL_none (.inr h1)]; exact ⟨c, N⟩
end Go.Proofs.YtnpkhdjgedeppaaGreatDoor
namespace Go.Proofs.YtnpkhdjgedeppaaGreatDoor
set_option maxHeartbeats 64000000
open Go.Am
set_option linter.unusedSimpArgs false
set_option linter.unusedVariables false
set_option maxRecDepth 100000
attribute [local irreducible] distR idB sumB validR
structure Nd.fineB (n : Nd) : Prop where
  me : n.me.fine
  l : ∀ p ∈ n.list, p.e.fine
  j : ∀ j ∈ n.jobs, j.back.fine
structure Tame (n : Nd) (q : Nd × List Ac) : Prop where
  l : q.1.list = n.list
  p : q.1.pred = n.pred
  a : ∀ a ∈ q.2, a.to.fine ∧ ¬ a.why = 3
theorem Tame.none (n m : Nd) (hl : m.list = n.list) (hp : m.pred = n.pred) : Tame n (m, []) := ⟨hl, hp, fun a ha => by simp at ha⟩
theorem Tame.one {n m : Nd} {a : Ac} (hl : m.list = n.list) (hp : m.pred = n.pred) (hf : a.to.fine) (hw : ¬ a.why = 3) : Tame n (m, [a]) :=
  ⟨hl, hp, fun b hb => by rw [List.mem_singleton] at hb; rw [hb]; exact ⟨hf, hw⟩⟩
theorem settle_lp (n : Nd) (id : Int) (x : It) (has : Bool) (e : Int) : (settleR n id x has e).list = n.list ∧ (settleR n id x has e).pred = n.pred := by
  unfold settleR; split <;> exact ⟨rfl, rfl⟩
theorem tame_settle (n : Nd) (id : Int) (x : It) (has : Bool) (e : Int) : Tame n (settleR n id x has e, []) := Tame.none n _ (settle_lp n id x has e).1 (settle_lp n id x has e).2
theorem tame_tell {n : Nd} {back : En} (rid job : Int) (x : It) (has : Bool) (e : Int) (hb : back.fine) : Tame n (tellR n back rid job x has e) := by
  unfold tellR
  split
  · exact Tame.one rfl rfl hb (by show ¬ (0 : Int) = 3; decide)
  · exact tame_settle _ _ _ _ _
theorem askR_to (id : Int) : ∀ (l : List Pr) (j : Jb), (askR id l j).1.back = j.back ∧ ∀ a ∈ (askR id l j).2, (∃ p ∈ l, a.to = p.e) ∧ ¬ a.why = 3
  | [], j => ⟨rfl, fun a ha => by simp [askR] at ha⟩
  | p :: l, j => by
    unfold askR
    split
    · exact ⟨rfl, fun a ha => by simp at ha⟩
    · split
      · have := askR_to id l j
        exact ⟨this.1, fun a ha => ⟨(this.2 a ha).1.imp fun q hq => ⟨List.mem_cons_of_mem _ hq.1, hq.2⟩, (this.2 a ha).2⟩⟩
      · have := askR_to id l { j with waits := fewR j.waits + 1, asked := j.asked ++ [p.e.name] }
        refine ⟨this.1, fun a ha => ?_⟩
        rcases List.mem_cons.1 ha with rfl | ha
        · exact ⟨⟨p, List.mem_cons_self .., rfl⟩, by show ¬ (7 : Int) = 3; decide⟩
        · exact ⟨(this.2 a ha).1.imp fun q hq => ⟨List.mem_cons_of_mem _ hq.1, hq.2⟩, (this.2 a ha).2⟩
theorem tame_moreFin {n : Nd} (i : Nat) (id : Int) (j : Jb) (hl : ∀ p ∈ n.list, p.e.fine) (hb : j.back.fine) : Tame n (moreFin n i (askR id n.list j)) := by
  obtain ⟨h1, h2⟩ := askR_to id n.list j
  have ha : ∀ a ∈ (askR id n.list j).2, a.to.fine ∧ ¬ a.why = 3 := fun a ha => by
    obtain ⟨⟨p, hp, e⟩, w⟩ := h2 a ha
    exact ⟨by rw [e]; exact hl p hp, w⟩
  unfold moreFin
  split
  · exact ⟨rfl, rfl, ha⟩
  · have t := tame_tell (n := { n with jobs := n.jobs.eraseIdx i }) (back := (askR id n.list j).1.back) (askR id n.list j).1.backRid (askR id n.list j).1.backJob (askR id n.list j).1.item (!(askR id n.list j).1.item.g) 0 (by rw [h1]; exact hb)
    refine ⟨t.l, t.p, fun a h => ?_⟩
    rcases List.mem_append.1 h with h | h
    · exact ha a h
    · exact t.a a h
theorem tame_more {n : Nd} (id : Int) (h : n.fineB) : Tame n (moreR n id) := by
  rcases copR_cases n.jobs id with ⟨i, hi, hc⟩ | hc
  · rw [moreR_at hi hc]
    exact tame_moreFin i id _ h.l (h.j _ (List.getElem_mem hi))
  · rw [moreR_none hc]; exact Tame.none n n rfl rfl
theorem fineB_set {n : Nd} (h : n.fineB) (i : Nat) (j : Jb) (hb : j.back.fine) : ({ n with jobs := n.jobs.set i j } : Nd).fineB :=
  ⟨h.me, h.l, fun x hx => by
    rcases List.mem_or_eq_of_mem_set hx with hx | rfl
    · exact h.j x hx
    · exact hb⟩
theorem tame_came {n : Nd} (id : Int) (t : Bool) (h : n.fineB) : Tame n (cameR n id t) := by
  unfold cameR
  rcases copR_cases n.jobs id with ⟨i, hi, hc⟩ | hc
  · rw [hc, if_pos (by omega), Int.toNat_natCast, jobG_at hi]
    have t := tame_more id (fineB_set h i (cameJ t n.jobs[i]) (show n.jobs[i].back.fine from h.j _ (List.getElem_mem hi)))
    exact ⟨t.l, t.p, t.a⟩
  · rw [hc, if_neg (by omega)]; exact Tame.none n n rfl rfl
theorem tame_begin {n : Nd} (key val : List UInt8) (gone : Bool) {back : En} (rid job : Int) (h : n.fineB) (hb : back.fine) : Tame n (beginR n key val gone back rid job) := by
  unfold beginR
  split
  · have t := tame_more (n := begunR n key val gone back rid job) (nextI n.jobId) ⟨h.me, h.l, fun j hj => by
      rcases List.mem_append.1 hj with hj | hj
      · exact h.j j hj
      · rw [List.mem_singleton] at hj; rw [hj]; exact hb⟩
    exact ⟨t.l, t.p, t.a⟩
  · exact tame_tell rid job zeroIt false _ hb
theorem enZ_fine : enZ.fine := ⟨⟨by decide, by decide, by decide, by decide, by decide, by decide, by decide⟩, by decide, by decide⟩
theorem owner_fine (key : Nat) (l : List Pr) (hp : ∀ p ∈ l, p.e.fine) (me : En) (hm : me.fine) : (ownerR me l key).fine := by
  rw [ownerR_eq]
  induction l generalizing me with
  | nil => exact hm
  | cons p l ih =>
    refine ih (fun q hq => hp q (List.mem_cons_of_mem _ hq)) _ ?_
    unfold bestS
    split
    · exact hp p (List.mem_cons_self ..)
    · exact hm
theorem tame_seekC {n : Nd} (i : Nat) (hi : i < n.jobs.length) (id : Int) (h : n.fineB) : Tame n (seekC n i id) := by
  unfold seekC
  rw [jobG_at hi]
  split
  · split
    · exact tame_settle _ _ _ _ _
    · have t := tame_begin n.jobs[i].key n.jobs[i].val (decide (n.jobs[i].kind = 2)) 0 id (fineB_set h i { n.jobs[i] with phase := 2 } (show n.jobs[i].back.fine from h.j _ (List.getElem_mem hi))) enZ_fine
      exact ⟨t.l, t.p, t.a⟩
  · exact Tame.one rfl rfl (owner_fine _ _ h.l _ h.me) (by show ¬ (5 : Int) = 3; decide)
theorem tame_againC {n : Nd} (i : Nat) (hi : i < n.jobs.length) (id why : Int) (h : n.fineB) : Tame n (againC n i id why) := by
  unfold againC
  rw [jobG_at hi]
  split
  · exact tame_settle _ _ _ _ _
  · have t := tame_seekC (n := { n with jobs := n.jobs.set i { n.jobs[i] with tries := n.jobs[i].tries + 1 } }) i (by simpa using hi) id (fineB_set h i _ (show n.jobs[i].back.fine from h.j _ (List.getElem_mem hi)))
    exact ⟨t.l, t.p, t.a⟩
theorem tame_foundC {n : Nd} (id : Int) {from_ owner : En} (h : n.fineB) (hf : from_.fine) (ho : owner.fine) : Tame n (foundC n id from_ owner) := by
  rcases cliP_cases n.jobs id with ⟨i, hi, _, _, _, hc⟩ | ⟨hc, _⟩
  · rw [foundC_at hi hc]
    split
    · unfold foundJ
      split
      · split
        · exact Tame.one rfl rfl hf (by show ¬ (6 : Int) = 3; decide)
        · exact tame_settle _ _ _ _ _
      · split
        · exact tame_settle _ _ _ _ _
        · split
          · exact tame_settle _ _ _ _ _
          · exact Tame.one rfl rfl ho (by show ¬ (5 : Int) = 3; decide)
    · exact Tame.none n n rfl rfl
  · rw [foundC_none hc]; exact Tame.none n n rfl rfl
theorem tame_actedC {n : Nd} (id : Int) (m : Ms) (h : n.fineB) : Tame n (actedC n id m) := by
  rcases cliP_cases n.jobs id with ⟨i, hi, _, _, _, hc⟩ | ⟨hc, _⟩
  · rw [actedC_at hi hc]
    split
    · unfold actedJ
      split
      · exact tame_againC i hi id _ h
      · split
        · exact tame_settle _ _ _ _ _
        · exact tame_settle _ _ _ _ _
    · exact Tame.none n n rfl rfl
  · rw [actedC_none hc]; exact Tame.none n n rfl rfl
structure SelfOk (n : Nd) (e : En) (q : Nd × List Ac) : Prop where
  l : ∀ x ∈ q.1.list ++ q.1.pred, (validR n.gateI n.gateK e n.clock = 0 ∧ x = takenP n.gateI n.gateK e n.clock) ∨ x ∈ n.list ++ n.pred
  a : ∀ a ∈ q.2, a.to.fine ∧ (a.why = 3 → validR n.gateI n.gateK a.to n.clock = 0)
  n : q.1.list.length ≤ n.list.length + 1 ∧ q.1.pred.length = n.pred.length
theorem Tame.self {n : Nd} {e : En} {q : Nd × List Ac} (t : Tame n q) : SelfOk n e q :=
  ⟨fun x hx => by rw [t.l, t.p] at hx; exact .inr hx, fun a ha => ⟨(t.a a ha).1, fun h => absurd h (t.a a ha).2⟩, by rw [t.l, t.p]; exact ⟨by omega, rfl⟩⟩
theorem self_ok {n : Nd} {p : Pd} {e : En} {m : Ms} (h : LrnOk n e m) (hb : n.fineB) : SelfOk n e (answerL n p e m) := by
  have Z : SelfOk n e (n, []) := (Tame.none n n rfl rfl).self
  by_cases h0 : answerK p.m.kind = 0
  · rw [ansL_none (.inl h0)]; exact Z
  by_cases h1 : answerK p.m.kind = m.kind
  · rw [ansL_why h0 h1]
    unfold whyL
    split
    · refine ⟨fun x hx => .inr hx, fun a ha => ?_, ⟨Nat.le_succ _, rfl⟩⟩
      rcases meetR_mem m.ents [] ha with h' | ⟨x, hx, rfl, hv⟩
      · simp at h'
      · exact ⟨h.ef x hx, fun _ => hv⟩
    split
    · refine ⟨fun x hx => ?_, fun a ha => by simp at ha, ?_⟩
      rotate_left
      · have := addP_len n.me n.list (takenP n.gateI n.gateK e n.clock)
        unfold heardR
        split
        · exact ⟨this, rfl⟩
        · exact ⟨Nat.le_succ _, rfl⟩
      show _ ∨ x ∈ n.list ++ n.pred
      unfold heardR at hx
      split at hx
      · rename_i hv
        rcases List.mem_append.1 hx with hx | hx
        · rcases addP_mem hx with hx | hx
          · exact .inr (List.mem_append.2 (.inl hx))
          · exact .inl ⟨hv, hx⟩
        · exact .inr (List.mem_append.2 (.inr hx))
      · exact .inr hx
    split
    · by_cases hl : m.ents.length = 1
      · obtain ⟨x, hx⟩ := List.length_eq_one_iff.1 hl
        rw [findL_one hx]
        exact (tame_foundC p.job hb h.e (h.ef x (by rw [hx]; exact List.mem_singleton.2 rfl))).self
      · rw [findL_no hl]; exact Z
    split
    · exact (tame_actedC p.job m hb).self
    split
    · exact (tame_came p.job _ hb).self
    split
    · unfold handR
      split
      · exact (Tame.none n { n with items := (mergeR n.items m.items).1, ready := true } rfl rfl).self
      · exact Z
    · exact Z
  · rw [ansL_none (.inr h1)]; exact Z
end Go.Proofs.YtnpkhdjgedeppaaGreatDoor
namespace Go.Proofs.YtnpkhdjgedeppaaGreatDoor
set_option maxHeartbeats 64000000
open Go.Am
set_option linter.unusedSimpArgs false
set_option linter.unusedVariables false
set_option maxRecDepth 100000
attribute [local irreducible] distR idB sumB
@[go_sem] theorem c5_l29_Great (ex ds) : fn C5 10 ex ds = fn C 10 ex ds := c5_c _ (by decide) ex ds
@[go_sem] theorem c5_l29_Huge (ex ds) : fn C5 11 ex ds = fn C 11 ex ds := c5_c _ (by decide) ex ds
@[go_sem] theorem c5_l28_Great (ex ds) : fn C5 41 ex ds = fn C 41 ex ds := c5_c _ (by decide) ex ds
@[go_sem] theorem c5_l11_Great (ex ds) : fn C5 22 ex ds = fn C 22 ex ds := c5_c _ (by decide) ex ds
theorem hugeMF {n : Nd} {m : Ms} (h : 0 ≤ n.clock ∧ n.clock ≤ 1099511627776) (g : greatM m = false) : (decide (n.clock < 0) || decide (1099511627776 < n.clock) || greatM m) = false := by simp [g]; omega
theorem hugeMT {n : Nd} {m : Ms} (h : ¬ (0 ≤ n.clock ∧ n.clock ≤ 1099511627776)) : (decide (n.clock < 0) || decide (1099511627776 < n.clock) || greatM m) = true := by
  have := hugeT h; simp [this]
theorem hugeMM {n : Nd} {m : Ms} (g : greatM m = true) : (decide (n.clock < 0) || decide (1099511627776 < n.clock) || greatM m) = true := by simp [g]
theorem eGreat28 (p : Pd) (h : p.fit) : fn C 41 [] [.slice 23 [[.int .i64 p.rid, .int .i64 p.why, .int .i64 p.job, .int .i64 p.til, .int .i64 p.tries, .int .u64 (p.session : Int), .str p.to.name, .int .u64 (p.to.id : Int), .int .i64 p.to.fr, .int .i64 p.to.un, .int .i64 p.to.ix, .str p.to.tag, .int .i64 p.m.kind, .int .i64 p.m.rid, .int .i64 p.m.ver, .int .i64 p.m.err, .int .u64 (p.m.id : Int), .bool p.m.has, .bool p.m.gone, .str p.m.key, .str p.m.val, .slice 6 (p.m.ents.map En.cs), .slice 4 (p.m.items.map It.cs)]]] = some (.bool (greatPds [p]), []) := by
  have := e41 [p] (by simp) (fun x hx => by rw [List.mem_singleton] at hx; rw [hx]; exact h)
  exact this
theorem gN_cli {n : Nd} (g : greatN n = false) (ho : n.ok) (hc : 0 ≤ n.clock ∧ n.clock ≤ 1099511627776) : CliOk n := by
  have sm := greatN_no g
  have hmid := gN_mid g
  exact ⟨⟨hmid.le (by omega), ho.me.id, fun p hp => (ho.list p hp).e.id, hc, fun j hj => ⟨Nat.le_trans (sm.j j hj).k (by omega), Nat.le_trans (sm.j j hj).v (by omega)⟩, fun j hj => ⟨(ho.jobs j hj).tries.1, (ho.jobs j hj).hops.1⟩⟩, ho.jobId⟩
theorem gN_lrn {n : Nd} {e : En} {m : Ms} (g : greatN n = false) (ho : n.ok) (ge : greatE e = false) (he : e.ok) (gm : greatM m = false) (hm : m.ok) (hc : 0 ≤ n.clock ∧ n.clock ≤ 1099511627776) : LrnOk n e m := by
  have sm := greatN_no g
  have sg := greatM_no gm
  exact ⟨gN_cli g ho hc, gN_fine g ho, Nat.le_trans sm.ll (by omega), gE_fine ge he, Nat.le_trans sg.e (by omega), fun x hx => ⟨hm.ents x hx, Nat.le_trans (sg.es x hx).n (by omega), Nat.le_trans (sg.es x hx).t (by omega)⟩, Nat.le_trans sg.i (by omega), fun x hx => Nat.le_trans (sg.is x hx).k (by decide), fun x hx => Nat.le_trans (sm.i x hx).k (by decide)⟩
theorem gN_jm {n : Nd} (g : greatN n = false) : ∀ j ∈ n.jobs, j.key.length ≤ 9223372036854775807 ∧ j.val.length ≤ 9223372036854775807 := fun j hj => ⟨Nat.le_trans ((greatN_no g).j j hj).k (by decide), Nat.le_trans ((greatN_no g).j j hj).v (by decide)⟩
end Go.Proofs.YtnpkhdjgedeppaaGreatDoor
namespace Go.Proofs.YtnpkhdjgedeppaaGreatDoor
set_option maxHeartbeats 64000000
open Go.Am
set_option linter.unusedSimpArgs false
set_option linter.unusedVariables false
set_option maxRecDepth 100000
attribute [local irreducible] distR idB sumB validR
@[go_sem] theorem c5_gate_Take (ex ds) : fn C5 45 ex ds = fn C 45 ex ds := c5_c _ (by decide) ex ds
theorem pr_eq (x y : Pr) : (x.e.name = y.e.name ∧ x.e.id = y.e.id ∧ x.e.fr = y.e.fr ∧ x.e.un = y.e.un ∧ x.e.ix = y.e.ix ∧ x.e.tag = y.e.tag ∧ x.since = y.since ∧ x.under = y.under) = (x = y) := by
  refine propext ⟨fun h => ?_, fun h => by rw [h]; exact ⟨rfl, rfl, rfl, rfl, rfl, rfl, rfl, rfl⟩⟩
  obtain ⟨h1, h2, h3, h4, h5, h6, h7, h8⟩ := h
  have he : x.e = y.e := (En.eq_iff x.e y.e).2 ⟨h1, h2, h3, h4, h5, h6⟩
  cases x; cases y
  try simp only at he h7 h8
  rw [he, h7, h8]
def eqPr (x y : Pr) : Bool := decide (x = y)
theorem eqPr_F (x y : Pr) : eqF E.P 8 74 (.agg [.str x.e.name, .int .u64 (x.e.id : Int), .int .i64 x.e.fr, .int .i64 x.e.un, .int .i64 x.e.ix, .str x.e.tag, .int .i64 x.since, .int .i64 x.under]) (.agg [.str y.e.name, .int .u64 (y.e.id : Int), .int .i64 y.e.fr, .int .i64 y.e.un, .int .i64 y.e.ix, .str y.e.tag, .int .i64 y.since, .int .i64 y.under]) = some (eqPr x y) := by
  rw [eqPeer]
  congr 1
  unfold eqPr
  have h := pr_eq x y
  refine decide_eq_decide.2 ?_
  rw [← h]
  simp only [Int.ofNat_inj, and_assoc]
theorem e8 (n : Nd) (p : Pd) (e : En) (m : Ms) (ho : n.ok) (hf : n.fit) (hpf : p.fit) (he : e.ok) (hef : e.fit) (hm : m.ok) (hmf : m.fit) : fn C5 8 [] [(aNd n), .agg [.int .i64 p.rid, .int .i64 p.why, .int .i64 p.job, .int .i64 p.til, .int .i64 p.tries, .int .u64 (p.session : Int), .str p.to.name, .int .u64 (p.to.id : Int), .int .i64 p.to.fr, .int .i64 p.to.un, .int .i64 p.to.ix, .str p.to.tag, .int .i64 p.m.kind, .int .i64 p.m.rid, .int .i64 p.m.ver, .int .i64 p.m.err, .int .u64 (p.m.id : Int), .bool p.m.has, .bool p.m.gone, .str p.m.key, .str p.m.val, .slice 6 (p.m.ents.map En.cs), .slice 4 (p.m.items.map It.cs)], .agg [.str e.name, .int .u64 (e.id : Int), .int .i64 e.fr, .int .i64 e.un, .int .i64 e.ix, .str e.tag], .agg [.int .i64 m.kind, .int .i64 m.rid, .int .i64 m.ver, .int .i64 m.err, .int .u64 (m.id : Int), .bool m.has, .bool m.gone, .str m.key, .str m.val, .slice 6 (m.ents.map En.cs), .slice 4 (m.items.map It.cs)]] = some (.bool true, []) := by
  have gr := e10 n hf
  have hu := e11 n m hmf
  have lg := e22 e hef.n hef.t
  have gp := eGreat28 p hpf
  have wk := e42
  rcases Bool.eq_false_or_eq_true (greatN n) with g | g
  · rw [g] at gr
    rw [fn_text (C := C5) Tryz.func8 rfl rfl Tryz.results8 (show (C5).M.loc 8 = _ from fq8.1) rfl rfl (by kernel_rfl)]
    simp -implicitDefEqProofs -dsimp +contextual (maxSteps := 9999999) (disch := first | omega | simp only [go_sem] <;> omega | refine ib ?_; kernel_rfl) only [go_sem, seval, ↓reduceIte, gr, wk]
  rw [g] at gr
  by_cases hc : ¬ (0 ≤ n.clock ∧ n.clock ≤ 1099511627776)
  · rw [hugeMT hc] at hu
    rw [fn_text (C := C5) Tryz.func8 rfl rfl Tryz.results8 (show (C5).M.loc 8 = _ from fq8.1) rfl rfl (by kernel_rfl)]
    simp -implicitDefEqProofs -dsimp +contextual (maxSteps := 9999999) (disch := first | omega | simp only [go_sem] <;> omega | refine ib ?_; kernel_rfl) only [go_sem, seval, ↓reduceIte, gr, wk, hu]
  have hc := Decidable.not_not.1 hc
  rcases Bool.eq_false_or_eq_true (greatM m) with gm | gm
  · rw [hugeMM gm] at hu
    rw [fn_text (C := C5) Tryz.func8 rfl rfl Tryz.results8 (show (C5).M.loc 8 = _ from fq8.1) rfl rfl (by kernel_rfl)]
    simp -implicitDefEqProofs -dsimp +contextual (maxSteps := 9999999) (disch := first | omega | simp only [go_sem] <;> omega | refine ib ?_; kernel_rfl) only [go_sem, seval, ↓reduceIte, gr, wk, hu]
  rw [hugeMF hc gm] at hu
  rcases Bool.eq_false_or_eq_true (greatE e) with ge | ge
  · rw [ge] at lg
    rw [fn_text (C := C5) Tryz.func8 rfl rfl Tryz.results8 (show (C5).M.loc 8 = _ from fq8.1) rfl rfl (by kernel_rfl)]
    simp -implicitDefEqProofs -dsimp +contextual (maxSteps := 9999999) (disch := first | omega | simp only [go_sem] <;> omega | refine ib ?_; kernel_rfl) only [go_sem, seval, ↓reduceIte, gr, wk, hu, lg]
  rw [ge] at lg
  rcases Bool.eq_false_or_eq_true (greatPds [p]) with gq | gq
  · rw [gq] at gp
    rw [fn_text (C := C5) Tryz.func8 rfl rfl Tryz.results8 (show (C5).M.loc 8 = _ from fq8.1) rfl rfl (by kernel_rfl)]
    simp -implicitDefEqProofs -dsimp +contextual (maxSteps := 9999999) (disch := first | omega | simp only [go_sem] <;> omega | refine ib ?_; kernel_rfl) only [go_sem, seval, ↓reduceIte, gr, wk, hu, lg, gp]
  rw [gq] at gp
  have ok := gN_lrn g ho ge he gm hm hc
  have sm := greatN_no g
  have fb : n.fineB := ⟨⟨ho.me, Nat.le_trans sm.me.n (by omega), Nat.le_trans sm.me.t (by omega)⟩, fun q hq => ⟨(ho.list q hq).e, Nat.le_trans (sm.l q hq).n (by omega), Nat.le_trans (sm.l q hq).t (by omega)⟩, fun j hj => ⟨(ho.jobs j hj).back, Nat.le_trans (sm.j j hj).b.n (by omega), Nat.le_trans (sm.j j hj).b.t (by omega)⟩⟩
  have b1 := eAnswerL n p e m ok
  have tk := e45 n.gateI n.gateK e n.clock he ok.e.n ok.e.t ok.f.gk
  have gd := good_why (p := p) (gN_good g hf) ok (gN_jm g)
  have so := self_ok (p := p) ok fb
  have gk := ok.f.gk
  have nl := (gN_mid g).ll
  have np := (gN_mid g).pl
  clear sm fb ok
  generalize answerL n p e m = q at b1 gd so
  obtain ⟨d, acts⟩ := q
  unfold pairC at b1
  rw [Nd.cs] at b1
  have al := gd.2.1
  obtain ⟨sl, sa, dl, dp⟩ := so
  try simp only at sl sa dl dp al
  clear gd
  generalize takenP n.gateI n.gateK e n.clock = T at *
  generalize validR n.gateI n.gateK e n.clock = v at *
  rw [fn_text (C := C5) Tryz.func8 rfl rfl Tryz.results8 (show (C5).M.loc 8 = _ from fq8.1) rfl rfl (by kernel_rfl)]
  simp -implicitDefEqProofs -dsimp +contextual (maxSteps := 9999999) (disch := first | omega | simp only [go_sem] <;> omega | refine ib ?_; kernel_rfl) only [go_sem, seval, ↓reduceIte, gr, wk, hu, lg, gp, b1, tk]
  have hX : (d.list ++ d.pred).length = d.list.length + d.pred.length := List.length_append
  have hN : (n.list ++ n.pred).length = n.list.length + n.pred.length := List.length_append
  refine kFor (d.list.length + d.pred.length) (fun i f H => f 4 = .ptr 104 1 0 0 ∧ f 10 = .slice 20 (acts.map Ac.cs) ∧ f 11 = .ptr 111 1 0 0 ∧ f 12 = .int .i64 v ∧ f 63 = .osl 157 3 0 (d.list.length + d.pred.length) ∧ f 64 = .int .i64 ((d.list.length + d.pred.length : Nat) : Int) ∧ f 65 = .int .i64 (i : Nat) ∧ H 104 = ⟨1, .live, 22, [[.str n.me.name, .int .u64 (n.me.id : Int), .int .i64 n.me.fr, .int .i64 n.me.un, .int .i64 n.me.ix, .str n.me.tag, .int .i64 n.clock, .str n.psk, .int .i64 n.gateI, .str n.gateK, .bool n.ready, .slice 8 (n.pred.map Pr.cs), .slice 8 (n.list.map Pr.cs), .slice 9 (n.fingers.map Fg.cs), .slice 20 (n.sessions.map Se.cs), .slice 23 (n.pends.map Pd.cs), .slice 4 (n.items.map It.cs), .slice 29 (n.jobs.map Jb.cs), .int .i64 n.rid, .int .i64 n.jobId, .slice 1 (n.draws.map u64Row), .slice 8 (n.results.map Rs.cs)]], false⟩ ∧ H 111 = ⟨1, .live, 8, [[.str T.e.name, .int .u64 (T.e.id : Int), .int .i64 T.e.fr, .int .i64 T.e.un, .int .i64 T.e.ix, .str T.e.tag, .int .i64 T.since, .int .i64 T.under]], false⟩ ∧ H 157 = ⟨3, .live, 8, (d.list ++ d.pred).map Pr.cs, false⟩) ?_ ?_ (by exact ⟨rfl, rfl, rfl, rfl, rfl, rfl, rfl, rfl, rfl, rfl⟩)
  · rintro i f H0 hi ⟨f4, f10, f11, f12, f63, f64, f65, H4, H11, H57⟩ ih
    have hi' : i < (d.list ++ d.pred).length := by omega
    have row : ((d.list ++ d.pred).map Pr.cs)[i]? = some [.str (d.list ++ d.pred)[i].e.name, .int .u64 ((d.list ++ d.pred)[i].e.id : Int), .int .i64 (d.list ++ d.pred)[i].e.fr, .int .i64 (d.list ++ d.pred)[i].e.un, .int .i64 (d.list ++ d.pred)[i].e.ix, .str (d.list ++ d.pred)[i].e.tag, .int .i64 (d.list ++ d.pred)[i].since, .int .i64 (d.list ++ d.pred)[i].under] := by rw [List.getElem?_map, List.getElem?_eq_getElem hi']; rfl
    have hs := sl _ (List.getElem_mem hi')
    generalize (d.list ++ d.pred)[i] = x at *
    generalize (d.list ++ d.pred).map Pr.cs = rx at *
    obtain ⟨b0, hb0⟩ : ∃ b0 : Bool, b0 = decide (v = 0 ∧ x = T) := ⟨_, rfl⟩
    have fin : (b0 || (n.list ++ n.pred).any (eqPr x)) = true := by
      rcases hs with ⟨h1, h2⟩ | h
      · rw [hb0, decide_eq_true ⟨h1, h2⟩]; rfl
      · rw [List.any_eq_true.2 ⟨x, h, decide_eq_true rfl⟩, Bool.or_true]
    have e1 := eqPr_F x T
    by_cases hv : v = 0
    · have hv' := eq_true hv
      have hb : b0 = eqPr x T := by rw [hb0]; unfold eqPr; simp [hv]
      rw [← hb] at e1
      clear hb hb0
      simp -implicitDefEqProofs -dsimp +contextual (maxSteps := 9999999) (disch := first | omega | simp only [go_sem] <;> omega | refine ib ?_; kernel_rfl) only [go_sem, seval, ↓reduceIte, f4, f10, f11, f12, f63, f64, f65, H4, H11, H57, hi, row, hv', e1]
      refine kFor (n.list.length + n.pred.length) (fun k f H => f 4 = .ptr 104 1 0 0 ∧ f 10 = .slice 20 (acts.map Ac.cs) ∧ f 11 = .ptr 111 1 0 0 ∧ f 12 = .int .i64 v ∧ f 14 = .ptr 114 ((H0 114).gen + 1) 0 0 ∧ f 15 = .bool (b0 || ((n.list ++ n.pred).take k).any (eqPr x)) ∧ f 63 = .osl 157 3 0 (d.list.length + d.pred.length) ∧ f 64 = .int .i64 ((d.list.length + d.pred.length : Nat) : Int) ∧ f 65 = .int .i64 (i : Nat) ∧ f 82 = .osl 176 ((H0 176).gen + 1 + 1 + 1) 0 (n.list.length + n.pred.length) ∧ f 83 = .int .i64 ((n.list.length + n.pred.length : Nat) : Int) ∧ f 84 = .int .i64 (k : Nat) ∧ H 104 = ⟨1, .live, 22, [[.str n.me.name, .int .u64 (n.me.id : Int), .int .i64 n.me.fr, .int .i64 n.me.un, .int .i64 n.me.ix, .str n.me.tag, .int .i64 n.clock, .str n.psk, .int .i64 n.gateI, .str n.gateK, .bool n.ready, .slice 8 (n.pred.map Pr.cs), .slice 8 (n.list.map Pr.cs), .slice 9 (n.fingers.map Fg.cs), .slice 20 (n.sessions.map Se.cs), .slice 23 (n.pends.map Pd.cs), .slice 4 (n.items.map It.cs), .slice 29 (n.jobs.map Jb.cs), .int .i64 n.rid, .int .i64 n.jobId, .slice 1 (n.draws.map u64Row), .slice 8 (n.results.map Rs.cs)]], false⟩ ∧ H 111 = ⟨1, .live, 8, [[.str T.e.name, .int .u64 (T.e.id : Int), .int .i64 T.e.fr, .int .i64 T.e.un, .int .i64 T.e.ix, .str T.e.tag, .int .i64 T.since, .int .i64 T.under]], false⟩ ∧ H 157 = ⟨3, .live, 8, rx, false⟩ ∧ H 114 = ⟨(H0 114).gen + 1, .live, 8, [[.str x.e.name, .int .u64 (x.e.id : Int), .int .i64 x.e.fr, .int .i64 x.e.un, .int .i64 x.e.ix, .str x.e.tag, .int .i64 x.since, .int .i64 x.under]], false⟩ ∧ H 176 = ⟨(H0 176).gen + 1 + 1 + 1, .live, 8, (n.list ++ n.pred).map Pr.cs, false⟩) ?_ ?_ (by exact ⟨f4, f10, f11, f12, rfl, (by simp [upd]), f63, f64, f65, rfl, rfl, rfl, H4, H11, H57, rfl, rfl⟩)
      · clear f4 f10 f11 f12 f63 f64 f65 H4 H11 H57
        rintro k f H hk ⟨f4, f10, f11, f12, f14, f15, f63, f64, f65, f82, f83, f84, H4, H11, H57, H14, H76⟩ jh
        have hk' : k < (n.list ++ n.pred).length := by omega
        have rowk : ((n.list ++ n.pred).map Pr.cs)[k]? = some [.str (n.list ++ n.pred)[k].e.name, .int .u64 ((n.list ++ n.pred)[k].e.id : Int), .int .i64 (n.list ++ n.pred)[k].e.fr, .int .i64 (n.list ++ n.pred)[k].e.un, .int .i64 (n.list ++ n.pred)[k].e.ix, .str (n.list ++ n.pred)[k].e.tag, .int .i64 (n.list ++ n.pred)[k].since, .int .i64 (n.list ++ n.pred)[k].under] := by rw [List.getElem?_map, List.getElem?_eq_getElem hk']; rfl
        have st : ((n.list ++ n.pred).take (k + 1)).any (eqPr x) = (((n.list ++ n.pred).take k).any (eqPr x) || eqPr x (n.list ++ n.pred)[k]) := by
          rw [List.take_succ_eq_append_getElem hk', List.any_append]; simp
        generalize (n.list ++ n.pred)[k] = y at *
        have e2 := eqPr_F x y
        have cl : ((n.list ++ n.pred).map Pr.cs).all clos = true := Pr_clos _
        generalize (n.list ++ n.pred).map Pr.cs = rn at *
        cases hb2 : (b0 || ((n.list ++ n.pred).take k).any (eqPr x)) with
        | true =>
          rw [hb2] at f15
          simp -implicitDefEqProofs -dsimp +contextual (maxSteps := 9999999) (disch := first | omega | simp only [go_sem] <;> omega | refine ib ?_; kernel_rfl) only [go_sem, seval, ↓reduceIte, f4, f10, f11, f12, f14, f15, f63, f64, f65, f82, f83, f84, H4, H11, H57, H14, H76, hk, rowk, e2]
          refine jh _ _ ?_
          exact ⟨f4, f10, f11, f12, f14, (by rw [st, ← Bool.or_assoc, hb2]; rfl), f63, f64, f65, f82, f83, rfl, H4, H11, H57, H14, H76⟩
        | false =>
          rw [hb2] at f15
          simp -implicitDefEqProofs -dsimp +contextual (maxSteps := 9999999) (disch := first | omega | simp only [go_sem] <;> omega | refine ib ?_; kernel_rfl) only [go_sem, seval, ↓reduceIte, f4, f10, f11, f12, f14, f15, f63, f64, f65, f82, f83, f84, H4, H11, H57, H14, H76, hk, rowk, e2]
          refine jh _ _ ?_
          exact ⟨f4, f10, f11, f12, f14, (by rw [st, ← Bool.or_assoc, hb2]; rfl), f63, f64, f65, f82, f83, rfl, H4, H11, H57, H14, H76⟩
      · clear f4 f10 f11 f12 f63 f64 f65 H4 H11 H57
        rintro f H ⟨f4, f10, f11, f12, f14, f15, f63, f64, f65, f82, f83, f84, H4, H11, H57, H14, H76⟩
        rw [← hN, List.take_length, fin] at f15
        simp -implicitDefEqProofs -dsimp +contextual (maxSteps := 9999999) (disch := first | omega | simp only [go_sem] <;> omega | refine ib ?_; kernel_rfl) only [go_sem, seval, ↓reduceIte, f4, f10, f11, f12, f14, f15, f63, f64, f65, f82, f83, f84, H4, H11, H57]
        refine ih _ _ ?_
        exact ⟨f4, f10, f11, f12, f63, f64, rfl, H4, H11, H57⟩
    · have hv' := eq_false hv
      have hb : b0 = false := by rw [hb0]; simp [hv]
      rw [hb] at fin
      clear hb hb0
      simp -implicitDefEqProofs -dsimp +contextual (maxSteps := 9999999) (disch := first | omega | simp only [go_sem] <;> omega | refine ib ?_; kernel_rfl) only [go_sem, seval, ↓reduceIte, f4, f10, f11, f12, f63, f64, f65, H4, H11, H57, hi, row, hv', e1]
      refine kFor (n.list.length + n.pred.length) (fun k f H => f 4 = .ptr 104 1 0 0 ∧ f 10 = .slice 20 (acts.map Ac.cs) ∧ f 11 = .ptr 111 1 0 0 ∧ f 12 = .int .i64 v ∧ f 14 = .ptr 114 ((H0 114).gen + 1) 0 0 ∧ f 15 = .bool (false || ((n.list ++ n.pred).take k).any (eqPr x)) ∧ f 63 = .osl 157 3 0 (d.list.length + d.pred.length) ∧ f 64 = .int .i64 ((d.list.length + d.pred.length : Nat) : Int) ∧ f 65 = .int .i64 (i : Nat) ∧ f 82 = .osl 176 ((H0 176).gen + 1 + 1 + 1) 0 (n.list.length + n.pred.length) ∧ f 83 = .int .i64 ((n.list.length + n.pred.length : Nat) : Int) ∧ f 84 = .int .i64 (k : Nat) ∧ H 104 = ⟨1, .live, 22, [[.str n.me.name, .int .u64 (n.me.id : Int), .int .i64 n.me.fr, .int .i64 n.me.un, .int .i64 n.me.ix, .str n.me.tag, .int .i64 n.clock, .str n.psk, .int .i64 n.gateI, .str n.gateK, .bool n.ready, .slice 8 (n.pred.map Pr.cs), .slice 8 (n.list.map Pr.cs), .slice 9 (n.fingers.map Fg.cs), .slice 20 (n.sessions.map Se.cs), .slice 23 (n.pends.map Pd.cs), .slice 4 (n.items.map It.cs), .slice 29 (n.jobs.map Jb.cs), .int .i64 n.rid, .int .i64 n.jobId, .slice 1 (n.draws.map u64Row), .slice 8 (n.results.map Rs.cs)]], false⟩ ∧ H 111 = ⟨1, .live, 8, [[.str T.e.name, .int .u64 (T.e.id : Int), .int .i64 T.e.fr, .int .i64 T.e.un, .int .i64 T.e.ix, .str T.e.tag, .int .i64 T.since, .int .i64 T.under]], false⟩ ∧ H 157 = ⟨3, .live, 8, rx, false⟩ ∧ H 114 = ⟨(H0 114).gen + 1, .live, 8, [[.str x.e.name, .int .u64 (x.e.id : Int), .int .i64 x.e.fr, .int .i64 x.e.un, .int .i64 x.e.ix, .str x.e.tag, .int .i64 x.since, .int .i64 x.under]], false⟩ ∧ H 176 = ⟨(H0 176).gen + 1 + 1 + 1, .live, 8, (n.list ++ n.pred).map Pr.cs, false⟩) ?_ ?_ (by exact ⟨f4, f10, f11, f12, rfl, (by simp [upd]), f63, f64, f65, rfl, rfl, rfl, H4, H11, H57, rfl, rfl⟩)
      · clear f4 f10 f11 f12 f63 f64 f65 H4 H11 H57
        rintro k f H hk ⟨f4, f10, f11, f12, f14, f15, f63, f64, f65, f82, f83, f84, H4, H11, H57, H14, H76⟩ jh
        have hk' : k < (n.list ++ n.pred).length := by omega
        have rowk : ((n.list ++ n.pred).map Pr.cs)[k]? = some [.str (n.list ++ n.pred)[k].e.name, .int .u64 ((n.list ++ n.pred)[k].e.id : Int), .int .i64 (n.list ++ n.pred)[k].e.fr, .int .i64 (n.list ++ n.pred)[k].e.un, .int .i64 (n.list ++ n.pred)[k].e.ix, .str (n.list ++ n.pred)[k].e.tag, .int .i64 (n.list ++ n.pred)[k].since, .int .i64 (n.list ++ n.pred)[k].under] := by rw [List.getElem?_map, List.getElem?_eq_getElem hk']; rfl
        have st : ((n.list ++ n.pred).take (k + 1)).any (eqPr x) = (((n.list ++ n.pred).take k).any (eqPr x) || eqPr x (n.list ++ n.pred)[k]) := by
          rw [List.take_succ_eq_append_getElem hk', List.any_append]; simp
        generalize (n.list ++ n.pred)[k] = y at *
        have e2 := eqPr_F x y
        have cl : ((n.list ++ n.pred).map Pr.cs).all clos = true := Pr_clos _
        generalize (n.list ++ n.pred).map Pr.cs = rn at *
        cases hb2 : (false || ((n.list ++ n.pred).take k).any (eqPr x)) with
        | true =>
          rw [hb2] at f15
          simp -implicitDefEqProofs -dsimp +contextual (maxSteps := 9999999) (disch := first | omega | simp only [go_sem] <;> omega | refine ib ?_; kernel_rfl) only [go_sem, seval, ↓reduceIte, f4, f10, f11, f12, f14, f15, f63, f64, f65, f82, f83, f84, H4, H11, H57, H14, H76, hk, rowk, e2]
          refine jh _ _ ?_
          exact ⟨f4, f10, f11, f12, f14, (by rw [st, ← Bool.or_assoc, hb2]; rfl), f63, f64, f65, f82, f83, rfl, H4, H11, H57, H14, H76⟩
        | false =>
          rw [hb2] at f15
          simp -implicitDefEqProofs -dsimp +contextual (maxSteps := 9999999) (disch := first | omega | simp only [go_sem] <;> omega | refine ib ?_; kernel_rfl) only [go_sem, seval, ↓reduceIte, f4, f10, f11, f12, f14, f15, f63, f64, f65, f82, f83, f84, H4, H11, H57, H14, H76, hk, rowk, e2]
          refine jh _ _ ?_
          exact ⟨f4, f10, f11, f12, f14, (by rw [st, ← Bool.or_assoc, hb2]; rfl), f63, f64, f65, f82, f83, rfl, H4, H11, H57, H14, H76⟩
      · clear f4 f10 f11 f12 f63 f64 f65 H4 H11 H57
        rintro f H ⟨f4, f10, f11, f12, f14, f15, f63, f64, f65, f82, f83, f84, H4, H11, H57, H14, H76⟩
        rw [← hN, List.take_length, fin] at f15
        simp -implicitDefEqProofs -dsimp +contextual (maxSteps := 9999999) (disch := first | omega | simp only [go_sem] <;> omega | refine ib ?_; kernel_rfl) only [go_sem, seval, ↓reduceIte, f4, f10, f11, f12, f14, f15, f63, f64, f65, f82, f83, f84, H4, H11, H57]
        refine ih _ _ ?_
        exact ⟨f4, f10, f11, f12, f63, f64, rfl, H4, H11, H57⟩
  · rintro f H ⟨f4, f10, f11, f12, f63, f64, f65, H4, H11, H57⟩
    simp -implicitDefEqProofs -dsimp +contextual (maxSteps := 9999999) (disch := first | omega | simp only [go_sem] <;> omega | refine ib ?_; kernel_rfl) only [go_sem, seval, ↓reduceIte, f4, f10, f11, f12, f63, f64, f65, H4, H11, H57]
    clear sl
    refine kFor acts.length (fun k f H => f 4 = .ptr 104 1 0 0 ∧ f 98 = .slice 20 (acts.map Ac.cs) ∧ f 99 = .int .i64 acts.length ∧ f 100 = .int .i64 (k : Nat) ∧ H 104 = ⟨1, .live, 22, [[.str n.me.name, .int .u64 (n.me.id : Int), .int .i64 n.me.fr, .int .i64 n.me.un, .int .i64 n.me.ix, .str n.me.tag, .int .i64 n.clock, .str n.psk, .int .i64 n.gateI, .str n.gateK, .bool n.ready, .slice 8 (n.pred.map Pr.cs), .slice 8 (n.list.map Pr.cs), .slice 9 (n.fingers.map Fg.cs), .slice 20 (n.sessions.map Se.cs), .slice 23 (n.pends.map Pd.cs), .slice 4 (n.items.map It.cs), .slice 29 (n.jobs.map Jb.cs), .int .i64 n.rid, .int .i64 n.jobId, .slice 1 (n.draws.map u64Row), .slice 8 (n.results.map Rs.cs)]], false⟩) ?_ ?_ (by exact ⟨f4, rfl, rfl, rfl, H4⟩)
    · clear f4 f10 f11 f12 f63 f64 f65 H4 H11 H57
      rintro k f H hk ⟨f4, f98, f99, f100, H4⟩ ih
      have row : (acts.map Ac.cs)[k]? = some [.bool acts[k].ans, .str acts[k].to.name, .int .u64 (acts[k].to.id : Int), .int .i64 acts[k].to.fr, .int .i64 acts[k].to.un, .int .i64 acts[k].to.ix, .str acts[k].to.tag, .int .i64 acts[k].m.kind, .int .i64 acts[k].m.rid, .int .i64 acts[k].m.ver, .int .i64 acts[k].m.err, .int .u64 (acts[k].m.id : Int), .bool acts[k].m.has, .bool acts[k].m.gone, .str acts[k].m.key, .str acts[k].m.val, .slice 6 (acts[k].m.ents.map En.cs), .slice 4 (acts[k].m.items.map It.cs), .int .i64 acts[k].why, .int .i64 acts[k].job] := by rw [List.getElem?_map, List.getElem?_eq_getElem hk]; rfl
      obtain ⟨s1, s2⟩ := sa _ (List.getElem_mem hk)
      have tk2 := e45 n.gateI n.gateK acts[k].to n.clock s1.ok s1.n s1.t gk
      generalize acts[k] = a at *
      by_cases hw : a.why = 3
      · have hw' := eq_true hw
        rw [s2 hw] at tk2
        generalize takenP n.gateI n.gateK a.to n.clock = T2 at *
        simp -implicitDefEqProofs -dsimp +contextual (maxSteps := 9999999) (disch := first | omega | simp only [go_sem] <;> omega | refine ib ?_; kernel_rfl) only [go_sem, seval, ↓reduceIte, f4, f98, f99, f100, H4, hk, row, tk2, hw']
        refine ih _ _ ?_
        exact ⟨f4, f98, f99, rfl, H4⟩
      · have hw' := eq_false hw
        generalize takenP n.gateI n.gateK a.to n.clock = T2 at *
        generalize validR n.gateI n.gateK a.to n.clock = v2 at *
        simp -implicitDefEqProofs -dsimp +contextual (maxSteps := 9999999) (disch := first | omega | simp only [go_sem] <;> omega | refine ib ?_; kernel_rfl) only [go_sem, seval, ↓reduceIte, f4, f98, f99, f100, H4, hk, row, tk2, hw']
        refine ih _ _ ?_
        exact ⟨f4, f98, f99, rfl, H4⟩
    · rintro f H ⟨f4, f98, f99, f100, H4⟩
      simp -implicitDefEqProofs -dsimp +contextual (maxSteps := 9999999) (disch := first | omega | simp only [go_sem] <;> omega | refine ib ?_; kernel_rfl) only [go_sem, seval, ↓reduceIte, f4, f98, f99, f100, H4]
end Go.Proofs.YtnpkhdjgedeppaaGreatDoor
