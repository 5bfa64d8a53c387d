import Derived.Test.YtclgfgnhcakhdaaGreatDoorBr1
namespace Go.Am
open Go.ChangeShapes Go.WideShapes Go.ChangeAt Go.RowKit
set_option linter.unusedSectionVars false
set_option linter.unusedVariables false
def topA (P : Program) (t : TypeId) (as : List AVal) : AVal :=
  match P.underlying t with
  | some (.struct _) => .agg as
  | some (.array _ _) => .agg as
  | _ => as.headD .junk
theorem ORels.ofPlain {S : Nat → Prop} {w : World} : ∀ {as : List AVal} {xs : List Value}, CRels S w as xs → (∀ a ∈ as, a.plain = true) → ORels S w as xs []
  | [], _, h, _ => ⟨h, rfl⟩
  | a :: as, _, ⟨y, ys, hx, h1, h2⟩, hp => ⟨y, ys, [], [], hx, rfl, ORel.plain (hp a (List.mem_cons_self ..)) h1, ORels.ofPlain h2 (fun b hb => hp b (List.mem_cons_of_mem _ hb))⟩
section
variable {H : Type} {enc : TypeId × Value → H} {P : Program}
theorem okWide_cells {w : World} {r : Reach} {b0 : Nat} {t : TypeId} {v : Value} {m : Nat} (hp : plainT P m t = true) (h : Value.okWide P w r b0 t v) :
    (∃ cs, v = .agg cs ∧ (∃ fs, P.underlying t = some (.struct fs)) ∨ (∃ cs, v = .agg cs ∧ ∃ n e, P.underlying t = some (.array n e))) ∨ (v.cells = #[v] ∧ (∀ fs, P.underlying t ≠ some (.struct fs)) ∧ ∀ n e, P.underlying t ≠ some (.array n e)) := by
  cases m with
  | zero => simp [plainT] at hp
  | succ m =>
    unfold plainT at hp
    unfold Value.okWide at h
    split at hp <;> rename_i hu <;> simp only [hu] at h ⊢
    all_goals try (cases hp; done)
    · refine .inr ⟨?_, by simp, by simp⟩
      unfold Cell.okWide Cell.ok at h
      cases v <;> simp [hu] at h <;> rfl
    · refine .inr ⟨?_, by simp, by simp⟩
      unfold Cell.okWide Cell.ok at h
      cases v <;> simp [hu] at h <;> rfl
    · refine .inr ⟨?_, by simp, by simp⟩
      unfold Cell.okWide Cell.ok at h
      cases v <;> simp [hu] at h <;> rfl
    · refine .inr ⟨?_, by simp, by simp⟩
      unfold Cell.okWide Cell.ok at h
      cases v <;> simp [hu] at h <;> rfl
    · obtain ⟨cs, rfl, _⟩ := h
      exact .inl ⟨cs, .inl ⟨rfl, _, rfl⟩⟩
    · obtain ⟨cs, rfl, _⟩ := h
      exact .inl ⟨cs, .inr ⟨cs, rfl, _, _, rfl⟩⟩
theorem arg_TA {w : World} {r : Reach} {b0 : Nat} {t : TypeId} {v : Value} {d : DataW H} {ps : List MemPlace} {m : Nat} (hp : plainT P m t = true) (hv : Value.okWide P w r b0 t v) (h : DataW.Trod enc P w 0 (fun _ => true) true t v d ps) :
    ∃ n as, TA P n t as ∧ ORel (fun b => b < w.heap.size) w (topA P t as) v [] := by
  obtain ⟨fuel, hf⟩ := h
  obtain ⟨as, h1, h2, h3⟩ := trod_TA fuel m t _ _ hp hf
  refine ⟨fuel, as, h1, ?_⟩
  rcases okWide_cells hp hv with ⟨cs, h | ⟨cs', h⟩⟩ | ⟨h4, h5, h6⟩
  · obtain ⟨rfl, fs, hu⟩ := h
    unfold topA
    simp only [hu]
    exact ⟨cs, rfl, ORels.ofPlain h2 h3⟩
  · obtain ⟨rfl, n, e, hu⟩ := h
    unfold topA
    simp only [hu]
    exact ⟨cs', rfl, ORels.ofPlain h2 h3⟩
  · rw [h4] at h2
    have hl := h2.len
    match as, hl, h2, h3 with
    | [a], _, ⟨y, ys, hx, hr, _⟩, h3 =>
      simp only [List.cons.injEq] at hx
      obtain ⟨rfl, _⟩ := hx
      have : topA P t [a] = a := by
        unfold topA
        split
        · rename_i hu; exact absurd hu (h5 _)
        · rename_i hu; exact absurd hu (h6 _ _)
        · rfl
      rw [this]
      exact ORel.plain (h3 a (by simp)) hr
def TAs (P : Program) : List TypeId → List AVal → Prop
  | [], ds => ds = []
  | t :: ts, ds => ∃ n as ds', ds = topA P t as :: ds' ∧ TA P n t as ∧ TAs P ts ds'
theorem args_TA {w : World} {r : Reach} {b0 : Nat} {m : Nat} : ∀ {ts : List TypeId} {vs : List Value} {ds : List (DataW H)} {ps : List MemPlace}, (∀ t ∈ ts, plainT P m t = true) → (∀ (j : Nat) t v, ts[j]? = some t → vs[j]? = some v → Value.okWide P w r b0 t v) →
    DataW.TrodAll enc P w 0 (fun _ => true) true ts vs ds ps → ∃ as, TAs P ts as ∧ ORels (fun b => b < w.heap.size) w as vs []
  | [], _, _, _, _, _, h => by
    obtain ⟨rfl, rfl, rfl⟩ := trodAll_nil h
    exact ⟨[], rfl, rfl, rfl⟩
  | t :: ts, _, _, _, hp, hv, h => by
    obtain ⟨v, vs', d, ds', p, q, rfl, rfl, rfl, h1, h2⟩ := trodAll_cons h
    obtain ⟨n, as, g1, g2⟩ := arg_TA (hp t (List.mem_cons_self ..)) (hv 0 t v rfl rfl) h1
    obtain ⟨as', g3, g4⟩ := args_TA (fun t ht => hp t (List.mem_cons_of_mem _ ht)) (fun j t v hj hw => hv (j + 1) t v (by simpa using hj) (by simpa using hw)) h2
    exact ⟨_, ⟨n, as, as', rfl, g1, g3⟩, v, vs', [], [], rfl, rfl, g2, g4⟩
theorem trodAll_stays {W W' : World} (hl : laidOutB P = true) (hb : Below W.heap.size W W') {sp : Nat → Bool} : ∀ {ts : List TypeId} {vs : List Value} {ds : List (DataW H)} {ps : List MemPlace}, (∀ t ∈ ts, P.readableRec t = true ∧ t < P.types.size) →
    DataW.TrodAll enc P W 0 (fun _ => true) true ts vs ds ps → (∀ p ∈ ps, p.block < W.heap.size ∧ sp p.block = true) → DataW.TrodAll enc P W' 0 sp true ts vs ds ps
  | [], _, _, _, _, h, _ => by
    obtain ⟨rfl, rfl, rfl⟩ := trodAll_nil h
    exact rfl
  | t :: ts, _, _, _, hr, h, hp => by
    obtain ⟨v, vs', d, ds', p, q, rfl, rfl, rfl, h1, h2⟩ := trodAll_cons h
    refine ⟨p, q, WideElems.Trod_stays hl (hr t (List.mem_cons_self ..)).1 (hr t (List.mem_cons_self ..)).2 h1 (fun x hx => hb.same (hp x (List.mem_append_left _ hx)).1) (fun x hx => (hp x (List.mem_append_left _ hx)).2), ?_, rfl⟩
    exact trodAll_stays hl hb (fun t ht => hr t (List.mem_cons_of_mem _ ht)) h2 (fun x hx => hp x (List.mem_append_right _ hx))
theorem post_of_below {f : Func} {s : ChangeSpec} {apart fresh handsOn again : Bool} {W W' : World} {args : Array Value} {v : Value} {ds gs : List (DataW H)} {before pa pv : List MemPlace}
    (hW : DataW.Whole enc P f.params.toList s.vars apart W args.toList ds gs before)
    (hres : ∀ (b : Nat) (sp : Nat → Bool) (hd : Bool), DataW.TrodAll enc P W' b sp hd f.resultTypes.toList (v.resultList f.resultTypes.size) (s.fn H (ds ++ gs)).results [])
    (hargs : ∀ sp : Nat → Bool, (∀ p ∈ before, sp p.block = true) → DataW.TrodAll enc P W' 0 sp true f.params.toList args.toList (s.fn H (ds ++ gs)).args pa)
    (hvars : ∀ sp : Nat → Bool, (∀ p ∈ before, sp p.block = true) → DataW.TrodVars enc P W' sp s.vars (s.fn H (ds ++ gs)).vars pv)
    (hps : before = pa ++ pv) (hb : Below W.heap.size W W')
    (hok : ∀ (j : Nat) (t : TypeId) (r : Value), f.resultTypes[j]? = some t → (v.resultList f.resultTypes.size)[j]? = some r → Value.okWide P W' .any 0 t r) :
    s.post enc P f apart fresh handsOn again W args v W' := by
  have hlt : ∀ p ∈ before, p.block < W.heap.size := fun p hp => hW.lt p hp
  have hold : ∀ p ∈ before, (fun b => decide (b < W.heap.size)) p.block = true := fun p hp => by simpa using hlt p hp
  refine ⟨ds, gs, before, [], pa, pv, hW, hres _ _ _, hargs _ hold, hvars _ hold, World.keptBut_mono (fun p hp => ⟨hp, ?_⟩) (hb.frame (· ∈ before)), fun _ => ?_⟩
  · rw [hps, List.mem_append] at hp
    exact Or.inr hp
  · obtain ⟨_, _, _, _, _, hz, hn⟩ := hW
    refine ⟨hok, _, _, ([] ++ pa) ++ pv, ⟨[] ++ pa, pv, trodAll_append (hargs _ (fun _ _ => rfl)) (hres _ _ _), hvars _ (fun _ _ => rfl), rfl, ?_, ?_⟩, ?_⟩
    · intro b off hp
      have hin : MemPlace.cell b off ∈ before := by rw [hps]; simpa using hp
      rw [hb.frozen (hlt _ hin)]
      exact hz b off hin
    · intro ha
      have := hn ha
      rw [hps] at this
      simpa using this
    · intro p hp _
      rw [hps]
      simpa using hp
end
def lawB (P : Program) (fn : Func) (m : Nat) : Bool :=
  laidOutB P && fn.params.toList.all (fun t => plainT P m t && P.readableRec t && decide (t < P.types.size)) &&
  (match fn.resultTypes with | ⟨[t]⟩ => (match P.underlying t with | some .bool => true | _ => false) | _ => false)
theorem law_contractG {H : Type} {enc : TypeId × Value → H} {C : Cf} {f : FuncId} {fn : Func} {s : ChangeSpec} {apart fresh handsOn again : Bool} {m : Nat} (hm : C.E.P.follows .mixedOrders = true) (hX : OwnOk C.E C.X)
    (hB : lawB C.E.P fn m = true) (hs : s.vars = []) (hfn : ∀ ds : List (DataW H), ds.length = fn.params.size → s.fn H ds = { results := [.lit (.bool true)], args := ds })
    (hlaw : ∀ ds, TAs C.E.P fn.params.toList ds → Am.fn C f [] ds = some (.bool true, []))
    (W : World) (hG : GlobOk C.E.Γ (fun b => b < W.heap.size) W) (base : Nat) (args : Array Value) (ds gs : List (DataW H)) (before : List MemPlace)
    (hval : ∀ (j : Nat) t v, fn.params[j]? = some t → args[j]? = some v → Value.okWide C.E.P W .any base t v)
    (hW : DataW.Whole enc C.E.P fn.params.toList s.vars apart W args.toList ds gs before) :
    Calls C.E.P f args W fun e W' => ∃ v, e = .returned v ∧ s.post enc C.E.P fn apart fresh handsOn again W args v W' := by
  simp only [lawB, Bool.and_eq_true, List.all_eq_true, decide_eq_true_eq] at hB
  obtain ⟨⟨hlaid, hpar⟩, hres⟩ := hB
  have hW' := hW
  obtain ⟨p, q, hA, hV, rfl, hfz, hnd⟩ := hW
  rw [hs] at hV
  obtain ⟨rfl, rfl⟩ := trodVars_none hV
  obtain ⟨as, h1, h2⟩ := args_TA (fun t ht => ((hpar t ht).1).1) (fun j t v hj hv => hval j t v (by rw [← Array.getElem?_toList]; exact hj) (by rw [← Array.getElem?_toList]; exact hv)) hA
  have hsp := fnE_sound hm hX (hlaw as h1)
  have := hsp (fun b => b < W.heap.size) W args.toList [] (fun k hk => by cases hk) hG (fun b hb => hb) h2 List.nodup_nil (fun b hb => by cases hb)
  rw [Array.toArray_toList] at this
  refine this.mono ?_
  rintro e W' ⟨x, U', rfl, hk, hor, _, _⟩
  obtain ⟨y, ys, U1, U2, hx, _, ho, _⟩ := hor
  simp only [List.cons.injEq] at hx
  obtain ⟨rfl, _⟩ := hx
  have hx : x = .bool true := ho.1
  subst hx
  have hb : Below W.heap.size W W' := ⟨hk.os, hk.tape, hk.output, hk.size, fun k hk' => hk.block k hk' (fun h => by cases h)⟩
  have hlen : ds.length = fn.params.size := by
    have : ∀ {ts : List TypeId} {vs : List Value} {ds : List (DataW H)} {ps : List MemPlace}, DataW.TrodAll enc C.E.P W 0 (fun _ => true) true ts vs ds ps → ds.length = ts.length := by
      intro ts
      induction ts with
      | nil => intro vs ds ps h; obtain ⟨_, rfl, _⟩ := trodAll_nil h; rfl
      | cons t ts ih => intro vs ds ps h; obtain ⟨v, vs', d, ds', p, q, _, rfl, _, _, h2⟩ := trodAll_cons h; simp [ih h2]
    have := this hA
    simpa using this
  have hfn' := hfn ds hlen
  rw [List.append_nil] at hW'
  refine ⟨_, rfl, post_of_below (pa := p) (pv := []) hW' ?_ ?_ ?_ (by simp) hb ?_⟩
  · intro b sp hd
    rw [List.append_nil, hfn']
    split at hres
    · rename_i t ht
      rw [ht]
      split at hres
      · rename_i hu
        exact trodAll_mk1 (shut_bool hu true)
      · cases hres
    · cases hres
  · intro sp hsp'
    rw [List.append_nil, hfn']
    exact trodAll_stays hlaid hb (fun t ht => ⟨(hpar t ht).1.2, (hpar t ht).2⟩) hA (fun x hx => ⟨hW'.lt x hx, hsp' x hx⟩)
  · intro sp _
    rw [List.append_nil, hfn', hs]
    exact rfl
  · split at hres
    · rename_i t ht
      split at hres
      · rename_i hu
        exact ok_one (t := t) ht rfl (okWide_bool_mk hu true)
      · cases hres
    · cases hres
end Go.Am
