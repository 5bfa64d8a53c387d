import Derived.Test.YtclgfgnhcakhdaaGreatDoorDn2
namespace Go.Am
set_option linter.unusedSectionVars false
set_option linter.unusedVariables false
def restr (m : Nat) (f : Nat → AVal) : Nat → AVal := fun t => if (m >>> t) % 2 = 1 then .junk else f t
abbrev Inl := FuncId → List AVal → Heap → Option (AVal × Heap)
structure Or2 where
  c : Orc
  i : Inl
section
variable (E : Env) (M : Mds) (C : Or2)
def inlF (op : Op) (ρ : Operand → AVal) : Option (FuncId × List AVal) :=
  match op with
  | .call ⟨.value g, ⟨args⟩, _⟩ => match ρ g with
    | .fn (.func f) first cap => if inlB M.inls f = 0 then none else some (f, first ++ args.map ρ ++ cap)
    | _ => none
  | _ => none
abbrev Stp := AVal × Heap × List Nat × List Nat
def KeepB (H H' : Heap) (o c : Nat) : Prop := c < 100 ∧ KeepL H H' o c ∧ H' (LDC o c) = H (LDC o c)
def ldT (E : Env) (k : Nat) (op : Op) (ρ : Operand → AVal) (rd : List Nat) : List Nat :=
  match op with
  | .load t x => if k = 8 then (match ρ x with | .ptr o _ _ c => if E.P.szO t = some 1 ∧ c < 100 then [LDC o c] else rd | _ => rd) else rd
  | _ => rd
noncomputable def pureS (m : Nat) (vals : List AVal) (H : Heap) (r : AVal × Heap) : Option Stp :=
  if m % 2 = 0 then if m % 4 = 0 then some (r.1, r.2, [ALL], [ALL]) else (match vals with | .ptr o _ _ c :: _ => @gu _ (KeepB H r.2 o (c + 1)) (Classical.propDecidable _) (some (r.1, r.2, [ALL], [BUT o (c + 1)])) | _ => none)
  else @gu _ (r.2 = H) (Classical.propDecidable _) (some (r.1, H, [ALL], []))
noncomputable def opS (op : Op) (dst : Option Tmp) (ρ : Operand → AVal) (H : Heap) : Option Stp :=
  match inlF M op ρ with
  | some q => gu (E.P.inFn q.1 = true) ((C.i q.1 q.2 H).bind (pureS (inlB M.inls q.1) q.2 H))
  | none => (opE E M C.c op dst ρ H).bind fun q => some (q.1, H.setAll q.2.2, q.2.1, q.2.2.map (·.1))
noncomputable def stepE (ops : Array Oper) (o : Oper) (s : St) : Option (St × List Nat × List Nat) :=
  match o.guard with
  | none => (opS E M C o.op o.dst (ev E.Γ s.fr) s.H).bind fun q => some (⟨putF s.fr o.dst q.1, q.2.1⟩, ldT E (nlkD M.cur o.dst) o.op (ev E.Γ s.fr) q.2.2.1, q.2.2.2)
  | some (j, want) => ((ops[j]?).bind (·.dst)).bind fun d => match s.fr d with
    | .bool t => if t = want then (opS E M C o.op o.dst (ev E.Γ s.fr) s.H).bind fun q => some (⟨putF s.fr o.dst q.1, q.2.1⟩, q.2.2.1, q.2.2.2)
        else some (⟨putF s.fr o.dst (.sc undef), s.H⟩, [], [])
    | .sc (.tuple ⟨[]⟩) => some (⟨putF s.fr o.dst (.sc undef), s.H⟩, [], [])
    | _ => none
noncomputable def regN (ops : Array Oper) : List Oper → St → Option St
  | [], s => some s
  | o :: l, s => (stepE E M C ops o s).bind fun q => regN ops l q.1
noncomputable def regD (ops : Array Oper) : List Oper → St → List (List Nat × List Nat) → Option St
  | [], s, tr => gu (indepB ops tr = true) (some s)
  | o :: l, s, tr => (stepE E M C ops o s).bind fun q => regD ops l q.1 (tr ++ [(q.2.1, q.2.2)])
def iterE (F : St → Option (Exit × St)) : Nat → St → Option (Exit × St)
  | 0, _ => none
  | n + 1, s => (F s).bind fun p => match p.1 with | .normal => iterE F n p.2 | e => some (e, p.2)
noncomputable def evC (lo n : Nat) : Code → St → Option (Exit × St)
  | .skip, s => some (.normal, s)
  | .label _, s => some (.normal, s)
  | .region _ ops draw, s => (if draw = true then regD E M C ops ops.toList s [] else regN E M C ops ops.toList s).bind fun s => some (.normal, ⟨restr lo s.fr, s.H⟩)
  | .seq a b, s => (evC lo n a s).bind fun p => match p.1 with | .normal => evC lo n b p.2 | e => some (e, p.2)
  | .cond x a b, s => match ev E.Γ s.fr x with | .bool t => if t = true then evC lo n a s else evC lo n b s | _ => none
  | .block id b, s => (evC lo n b s).bind fun p => match p.1 with | .exit i => if i = id then some (.normal, p.2) else some (.exit i, p.2) | e => some (e, p.2)
  | .loop b, s => iterE (evC lo n b) n s
  | .scope b, s => (evC lo n b s).bind fun p => match p.1 with | .goto _ => none | e => some (e, p.2)
  | .exit id, s => some (.exit id, s)
  | .ret, s => some (.ret, s)
  | _, _ => none
end
def LeO {α : Type} (a b : Option α) : Prop := ∀ x, a = some x → b = some x
theorem LeO.refl {α : Type} (a : Option α) : LeO a a := fun _ h => h
theorem LeO.trans {α : Type} {a b c : Option α} (h : LeO a b) (k : LeO b c) : LeO a c := fun x hx => k x (h x hx)
theorem LeO.bind {α β : Type} {a a' : Option α} {f f' : α → Option β} (h : LeO a a') (hf : ∀ x, LeO (f x) (f' x)) : LeO (a.bind f) (a'.bind f') := fun y hy => by
  rw [Option.bind_eq_some_iff] at hy ⊢
  obtain ⟨x, h1, h2⟩ := hy
  exact ⟨x, h x h1, hf x y h2⟩
theorem LeO.gu {α : Type} {p : Prop} [Decidable p] {a a' : Option α} (h : LeO a a') : LeO (gu p a) (gu p a') := fun y hy => by
  rw [gu_some] at hy ⊢; exact ⟨hy.1, h y hy.2⟩
def LeR (C C' : Orc) : Prop := ∀ f ex ds, LeO (C f ex ds) (C' f ex ds)
def LeC (C C' : Or2) : Prop := LeR C.c C'.c ∧ ∀ f vs H, LeO (C.i f vs H) (C'.i f vs H)
theorem LeC.refl (C : Or2) : LeC C C := ⟨fun _ _ _ => LeO.refl _, fun _ _ _ => LeO.refl _⟩
theorem closeO_le {C C' : Orc} (h : LeR C C') : LeR (closeO C) (closeO C') := fun f ex ds y hy => by
  unfold closeO at hy ⊢
  rw [Option.map_eq_some_iff] at hy ⊢
  obtain ⟨r, h1, h2⟩ := hy
  exact ⟨r, h _ _ _ _ h1, h2⟩
theorem ghO_le {C C' : Orc} (h : LeR C C') (gh dst ρ) : LeR (ghO gh dst ρ C) (ghO gh dst ρ C') := by
  unfold ghO
  split
  · exact h
  · split
    · split
      · split
        · exact h
        · exact closeO_le h
      · exact h
    · exact h
section
variable {E : Env} {M : Mds} {C C' : Orc}
theorem opE_call_eq (E : Env) (M : Mds) (C : Orc) (op : Op) (dst ρ H) : (∃ g args ts, op = .call ⟨.value g, ⟨args⟩, ts⟩) ∨ ∀ C', opE E M C op dst ρ H = opE E M C' op dst ρ H := by
  cases op <;> try exact .inr fun _ => rfl
  case slice t x lo hi mx => cases mx <;> cases hi <;> exact .inr fun _ => rfl
  rename_i cl
  obtain ⟨callee, ⟨args⟩, ts⟩ := cl
  cases callee <;> first | exact .inl ⟨_, _, _, rfl⟩ | (refine .inr fun C' => ?_; unfold opE; rfl)
theorem callE_le (h : LeR C C') (f vals dst H) : LeO (callE E M C f vals dst H) (callE E M C' f vals dst H) :=
  LeO.gu (LeO.bind (LeO.refl _) fun _ => LeO.gu (LeO.gu (LeO.bind (h _ _ _) fun _ => LeO.refl _)))
theorem opE_le (h : LeR C C') (op dst ρ H) : LeO (opE E M C op dst ρ H) (opE E M C' op dst ρ H) := by
  rcases opE_call_eq E M C op dst ρ H with ⟨g, args, ts, rfl⟩ | h'
  · simp only [opE]
    split
    · exact callE_le (ghO_le h _ _ _) _ _ _ _
    · exact LeO.refl _
  · rw [h' C']; exact LeO.refl _
end
section
variable {E : Env} {M : Mds} {C C' : Or2}
theorem opS_le (h : LeC C C') (op dst ρ H) : LeO (opS E M C op dst ρ H) (opS E M C' op dst ρ H) := by
  unfold opS
  split
  · exact LeO.gu (LeO.bind (h.2 _ _ _) fun _ => LeO.refl _)
  · exact LeO.bind (opE_le h.1 _ _ _ _) fun _ => LeO.refl _
theorem stepE_le (h : LeC C C') (ops o s) : LeO (stepE E M C ops o s) (stepE E M C' ops o s) := by
  unfold stepE
  split
  · exact LeO.bind (opS_le h _ _ _ _) fun _ => LeO.refl _
  · refine LeO.bind (LeO.refl _) fun d => ?_
    split
    · split
      · exact LeO.bind (opS_le h _ _ _ _) fun _ => LeO.refl _
      · exact LeO.refl _
    · exact LeO.refl _
    · exact LeO.refl _
theorem regN_le (h : LeC C C') (ops) : ∀ l s, LeO (regN E M C ops l s) (regN E M C' ops l s)
  | [], _ => LeO.refl _
  | o :: l, s => LeO.bind (stepE_le h _ _ _) fun q => regN_le h ops l q.1
theorem regD_le (h : LeC C C') (ops) : ∀ l s tr, LeO (regD E M C ops l s tr) (regD E M C' ops l s tr)
  | [], _, _ => LeO.refl _
  | o :: l, s, tr => LeO.bind (stepE_le h _ _ _) fun q => regD_le h ops l q.1 _
theorem iterE_le {F F' : St → Option (Exit × St)} (h : ∀ s, LeO (F s) (F' s)) : ∀ {n n' : Nat}, n ≤ n' → ∀ s, LeO (iterE F n s) (iterE F' n' s)
  | 0, _, _, _ => fun x hx => by simp [iterE] at hx
  | n + 1, 0, hn, _ => by omega
  | n + 1, n' + 1, hn, s => LeO.bind (h s) fun p => by
    split
    · exact iterE_le h (Nat.le_of_succ_le_succ hn) _
    · exact LeO.refl _
theorem evC_le (h : LeC C C') {lo n n' : Nat} (hn : n ≤ n') : ∀ (c : Code) (s : St), LeO (evC E M C lo n c s) (evC E M C' lo n' c s)
  | .skip, _ => LeO.refl _
  | .label _, _ => LeO.refl _
  | .region _ ops draw, s => by
    simp only [evC]
    refine LeO.bind ?_ fun _ => LeO.refl _
    split
    · exact regD_le h _ _ _ _
    · exact regN_le h _ _ _
  | .seq a b, s => by
    simp only [evC]
    refine LeO.bind (evC_le h hn a s) fun p => ?_
    split
    · exact evC_le h hn b _
    · exact LeO.refl _
  | .cond x a b, s => by
    simp only [evC]
    split
    · split
      · exact evC_le h hn a s
      · exact evC_le h hn b s
    · exact LeO.refl _
  | .block id b, s => by
    simp only [evC]
    exact LeO.bind (evC_le h hn b s) fun p => LeO.refl _
  | .loop b, s => by
    simp only [evC]
    exact iterE_le (evC_le h hn b) hn s
  | .exit _, _ => LeO.refl _
  | .ret, _ => LeO.refl _
  | .rangeFunc _ _ _ _, _ => LeO.refl _
  | .scope b, s => by
    simp only [evC]
    exact LeO.bind (evC_le h hn b s) fun p => LeO.refl _
  | .goto _, _ => LeO.refl _
  | .refuse _, _ => LeO.refl _
end
open Classical in
noncomputable def limO {α : Type} (A : Nat → Option α) : Option α := if h : ∃ n x, A n = some x then A (Classical.choose h) else none
def Mono {α : Type} (A : Nat → Option α) : Prop := ∀ n n', n ≤ n' → LeO (A n) (A n')
theorem lim_some {α : Type} {A : Nat → Option α} (hA : Mono A) (x : α) : limO A = some x ↔ ∃ n, A n = some x := by
  unfold limO
  split
  · rename_i h
    constructor
    · intro e; exact ⟨_, e⟩
    · rintro ⟨n, hn⟩
      obtain ⟨y, hy⟩ := Classical.choose_spec h
      rw [hy]
      have h1 := hA n _ (Nat.le_max_left n (Classical.choose h)) x hn
      have h2 := hA _ _ (Nat.le_max_right n (Classical.choose h)) y hy
      rw [h1] at h2; exact h2.symm
  · rename_i h
    constructor
    · intro e; cases e
    · rintro ⟨n, hn⟩; exact absurd ⟨n, x, hn⟩ h
def cellE (H : Heap) (g : Bool) (n : Nat) (p : AVal) : Option AVal := (loadE H g n p).bind fun q => some q.1
def rvE (E : Env) (f : Nat → AVal) (H : Heap) : ResultVar → Option AVal
  | .tmp t => some (f t)
  | .cell x t => (E.P.szO t).bind fun n => (E.P.rowO t).bind fun g => gu (g = false → n = 1) (cellE H g n (f x))
def rvsE (E : Env) (f : Nat → AVal) (H : Heap) : List ResultVar → Option (List AVal)
  | [] => some []
  | r :: rs => (rvE E f H r).bind fun v => (rvsE E f H rs).bind fun vs => some (v :: vs)
def packR (H : Heap) (ms : List Nat) (kss : List (List Nat)) : List AVal → Option Pko
  | [v] => pack1 H (ms.headD 0) (kss.headD []) v
  | vs => (packs H ms kss vs).bind fun p => some (.tup p.1, p.2)
def packL (H : Heap) : List AVal → Option (List AVal × List Nat × List Nat)
  | [] => some ([], [], [])
  | v :: vs => (pkO H 4 v).bind fun p => (packL H vs).bind fun q => some (p.1 :: q.1, p.2.1 ++ q.2.1, p.2.2 ++ q.2.2)
def retE (E : Env) (rvs : List ResultVar) (ms : List Nat) (kss : List (List Nat)) (ds : List AVal) (f : Nat → AVal) (H : Heap) : Option Res :=
  (rvsE E f H rvs).bind fun vs => (packR H ms kss vs).bind fun p => (packL H (lentPs 0 ds)).bind fun q =>
    gu (nodupB (p.2.1 ++ q.2.1) = true) (gu (noneIn (p.2.1 ++ q.2.1) (p.2.2 ++ q.2.2) = true) (some (p.1, q.1)))
theorem packL_sound {H : Heap} : ∀ {vs : List AVal} {p}, packL H vs = some p → Pks H vs p.1 p.2.1 p.2.2
  | [], p, h => by simp only [packL, Option.some.injEq] at h; subst h; exact .nil
  | v :: vs, p, h => by
    simp only [packL, Option.bind_eq_some_iff, Option.some.injEq] at h
    obtain ⟨a, h1, b, h2, rfl⟩ := h
    exact .cons (pkO_sound _ _ _ h1) (packL_sound h2)
theorem packR_sound {H : Heap} {ms kss} {vs : List AVal} {p : Pko} (h : packR H ms kss vs = some p) : Pk H (tupOf vs) p.1 p.2.1 p.2.2 := by
  unfold packR at h
  split at h
  · exact pack1_sound h
  · rename_i hne
    simp only [Option.bind_eq_some_iff, Option.some.injEq] at h
    obtain ⟨q, h1, rfl⟩ := h
    have : tupOf vs = .tup vs := by
      unfold tupOf
      split
      · exact absurd rfl (hne _)
      · rfl
    rw [this]
    exact .tup (packs_sound h1)
theorem loadE_cell {H : Heap} {g : Bool} {n : Nat} {p : AVal} {q : Out} (h : loadE H g n p = some q) : ∃ cs, loadC H p n = some cs ∧ q.1 = mkV g cs := by
  cases p <;> simp only [loadE, gu_some, Option.bind_eq_some_iff, Option.some.injEq, reduceCtorEq] at h
  case ptr => obtain ⟨h1, h2, r, h3, h4, rfl⟩ := h; exact ⟨_, by simp only [loadC]; rw [obj_some h1 h2]; simp [h3, h4], rfl⟩
  case iptr => obtain ⟨h1, rfl⟩ := h; exact ⟨_, by simp [loadC, h1], rfl⟩
theorem rvE_sound {E : Env} {f H rv v} (h : rvE E f H rv = some v) : rvA E ⟨f, H⟩ rv v := by
  cases rv <;> simp only [rvE, cellE, gu_some, Option.bind_eq_some_iff, Option.some.injEq] at h
  · exact h.symm
  · obtain ⟨n, h1, g, h2, h3, q, h4, rfl⟩ := h
    obtain ⟨cs, h5, h6⟩ := loadE_cell h4
    exact ⟨n, g, cs, h1, h2, h3, h5, h6⟩
theorem rvsE_sound {E : Env} {f H} : ∀ {rvs vs}, rvsE E f H rvs = some vs → rvsA E ⟨f, H⟩ rvs vs
  | [], vs, h => by simp only [rvsE, Option.some.injEq] at h; exact h.symm
  | r :: rs, vs, h => by
    simp only [rvsE, Option.bind_eq_some_iff, Option.some.injEq] at h
    obtain ⟨v, h1, vs', h2, rfl⟩ := h
    exact ⟨v, vs', rfl, rvE_sound h1, rvsE_sound h2⟩
theorem resA_tupOf {E : Env} {f H} {rvs : List ResultVar} {vs : List AVal} (h1 : rvsA E ⟨f, H⟩ rvs vs) : resA E rvs ⟨f, H⟩ (tupOf vs) := by
  unfold resA
  split
  · obtain ⟨v, vs', rfl, hv, hn⟩ := h1
    simp only [rvsA] at hn; subst hn
    exact hv
  · rename_i hne
    refine ⟨vs, ?_, h1⟩
    cases rvs with
    | nil => simp only [rvsA] at h1; subst h1; rfl
    | cons a rest =>
      cases rest with
      | nil => exact absurd rfl (hne a)
      | cons b rest =>
        obtain ⟨v, vs', rfl, _, v2, vs2, rfl, _⟩ := h1
        rfl
theorem retE_sound {E : Env} {rvs ms kss ds f H} {q : Res} (h : retE E rvs ms kss ds f H = some q) : Ret E rvs ds q.1 q.2 ⟨f, H⟩ := by
  simp only [retE, gu_some, Option.bind_eq_some_iff, Option.some.injEq] at h
  obtain ⟨vs, h1, p, h2, r, h3, h4, h5, rfl⟩ := h
  exact ⟨tupOf vs, _, _, resA_tupOf (rvsE_sound h1), .cons (packR_sound h2) (packL_sound h3), nodupB_spec h4, noneIn_spec h5⟩
def isEnd : Exit → Bool | .normal => true | .ret => true | _ => false
theorem isEnd_spec {e : Exit} (h : isEnd e = true) : e = .normal ∨ e = .ret := by cases e <;> simp [isEnd] at h ⊢
abbrev Own := FuncId → Option (List Nat → List AVal → Option Res)
def isUsl : AVal → Bool | .usl _ _ => true | _ => false
def okArgs (fn : Func) (code : Code) (ex : List Nat) (ds : List AVal) : Bool :=
  codeOk fn.ntmps code && decide (ds.length ≤ fn.ntmps) && nodupB ((opnUs Heap.nil 0 0 ds).map (·.1)) && ex.all fun k => isUsl (ds.getD k .junk)
noncomputable def bodyE (E : Env) (M : Mds) (C : Or2) (n : Nat) (f : FuncId) (ex : List Nat) (ds : List AVal) : Option Res :=
  (E.P.funcs[f]?).bind fun fn => fn.body.bind fun code => gu (okArgs fn code ex ds = true)
  ((evC E (M.at f) C (M.loc f) n code (startX ex ds)).bind fun p => gu (isEnd p.1 = true) (retE E fn.results.toList (M.res f) (E.P.resK f) ds p.2.fr p.2.H))
def okInl (fn : Func) (code : Code) (vals : List AVal) : Bool := codeOk fn.ntmps code && decide (vals.length ≤ fn.ntmps)
def frm (vals : List AVal) : Nat → AVal := fun t => vals.getD t .junk
noncomputable def ovE (P : Program) (f : FuncId) (vals : List AVal) (H : Heap) : Option (AVal × Heap) := match vals with
  | [.osl o1 g1 _ n1, .osl o2 g2 _ n2] => @gu _ (OvF P f) (Classical.propDecidable _) (gu (¬ o1 = o2) (gu (1 ≤ n1) (gu (1 ≤ n2) (gu ((H o1).gen = g1) (gu ((H o1).mode = .live) (gu (2 ≤ (H o1).st) (gu ((H o2).gen = g2) (gu ((H o2).mode = .live) (gu (2 ≤ (H o2).st) (some (.bool false, H)))))))))))
  | _ => none
noncomputable def bodyI (E : Env) (M : Mds) (C : Or2) (n : Nat) (f : FuncId) (vals : List AVal) (H : Heap) : Option (AVal × Heap) :=
  if E.P.exFn f = true then ovE E.P f vals H else
  (E.P.funcs[f]?).bind fun fn => fn.body.bind fun code => gu (okInl fn code vals = true)
  ((evC E (M.inat f) C (M.loc f) n code ⟨frm vals, H⟩).bind fun p => gu (isEnd p.1 = true) ((rvsE E p.2.fr p.2.H fn.results.toList).bind fun vs => some (tupOf vs, p.2.H)))
noncomputable def evP (E : Env) (M : Mds) (X : Own) : Nat → Or2
  | 0 => ⟨fun _ _ _ => none, fun _ _ _ => none⟩
  | n + 1 => ⟨fun f ex ds => match X f with
    | some g => g ex ds
    | none => bodyE E M (evP E M X n) n f ex ds, fun f vals H => bodyI E M (evP E M X n) n f vals H⟩
theorem bodyE_le {E : Env} {M : Mds} {C C' : Or2} (h : LeC C C') {n n' : Nat} (hn : n ≤ n') (f ex ds) : LeO (bodyE E M C n f ex ds) (bodyE E M C' n' f ex ds) :=
  LeO.bind (LeO.refl _) fun fn => LeO.bind (LeO.refl _) fun code => LeO.gu (LeO.bind (evC_le h hn _ _) fun _ => LeO.refl _)
theorem bodyI_le {E : Env} {M : Mds} {C C' : Or2} (h : LeC C C') {n n' : Nat} (hn : n ≤ n') (f vals H) : LeO (bodyI E M C n f vals H) (bodyI E M C' n' f vals H) := by
  unfold bodyI
  split
  · exact LeO.refl _
  · exact LeO.bind (LeO.refl _) fun fn => LeO.bind (LeO.refl _) fun code => LeO.gu (LeO.bind (evC_le h hn _ _) fun _ => LeO.refl _)
theorem evP_le {E : Env} {M : Mds} {X : Own} : ∀ {n n' : Nat}, n ≤ n' → LeC (evP E M X n) (evP E M X n')
  | 0, _, _ => ⟨fun _ _ _ _ h => (by cases h), fun _ _ _ _ h => (by cases h)⟩
  | n + 1, 0, h => by omega
  | n + 1, n' + 1, h => ⟨fun f ex ds => by
    simp only [evP]
    split
    · exact LeO.refl _
    · exact bodyE_le (evP_le (Nat.le_of_succ_le_succ h)) (Nat.le_of_succ_le_succ h) f ex ds, fun f vals H => by
    simp only [evP]
    exact bodyI_le (evP_le (Nat.le_of_succ_le_succ h)) (Nat.le_of_succ_le_succ h) f vals H⟩
noncomputable def fnE (E : Env) (M : Mds) (X : Own) : Orc := fun f ex ds => limO fun n => (evP E M X n).c f ex ds
noncomputable def inE (E : Env) (M : Mds) (X : Own) : Inl := fun f vals H => limO fun n => (evP E M X n).i f vals H
noncomputable def fnP (E : Env) (M : Mds) (X : Own) : Or2 := ⟨fnE E M X, inE E M X⟩
theorem evF_mono (E : Env) (M : Mds) (X : Own) (f ex ds) : Mono fun n => (evP E M X n).c f ex ds := fun _ _ h => (evP_le h).1 f ex ds
theorem evG_mono (E : Env) (M : Mds) (X : Own) (f vals H) : Mono fun n => (evP E M X n).i f vals H := fun _ _ h => (evP_le h).2 f vals H
theorem evF_fnE (E : Env) (M : Mds) (X : Own) (n : Nat) : LeC (evP E M X n) (fnP E M X) := ⟨fun f ex ds x h => (lim_some (evF_mono E M X f ex ds) x).2 ⟨n, h⟩, fun f vals H x h => (lim_some (evG_mono E M X f vals H) x).2 ⟨n, h⟩⟩
section
variable {E : Env} {M : Mds} {X : Own} {lo : Nat}
theorem callE_fin {A : Nat → Orc} {B : Orc} (hA : ∀ f ex ds q, B f ex ds = some q → ∃ n, A n f ex ds = some q) {f vals dst H q} (h : callE E M B f vals dst H = some q) : ∃ n, callE E M (A n) f vals dst H = some q := by
  simp only [callE, gu_some, Option.bind_eq_some_iff] at h
  obtain ⟨h1, p, h2, h3, h4, r, h5, h6⟩ := h
  obtain ⟨n, hn⟩ := hA _ _ _ _ h5
  exact ⟨n, by simp only [callE, gu_some, Option.bind_eq_some_iff]; exact ⟨h1, p, h2, h3, h4, r, hn, h6⟩⟩
theorem ghO_fin (gh dst ρ) : ∀ f ex ds q, ghO gh dst ρ (fnE E M X) f ex ds = some q → ∃ n, ghO gh dst ρ (evP E M X n).c f ex ds = some q := by
  have h0 : ∀ f ex ds q, fnE E M X f ex ds = some q → ∃ n, (evP E M X n).c f ex ds = some q := fun f ex ds q h => (lim_some (evF_mono E M X f ex ds) q).1 h
  have h1 : ∀ f ex ds q, closeO (fnE E M X) f ex ds = some q → ∃ n, closeO (evP E M X n).c f ex ds = some q := fun f ex ds q h => by
    unfold closeO at h ⊢
    rw [Option.map_eq_some_iff] at h
    obtain ⟨r, g1, g2⟩ := h
    obtain ⟨n, hn⟩ := h0 _ _ _ _ g1
    exact ⟨n, by rw [hn]; simp [g2]⟩
  intro f ex ds q h
  cases gh with
  | none => exact h0 _ _ _ _ h
  | some p =>
    obtain ⟨d, t, m⟩ := p
    by_cases hd : dst = some d
    · have e : ∀ C : Orc, ghO (some (d, t, m)) dst ρ C = (match ρ (.tmp t) with | .int _ m' => if m' = m then C else closeO C | _ => C) := fun C => by simp only [ghO, if_pos hd]; cases ρ (.tmp t) <;> rfl
      rw [e] at h
      cases hr : ρ (.tmp t) <;> simp only [hr] at h e
      case int k m' =>
        by_cases hm : m' = m
        · rw [if_pos hm] at h
          obtain ⟨n, hn⟩ := h0 _ _ _ _ h
          exact ⟨n, by rw [e, if_pos hm]; exact hn⟩
        · rw [if_neg hm] at h
          obtain ⟨n, hn⟩ := h1 _ _ _ _ h
          exact ⟨n, by rw [e, if_neg hm]; exact hn⟩
      all_goals
        obtain ⟨n, hn⟩ := h0 _ _ _ _ h
        exact ⟨n, by rw [e]; exact hn⟩
    · have e : ∀ C : Orc, ghO (some (d, t, m)) dst ρ C = C := fun C => by simp only [ghO, if_neg hd]
      rw [e] at h
      obtain ⟨n, hn⟩ := h0 _ _ _ _ h
      exact ⟨n, by rw [e]; exact hn⟩
theorem opE_fin {op dst ρ H q} (h : opE E M (fnE E M X) op dst ρ H = some q) : ∃ n, opE E M (evP E M X n).c op dst ρ H = some q := by
  rcases opE_call_eq E M (fnE E M X) op dst ρ H with ⟨g, args, ts, rfl⟩ | h'
  · simp only [opE] at h ⊢
    split at h
    · exact callE_fin (A := fun n => ghO M.gh dst ρ (evP E M X n).c) (ghO_fin _ _ _) h
    · cases h
  · exact ⟨0, by rw [← h' _]; exact h⟩
theorem opS_fin {op dst ρ H q} (h : opS E M (fnP E M X) op dst ρ H = some q) : ∃ n, opS E M (evP E M X n) op dst ρ H = some q := by
  unfold opS at h ⊢
  split at h
  · simp only [gu_some, Option.bind_eq_some_iff] at h
    obtain ⟨h1, r, h2, h3⟩ := h
    obtain ⟨n, hn⟩ := (lim_some (evG_mono E M X _ _ _) _).1 h2
    exact ⟨n, by simp only [gu_some, Option.bind_eq_some_iff]; exact ⟨h1, r, hn, h3⟩⟩
  · rw [Option.bind_eq_some_iff] at h
    obtain ⟨r, h1, h2⟩ := h
    obtain ⟨n, hn⟩ := opE_fin h1
    exact ⟨n, by simp only [hn, Option.bind_some]; exact h2⟩
theorem stepE_fin {ops o s q} (h : stepE E M (fnP E M X) ops o s = some q) : ∃ n, stepE E M (evP E M X n) ops o s = some q := by
  cases hg : o.guard with
  | none =>
    simp only [stepE, hg, Option.bind_eq_some_iff] at h ⊢
    obtain ⟨r, h1, h2⟩ := h
    obtain ⟨n, hn⟩ := opS_fin h1
    exact ⟨n, r, hn, h2⟩
  | some jw =>
    obtain ⟨j, want⟩ := jw
    simp only [stepE, hg] at h ⊢
    rw [Option.bind_eq_some_iff] at h
    obtain ⟨d, h0, h⟩ := h
    rw [h0]
    simp only [Option.bind_some]
    split at h
    · rename_i t hd
      split at h
      · rename_i ht
        rw [Option.bind_eq_some_iff] at h
        obtain ⟨r, h1, h2⟩ := h
        obtain ⟨n, hn⟩ := opS_fin h1
        exact ⟨n, by rw [if_pos ht, hn]; exact h2⟩
      · rename_i ht
        exact ⟨0, by rw [if_neg ht]; exact h⟩
    · exact ⟨0, h⟩
    · cases h
theorem regN_fin {ops} : ∀ {l s q}, regN E M (fnP E M X) ops l s = some q → ∃ n, regN E M (evP E M X n) ops l s = some q
  | [], _, _, h => ⟨0, h⟩
  | o :: l, s, q, h => by
    simp only [regN, Option.bind_eq_some_iff] at h ⊢
    obtain ⟨r, h1, h2⟩ := h
    obtain ⟨n, hn⟩ := stepE_fin h1
    obtain ⟨m, hm⟩ := regN_fin h2
    exact ⟨max n m, r, stepE_le (evP_le (Nat.le_max_left n m)) _ _ _ _ hn, regN_le (evP_le (Nat.le_max_right n m)) _ _ _ _ hm⟩
theorem regD_fin {ops} : ∀ {l s tr q}, regD E M (fnP E M X) ops l s tr = some q → ∃ n, regD E M (evP E M X n) ops l s tr = some q
  | [], _, _, _, h => ⟨0, h⟩
  | o :: l, s, tr, q, h => by
    simp only [regD, Option.bind_eq_some_iff] at h ⊢
    obtain ⟨r, h1, h2⟩ := h
    obtain ⟨n, hn⟩ := stepE_fin h1
    obtain ⟨m, hm⟩ := regD_fin h2
    exact ⟨max n m, r, stepE_le (evP_le (Nat.le_max_left n m)) _ _ _ _ hn, regD_le (evP_le (Nat.le_max_right n m)) _ _ _ _ _ hm⟩
theorem iterE_fin {F : St → Option (Exit × St)} {G : Nat → St → Option (Exit × St)} (hG : ∀ n n', n ≤ n' → ∀ s, LeO (G n s) (G n' s)) (h : ∀ s q, F s = some q → ∃ n, G n s = some q) : ∀ {k s q}, iterE F k s = some q → ∃ n, iterE (G n) k s = some q
  | 0, _, _, h => by simp [iterE] at h
  | k + 1, s, q, hk => by
    simp only [iterE, Option.bind_eq_some_iff] at hk ⊢
    obtain ⟨⟨e, s'⟩, h1, h2⟩ := hk
    obtain ⟨n, hn⟩ := h s _ h1
    cases e with
    | normal =>
      obtain ⟨m, hm⟩ := iterE_fin hG h h2
      exact ⟨max n m, (.normal, s'), hG _ _ (Nat.le_max_left n m) _ _ hn, iterE_le (hG _ _ (Nat.le_max_right n m)) (Nat.le_refl _) _ _ hm⟩
    | _ => exact ⟨n, _, hn, h2⟩
theorem evC_fin {k : Nat} : ∀ {c : Code} {s q}, evC E M (fnP E M X) lo k c s = some q → ∃ n, evC E M (evP E M X n) lo k c s = some q
  | .skip, _, _, h => ⟨0, h⟩
  | .label _, _, _, h => ⟨0, h⟩
  | .region _ ops draw, s, q, h => by
    simp only [evC, Option.bind_eq_some_iff] at h ⊢
    obtain ⟨r, h1, h2⟩ := h
    cases draw with
    | true =>
      simp only [if_true] at h1 ⊢
      obtain ⟨n, hn⟩ := regD_fin h1
      exact ⟨n, r, hn, h2⟩
    | false =>
      simp only [Bool.false_eq_true, if_false] at h1 ⊢
      obtain ⟨n, hn⟩ := regN_fin h1
      exact ⟨n, r, hn, h2⟩
  | .seq a b, s, q, h => by
    simp only [evC, Option.bind_eq_some_iff] at h ⊢
    obtain ⟨⟨e, s'⟩, h1, h2⟩ := h
    obtain ⟨n, hn⟩ := evC_fin h1
    cases e with
    | normal =>
      obtain ⟨m, hm⟩ := evC_fin h2
      exact ⟨max n m, (.normal, s'), evC_le (evP_le (Nat.le_max_left n m)) (Nat.le_refl _) _ _ _ hn, evC_le (evP_le (Nat.le_max_right n m)) (Nat.le_refl _) _ _ _ hm⟩
    | _ => exact ⟨n, _, hn, h2⟩
  | .cond x a b, s, q, h => by
    simp only [evC] at h ⊢
    split at h
    · split at h
      · rename_i ht
        obtain ⟨n, hn⟩ := evC_fin h
        exact ⟨n, by rw [if_pos ht]; exact hn⟩
      · rename_i ht
        obtain ⟨n, hn⟩ := evC_fin h
        exact ⟨n, by rw [if_neg ht]; exact hn⟩
    · cases h
  | .block id b, s, q, h => by
    simp only [evC, Option.bind_eq_some_iff] at h ⊢
    obtain ⟨p, h1, h2⟩ := h
    obtain ⟨n, hn⟩ := evC_fin h1
    exact ⟨n, p, hn, h2⟩
  | .loop b, s, q, h => by
    simp only [evC] at h ⊢
    exact iterE_fin (fun n n' hn s => evC_le (evP_le hn) (Nat.le_refl _) b s) (fun s q h => evC_fin h) h
  | .exit _, _, _, h => ⟨0, h⟩
  | .ret, _, _, h => ⟨0, h⟩
  | .rangeFunc _ _ _ _, _, _, h => ⟨0, h⟩
  | .scope b, s, q, h => by
    simp only [evC, Option.bind_eq_some_iff] at h ⊢
    obtain ⟨p, h1, h2⟩ := h
    obtain ⟨n, hn⟩ := evC_fin h1
    exact ⟨n, p, hn, h2⟩
  | .goto _, _, _, h => ⟨0, h⟩
  | .refuse _, _, _, h => ⟨0, h⟩
noncomputable def evI (E : Env) (M : Mds) (X : Own) (lo : Nat) (c : Code) (s : St) : Option (Exit × St) := limO fun n => evC E M (fnP E M X) lo n c s
theorem evI_mono (E : Env) (M : Mds) (X : Own) (lo : Nat) (c : Code) (s : St) : Mono fun n => evC E M (fnP E M X) lo n c s := fun _ _ h => evC_le (LeC.refl _) h c s
theorem evI_some {c : Code} {s : St} {q} : evI E M X lo c s = some q ↔ ∃ n, evC E M (fnP E M X) lo n c s = some q := lim_some (evI_mono E M X lo c s) q
theorem opt_ext {α : Type} {a b : Option α} (h : ∀ x, a = some x ↔ b = some x) : a = b := Option.ext h
theorem evI_skip (s : St) : evI E M X lo .skip s = some (.normal, s) := evI_some.2 ⟨0, rfl⟩
theorem evI_label (l) (s : St) : evI E M X lo (.label l) s = some (.normal, s) := evI_some.2 ⟨0, rfl⟩
theorem evI_exit (l) (s : St) : evI E M X lo (.exit l) s = some (.exit l, s) := evI_some.2 ⟨0, rfl⟩
theorem evI_ret (s : St) : evI E M X lo .ret s = some (.ret, s) := evI_some.2 ⟨0, rfl⟩
theorem evI_region (id ops draw) (s : St) : evI E M X lo (.region id ops draw) s = (if draw = true then regD E M (fnP E M X) ops ops.toList s [] else regN E M (fnP E M X) ops ops.toList s).bind fun s => some (.normal, ⟨restr lo s.fr, s.H⟩) :=
  opt_ext fun q => evI_some.trans ⟨fun ⟨_, h⟩ => h, fun h => ⟨0, h⟩⟩
theorem evI_seq (a b) (s : St) : evI E M X lo (.seq a b) s = (evI E M X lo a s).bind fun p => match p.1 with | .normal => evI E M X lo b p.2 | e => some (e, p.2) := by
  refine opt_ext fun q => evI_some.trans ⟨?_, ?_⟩
  · rintro ⟨n, h⟩
    simp only [evC, Option.bind_eq_some_iff] at h ⊢
    obtain ⟨⟨e, s'⟩, h1, h2⟩ := h
    refine ⟨(e, s'), evI_some.2 ⟨n, h1⟩, ?_⟩
    cases e with
    | normal => exact evI_some.2 ⟨n, h2⟩
    | _ => exact h2
  · intro h
    rw [Option.bind_eq_some_iff] at h
    obtain ⟨⟨e, s'⟩, h1, h2⟩ := h
    obtain ⟨n, hn⟩ := evI_some.1 h1
    simp only [evC, Option.bind_eq_some_iff]
    cases e with
    | normal =>
      obtain ⟨m, hm⟩ := evI_some.1 h2
      exact ⟨max n m, (.normal, s'), evI_mono E M X lo _ _ _ _ (Nat.le_max_left n m) _ hn, evI_mono E M X lo _ _ _ _ (Nat.le_max_right n m) _ hm⟩
    | _ => exact ⟨n, _, hn, h2⟩
theorem evI_cond (x a b) (s : St) : evI E M X lo (.cond x a b) s = match ev E.Γ s.fr x with | .bool t => if t = true then evI E M X lo a s else evI E M X lo b s | _ => none := by
  refine opt_ext fun q => evI_some.trans ?_
  simp only [evC]
  split
  · split
    · exact evI_some.symm
    · exact evI_some.symm
  · simp
theorem evI_block (id b) (s : St) : evI E M X lo (.block id b) s = (evI E M X lo b s).bind fun p => match p.1 with | .exit i => if i = id then some (.normal, p.2) else some (.exit i, p.2) | e => some (e, p.2) := by
  refine opt_ext fun q => evI_some.trans ⟨?_, ?_⟩
  · rintro ⟨n, h⟩
    simp only [evC, Option.bind_eq_some_iff] at h ⊢
    obtain ⟨p, h1, h2⟩ := h
    exact ⟨p, evI_some.2 ⟨n, h1⟩, h2⟩
  · intro h
    rw [Option.bind_eq_some_iff] at h
    obtain ⟨p, h1, h2⟩ := h
    obtain ⟨n, hn⟩ := evI_some.1 h1
    exact ⟨n, by simp only [evC, Option.bind_eq_some_iff]; exact ⟨p, hn, h2⟩⟩
theorem evI_scope (b) (s : St) : evI E M X lo (.scope b) s = (evI E M X lo b s).bind fun p => match p.1 with | .goto _ => none | e => some (e, p.2) := by
  refine opt_ext fun q => evI_some.trans ⟨?_, ?_⟩
  · rintro ⟨n, h⟩
    simp only [evC, Option.bind_eq_some_iff] at h ⊢
    obtain ⟨p, h1, h2⟩ := h
    exact ⟨p, evI_some.2 ⟨n, h1⟩, h2⟩
  · intro h
    rw [Option.bind_eq_some_iff] at h
    obtain ⟨p, h1, h2⟩ := h
    obtain ⟨n, hn⟩ := evI_some.1 h1
    exact ⟨n, by simp only [evC, Option.bind_eq_some_iff]; exact ⟨p, hn, h2⟩⟩
theorem evI_loop (b) (s : St) : evI E M X lo (.loop b) s = (evI E M X lo b s).bind fun p => match p.1 with | .normal => evI E M X lo (.loop b) p.2 | e => some (e, p.2) := by
  refine opt_ext fun q => evI_some.trans ⟨?_, ?_⟩
  · rintro ⟨n, h⟩
    cases n with
    | zero => simp [evC, iterE] at h
    | succ n =>
      simp only [evC, iterE, Option.bind_eq_some_iff] at h
      rw [Option.bind_eq_some_iff]
      obtain ⟨⟨e, s'⟩, h1, h2⟩ := h
      refine ⟨(e, s'), evI_some.2 ⟨n + 1, h1⟩, ?_⟩
      cases e with
      | normal => exact evI_some.2 ⟨n + 1, by simp only [evC]; exact iterE_le (fun s => LeO.refl _) (Nat.le_succ n) _ _ h2⟩
      | _ => exact h2
  · intro h
    rw [Option.bind_eq_some_iff] at h
    obtain ⟨⟨e, s'⟩, h1, h2⟩ := h
    obtain ⟨n, hn⟩ := evI_some.1 h1
    cases e with
    | normal =>
      obtain ⟨m, hm⟩ := evI_some.1 h2
      refine ⟨max n m + 1, ?_⟩
      simp only [evC, iterE, Option.bind_eq_some_iff] at hm ⊢
      exact ⟨(.normal, s'), evC_le (LeC.refl _) (by omega) _ _ _ hn, iterE_le (fun s => evC_le (LeC.refl _) (by omega) _ _) (Nat.le_max_right n m) _ _ hm⟩
    | _ =>
      refine ⟨n + 1, ?_⟩
      simp only [evC, iterE, Option.bind_eq_some_iff]
      exact ⟨_, evC_le (LeC.refl _) (by omega) _ _ _ hn, h2⟩
theorem evP_of {M' : Mds} (h1 : ∀ g, M'.at g = M.at g) (h2 : ∀ g, M'.inat g = M.inat g) (h3 : M'.loc = M.loc) (h4 : M'.res = M.res) : ∀ n, evP E M' X n = evP E M X n
  | 0 => rfl
  | n + 1 => by
    simp only [evP, evP_of h1 h2 h3 h4 n, bodyE, bodyI, h1, h2, h3, h4]
theorem fnP_of {M' : Mds} (h1 : ∀ g, M'.at g = M.at g) (h2 : ∀ g, M'.inat g = M.inat g) (h3 : M'.loc = M.loc) (h4 : M'.res = M.res) : fnP E M' X = fnP E M X := by
  unfold fnP fnE inE
  simp only [evP_of h1 h2 h3 h4]
theorem evF_at (f : FuncId) (n) : evP E (M.at f) X n = evP E M X n := evP_of (M := M) (M' := M.at f) (fun _ => rfl) (fun _ => rfl) rfl rfl n
theorem fnP_at (f : FuncId) : fnP E (M.at f) X = fnP E M X := fnP_of (M := M) (M' := M.at f) (fun _ => rfl) (fun _ => rfl) rfl rfl
theorem evF_inat (f : FuncId) (n) : evP E (M.inat f) X n = evP E M X n := evP_of (M := M) (M' := M.inat f) (fun _ => rfl) (fun _ => rfl) rfl rfl n
theorem fnP_inat (f : FuncId) : fnP E (M.inat f) X = fnP E M X := fnP_of (M := M) (M' := M.inat f) (fun _ => rfl) (fun _ => rfl) rfl rfl
theorem fnE_at (f : FuncId) : fnE E (M.at f) X = fnE E M X := congrArg Or2.c (fnP_at f)
theorem inE_at (f : FuncId) : inE E (M.at f) X = inE E M X := congrArg Or2.i (fnP_at f)
theorem fnE_inat (f : FuncId) : fnE E (M.inat f) X = fnE E M X := congrArg Or2.c (fnP_inat f)
theorem fnE_eq (f ex ds) : fnE E M X f ex ds = match X f with
    | some g => g ex ds
    | none => (E.P.funcs[f]?).bind fun fn => fn.body.bind fun code => gu (okArgs fn code ex ds = true)
        ((evI E (M.at f) X (M.loc f) code (startX ex ds)).bind fun p => gu (isEnd p.1 = true) (retE E fn.results.toList (M.res f) (E.P.resK f) ds p.2.fr p.2.H)) := by
  refine opt_ext fun q => (lim_some (evF_mono E M X f ex ds) q).trans ?_
  cases hg : X f with
  | some g =>
    constructor
    · rintro ⟨n, h⟩
      cases n with
      | zero => cases h
      | succ n => simp only [evP, hg] at h; exact h
    · intro h; exact ⟨1, by simp only [evP, hg]; exact h⟩
  | none =>
    constructor
    · rintro ⟨n, h⟩
      cases n with
      | zero => cases h
      | succ n =>
        simp only [evP, hg, bodyE, gu_some, Option.bind_eq_some_iff] at h ⊢
        obtain ⟨fn, h1, code, h2, h3, p, h4, h5⟩ := h
        exact ⟨fn, h1, code, h2, h3, p, evI_some.2 ⟨n, by rw [fnP_at]; exact evC_le (evF_fnE E M X n) (Nat.le_refl _) _ _ _ h4⟩, h5⟩
    · intro h
      simp only [gu_some, Option.bind_eq_some_iff] at h
      obtain ⟨fn, h1, code, h2, h3, p, h4, h5⟩ := h
      obtain ⟨k, hk⟩ := evI_some.1 h4
      obtain ⟨n, hn⟩ := evC_fin hk
      rw [evF_at] at hn
      refine ⟨max n k + 1, ?_⟩
      simp only [evP, hg, bodyE, gu_some, Option.bind_eq_some_iff]
      exact ⟨fn, h1, code, h2, h3, p, evC_le (evP_le (Nat.le_max_left n k)) (Nat.le_max_right n k) _ _ _ hn, h5⟩
theorem inE_eq (f vals H) (hx : ¬ E.P.exFn f = true) : inE E M X f vals H = (E.P.funcs[f]?).bind fun fn => fn.body.bind fun code => gu (okInl fn code vals = true)
    ((evI E (M.inat f) X (M.loc f) code ⟨frm vals, H⟩).bind fun p => gu (isEnd p.1 = true) ((rvsE E p.2.fr p.2.H fn.results.toList).bind fun vs => some (tupOf vs, p.2.H))) := by
  refine opt_ext fun q => (lim_some (evG_mono E M X f vals H) q).trans ?_
  constructor
  · rintro ⟨n, h⟩
    cases n with
    | zero => cases h
    | succ n =>
      simp only [evP, bodyI, if_neg hx, gu_some, Option.bind_eq_some_iff] at h ⊢
      obtain ⟨fn, h1, code, h2, h3, p, h4, h5⟩ := h
      exact ⟨fn, h1, code, h2, h3, p, evI_some.2 ⟨n, by rw [fnP_inat]; exact evC_le (evF_fnE E M X n) (Nat.le_refl _) _ _ _ h4⟩, h5⟩
  · intro h
    simp only [gu_some, Option.bind_eq_some_iff] at h
    obtain ⟨fn, h1, code, h2, h3, p, h4, h5⟩ := h
    obtain ⟨k, hk⟩ := evI_some.1 h4
    obtain ⟨n, hn⟩ := evC_fin hk
    rw [evF_inat] at hn
    refine ⟨max n k + 1, ?_⟩
    simp only [evP, bodyI, if_neg hx, gu_some, Option.bind_eq_some_iff]
    exact ⟨fn, h1, code, h2, h3, p, evC_le (evP_le (Nat.le_max_left n k)) (Nat.le_max_right n k) _ _ _ hn, h5⟩
end
section
variable {E : Env} {M : Mds} {C : Or2} {lo : Nat}
def Or2Ok (E : Env) (C : Or2) : Prop := OrcOk E C.c ∧ ∀ f vals H q, C.i f vals H = some q → InlSpec E f vals H q.1 q.2
theorem inlF_spec {op : Op} {ρ : Operand → AVal} {q} (h : inlF M op ρ = some q) : ∃ cl g f fs cs, op = .call cl ∧ cl.callee = .value g ∧ ρ g = .fn (.func f) fs cs ∧ q = (f, fs ++ cl.args.toList.map ρ ++ cs) := by
  unfold inlF at h
  split at h
  · rename_i g args ts
    split at h
    · rename_i f fs cs hg
      split at h
      · cases h
      · simp only [Option.some.injEq] at h
        exact ⟨_, g, f, fs, cs, rfl, rfl, hg, h.symm⟩
    · cases h
  · cases h
theorem ldT_told {o : Oper} {s : St} {k : Nat} {sd : Option Tmp} {v : AVal} {rd : List Nat} {up : List (Nat × Obj)} (hg : o.guard = none) (hA : Acts E o.op sd (ev E.Γ s.fr) s.H v rd up) : ldT E k o.op (ev E.Γ s.fr) rd = rd ∨ toldL E o s (ldT E k o.op (ev E.Γ s.fr) rd) rd := by
  cases ho : o.op
  case load t x =>
    rw [ho] at hA
    simp only [ldT]
    split
    · split
      · rename_i ob g i c he
        split
        · rename_i hz
          rcases hA with h | ⟨cl, hcl, _⟩
          · simp only [ActN, Act1] at h
            obtain ⟨n, g', cs, h1, h2, h3, h4, h5, h6, h7⟩ := h
            rw [he] at h6
            exact .inr ⟨hg, t, x, ob, g, i, c, ho, hz.1, he, hz.2, rfl, h6⟩
          · cases hcl
        · exact .inl rfl
      · exact .inl rfl
    · exact .inl rfl
  all_goals exact .inl rfl
theorem stepE_sound (hC : Or2Ok E C) {ops o s q} (h : stepE E M C ops o s = some q) : stepA E ops o s q.1 q.2.1 q.2.2 := by
  have hop : ∀ (r : Stp), opS E M C o.op o.dst (ev E.Γ s.fr) s.H = some r → (∃ v rd up, (∃ sd, Acts E o.op sd (ev E.Γ s.fr) s.H v rd up) ∧ r = (v, s.H.setAll up, rd, up.map (·.1))) ∨
      ∃ v H' wr cl g f fs cs, (o.op = .call cl ∧ cl.callee = .value g ∧ ev E.Γ s.fr g = .fn (.func f) fs cs ∧ E.P.inFn f = true ∧ InlSpec E f (fs ++ cl.args.toList.map (ev E.Γ s.fr) ++ cs) s.H v H') ∧ (wr = [ALL] ∨ (wr = [] ∧ H' = s.H) ∨ ∃ ob c, c < 100 ∧ wr = [BUT ob c] ∧ KeepL s.H H' ob c ∧ H' (LDC ob c) = s.H (LDC ob c)) ∧ r = (v, H', [ALL], wr) := fun r hr => by
    unfold opS at hr
    split at hr
    · rename_i p hp
      obtain ⟨cl, g, f, fs, cs, h1, h2, h3, rfl⟩ := inlF_spec hp
      simp only [gu_some, Option.bind_eq_some_iff] at hr
      obtain ⟨h4, r', h5, h6⟩ := hr
      unfold pureS at h6
      split at h6
      · split at h6
        · simp only [Option.some.injEq] at h6
          subst h6
          exact .inr ⟨r'.1, r'.2, _, cl, g, f, fs, cs, ⟨h1, h2, h3, h4, hC.2 _ _ _ _ h5⟩, .inl rfl, rfl⟩
        · split at h6
          · simp only [gu_some, Option.some.injEq] at h6
            obtain ⟨⟨k1, k2, k3⟩, rfl⟩ := h6
            exact .inr ⟨r'.1, r'.2, _, cl, g, f, fs, cs, ⟨h1, h2, h3, h4, hC.2 _ _ _ _ h5⟩, .inr (.inr ⟨_, _, k1, rfl, k2, k3⟩), rfl⟩
          · cases h6
      · simp only [gu_some, Option.some.injEq] at h6
        obtain ⟨h7, rfl⟩ := h6
        exact .inr ⟨r'.1, s.H, _, cl, g, f, fs, cs, ⟨h1, h2, h3, h4, by have := hC.2 _ _ _ _ h5; rwa [h7] at this⟩, .inr (.inl ⟨rfl, rfl⟩), rfl⟩
    · simp only [Option.bind_eq_some_iff, Option.some.injEq] at hr
      obtain ⟨r', h5, rfl⟩ := hr
      obtain ⟨v, rd, up, h1, h2⟩ := opX_sound (opE_sound hC.1 (K := fun v rd up => (v, rd, up) = r') h5 rfl)
      subst h2
      exact .inl ⟨v, rd, up, ⟨_, h1⟩, rfl⟩
  unfold stepE at h
  split at h
  · rename_i hg
    simp only [Option.bind_eq_some_iff, Option.some.injEq] at h
    obtain ⟨r, h1, rfl⟩ := h
    rcases hop r h1 with ⟨v, rd, up, ⟨sd, ha⟩, rfl⟩ | ⟨v, H', wr, cl, g, f, fs, cs, ha, hwr, rfl⟩
    · refine .inl ⟨v, up, rd, ⟨sd, by rw [hg]; exact ha⟩, ldT_told hg ha, rfl, rfl⟩
    · exact .inr ⟨v, H', ⟨by rw [hg]; trivial, cl, g, f, fs, cs, ha⟩, by rw [ha.1]; rfl, hwr, rfl⟩
  · rename_i j want hg
    simp only [Option.bind_eq_some_iff] at h
    obtain ⟨d, ⟨o', hd, hd'⟩, h⟩ := h
    have hd2 : (ops[j]?).bind (·.dst) = some d := by rw [hd]; exact hd'
    split at h
    · rename_i t ht
      split at h
      · rename_i hw
        simp only [Option.bind_eq_some_iff, Option.some.injEq] at h
        obtain ⟨r, h1, rfl⟩ := h
        rcases hop r h1 with ⟨v, rd, up, ⟨sd, ha⟩, rfl⟩ | ⟨v, H', wr, cl, g, f, fs, cs, ha, hwr, rfl⟩
        · exact .inl ⟨v, up, rd, ⟨sd, by rw [hg]; exact ⟨d, hd2, .inl ⟨by rw [ht, hw], ha⟩⟩⟩, .inl rfl, rfl, rfl⟩
        · exact .inr ⟨v, H', ⟨by rw [hg]; exact ⟨d, hd2, by rw [ht, hw]⟩, cl, g, f, fs, cs, ha⟩, rfl, hwr, rfl⟩
      · rename_i hw
        simp only [Option.some.injEq] at h
        subst h
        exact .inl ⟨.sc undef, [], [], ⟨none, by rw [hg]; exact ⟨d, hd2, .inr ⟨.inl (by rw [ht]; cases t <;> cases want <;> simp_all), rfl, rfl, rfl⟩⟩⟩, .inl rfl, rfl, rfl⟩
    · rename_i ht
      simp only [Option.some.injEq] at h
      subst h
      exact .inl ⟨.sc undef, [], [], ⟨none, by rw [hg]; exact ⟨d, hd2, .inr ⟨.inr ht, rfl, rfl, rfl⟩⟩⟩, .inl rfl, rfl, rfl⟩
    · cases h
theorem regN_sound (hC : Or2Ok E C) {ops} : ∀ {l s s'} {K : St → Prop}, regN E M C ops l s = some s' → K s' → areg E ops l s K
  | [], s, s', K, h, hk => by simp only [regN, Option.some.injEq] at h; subst h; exact hk
  | o :: l, s, s', K, h, hk => by
    simp only [regN, Option.bind_eq_some_iff] at h
    obtain ⟨q, h1, h2⟩ := h
    exact ⟨q.1, q.2.1, q.2.2, stepE_sound hC h1, regN_sound hC h2 hk⟩
theorem regD_sound (hC : Or2Ok E C) {ops} : ∀ {l s s' tr} {K : St → Prop}, regD E M C ops l s tr = some s' → K s' → aregD E ops l s tr (fun tr s' => indepB ops tr = true ∧ K s')
  | [], s, s', tr, K, h, hk => by simp only [regD, gu_some, Option.some.injEq] at h; obtain ⟨h1, rfl⟩ := h; exact ⟨h1, hk⟩
  | o :: l, s, s', tr, K, h, hk => by
    simp only [regD, Option.bind_eq_some_iff] at h
    obtain ⟨q, h1, h2⟩ := h
    exact ⟨q.1, q.2.1, q.2.2, stepE_sound hC h1, regD_sound hC h2 hk⟩
theorem least_of {p : Nat → Prop} (h : ∃ n, p n) : ∃ n, p n ∧ ∀ m, p m → n ≤ m := by
  obtain ⟨n, hn⟩ := h
  induction n using Nat.strongRecOn with
  | ind n ih =>
    by_cases hm : ∃ m, p m ∧ m < n
    · obtain ⟨m, h1, h2⟩ := hm; exact ih m h2 h1
    · exact ⟨n, hn, fun m hm' => by
        rcases Nat.lt_or_ge m n with h | h
        · exact absurd ⟨m, hm', h⟩ hm
        · exact h⟩
open Classical in
noncomputable def leastN (p : Nat → Prop) : Nat := if h : ∃ n, p n then Classical.choose (least_of h) else 0
theorem leastN_spec {p : Nat → Prop} (h : ∃ n, p n) : p (leastN p) ∧ ∀ m, p m → leastN p ≤ m := by
  unfold leastN
  rw [dif_pos h]
  exact Classical.choose_spec (least_of h)
theorem weak_restr (s : St) : Weak s ⟨restr lo s.fr, s.H⟩ := ⟨rfl, fun t => by
  show restr lo s.fr t = _ ∨ restr lo s.fr t = _
  unfold restr; split
  · exact .inr rfl
  · exact .inl rfl⟩
theorem evC_sound (hC : Or2Ok E C) {n : Nat} : ∀ {c : Code} {s : St} {p : Exit × St} {Q : Exit → St → Prop}, evC E M C lo n c s = some p → Q p.1 p.2 → aw E c Q s
  | .skip, s, p, Q, h, hq => by simp only [evC, Option.some.injEq] at h; subst h; exact hq
  | .label _, s, p, Q, h, hq => by simp only [evC, Option.some.injEq] at h; subst h; exact hq
  | .region _ ops draw, s, p, Q, h, hq => by
    simp only [evC, Option.bind_eq_some_iff, Option.some.injEq] at h
    obtain ⟨s', h1, rfl⟩ := h
    simp only [aw]
    cases draw with
    | true => simp only [if_true] at h1 ⊢; exact ⟨s, Weak.refl s, regD_sound hC (K := fun s' => ∃ s2, Weak s' s2 ∧ Q .normal s2) h1 ⟨_, weak_restr s', hq⟩⟩
    | false => simp only [Bool.false_eq_true, if_false] at h1 ⊢; exact ⟨s, Weak.refl s, regN_sound hC h1 ⟨_, weak_restr s', hq⟩⟩
  | .seq a b, s, p, Q, h, hq => by
    simp only [evC, Option.bind_eq_some_iff] at h
    obtain ⟨r, h1, h2⟩ := h
    show aw E a (thenA (aw E b Q) Q) s
    refine evC_sound (p := r) hC h1 ?_
    obtain ⟨e, s'⟩ := r
    cases e with
    | normal => exact evC_sound hC h2 hq
    | _ => simp only [Option.some.injEq] at h2; subst h2; exact hq
  | .cond x a b, s, p, Q, h, hq => by
    simp only [evC] at h
    split at h
    · rename_i t ht
      refine ⟨t, ht, fun e => ?_, fun e => ?_⟩
      · rw [if_pos e] at h; exact evC_sound hC h hq
      · rw [if_neg (by simp [e])] at h; exact evC_sound hC h hq
    · cases h
  | .block id b, s, p, Q, h, hq => by
    simp only [evC, Option.bind_eq_some_iff] at h
    obtain ⟨r, h1, h2⟩ := h
    show aw E b (inBlockA id Q) s
    refine evC_sound (p := r) hC h1 ?_
    obtain ⟨e, s'⟩ := r
    cases e with
    | exit i =>
      simp only [inBlockA] at h2 ⊢
      split at h2
      · rename_i hi; simp only [Option.some.injEq] at h2; subst h2; rw [if_pos hi]; exact hq
      · rename_i hi; simp only [Option.some.injEq] at h2; subst h2; rw [if_neg hi]; exact hq
    | _ => simp only [Option.some.injEq] at h2; subst h2; exact hq
  | .loop b, s, p, Q, h, hq => by
    simp only [evC] at h
    refine ⟨fun s => ∃ m, iterE (evC E M C lo n b) m s = some p, fun s => leastN fun m => iterE (evC E M C lo n b) m s = some p, ⟨n, h⟩, fun s' hs => ?_⟩
    obtain ⟨k1, k2⟩ := leastN_spec hs
    generalize hm : leastN (fun m => iterE (evC E M C lo n b) m s' = some p) = m at k1 k2
    cases m with
    | zero => simp [iterE] at k1
    | succ m =>
      simp only [iterE, Option.bind_eq_some_iff] at k1
      obtain ⟨r, h1, h2⟩ := k1
      refine evC_sound (p := r) hC h1 ?_
      obtain ⟨e, s''⟩ := r
      cases e with
      | normal =>
        obtain ⟨j1, j2⟩ := leastN_spec (p := fun m => iterE (evC E M C lo n b) m s'' = some p) ⟨m, h2⟩
        refine ⟨⟨m, h2⟩, ?_⟩
        show leastN (fun m => iterE (evC E M C lo n b) m s'' = some p) < leastN (fun m => iterE (evC E M C lo n b) m s' = some p)
        rw [hm]
        exact Nat.lt_succ_of_le (j2 m h2)
      | _ => simp only [Option.some.injEq] at h2; subst h2; exact hq
  | .exit _, s, p, Q, h, hq => by simp only [evC, Option.some.injEq] at h; subst h; exact hq
  | .ret, s, p, Q, h, hq => by simp only [evC, Option.some.injEq] at h; subst h; exact hq
  | .rangeFunc _ _ _ _, _, _, _, h, _ => by simp [evC] at h
  | .scope b, s, p, Q, h, hq => by
    simp only [evC, Option.bind_eq_some_iff] at h
    obtain ⟨r, h1, h2⟩ := h
    show aw E b (noGotoA Q) s
    refine evC_sound (p := r) hC h1 ?_
    obtain ⟨e, s'⟩ := r
    cases e with
    | goto l => cases h2
    | _ => simp only [Option.some.injEq] at h2; subst h2; exact hq
  | .goto _, _, _, _, h, _ => by simp [evC] at h
  | .refuse _, _, _, _, h, _ => by simp [evC] at h
def OwnOk (E : Env) (X : Own) : Prop := ∀ f g ex ds q, X f = some g → g ex ds = some q → SpecX E ex f ds q.1 q.2
theorem isUsl_spec {v : AVal} (h : isUsl v = true) : ∃ st es, v = .usl st es := by
  cases v <;> simp [isUsl] at h
  exact ⟨_, _, rfl⟩
theorem bodyE_sound (hm : E.P.follows .mixedOrders = true) (hC : Or2Ok E C) {n f ex ds q} (h : bodyE E M C n f ex ds = some q) : SpecX E ex f ds q.1 q.2 := by
  simp only [bodyE, gu_some, Option.bind_eq_some_iff] at h
  obtain ⟨fn, h1, code, h2, h3, p, h4, h5, h6⟩ := h
  simp only [okArgs, Bool.and_eq_true, decide_eq_true_eq] at h3
  obtain ⟨⟨⟨g1, g2⟩, g3⟩, g4⟩ := h3
  refine spec_ofX h1 h2 hm g1 g2 (nodupB_spec g3) (fun k hk => ?_) (evC_sound hC h4 ⟨isEnd_spec h5, retE_sound h6⟩)
  have := List.all_eq_true.1 g4 k hk
  obtain ⟨st, es, he⟩ := isUsl_spec this
  refine ⟨st, es, ?_⟩
  rw [List.getD_eq_getElem?_getD] at he
  cases hd : ds[k]? with
  | none => rw [hd] at he; cases he
  | some v => rw [hd] at he; simp only [Option.getD_some] at he; rw [he]
theorem bodyI_sound (hm : E.P.follows .mixedOrders = true) (hC : Or2Ok E C) {n f vals H q} (h : bodyI E M C n f vals H = some q) : InlSpec E f vals H q.1 q.2 := by
  unfold bodyI at h
  split at h
  · unfold ovE at h
    split at h
    · simp only [gu_some, Option.some.injEq] at h
      obtain ⟨h0, h1, h2, h3, h4, h5, h6, h7, h8, h9, rfl⟩ := h
      exact ov_sound h0 h1 h4 h5 h6 h2 h7 h8 h9 h3
    · cases h
  simp only [gu_some, Option.bind_eq_some_iff, Option.some.injEq] at h
  obtain ⟨fn, h1, code, h2, h3, p, h4, h5, vs, h6, rfl⟩ := h
  simp only [okInl, Bool.and_eq_true, decide_eq_true_eq] at h3
  exact inl_of h1 h2 hm h3.1 h3.2 (evC_sound hC h4 ⟨isEnd_spec h5, resA_tupOf (rvsE_sound h6), rfl⟩)
theorem evF_sound {X : Own} (hm : E.P.follows .mixedOrders = true) (hX : OwnOk E X) : ∀ n, Or2Ok E (evP E M X n)
  | 0 => ⟨fun _ _ _ _ h => (by cases h), fun _ _ _ _ h => (by cases h)⟩
  | n + 1 => ⟨fun f ex ds q h => by
    simp only [evP] at h
    split at h
    · rename_i g hg; exact hX f g ex ds q hg h
    · exact bodyE_sound hm (evF_sound hm hX n) h, fun f vals H q h => by
    simp only [evP] at h
    exact bodyI_sound hm (evF_sound hm hX n) h⟩
theorem fnE_sound {X : Own} (hm : E.P.follows .mixedOrders = true) (hX : OwnOk E X) {f ex ds q} (h : fnE E M X f ex ds = some q) : SpecX E ex f ds q.1 q.2 := by
  obtain ⟨n, hn⟩ := (lim_some (evF_mono E M X f ex ds) q).1 h
  exact (evF_sound hm hX n).1 f ex ds q hn
end
end Go.Am
