import Derived.Test.YtclgfgnhcakhdaaGreatDoorAm7
import Derived.Lib.Overlaps
namespace Go.Am
set_option linter.unusedSectionVars false
def putF (fr : Nat → AVal) (dst : Option Tmp) (v : AVal) : Nat → AVal :=
  match dst with
  | some d => upd fr d v
  | none => fr
def evA (E : Env) (ops : Array Oper) (o : Oper) (s : St) (v : AVal) (rd : List Nat) (up : List (Nat × Obj)) : Prop :=
  ∃ sd : Option Tmp, match o.guard with
  | none => Acts E o.op sd (ev E.Γ s.fr) s.H v rd up
  | some (j, want) => ∃ d, (ops[j]?).bind (·.dst) = some d ∧
      ((s.fr d = .bool want ∧ Acts E o.op sd (ev E.Γ s.fr) s.H v rd up) ∨ ((s.fr d = .bool (!want) ∨ s.fr d = .sc undef) ∧ v = .sc undef ∧ rd = [] ∧ up = []))
def _root_.Go.Program.exFn (P : Program) (f : FuncId) : Bool :=
  match P.funcs[f]? with
  | some fn => fn.body.isNone
  | none => false
def _root_.Go.Program.inFn (P : Program) (f : FuncId) : Bool := P.goFn f || P.exFn f
def InlSpec (E : Env) (f : FuncId) (vals : List AVal) (H : Heap) (v : AVal) (H' : Heap) : Prop :=
  ∀ (S0 U0 : Nat → Prop) (w0 : World) (c : Ctx) (xs : List Value), c.H = H → HeapOk S0 U0 w0 c → GlobOk E.Γ c.S c.w → VRels c vals xs →
    (E.P.goFn f = true → Calls E.P f xs.toArray c.w fun e w' => ∃ x c', e = .returned x ∧ w' = c'.w ∧ CtxLe c c' ∧ HeapOk S0 U0 w0 c' ∧ c'.H = H' ∧ VRel c' v x) ∧
    (E.P.exFn f = true → ∃ x c', (callFunc f xs.toArray).run E.P c.w = .ok (.value x) c'.w ∧ CtxLe c c' ∧ HeapOk S0 U0 w0 c' ∧ c'.H = H' ∧ VRel c' v x)
def OvF (P : Program) (f : FuncId) : Prop :=
  ∃ fn t tR e size, P.funcs[f]? = some fn ∧ (fn.name == "runtime.NumGoroutine") = false ∧ fn.body.isNone = true ∧ Extern.findNext fn = none ∧ Extern.find fn = some (Extern.SlicesOverlaps.overlaps #[t, t] #[tR]) ∧
    P.underlying t = some (.slice e) ∧ ∀ w, (Go.sizeOf e).run P w = .ok size w
theorem ov_sound {E : Env} {f : FuncId} (hf : OvF E.P f) {H : Heap} {o1 g1 i1 n1 o2 g2 i2 n2 : Nat} (hne : o1 ≠ o2) (hg1 : (H o1).gen = g1) (hm1 : (H o1).mode = .live) (hs1 : 2 ≤ (H o1).st) (hn1 : 1 ≤ n1)
    (hg2 : (H o2).gen = g2) (hm2 : (H o2).mode = .live) (hs2 : 2 ≤ (H o2).st) (hn2 : 1 ≤ n2) : InlSpec E f [.osl o1 g1 i1 n1, .osl o2 g2 i2 n2] H (.bool false) H := by
  obtain ⟨fn, t, tR, e, size, f1, f2, f3, f4, f5, f6, f7⟩ := hf
  intro S0 U0 w0 c xs hH hok hG hv
  subst hH
  refine ⟨fun hgo => ?_, fun _ => ?_⟩
  · simp only [Program.goFn, f1, Bool.and_eq_true] at hgo
    rw [Option.isNone_iff_eq_none] at f3
    rw [f3] at hgo
    simp at hgo
  · obtain ⟨x1, ys, rfl, ⟨a1, m1, c1, rfl, _, k1⟩, x2, zs, rfl, ⟨a2, m2, c2, rfl, _, k2⟩, rfl⟩ := hv
    obtain ⟨rfl, le1, cap1, ad1⟩ := k1 hg1.symm (by rw [hm1]; simp)
    obtain ⟨rfl, le2, cap2, ad2⟩ := k2 hg2.symm (by rw [hm2]; simp)
    have b1 := hok.objs o1 (by rw [hm1]; simp)
    have b2 := hok.objs o2 (by rw [hm2]; simp)
    have l1 := b1.le
    have l2 := b2.le
    have p1 : (c.φ o1).cap ≠ 0 := by omega
    have p2 : (c.φ o2).cap ≠ 0 := by omega
    obtain rfl := ad1 (by omega)
    obtain rfl := ad2 (by omega)
    obtain ⟨cs1, e1, z1, h1, q1, r1⟩ := b1.room p1
    obtain ⟨cs2, e2, z2, h2, q2, r2⟩ := b2.room p2
    have r1 := r1 hm1
    have hz : z1.1 = z1.2 := by
      rcases r1 with h | ⟨h, _⟩
      · exact h
      · omega
    have hcs2 : cs2.size ≠ 0 := by
      have : 1 * 2 ≤ (c.φ o2).cap * (c.H o2).st := Nat.mul_le_mul (by omega) hs2
      omega
    refine ⟨.bool false, c, ?_, CtxLe.refl c, hok, rfl, rfl⟩
    rw [show [Value.slice (some ⟨(c.φ o1).b, (c.φ o1).base + i1 * (c.H o1).st, none⟩) m1 c1, Value.slice (some ⟨(c.φ o2).b, (c.φ o2).base + i2 * (c.H o2).st, none⟩) m2 c2].toArray = #[Value.slice (some ⟨(c.φ o1).b, (c.φ o1).base + i1 * (c.H o1).st, none⟩) m1 c1, Value.slice (some ⟨(c.φ o2).b, (c.φ o2).base + i2 * (c.H o2).st, none⟩) m2 c2] from rfl,
      run_callFunc_extern f1 f2 f3 f4 f5,
      Lib.run_overlaps_apart c.w t tR e f6 size f7 ⟨(c.φ o1).b, (c.φ o1).base + i1 * (c.H o1).st, none⟩ ⟨(c.φ o2).b, (c.φ o2).base + i2 * (c.H o2).st, none⟩ m1 c1 m2 c2 (hok.inj o1 o2 hne hm1 hm2 p1 p2) e1 e2 cs1.size cs2.size
        (by simp [World.shape?, h1]) (by simp [World.shape?, h2]) hcs2 (by simp only [World.frozen?, h1]; simp; omega) (by simp only [World.frozen?, h1]; simp; omega)]
    rfl
def ALL : Nat := 999999999999
def inlA (E : Env) (ops : Array Oper) (o : Oper) (s : St) (v : AVal) (H' : Heap) : Prop :=
  (match o.guard with | none => True | some (j, want) => ∃ d, (ops[j]?).bind (·.dst) = some d ∧ s.fr d = .bool want) ∧
  ∃ cl g f fs cs, o.op = .call cl ∧ cl.callee = .value g ∧ ev E.Γ s.fr g = .fn (.func f) fs cs ∧ E.P.inFn f = true ∧ InlSpec E f (fs ++ cl.args.toList.map (ev E.Γ s.fr) ++ cs) s.H v H'
def LDC (o c : Nat) : Nat := ALL + 1 + 2 * (o * 100 + c)
def BUT (o c : Nat) : Nat := ALL + 2 + 2 * (o * 100 + c)
def baseC (k : Nat) : Nat := if ALL < k then (k - ALL - 1) / 2 / 100 else k
theorem baseC_le (k : Nat) : baseC k ≤ k := by unfold baseC; split <;> omega
theorem baseC_ldc {o c : Nat} (h : c < 100) : baseC (LDC o c) = o := by
  unfold baseC LDC; rw [if_pos (by omega)]; omega
def toldL (E : Env) (o : Oper) (s : St) (rd rd0 : List Nat) : Prop :=
  o.guard = none ∧ ∃ t x ob g i c, o.op = .load t x ∧ E.P.szO t = some 1 ∧ ev E.Γ s.fr x = .ptr ob g i c ∧ c < 100 ∧ rd = [LDC ob c] ∧ rd0 = [ob]
def KeepL (H H' : Heap) (ob c : Nat) : Prop := ∀ g i, loadC H' (.ptr ob g i c) 1 = loadC H (.ptr ob g i c) 1
def stepA (E : Env) (ops : Array Oper) (o : Oper) (s s' : St) (rd wr : List Nat) : Prop :=
  (∃ v up rd0, evA E ops o s v rd0 up ∧ (rd = rd0 ∨ toldL E o s rd rd0) ∧ wr = up.map (·.1) ∧ s' = ⟨putF s.fr o.dst v, s.H.setAll up⟩) ∨
  ∃ v H', inlA E ops o s v H' ∧ rd = [ALL] ∧ (wr = [ALL] ∨ (wr = [] ∧ H' = s.H) ∨ ∃ ob c, c < 100 ∧ wr = [BUT ob c] ∧ KeepL s.H H' ob c ∧ H' (LDC ob c) = s.H (LDC ob c)) ∧ s' = ⟨putF s.fr o.dst v, H'⟩
structure Rel (E : Env) (c0 : Ctx) (S0 U0 : Nat → Prop) (w0 : World) (n : Nat) (ks : List AVal) (kx : List Value) (s : St) (c : Ctx) (a : Go.Act) : Prop where
  H : c.H = s.H
  ok : HeapOk S0 U0 w0 c
  glob : GlobOk E.Γ c.S c.w
  fr : ∀ t, VRel c (s.fr t) (a.tmps.getD t undef)
  size : a.tmps.size = n
  defers : a.defers = []
  kept : VRels c ks kx
  le : CtxLe c0 c
section
variable {E : Env} {c0 : Ctx} {S0 U0 : Nat → Prop} {w0 : World} {n : Nat} {ks : List AVal} {kx : List Value} {s s' : St} {c : Ctx} {a : Go.Act}
theorem ev_rel (h : Rel E c0 S0 U0 w0 n ks kx s c a) (x : Operand) : VRel c (ev E.Γ s.fr x) (a.eval x) := by
  cases x with
  | tmp t => exact h.fr t
  | const v => exact absV_rel c v
  | global g =>
    simp only [ev, Act.eval]
    cases hg : E.Γ g with
    | none => rfl
    | some cs =>
      obtain ⟨h1, h2, _⟩ := h.glob g cs hg
      exact ⟨g, 0, rfl, fun _ => h1, h2⟩
  | func f => exact ⟨#[], #[], rfl, rfl, rfl⟩
theorem put_rel (h : Rel E c0 S0 U0 w0 n ks kx s c a) {c' : Ctx} {H' : Heap} (hle : CtxLe c c') (hok : HeapOk S0 U0 w0 c') (hH : c'.H = H') {dst : Option Tmp} {v : AVal} {x : Value} (hv : VRel c' v x) (hd : ∀ d, dst = some d → d < n) :
    Rel E c0 S0 U0 w0 n ks kx ⟨putF s.fr dst v, H'⟩ c' (a.put dst x) := by
  refine ⟨hH, hok, h.glob.mono hle.S hle.blk, fun t => ?_, ?_, ?_, VRels.mono hle _ _ h.kept, h.le.trans hle⟩
  · cases dst with
    | none => exact VRel.mono hle _ _ (h.fr t)
    | some d =>
      simp only [putF, upd, Act.put]
      have hdn := hd d rfl
      have hsz := h.size
      by_cases ht : t = d
      · subst ht
        simp only [if_true]
        rw [Array.getD_eq_getD_getElem?, Array.getElem?_setIfInBounds_self, if_pos (Nat.lt_of_lt_of_eq hdn hsz.symm)]
        exact hv
      · simp only [if_neg ht]
        rw [Array.getD_eq_getD_getElem?, Array.getElem?_setIfInBounds_ne (fun e => ht e.symm), ← Array.getD_eq_getD_getElem?]
        exact VRel.mono hle _ _ (h.fr t)
  · cases dst <;> simp [Act.put, h.size]
  · cases dst <;> simp [Act.put, h.defers]
theorem goFn_spec {P : Program} {f : FuncId} (h : P.goFn f = true) : ∃ fn, P.funcs[f]? = some fn ∧ fn.body.isSome = true ∧ (fn.name == "runtime.NumGoroutine") = false := by
  unfold Program.goFn at h
  split at h
  · rename_i fn hf
    simp only [Bool.and_eq_true, Bool.not_eq_true'] at h
    exact ⟨fn, hf, h.1, h.2⟩
  · cases h
theorem act_sound {o : Oper} {sd : Option Tmp} {v : AVal} {rd : List Nat} {up : List (Nat × Obj)} (h : Rel E c0 S0 U0 w0 n ks kx s c a) (hd : ∀ d, o.dst = some d → d < n) (hA : Acts E o.op sd (ev E.Γ s.fr) s.H v rd up)
    {next : Go.Act → World → Prop} {Q : Exit → Go.Act → World → Prop} (hn : ∀ c' a', Rel E c0 S0 U0 w0 n ks kx ⟨putF s.fr o.dst v, s.H.setAll up⟩ c' a' → next a' c'.w) : o.wp E.P a c.w next Q := by
  rw [← h.H] at hA hn
  rcases hA with hA | ⟨cl, ho, hA⟩
  · obtain ⟨x, c', hr, hle, hok, hH, hv⟩ := actN_sound h.ok (ev_rel h) hA
    unfold Oper.wp
    rcases hr with hr | ⟨hr, rfl⟩
    · rw [hr]; exact hn c' _ (put_rel h hle hok hH hv hd)
    · rw [hr]; exact hn c' _ (put_rel h hle hok hH hv hd)
  · obtain ⟨f, vals, ds, r, ls, u, b, bz, h1, h2, h3, h4, h5, h6, h7, h8, h9, h10, rfl, rfl, rfl⟩ := hA
    obtain ⟨fn, f1, f2, f3⟩ := goFn_spec h2
    obtain ⟨xs, hxs, hrun⟩ : ∃ xs : List Value, VRels c vals xs ∧ (execOp a.eval o).run E.P c.w = .ok (.enter f xs.toArray) c.w := by
      split at h1
      case h_2 => exact h1.elim
      rename_i g hg
      have hgv := ev_rel h g
      split at h1
      case h_2 => exact h1.elim
      rename_i f' first cap q
      rw [q] at hgv
      obtain ⟨rfl, rfl⟩ := h1
      obtain ⟨ys, zs, e1, e2, e3⟩ := hgv
      refine ⟨ys.toList ++ (cl.args.toList.map a.eval) ++ zs.toList, VRels.append (VRels.append e2 (map_rel (ev_rel h) _)) e3, ?_⟩
      have hb : ¬ fn.body = none := by intro e; rw [e] at f2; simp at f2
      have f3' : ¬ fn.name = "runtime.NumGoroutine" := by simpa using f3
      have e4 : (ys.toList ++ cl.args.toList.map a.eval ++ zs.toList).toArray = ys ++ cl.args.map a.eval ++ zs := by
        apply Array.ext'; simp
      rw [e4]
      simp [execOp, ho, resolve, hg, e1, Deferred.ofValue, invoke, callFunc, f1, f3', hb]
    have hcall := call_sound h.ok h.glob (site sd) hxs h3 h4 h5 h6 h7 h8 h9 h10
    unfold Oper.wp
    rw [hrun]
    refine hcall.mono ?_
    rintro e w' ⟨x, c', rfl, rfl, hle, hok, hH, hv⟩
    exact hn c' _ (put_rel h hle hok hH hv hd)
theorem inl_sound {o : Oper} {v : AVal} {H' : Heap} (h : Rel E c0 S0 U0 w0 n ks kx s c a) (hd : ∀ d, o.dst = some d → d < n) {cl : Go.Call} {g : Operand} {f : FuncId} {fs cs : List AVal} (ho : o.op = .call cl) (hc : cl.callee = .value g)
    (hg : ev E.Γ s.fr g = .fn (.func f) fs cs) (hf : E.P.inFn f = true) (hI : InlSpec E f (fs ++ cl.args.toList.map (ev E.Γ s.fr) ++ cs) s.H v H')
    {next : Go.Act → World → Prop} {Q : Exit → Go.Act → World → Prop} (hn : ∀ c' a', Rel E c0 S0 U0 w0 n ks kx ⟨putF s.fr o.dst v, H'⟩ c' a' → next a' c'.w) : o.wp E.P a c.w next Q := by
  have hgv := ev_rel h g
  rw [hg] at hgv
  obtain ⟨ys, zs, e1, e2, e3⟩ := hgv
  have hxs : VRels c (fs ++ cl.args.toList.map (ev E.Γ s.fr) ++ cs) (ys.toList ++ (cl.args.toList.map a.eval) ++ zs.toList) := VRels.append (VRels.append e2 (map_rel (ev_rel h) _)) e3
  have e4 : (ys.toList ++ cl.args.toList.map a.eval ++ zs.toList).toArray = ys ++ cl.args.map a.eval ++ zs := by
    apply Array.ext'; simp
  have hcall := hI S0 U0 w0 c _ h.H h.ok h.glob hxs
  have hrun0 : (execOp a.eval o).run E.P c.w = (callFunc f (ys.toList ++ (cl.args.toList.map a.eval) ++ zs.toList).toArray).run E.P c.w := by
    rw [e4]
    simp [execOp, ho, resolve, hc, e1, Deferred.ofValue, invoke]
  by_cases hgo : E.P.goFn f = true
  · obtain ⟨fn, f1, f2, f3⟩ := goFn_spec hgo
    have hrun : (execOp a.eval o).run E.P c.w = .ok (.enter f (ys.toList ++ (cl.args.toList.map a.eval) ++ zs.toList).toArray) c.w := by
      have hb : ¬ fn.body = none := by intro e; rw [e] at f2; simp at f2
      have f3' : ¬ fn.name = "runtime.NumGoroutine" := by simpa using f3
      rw [hrun0]
      simp [callFunc, f1, f3', hb]
    unfold Oper.wp
    rw [hrun]
    refine (hcall.1 hgo).mono ?_
    rintro e w' ⟨x, c', rfl, rfl, hle, hok, hH, hv⟩
    exact hn c' _ (put_rel h hle hok hH hv hd)
  · have hex : E.P.exFn f = true := by
      simp only [Program.inFn, Bool.or_eq_true] at hf
      exact hf.resolve_left hgo
    obtain ⟨x, c', hr, hle, hok, hH, hv⟩ := hcall.2 hex
    unfold Oper.wp
    rw [hrun0, hr]
    exact hn c' _ (put_rel h hle hok hH hv hd)
theorem yielded_of {ops : Array Oper} {j d : Nat} {t : Bool} (h : Rel E c0 S0 U0 w0 n ks kx s c a) (hd : (ops[j]?).bind (·.dst) = some d) (ht : s.fr d = .bool t) : yielded ops a.tmps j = some t := by
  have := h.fr d
  rw [ht] at this
  simp only [VRel] at this
  have hd2 : a.tmps[d]? = some (.bool t) := by
    rw [Array.getD_eq_getD_getElem?] at this
    cases hq : a.tmps[d]? with
    | none => rw [hq] at this; simp [undef] at this
    | some y => rw [hq] at this; simpa using this
  simp [yielded, hd, hd2]
theorem yielded_not {ops : Array Oper} {j d : Nat} (h : Rel E c0 S0 U0 w0 n ks kx s c a) (hd : (ops[j]?).bind (·.dst) = some d) (ht : s.fr d = .sc undef) : yielded ops a.tmps j = none := by
  have := h.fr d
  rw [ht] at this
  simp only [VRel] at this
  simp only [yielded, hd, Option.bind_some]
  rw [Array.getD_eq_getD_getElem?] at this
  cases hq : a.tmps[d]? with
  | none => rfl
  | some y => rw [hq] at this; simp only [Option.getD_some] at this; subst this; rfl
theorem step_sound {ops : Array Oper} {i : Nat} {o : Oper} {rd wr : List Nat} (hi : ops[i]? = some o) (h : Rel E c0 S0 U0 w0 n ks kx s c a) (hd : ∀ d, o.dst = some d → d < n) (hst : stepA E ops o s s' rd wr)
    {K : Go.Act → World → Prop} {Q : Exit → Go.Act → World → Prop} (hn : ∀ c' a', Rel E c0 S0 U0 w0 n ks kx s' c' a' → K a' c'.w) : wpOp E.P ops Q i K a c.w := by
  unfold wpOp
  simp only [hi]
  rcases hst with ⟨v, up, _, hev, _, _, rfl⟩ | ⟨v, H', ⟨hgd, cl, g, f, fs, cs, ho, hc, hg, hf, hI⟩, _, _, rfl⟩
  case inr =>
    split at hgd
    · rename_i hgn
      rw [if_pos (by simp [Region.wanted, hgn])]
      exact .inl (inl_sound h hd ho hc hg hf hI hn)
    · rename_i j want hgn
      obtain ⟨d, h1, h2⟩ := hgd
      have hy := yielded_of h h1 h2
      rw [if_pos (by simp [Region.wanted, hgn, hy])]
      exact .inl (inl_sound h hd ho hc hg hf hI hn)
  obtain ⟨sd, hev⟩ := hev
  split at hev
  · rename_i hg
    rw [if_pos (by simp [Region.wanted, hg])]
    exact .inl (act_sound h hd hev hn)
  · rename_i j want hg
    obtain ⟨d, h1, h3⟩ := hev
    rcases h3 with ⟨h2, hA⟩ | ⟨h2 | h2, rfl, _, rfl⟩
    · have hy := yielded_of h h1 h2
      rw [if_pos (by simp [Region.wanted, hg, hy])]
      exact .inl (act_sound h hd hA hn)
    · have hy := yielded_of h h1 h2
      rw [if_neg (by simp [Region.wanted, hg, hy])]
      exact hn c _ (put_rel h (CtxLe.refl c) h.ok h.H (v := .sc undef) rfl hd)
    · have hy := yielded_not h h1 h2
      rw [if_neg (by simp [Region.wanted, hg, hy])]
      exact hn c _ (put_rel h (CtxLe.refl c) h.ok h.H (v := .sc undef) rfl hd)
def areg (E : Env) (ops : Array Oper) : List Oper → St → (St → Prop) → Prop
  | [], s, K => K s
  | o :: rest, s, K => ∃ s' rd wr, stepA E ops o s s' rd wr ∧ areg E ops rest s' K
def dstsOk (n : Nat) (ops : Array Oper) : Bool := ops.toList.all fun o => match o.dst with | some d => decide (d < n) | none => true
theorem dstsOk_spec {n : Nat} {ops : Array Oper} (h : dstsOk n ops = true) : ∀ (i : Nat) (o : Oper), ops[i]? = some o → ∀ d, o.dst = some d → d < n := fun i o hi d hd => by
  have := List.all_eq_true.1 h o (by have := Array.mem_of_getElem? hi; simpa using this)
  rw [hd] at this
  simpa using this
theorem areg_sound {ops : Array Oper} (hds : ∀ (i : Nat) (o : Oper), ops[i]? = some o → ∀ d, o.dst = some d → d < n) {Q : Exit → Go.Act → World → Prop} {K : St → Prop}
    (hQ : ∀ s c a, K s → Rel E c0 S0 U0 w0 n ks kx s c a → Q .normal a c.w) : ∀ (l : List Oper) (k : Nat) (s : St) (c : Ctx) (a : Go.Act), (∀ j, l[j]? = ops[k + j]?) → areg E ops l s K → Rel E c0 S0 U0 w0 n ks kx s c a →
    wpOps E.P ops Q (List.range' k l.length) a c.w
  | [], k, s, c, a, _, h, hr => by simpa [wpOps] using hQ s c a h hr
  | o :: l, k, s, c, a, hl, ⟨s', rd, wr, h1, h2⟩, hr => by
    have h0 : ops[k]? = some o := by simpa using (hl 0).symm
    simp only [List.length_cons, List.range'_succ]
    rw [wpOps_cons]
    exact step_sound h0 hr (hds k o h0) h1 (fun c' a' hr' => areg_sound hds hQ l (k + 1) s' c' a' (fun j => by have := hl (j + 1); simpa [Nat.add_assoc, Nat.add_comm 1 j] using this) h2 hr')
theorem evA_local {ops : Array Oper} {o : Oper} {s t : St} {v : AVal} {rd : List Nat} {up : List (Nat × Obj)} (h : evA E ops o s v rd up) (hf : ∀ q ∈ o.looksAt ops, t.fr q = s.fr q) (hH : ∀ k ∈ rd, t.H k = s.H k) :
    evA E ops o t v rd up ∧ ∀ k ∈ up.map (·.1), k ∈ rd := by
  have hops : ∀ x ∈ o.op.operands, ev E.Γ s.fr x = ev E.Γ t.fr x := fun x hx => by
    cases x with
    | tmp q =>
      have : q ∈ o.looksAt ops := by
        unfold Oper.looksAt
        refine List.mem_append_left _ (List.mem_filterMap.2 ⟨.tmp q, by simpa using hx, rfl⟩)
      simp only [ev]; exact (hf q this).symm
    | _ => rfl
  obtain ⟨sd, h⟩ := h
  unfold evA
  split at h
  · rename_i hg
    obtain ⟨h1, h2⟩ := act_local h hH
    exact ⟨⟨sd, act_congr hops h1⟩, h2⟩
  · rename_i j want hg
    obtain ⟨d, h1, h3⟩ := h
    have hd : t.fr d = s.fr d := hf d (by
      unfold Oper.looksAt
      refine List.mem_append_right _ ?_
      rw [hg]
      simp [h1])
    rcases h3 with ⟨h4, h5⟩ | ⟨h4, rfl, rfl, rfl⟩
    · obtain ⟨h6, h7⟩ := act_local h5 hH
      exact ⟨⟨sd, ⟨d, h1, .inl ⟨by rw [hd]; exact h4, act_congr hops h6⟩⟩⟩, h7⟩
    · exact ⟨⟨sd, ⟨d, h1, .inr ⟨by rw [hd]; exact h4, rfl, rfl, rfl⟩⟩⟩, by simp⟩
theorem inlA_local {ops : Array Oper} {o : Oper} {s t : St} {v : AVal} {H' : Heap} (h : inlA E ops o s v H') (hf : ∀ q ∈ o.looksAt ops, t.fr q = s.fr q) (hH : t.H = s.H) : inlA E ops o t v H' := by
  have hops : ∀ x ∈ o.op.operands, ev E.Γ t.fr x = ev E.Γ s.fr x := fun x hx => by
    cases x with
    | tmp q =>
      have : q ∈ o.looksAt ops := by
        unfold Oper.looksAt
        refine List.mem_append_left _ (List.mem_filterMap.2 ⟨.tmp q, by simpa using hx, rfl⟩)
      simp only [ev]; exact hf q this
    | _ => rfl
  obtain ⟨hgd, cl, g, f, fs, cs, ho, hc, hg, hgo, hI⟩ := h
  rw [ho] at hops
  simp only [Op.operands] at hops
  refine ⟨?_, cl, g, f, fs, cs, ho, hc, (hops g (by simp [Call.operands, hc])).trans hg, hgo, ?_⟩
  · split at hgd
    · trivial
    · rename_i j want hgn
      obtain ⟨d, h1, h2⟩ := hgd
      exact ⟨d, h1, (hf d (by
        unfold Oper.looksAt
        refine List.mem_append_right _ ?_
        rw [hgn]
        simp [h1])).trans h2⟩
  · rw [map_congr (l := cl.args.toList) (fun x hx => hops x (by simp at hx; simp [Call.operands, hx])), hH]
    exact hI
theorem setAll_comm {H : Heap} {l l' : List (Nat × Obj)} (h : ∀ k ∈ l.map (·.1), k ∉ l'.map (·.1)) : (H.setAll l).setAll l' = (H.setAll l').setAll l := by
  funext k
  by_cases h1 : k ∈ l.map (·.1)
  · rw [setAll_not (h k h1)]
    have : ∀ (l : List (Nat × Obj)) (A B : Heap), k ∈ l.map (·.1) → A.setAll l k = B.setAll l k := by
      intro l
      induction l with
      | nil => intro A B h; simp at h
      | cons p l ih =>
        obtain ⟨o, x⟩ := p
        intro A B h
        simp only [Heap.setAll]
        by_cases h2 : k ∈ l.map (·.1)
        · exact ih _ _ h2
        · rw [setAll_not h2, setAll_not h2]
          simp only [List.map_cons, List.mem_cons] at h
          rcases h with rfl | h
          · simp
          · exact absurd h h2
    exact this l _ _ h1
  · rw [setAll_not (l := l) h1]
    by_cases h2 : k ∈ l'.map (·.1)
    · have : ∀ (l : List (Nat × Obj)) (A B : Heap), k ∈ l.map (·.1) → A.setAll l k = B.setAll l k := by
        intro l
        induction l with
        | nil => intro A B h; simp at h
        | cons p l ih =>
          obtain ⟨o, x⟩ := p
          intro A B h
          simp only [Heap.setAll]
          by_cases h2 : k ∈ l.map (·.1)
          · exact ih _ _ h2
          · rw [setAll_not h2, setAll_not h2]
            simp only [List.map_cons, List.mem_cons] at h
            rcases h with rfl | h
            · simp
            · exact absurd h h2
      exact this l' _ _ h2
    · rw [setAll_not h2, setAll_not h2, setAll_not h1]
theorem putF_ne {fr : Nat → AVal} {dst : Option Tmp} {v : AVal} {q : Nat} (h : ∀ d, dst = some d → q ≠ d) : putF fr dst v q = fr q := by
  cases dst with
  | none => rfl
  | some d => simp [putF, upd, h d rfl]
theorem putF_comm {fr : Nat → AVal} {x y : Option Tmp} {v u : AVal} (h : ∀ d, x = some d → y ≠ some d) : putF (putF fr x v) y u = putF (putF fr y u) x v := by
  cases x with
  | none => rfl
  | some d =>
    cases y with
    | none => rfl
    | some e =>
      have hne : d ≠ e := fun he => h d rfl (by rw [he])
      funext k
      simp only [putF, upd]
      by_cases h1 : k = e
      · subst h1; rw [if_pos rfl, if_neg (fun e => hne e.symm), if_pos rfl]
      · rw [if_neg h1]
        by_cases h2 : k = d
        · rw [if_pos h2, if_pos h2]
        · rw [if_neg h2, if_neg h2, if_neg h1]
def disj (a b : List Nat) : Bool :=
  if a.contains ALL = true then b.isEmpty else if b.contains ALL = true then a.isEmpty
  else if (a.any fun k => decide (ALL < k)) = true then b.isEmpty || (match a, b with | [k], [m] => decide (k = m + 1) | _, _ => false)
  else a.all fun k => !b.contains k && !(b.any fun m => decide (baseC m = k))
theorem disj_spec {a b : List Nat} (h : disj a b = true) : ∀ k ∈ a, k ∉ b ∧ ∀ m ∈ b, baseC m ≠ k := fun k hk => by
  unfold disj at h
  split at h
  · cases b
    · exact ⟨by simp, fun m hm => by simp at hm⟩
    · simp at h
  · split at h
    · cases a <;> simp at h hk
    · split at h
      · rw [Bool.or_eq_true] at h
        rcases h with h | h
        · cases b
          · exact ⟨by simp, fun m hm => by simp at hm⟩
          · simp at h
        · split at h
          · rename_i k' m
            have e := of_decide_eq_true h
            rw [List.mem_singleton] at hk
            subst hk
            refine ⟨by rw [List.mem_singleton]; omega, fun m' hm => ?_⟩
            rw [List.mem_singleton] at hm
            subst hm
            have := baseC_le m'
            omega
          · cases h
      · have := List.all_eq_true.1 h k hk
        simp only [Bool.and_eq_true, Bool.not_eq_true', List.any_eq_false, decide_eq_true_eq] at this
        exact ⟨fun hb => by have h1 := this.1; simp [hb] at h1, fun m hm => this.2 m hm⟩
theorem disj_allL {b : List Nat} (h : disj [ALL] b = true) : b = [] := by
  unfold disj at h
  rw [if_pos (by simp)] at h
  simpa using h
theorem disj_allR {a : List Nat} (h : disj a [ALL] = true) : a = [] := by
  unfold disj at h
  split at h
  · simp at h
  · rw [if_pos (by simp)] at h
    simpa using h
theorem disj_but {ob c : Nat} {b : List Nat} (h : disj [BUT ob c] b = true) : b = [] ∨ b = [LDC ob c] := by
  have hne : ¬ [BUT ob c].contains ALL = true := by
    simp only [List.contains_cons, List.contains_nil, Bool.or_false, beq_iff_eq]
    unfold BUT; omega
  unfold disj at h
  rw [if_neg hne] at h
  split at h
  · simp at h
  · rw [if_pos (by simp only [List.any_cons, List.any_nil, Bool.or_false, decide_eq_true_eq]; unfold BUT; omega)] at h
    rw [Bool.or_eq_true] at h
    rcases h with h | h
    · exact .inl (by simpa using h)
    · cases b with
      | nil => exact .inl rfl
      | cons m t =>
        cases t with
        | nil =>
          have h := of_decide_eq_true h
          refine .inr ?_
          rw [List.cons.injEq]
          exact ⟨by unfold BUT at h; unfold LDC; omega, rfl⟩
        | cons _ _ => exact absurd h (by simp)
theorem told_disj {o : Oper} {s : St} {a rd rd0 : List Nat} (h : disj a rd = true) (ht : rd = rd0 ∨ toldL E o s rd rd0) : ∀ k ∈ a, k ∉ rd0 := fun k hk => by
  obtain ⟨h1, h2⟩ := disj_spec h k hk
  rcases ht with rfl | ⟨_, t, x, ob, g, i, c, _, _, _, hc, rfl, rfl⟩
  · exact h1
  · rw [List.mem_singleton]
    have := h2 _ (List.mem_singleton.2 rfl)
    rw [baseC_ldc hc] at this
    exact fun e => this e.symm
theorem told_nil {o : Oper} {s : St} {rd rd0 : List Nat} (h : rd = []) (ht : rd = rd0 ∨ toldL E o s rd rd0) : rd0 = [] := by
  rcases ht with rfl | ⟨_, t, x, ob, g, i, c, _, _, _, hc, rfl, rfl⟩
  · exact h
  · cases h
theorem toldL_local {ops : Array Oper} {o : Oper} {s t : St} {rd rd0 : List Nat} (h : rd = rd0 ∨ toldL E o s rd rd0) (hf : ∀ q ∈ o.looksAt ops, t.fr q = s.fr q) : rd = rd0 ∨ toldL E o t rd rd0 := by
  rcases h with h | ⟨hg, ty, x, ob, g, i, c, ho, hz, he, hc, h1, h2⟩
  · exact .inl h
  · refine .inr ⟨hg, ty, x, ob, g, i, c, ho, hz, ?_, hc, h1, h2⟩
    rw [← he]
    cases x with
    | tmp q =>
      have : q ∈ o.looksAt ops := by
        unfold Oper.looksAt
        exact List.mem_append_left _ (List.mem_filterMap.2 ⟨.tmp q, by rw [ho]; simp [Op.operands], rfl⟩)
      simp only [ev]; exact hf q this
    | _ => rfl
theorem evA_load {ops : Array Oper} {o : Oper} {s t : St} {v : AVal} {rd0 : List Nat} {up : List (Nat × Obj)} (h : evA E ops o s v rd0 up) (hf : ∀ q ∈ o.looksAt ops, t.fr q = s.fr q) {ob c : Nat} (hc : c < 100)
    (ht : toldL E o s [LDC ob c] rd0) (hK : ∀ g i, loadC t.H (.ptr ob g i c) 1 = loadC s.H (.ptr ob g i c) 1) : evA E ops o t v rd0 up := by
  obtain ⟨hg, ty, x, ob', g, i, c', ho, hz, he, hc', h1, rfl⟩ := ht
  have e : ob' = ob ∧ c' = c := by
    simp only [List.cons.injEq, and_true] at h1
    unfold LDC at h1
    omega
  obtain ⟨rfl, rfl⟩ := e
  have hx : ev E.Γ t.fr x = ev E.Γ s.fr x := by
    cases x with
    | tmp q =>
      have : q ∈ o.looksAt ops := by
        unfold Oper.looksAt
        exact List.mem_append_left _ (List.mem_filterMap.2 ⟨.tmp q, by rw [ho]; simp [Op.operands], rfl⟩)
      simp only [ev]; exact hf q this
    | _ => rfl
  obtain ⟨sd, h⟩ := h
  rw [hg, ho] at h
  refine ⟨sd, ?_⟩
  rw [hg, ho]
  rcases h with h | ⟨cl, hcl, _⟩
  · simp only [ActN, Act1] at h
    obtain ⟨n, g', cs, h1, h2, h3, h4, h5, h6, h7⟩ := h
    have hn : n = 1 := by rw [hz] at h1; exact (Option.some.inj h1).symm
    subst hn
    refine .inl ⟨1, g', cs, h1, h2, h3, ?_, h5, by rw [hx]; exact h6, h7⟩
    rw [hx, he, hK]
    rw [he] at h4
    exact h4
  · cases hcl
theorem swap {ops : Array Oper} {oi oj : Oper} {s s1 s2 : St} {ri wi rj wj : List Nat} (hap : oi.apart ops oj = true) (h1 : stepA E ops oi s s1 ri wi) (h2 : stepA E ops oj s1 s2 rj wj) (d1 : disj wi rj = true) (d2 : disj wj ri = true) :
    ∃ s', stepA E ops oj s s' rj wj ∧ stepA E ops oi s' s2 ri wi := by
  obtain ⟨a1, a2, a3⟩ := Oper.apart_spec hap
  rcases h1 with ⟨vi, upi, r0i, ei, ti, rfl, rfl⟩ | ⟨vi, Hi, ei, rfl, hwi, rfl⟩
  · rcases h2 with ⟨vj, upj, r0j, ej, tj, rfl, rfl⟩ | ⟨vj, Hj, ej, rfl, hwj, rfl⟩
    · have q1 := told_disj d1 tj
      have q2 := told_disj d2 ti
      have fj : ∀ q ∈ oj.looksAt ops, s.fr q = putF s.fr oi.dst vi q := fun q hq => (putF_ne (fun d hd e => a1 d hd (by rw [← e]; exact hq))).symm
      have fi : ∀ q ∈ oi.looksAt ops, putF s.fr oj.dst vj q = s.fr q := fun q hq => putF_ne (fun d hd e => a3 d hd (by rw [← e]; exact hq))
      obtain ⟨ej', hjr⟩ := evA_local (t := s) ej fj (fun k hk => (setAll_not (fun hk' => q1 k hk' hk)).symm)
      refine ⟨⟨putF s.fr oj.dst vj, s.H.setAll upj⟩, .inl ⟨vj, upj, r0j, ej', toldL_local tj fj, rfl, rfl⟩, .inl ⟨vi, upi, r0i, ?_, toldL_local ti fi, rfl, ?_⟩⟩
      · exact (evA_local (t := ⟨putF s.fr oj.dst vj, s.H.setAll upj⟩) ei fi (fun k hk => setAll_not (fun hk' => q2 k hk' hk))).1
      · simp only
        rw [putF_comm a2, setAll_comm (fun k hk hk' => q1 k hk (hjr k hk'))]
    · have hu := disj_allR d1
      simp only [List.map_eq_nil_iff] at hu
      subst hu
      have fi : ∀ q ∈ oi.looksAt ops, putF s.fr oj.dst vj q = s.fr q := fun q hq => putF_ne (fun d hd e => a3 d hd (by rw [← e]; exact hq))
      have ei' : evA E ops oi ⟨putF s.fr oj.dst vj, Hj⟩ vi r0i [] := by
        rcases hwj with rfl | ⟨_, rfl⟩ | ⟨ob, c, hc, rfl, hK, hL⟩
        · have := told_nil (disj_allL d2) ti
          subst this
          exact (evA_local (t := ⟨putF s.fr oj.dst vj, Hj⟩) ei fi (fun k hk => by simp at hk)).1
        · exact (evA_local (t := ⟨putF s.fr oj.dst vj, s.H⟩) ei fi (fun k hk => rfl)).1
        · rcases disj_but d2 with hn | hn
          · have := told_nil hn ti
            subst this
            exact (evA_local (t := ⟨putF s.fr oj.dst vj, Hj⟩) ei fi (fun k hk => by simp at hk)).1
          · rcases ti with ti | ti
            · rw [hn] at ti
              subst ti
              exact (evA_local (t := ⟨putF s.fr oj.dst vj, Hj⟩) ei fi (fun k hk => by rw [List.mem_singleton] at hk; rw [hk]; exact hL)).1
            · rw [hn] at ti
              exact evA_load (t := ⟨putF s.fr oj.dst vj, Hj⟩) ei fi hc ti hK
      have ej' := inlA_local (t := s) ej (fun q hq => (putF_ne (fun d hd e => a1 d hd (by rw [← e]; exact hq))).symm) rfl
      refine ⟨⟨putF s.fr oj.dst vj, Hj⟩, .inr ⟨vj, Hj, ej', rfl, hwj, rfl⟩, .inl ⟨vi, [], r0i, ei', toldL_local ti fi, rfl, ?_⟩⟩
      · simp only [Heap.setAll]
        rw [putF_comm a2]
  · rcases h2 with ⟨vj, upj, r0j, ej, tj, rfl, rfl⟩ | ⟨vj, Hj, ej, rfl, hwj, rfl⟩
    · have hu := disj_allR d2
      simp only [List.map_eq_nil_iff] at hu
      subst hu
      have fj : ∀ q ∈ oj.looksAt ops, s.fr q = putF s.fr oi.dst vi q := fun q hq => (putF_ne (fun d hd e => a1 d hd (by rw [← e]; exact hq))).symm
      have ej' : evA E ops oj s vj r0j [] := by
        rcases hwi with rfl | ⟨_, rfl⟩ | ⟨ob, c, hc, rfl, hK, hL⟩
        · have := told_nil (disj_allL d1) tj
          subst this
          exact (evA_local (t := s) ej fj (fun k hk => by simp at hk)).1
        · exact (evA_local (t := s) ej fj (fun k hk => rfl)).1
        · rcases disj_but d1 with hn | hn
          · have := told_nil hn tj
            subst this
            exact (evA_local (t := s) ej fj (fun k hk => by simp at hk)).1
          · rcases tj with tj | tj
            · rw [hn] at tj
              subst tj
              exact (evA_local (t := s) ej fj (fun k hk => by rw [List.mem_singleton] at hk; rw [hk]; exact hL.symm)).1
            · rw [hn] at tj
              exact evA_load (t := s) ej fj hc tj (fun g i => (hK g i).symm)
      refine ⟨⟨putF s.fr oj.dst vj, s.H⟩, .inl ⟨vj, [], r0j, ej', toldL_local tj fj, rfl, rfl⟩, .inr ⟨vi, Hi, ?_, rfl, hwi, ?_⟩⟩
      · exact inlA_local (t := ⟨putF s.fr oj.dst vj, s.H⟩) ei (fun q hq => putF_ne (fun d hd e => a3 d hd (by rw [← e]; exact hq))) rfl
      · simp only [Heap.setAll]
        rw [putF_comm a2]
    · rcases hwi with rfl | ⟨rfl, rfl⟩ | ⟨ob, c, hc, rfl, hK, hL⟩
      · have := disj_allL d1
        cases this
      · rcases hwj with rfl | ⟨rfl, rfl⟩ | ⟨ob, c, hc, rfl, hK, hL⟩
        · have := disj_allL d2
          cases this
        · have ej' := inlA_local (t := s) ej (fun q hq => (putF_ne (fun d hd e => a1 d hd (by rw [← e]; exact hq))).symm) rfl
          refine ⟨⟨putF s.fr oj.dst vj, s.H⟩, .inr ⟨vj, s.H, ej', rfl, .inr (.inl ⟨rfl, rfl⟩), rfl⟩, .inr ⟨vi, s.H, ?_, rfl, .inr (.inl ⟨rfl, rfl⟩), ?_⟩⟩
          · exact inlA_local (t := ⟨putF s.fr oj.dst vj, s.H⟩) ei (fun q hq => putF_ne (fun d hd e => a3 d hd (by rw [← e]; exact hq))) rfl
          · simp only
            rw [putF_comm a2]
        · have := disj_allR d2
          cases this
      · have := disj_allR d1
        cases this
def absAny (E : Env) (md : Region.Mode) (ops : Array Oper) (F : Nat → List Nat × List Nat) (Q : St → Prop) : Nat → Array Bool → St → Prop
  | 0, listed, s => Region.ready md ops listed = [] ∧ Q s
  | fuel + 1, listed, s => (Region.ready md ops listed = [] → Q s) ∧ ∀ i ∈ Region.ready md ops listed, ∃ o s', ops[i]? = some o ∧ stepA E ops o s s' (F i).1 (F i).2 ∧ absAny E md ops F Q fuel (listed.setIfInBounds i true) s'
theorem getD_ft {l : Array Bool} {k : Nat} (h : l.getD k false = true) : l.getD k true = true := by
  rw [Array.getD_eq_getD_getElem?] at h ⊢
  cases hk : l[k]? with
  | none => rfl
  | some b => rw [hk] at h; simpa using h
def Closed (md : Region.Mode) (ops : Array Oper) (listed : Array Bool) : Prop :=
  ∀ (k : Nat) (ok : Oper), ops[k]? = some ok → listed.getD k true = true → ∀ e ∈ ok.after, Region.binds md e = true → listed.getD e.on true = true
theorem Closed.next {md : Region.Mode} {ops : Array Oper} {listed : Array Bool} (h : Closed md ops listed) {j : Nat} (hj : j ∈ Region.ready md ops listed) : Closed md ops (listed.setIfInBounds j true) := by
  intro k ok hk hl e he hb
  have up : listed.getD e.on true = true → (listed.setIfInBounds j true).getD e.on true = true := fun h0 => by
    by_cases hje : j = e.on
    · subst hje
      rw [Array.getD_eq_getD_getElem?, Array.getElem?_setIfInBounds_self]
      split <;> rfl
    · rw [getD_set_ne true hje]; exact h0
  by_cases hjk : j = k
  · subst hjk
    obtain ⟨_, oj, hoj, hall⟩ := mem_ready.1 hj
    rw [hk] at hoj
    injection hoj with hoj
    subst hoj
    exact up (getD_ft (hall e he hb))
  · rw [getD_set_ne true hjk] at hl
    exact up (h k ok hk hl e he hb)
def ancM (md : Region.Mode) (acc : List Nat) (l : List _root_.Go.Edge) : Nat := l.foldl (fun m e => if Region.binds md e = true then m ||| (2 ^ e.on ||| acc.getD e.on 0) else m) 0
def ancs (md : Region.Mode) : List Oper → List Nat → List Nat
  | [], acc => acc
  | o :: l, acc => ancs md l (acc ++ [ancM md acc o.after.toList])
theorem ancM_spec {md : Region.Mode} {acc : List Nat} {i : Nat} : ∀ (l : List _root_.Go.Edge) (m : Nat), (l.foldl (fun m e => if Region.binds md e = true then m ||| (2 ^ e.on ||| acc.getD e.on 0) else m) m).testBit i = true →
    m.testBit i = true ∨ ∃ e ∈ l, Region.binds md e = true ∧ (e.on = i ∨ (acc.getD e.on 0).testBit i = true)
  | [], m, h => .inl h
  | e :: l, m, h => by
    rw [List.foldl_cons] at h
    rcases ancM_spec l _ h with h | ⟨e', he', hb, h⟩
    · split at h
      · rename_i hb
        rw [Nat.testBit_or, Nat.testBit_or, Bool.or_eq_true, Bool.or_eq_true] at h
        rcases h with h | h | h
        · exact .inl h
        · exact .inr ⟨e, List.mem_cons_self .., hb, .inl (by rw [Nat.testBit_two_pow] at h; simpa using h)⟩
        · exact .inr ⟨e, List.mem_cons_self .., hb, .inr h⟩
      · exact .inl h
    · exact .inr ⟨e', List.mem_cons_of_mem _ he', hb, h⟩
theorem ancs_spec {md : Region.Mode} {ops : Array Oper} {listed : Array Bool} (hC : Closed md ops listed) : ∀ (l : List Oper) (acc : List Nat), (∀ j, l[j]? = ops[acc.length + j]?) →
    (∀ (j : Nat) (o : Oper), ops[j]? = some o → (∀ e ∈ o.after, Region.binds md e = true → listed.getD e.on true = true) → ∀ i, (acc.getD j 0).testBit i = true → listed.getD i true = true) →
    ∀ (j : Nat) (o : Oper), ops[j]? = some o → (∀ e ∈ o.after, Region.binds md e = true → listed.getD e.on true = true) → ∀ i, ((ancs md l acc).getD j 0).testBit i = true → listed.getD i true = true
  | [], acc, _, h => h
  | o :: l, acc, hl, h => by
    refine ancs_spec hC l (acc ++ [ancM md acc o.after.toList]) (fun j => by have := hl (j + 1); simpa [Nat.add_assoc, Nat.add_comm 1 j] using this) ?_
    intro j oj hoj haft i hbit
    rcases Nat.lt_trichotomy j acc.length with h1 | h1 | h1
    · rw [List.getD_eq_getElem?_getD, List.getElem?_append_left h1, ← List.getD_eq_getElem?_getD] at hbit
      exact h j oj hoj haft i hbit
    · subst h1
      have h0 : ops[acc.length]? = some o := by simpa using (hl 0).symm
      rw [h0] at hoj
      injection hoj with hoj
      subst hoj
      rw [List.getD_eq_getElem?_getD, List.getElem?_append_right (Nat.le_refl _), Nat.sub_self] at hbit
      simp only [List.getElem?_cons_zero, Option.getD_some] at hbit
      rcases ancM_spec _ _ hbit with hz | ⟨e, he, hb, he2⟩
      · simp at hz
      · have he' : e ∈ o.after := by simpa using he
        have hle := haft e he' hb
        rcases he2 with rfl | he2
        · exact hle
        · cases hoe : ops[e.on]? with
          | none =>
            have : acc.getD e.on 0 = 0 := by
              rw [List.getD_eq_getElem?_getD, List.getElem?_eq_none]; rfl
              have h2 : ops.size ≤ e.on := by simpa using hoe
              have h3 : acc.length < ops.size := by
                rcases Nat.lt_or_ge acc.length ops.size with h' | h'
                · exact h'
                · simp [Array.getElem?_eq_none h'] at h0
              omega
            rw [this] at he2; simp at he2
          | some oe => exact h e.on oe hoe (hC e.on oe hoe hle) i he2
    · have : (acc ++ [ancM md acc o.after.toList]).getD j 0 = 0 := by
        rw [List.getD_eq_getElem?_getD, List.getElem?_eq_none (by simp; omega)]; rfl
      rw [this] at hbit; simp at hbit
def waitsB (md : Region.Mode) (ops : Array Oper) (i j : Nat) : Bool := ((ancs md ops.toList []).getD j 0).testBit i
theorem waits_spec {md : Region.Mode} {ops : Array Oper} {listed : Array Bool} (hC : Closed md ops listed) {i j : Nat} (hj : j ∈ Region.ready md ops listed) (h : waitsB md ops i j = true) : listed.getD i true = true := by
  obtain ⟨_, oj, hoj, hall⟩ := mem_ready.1 hj
  exact ancs_spec hC ops.toList [] (by simp) (fun j o _ _ i hb => by simp at hb) j oj hoj (fun e he hb => getD_ft (hall e he hb)) i h
theorem absAny_first {md : Region.Mode} {ops : Array Oper} {F : Nat → List Nat × List Nat} {Q : St → Prop} {i : Nat} {oi : Oper} (hi : ops[i]? = some oi) :
    ∀ (fuel : Nat) (listed : Array Bool) (s s1 : St),
      (∀ (j : Nat) (oj : Oper), ops[j]? = some oj → j ≠ i → listed.getD j true = false → (∀ e ∈ oj.after, Region.binds md e = true → e.on ≠ i) → waitsB md ops i j = false → oi.apart ops oj = true ∧ disj (F i).2 (F j).1 = true ∧ disj (F j).2 (F i).1 = true) →
      Closed md ops listed → i ∈ Region.ready md ops listed → stepA E ops oi s s1 (F i).1 (F i).2 → absAny E md ops F Q fuel (listed.setIfInBounds i true) s1 → absAny E md ops F Q (fuel + 1) listed s := by
  intro fuel
  induction fuel with
  | zero =>
    intro listed s s1 _ _ hr hy H
    refine ⟨fun h => (by rw [h] at hr; cases hr), fun j hj => ?_⟩
    by_cases hji : j = i
    · subst hji; exact ⟨oi, s1, hi, hy, H⟩
    · have := ready_mono hj hji
      rw [H.1] at this
      cases this
  | succ fuel ih =>
    intro listed s s1 hfree hC hr hy H
    refine ⟨fun h => (by rw [h] at hr; cases hr), fun j hj => ?_⟩
    by_cases hji : j = i
    · subst hji; exact ⟨oi, s1, hi, hy, H⟩
    · obtain ⟨oj, s2, hoj', hst, hrest⟩ := H.2 j (ready_mono hj hji)
      obtain ⟨hjun, oj', hoj, hall⟩ := mem_ready.1 hj
      obtain rfl : oj' = oj := by rw [hoj] at hoj'; injection hoj'
      have hnot : ∀ e ∈ oj'.after, Region.binds md e = true → e.on ≠ i := fun e he hb heq => by
        have h1 := hall e he hb
        have h0 := (mem_ready.1 hr).1
        rw [heq] at h1
        rcases Nat.lt_or_ge i listed.size with h' | h'
        · simp [h'] at h0 h1; rw [h0] at h1; cases h1
        · simp [Array.getElem?_eq_none h'] at h1
      have hnw : waitsB md ops i j = false := by
        cases hw : waitsB md ops i j with
        | false => rfl
        | true =>
          have h1 := waits_spec hC hj hw
          have h0 := (mem_ready.1 hr).1
          rw [h0] at h1; cases h1
      obtain ⟨f1, f2, f3⟩ := hfree j oj' hoj hji hjun hnot hnw
      obtain ⟨s', g1, g2⟩ := swap f1 hy hst f2 f3
      have hfree' : ∀ (k : Nat) (ok : Oper), ops[k]? = some ok → k ≠ i → (listed.setIfInBounds j true).getD k true = false →
          (∀ e ∈ ok.after, Region.binds md e = true → e.on ≠ i) → waitsB md ops i k = false → oi.apart ops ok = true ∧ disj (F i).2 (F k).1 = true ∧ disj (F k).2 (F i).1 = true := fun k ok hk hki hun hno hw => by
        refine hfree k ok hk hki ?_ hno hw
        by_cases hjk : j = k
        · subst hjk; exact hjun
        · rw [getD_set_ne true hjk] at hun; exact hun
      refine ⟨oj', s', hoj, g1, ih (listed.setIfInBounds j true) s' s2 hfree' (hC.next hj) (ready_mono hr (Ne.symm hji)) g2 ?_⟩
      rw [Array.setIfInBounds_comm _ _ hji]
      exact hrest
def indepB (ops : Array Oper) (F : List (List Nat × List Nat)) : Bool :=
  (List.range ops.size).all fun i => (List.range ops.size).all fun j => !(decide (i < j)) ||
    (match ops[j]? with | some o => o.after.any fun e => Region.binds .any e && e.on == i | none => true) ||
    waitsB .any ops i j ||
    (disj (F.getD i ([], [])).2 (F.getD j ([], [])).1 && disj (F.getD j ([], [])).2 (F.getD i ([], [])).1)
def aregD (E : Env) (ops : Array Oper) : List Oper → St → List (List Nat × List Nat) → (List (List Nat × List Nat) → St → Prop) → Prop
  | [], s, tr, K => K tr s
  | o :: rest, s, tr, K => ∃ s' rd wr, stepA E ops o s s' rd wr ∧ aregD E ops rest s' (tr ++ [(rd, wr)]) K
def walkD (E : Env) (ops : Array Oper) (F : Nat → List Nat × List Nat) (Q : St → Prop) : List Oper → Nat → St → Prop
  | [], _, s => Q s
  | o :: rest, k, s => ∃ s', stepA E ops o s s' (F k).1 (F k).2 ∧ walkD E ops F Q rest (k + 1) s'
theorem walkD_of {ops : Array Oper} {K : List (List Nat × List Nat) → St → Prop} : ∀ (l : List Oper) (s : St) (tr : List (List Nat × List Nat)), aregD E ops l s tr K →
    ∃ tr' : List (List Nat × List Nat), (∀ i, i < tr.length → tr'[i]? = tr[i]?) ∧ tr'.length = tr.length + l.length ∧ walkD E ops (fun k => tr'.getD k ([], [])) (K tr') l tr.length s
  | [], s, tr, h => ⟨tr, fun _ _ => rfl, rfl, h⟩
  | o :: rest, s, tr, ⟨s', rd, wr, h1, h2⟩ => by
    obtain ⟨tr', g1, g2, g3⟩ := walkD_of rest s' _ h2
    simp only [List.length_append, List.length_cons, List.length_nil, Nat.zero_add] at g1 g2 g3
    refine ⟨tr', fun i hi => by rw [g1 i (by omega), List.getElem?_append_left hi], by simp [g2]; omega, s', ?_, g3⟩
    have : tr'[tr.length]? = some (rd, wr) := by rw [g1 _ (by omega)]; simp
    simp only [List.getD_eq_getElem?_getD, this, Option.getD_some]
    exact h1
theorem absAny_lex {md : Region.Mode} {ops : Array Oper} {F : Nat → List Nat × List Nat} {Q : St → Prop}
    (hind : ∀ (i j : Nat) (oj : Oper), i < j → ops[j]? = some oj → (∀ e ∈ oj.after, Region.binds md e = true → e.on ≠ i) → waitsB md ops i j = false → disj (F i).2 (F j).1 = true ∧ disj (F j).2 (F i).1 = true) :
    ∀ (l : List Oper) (k : Nat) (listed : Array Bool) (s : St), (∀ j, l[j]? = ops[k + j]?) → (∀ j, j < k → listed.getD j true = true) → Closed md ops listed → Region.lexFrom md ops l.length k listed = true → walkD E ops F Q l k s → absAny E md ops F Q l.length listed s
  | [], _, _, _, _, _, _, hB, h => ⟨by simpa [Region.lexFrom] using hB, h⟩
  | o :: l, k, listed, s, hl, hlt, hC, hB, ⟨s', h1, h2⟩ => by
    have h0 : ops[k]? = some o := by simpa using (hl 0).symm
    simp only [List.length_cons, Region.lexFrom, Bool.and_eq_true] at hB
    obtain ⟨⟨hr, hf⟩, hB'⟩ := hB
    have hr' : k ∈ Region.ready md ops listed := by simpa using hr
    refine absAny_first h0 l.length listed s s' (fun j oj hoj hjk hun hno hw => ?_) hC hr' h1 (absAny_lex hind l (k + 1) _ s' (fun j => by have := hl (j + 1); simpa [Nat.add_assoc, Nat.add_comm 1 j] using this) (fun j hj => ?_) (hC.next hr') hB' h2)
    · have hkj : k < j := by
        rcases Nat.lt_or_ge j k with h' | h'
        · rw [hlt j h'] at hun; cases hun
        · omega
      exact ⟨Region.free_spec h0 hf j oj hoj hjk hun hno, hind k j oj hkj hoj hno hw⟩
    · by_cases hjk : k = j
      · subst hjk
        rw [Array.getD_eq_getD_getElem?, Array.getElem?_setIfInBounds_self]
        split <;> rfl
      · rw [getD_set_ne true hjk]
        exact hlt j (by omega)
theorem any_sound {ops : Array Oper} {F : Nat → List Nat × List Nat} (hds : ∀ (i : Nat) (o : Oper), ops[i]? = some o → ∀ d, o.dst = some d → d < n) {Q : Exit → Go.Act → World → Prop} {K : St → Prop} {md : Region.Mode}
    (hQ : ∀ s c a, K s → Rel E c0 S0 U0 w0 n ks kx s c a → Q .normal a c.w) : ∀ (fuel : Nat) (listed : Array Bool) (s : St) (c : Ctx) (a : Go.Act), absAny E md ops F K fuel listed s → Rel E c0 S0 U0 w0 n ks kx s c a → wpAny E.P md ops Q fuel listed a c.w
  | 0, _, s, c, a, h, hr => ⟨h.1, hQ s c a h.2 hr⟩
  | fuel + 1, listed, s, c, a, h, hr => ⟨fun h0 => hQ s c a (h.1 h0) hr, fun i hi => by
      obtain ⟨o, s', ho, hst, hrest⟩ := h.2 i hi
      exact step_sound ho hr (hds i o ho) hst (fun c' a' hr' => any_sound hds hQ fuel _ s' c' a' hrest hr')⟩
theorem Rel.drew (h : Rel E c0 S0 U0 w0 n ks kx s c a) : Rel E c0 S0 U0 w0 n ks kx s { c with w := c.w.drew } a :=
  ⟨h.H, h.ok.drew.2, h.glob.mono (fun _ hb => hb) (fun _ _ => rfl), fun t => VRel.mono h.ok.drew.1 _ _ (h.fr t), h.size, h.defers, VRels.mono h.ok.drew.1 _ _ h.kept, h.le.trans h.ok.drew.1⟩
theorem aregD_sound {ops : Array Oper} {id : Nat} (hm : E.P.follows .mixedOrders = true) (hB : Region.lexB .any ops = true) (hds : dstsOk n ops = true) {Q : Exit → Go.Act → World → Prop} {K : St → Prop}
    (hQ : ∀ s c a, K s → Rel E c0 S0 U0 w0 n ks kx s c a → Q .normal a c.w) (h : aregD E ops ops.toList s [] (fun tr s' => indepB ops tr = true ∧ K s')) (hr : Rel E c0 S0 U0 w0 n ks kx s c a) : (Code.region id ops true).wp E.P Q a c.w := by
  simp only [Region.lexB, Bool.and_eq_true] at hB
  obtain ⟨tr, _, htl, hw⟩ := walkD_of _ _ _ h
  simp only [List.length_nil, Nat.zero_add, Array.length_toList] at htl
  have hfind : ∀ (l : List Oper) (k : Nat) (s : St), walkD E ops (fun k => tr.getD k ([], [])) (fun s' => indepB ops tr = true ∧ K s') l k s → indepB ops tr = true := by
    intro l
    induction l with
    | nil => intro k s h; exact h.1
    | cons o l ih => intro k s ⟨s', _, h2⟩; exact ih _ _ h2
  have hind := hfind _ _ _ hw
  have hind' : ∀ (i j : Nat) (oj : Oper), i < j → ops[j]? = some oj → (∀ e ∈ oj.after, Region.binds .any e = true → e.on ≠ i) → waitsB .any ops i j = false → disj ((fun k => tr.getD k ([], [])) i).2 ((fun k => tr.getD k ([], [])) j).1 = true ∧ disj ((fun k => tr.getD k ([], [])) j).2 ((fun k => tr.getD k ([], [])) i).1 = true := fun i j oj hij hj hno hwt => by
    have hjs : j < ops.size := by
      rcases Nat.lt_or_ge j ops.size with h' | h'
      · exact h'
      · simp [Array.getElem?_eq_none h'] at hj
    have h1 := List.all_eq_true.1 (List.all_eq_true.1 hind i (List.mem_range.2 (by omega))) j (List.mem_range.2 hjs)
    simp only [hj, Bool.or_eq_true, Bool.not_eq_true', decide_eq_false_iff_not, Array.any_eq_true', Bool.and_eq_true, beq_iff_eq] at h1
    rcases h1 with ((h1 | ⟨e, he, hb, ho⟩) | h1) | h1
    · omega
    · exact absurd ho (hno e he hb)
    · rw [hwt] at h1; cases h1
    · exact h1
  have hlex := absAny_lex (E := E) (md := .any) hind' ops.toList 0 (Array.replicate ops.size false) s (by simp) (fun j hj => by omega) (fun k ok hk hl => by
      rcases Nat.lt_or_ge k ops.size with h' | h'
      · simp [Array.getD_eq_getD_getElem?, h'] at hl
      · simp [Array.getElem?_eq_none h'] at hk) (by simpa using hB.2) hw
  refine wp_region_any hm ?_
  have := any_sound (dstsOk_spec hds) (fun s c a hk hr => hQ s c a hk.2 hr) _ _ _ _ _ hlex hr.drew
  simpa using this
end
end Go.Am
