import Derived.Test.YtclgfgnhcakhdaaGreatDoorAm8
import Derived.Deep.LoopGhost
import Derived.Scope
namespace Go.Am
set_option linter.unusedSectionVars false
def codeOk (n : Nat) : Code → Bool
  | .region _ ops draw => dstsOk n ops && (!draw || Region.lexB .any ops)
  | .seq a b => codeOk n a && codeOk n b
  | .cond _ a b => codeOk n a && codeOk n b
  | .block _ b => codeOk n b
  | .scope b => codeOk n b
  | .loop b => codeOk n b
  | _ => true
def thenA (next : St → Prop) (Q : Exit → St → Prop) : Exit → St → Prop
  | .normal, s => next s
  | e, s => Q e s
def inBlockA (id : Nat) (Q : Exit → St → Prop) : Exit → St → Prop
  | .exit id', s => if id' = id then Q .normal s else Q (.exit id') s
  | e, s => Q e s
def noGotoA (Q : Exit → St → Prop) : Exit → St → Prop
  | .goto _, _ => False
  | e, s => Q e s
def Weak (s s' : St) : Prop := s'.H = s.H ∧ ∀ t, s'.fr t = s.fr t ∨ s'.fr t = .junk
theorem Weak.refl (s : St) : Weak s s := ⟨rfl, fun _ => .inl rfl⟩
def aw (E : Env) : Code → (Exit → St → Prop) → St → Prop
  | .skip, Q, s => Q .normal s
  | .label _, Q, s => Q .normal s
  | .region _ ops draw, Q, s => ∃ s0, Weak s s0 ∧ if draw then aregD E ops ops.toList s0 [] (fun tr s' => indepB ops tr = true ∧ ∃ s2, Weak s' s2 ∧ Q .normal s2) else areg E ops ops.toList s0 (fun s' => ∃ s2, Weak s' s2 ∧ Q .normal s2)
  | .seq a b, Q, s => aw E a (thenA (aw E b Q) Q) s
  | .cond x a b, Q, s => ∃ t, ev E.Γ s.fr x = .bool t ∧ (t = true → aw E a Q s) ∧ (t = false → aw E b Q s)
  | .block id b, Q, s => aw E b (inBlockA id Q) s
  | .scope b, Q, s => aw E b (noGotoA Q) s
  | .loop b, Q, s => ∃ (I : St → Prop) (μ : St → Nat), I s ∧ ∀ s', I s' → aw E b (thenA (fun s'' => I s'' ∧ μ s'' < μ s') Q) s'
  | .exit id, Q, s => Q (.exit id) s
  | .ret, Q, s => Q .ret s
  | _, _, _ => False
section
variable {E : Env} {c0 : Ctx} {S0 U0 : Nat → Prop} {w0 : World} {n : Nat} {ks : List AVal} {kx : List Value}
def Post (E : Env) (c0 : Ctx) (S0 U0 : Nat → Prop) (w0 : World) (n : Nat) (ks : List AVal) (kx : List Value) (Q : Exit → St → Prop) : Exit → Go.Act → World → Prop :=
  fun e a w => ∃ s c, Q e s ∧ Rel E c0 S0 U0 w0 n ks kx s c a ∧ c.w = w
theorem Rel.weak {s s' : St} {c : Ctx} {a : Go.Act} (h : Rel E c0 S0 U0 w0 n ks kx s c a) (w : Weak s s') : Rel E c0 S0 U0 w0 n ks kx s' c a :=
  ⟨by rw [w.1]; exact h.H, h.ok, h.glob, fun t => by
    rcases w.2 t with e | e
    · rw [e]; exact h.fr t
    · rw [e]; trivial, h.size, h.defers, h.kept, h.le⟩
theorem aw_sound (hm : E.P.follows .mixedOrders = true) : ∀ (code : Code) (Q : Exit → St → Prop) (s : St) (c : Ctx) (a : Go.Act), codeOk n code = true → aw E code Q s → Rel E c0 S0 U0 w0 n ks kx s c a →
    code.wp E.P (Post E c0 S0 U0 w0 n ks kx Q) a c.w
  | .skip, Q, s, c, a, _, h, hr => wp_skip ⟨s, c, h, hr, rfl⟩
  | .label _, Q, s, c, a, _, h, hr => wp_label ⟨s, c, h, hr, rfl⟩
  | .region id ops draw, Q, s, c, a, hok, h, hr => by
    simp only [codeOk, Bool.and_eq_true] at hok
    simp only [aw] at h
    obtain ⟨s0, hw0, h⟩ := h
    have hr := hr.weak hw0
    cases draw with
    | false =>
      simp only [Bool.false_eq_true, if_false] at h
      refine wp_region ?_
      rw [List.range_eq_range', ← Array.length_toList]
      exact areg_sound (dstsOk_spec hok.1) (fun s c a ⟨s2, hw, hk⟩ hr => ⟨s2, c, hk, hr.weak hw, rfl⟩) ops.toList 0 s0 c a (by simp) h hr
    | true =>
      simp only [if_true] at h
      have hB : Region.lexB .any ops = true := by simpa using hok.2
      exact aregD_sound hm hB hok.1 (K := fun s' => ∃ s2, Weak s' s2 ∧ Q .normal s2) (fun s c a ⟨s2, hw, hk⟩ hr => ⟨s2, c, hk, hr.weak hw, rfl⟩) h hr
  | .seq x y, Q, s, c, a, hok, h, hr => by
    simp only [codeOk, Bool.and_eq_true] at hok
    refine wp_seq (Code.wp_mono ?_ (aw_sound hm x _ s c a hok.1 h hr))
    rintro e a' w' ⟨s', c', hq, hr', rfl⟩
    cases e with
    | normal => exact aw_sound hm y Q s' c' a' hok.2 hq hr'
    | _ => exact ⟨s', c', hq, hr', rfl⟩
  | .cond x p q, Q, s, c, a, hok, ⟨t, ht, h1, h2⟩, hr => by
    simp only [codeOk, Bool.and_eq_true] at hok
    have hx := ev_rel hr x
    rw [ht] at hx
    simp only [VRel] at hx
    exact wp_cond_split hx (fun e => aw_sound hm p Q s c a hok.1 (h1 e) hr) (fun e => aw_sound hm q Q s c a hok.2 (h2 e) hr)
  | .block id b, Q, s, c, a, hok, h, hr => by
    refine wp_block (Code.wp_mono ?_ (aw_sound hm b _ s c a hok h hr))
    rintro e a' w' ⟨s', c', hq, hr', rfl⟩
    cases e with
    | exit id' =>
      simp only [Exit.inBlock, inBlockA] at hq ⊢
      split
      · rename_i he; rw [if_pos he] at hq; exact ⟨s', c', hq, hr', rfl⟩
      · rename_i he; rw [if_neg he] at hq; exact ⟨s', c', hq, hr', rfl⟩
    | _ => exact ⟨s', c', hq, hr', rfl⟩
  | .loop b, Q, s, c, a, hok, ⟨I, μ, h0, hround⟩, hr => by
    refine wp_loop_ghost (fun m a' w' => ∃ s' c', I s' ∧ μ s' = m ∧ Rel E c0 S0 U0 w0 n ks kx s' c' a' ∧ c'.w = w') (μ s) ⟨s, c, h0, rfl, hr, rfl⟩ ?_
    rintro m a' w' ⟨s', c', hI, rfl, hr', rfl⟩
    refine Code.wp_mono ?_ (aw_sound hm b _ s' c' a' hok (hround s' hI) hr')
    rintro e a'' w'' ⟨s'', c'', hq, hr'', rfl⟩
    cases e with
    | normal => exact ⟨μ s'', hq.2, s'', c'', hq.1, rfl, hr'', rfl⟩
    | _ => exact ⟨s'', c'', hq, hr'', rfl⟩
  | .exit id, Q, s, c, a, _, h, hr => wp_exit ⟨s, c, h, hr, rfl⟩
  | .ret, Q, s, c, a, _, h, hr => wp_ret ⟨s, c, h, hr, rfl⟩
  | .rangeFunc _ _ _ _, _, _, _, _, _, h, _ => h.elim
  | .scope b, Q, s, c, a, hok, h, hr => by
    refine wp_scope_straight (Code.wp_mono ?_ (aw_sound hm b _ s c a hok h hr))
    rintro e a' w' ⟨s', c', hq, hr', rfl⟩
    cases e with
    | goto l => exact hq.elim
    | _ => exact ⟨s', c', hq, hr', rfl⟩
  | .goto _, _, _, _, _, _, h, _ => h.elim
  | .refuse _, _, _, _, _, _, h, _ => h.elim
def rvA (E : Env) (s : St) (rv : ResultVar) (v : AVal) : Prop :=
  match rv with
  | .tmp t => v = s.fr t
  | .cell x t => ∃ n g cs, E.P.szO t = some n ∧ E.P.rowO t = some g ∧ (g = false → n = 1) ∧ loadC s.H (s.fr x) n = some cs ∧ v = mkV g cs
def rvsA (E : Env) (s : St) : List ResultVar → List AVal → Prop
  | [], vs => vs = []
  | rv :: rvs, vs => ∃ v vs', vs = v :: vs' ∧ rvA E s rv v ∧ rvsA E s rvs vs'
def resA (E : Env) (rvs : List ResultVar) (s : St) (v : AVal) : Prop :=
  match rvs with
  | [rv] => rvA E s rv v
  | rvs => ∃ vs, v = .tup vs ∧ rvsA E s rvs vs
def rvRun (tmps : Array Value) : ResultVar → Sem Value
  | .tmp t => pure (tmps.getD t undef)
  | .cell a t => do loadVar t (← asAddr (tmps.getD a undef))
theorem rv_sound {s : St} {c : Ctx} {a : Go.Act} (h : Rel E c0 S0 U0 w0 n ks kx s c a) {rv : ResultVar} {v : AVal} (hv : rvA E s rv v) : ∃ x, (rvRun a.tmps rv).run E.P c.w = .ok x c.w ∧ VRel c v x := by
  cases rv with
  | tmp t => simp only [rvA] at hv; subst hv; exact ⟨_, rfl, h.fr t⟩
  | cell x t =>
    obtain ⟨m, g, cs, h1, h2, h3, h4, rfl⟩ := hv
    rw [← h.H] at h4
    obtain ⟨b, off, hx, hc, hl⟩ := loadC_addr h.ok (h.fr x) h4
    obtain ⟨y, hy, hvy⟩ := run_load h1 h2 h3 hc hl
    refine ⟨y, ?_, hvy⟩
    simp only [Instr.loadAt, Instr.sureAddr, Sem.run_bind, Sem.run_pure, Result.andThen_ok] at hy
    simp only [rvRun, hx, asAddr, Sem.run_bind, Sem.run_pure, Result.andThen_ok]
    exact hy
theorem rvs_sound {s : St} {c : Ctx} {a : Go.Act} (h : Rel E c0 S0 U0 w0 n ks kx s c a) : ∀ (rvs : List ResultVar) (vs : List AVal), rvsA E s rvs vs → ∃ xs : List Value, (rvs.mapM (rvRun a.tmps)).run E.P c.w = .ok xs c.w ∧ VRels c vs xs
  | [], vs, hv => by simp only [rvsA] at hv; subst hv; exact ⟨[], by simp, rfl⟩
  | rv :: rvs, vs, ⟨v, vs', e, h1, h2⟩ => by
    subst e
    obtain ⟨x, g1, g2⟩ := rv_sound h h1
    obtain ⟨xs, g3, g4⟩ := rvs_sound h rvs vs' h2
    exact ⟨x :: xs, by simp [List.mapM_cons, g1, g3], x, xs, rfl, g2, g4⟩
theorem results_eq (fn : Func) (tmps : Array Value) : results fn tmps = (do let vs ← fn.results.mapM (rvRun tmps); pure (if h : vs.size = 1 then vs[0] else .tuple vs)) := by
  unfold results
  congr 1
theorem rvs_length {s : St} : ∀ {rvs : List ResultVar} {vs : List AVal}, rvsA E s rvs vs → vs.length = rvs.length
  | [], _, h => by simp only [rvsA] at h; simp [h]
  | _ :: rvs, _, ⟨_, _, e, _, h2⟩ => by subst e; simp [rvs_length h2]
theorem res_sound {s : St} {c : Ctx} {a : Go.Act} (h : Rel E c0 S0 U0 w0 n ks kx s c a) {fn : Func} {v : AVal} (hv : resA E fn.results.toList s v) : ∃ x, (results fn a.tmps).run E.P c.w = .ok x c.w ∧ VRel c v x := by
  rw [results_eq]
  have key : ∀ vs : List AVal, rvsA E s fn.results.toList vs → ∃ xs : List Value, (fn.results.mapM (rvRun a.tmps)).run E.P c.w = .ok xs.toArray c.w ∧ VRels c vs xs := fun vs hvs => by
    obtain ⟨xs, g1, g2⟩ := rvs_sound h _ _ hvs
    refine ⟨xs, ?_, g2⟩
    rw [Array.mapM_eq_mapM_toList]
    simp [g1]
  unfold resA at hv
  split at hv
  · rename_i rv q
    obtain ⟨xs, g1, g2⟩ := key [v] (by rw [q]; exact ⟨v, [], rfl, hv, rfl⟩)
    obtain ⟨y, ys, rfl, g3, g4⟩ := g2
    simp only [VRels] at g4
    subst g4
    exact ⟨y, by simp [g1], g3⟩
  · rename_i hne
    obtain ⟨vs, rfl, hvs⟩ := hv
    obtain ⟨xs, g1, g2⟩ := key vs hvs
    have hl := g2.length_eq
    have hl2 := rvs_length hvs
    refine ⟨.tuple xs.toArray, ?_, _, rfl, by simpa using g2⟩
    have h1 : ¬ xs.length = 1 := fun e => by
      rw [hl, hl2] at e
      match hq : fn.results.toList, e with
      | [rv], _ => exact hne rv hq
    simp [g1, h1]
def Heap.nil : Heap := fun _ => ⟨0, .dead, 0, [], false⟩
def start (ds : List AVal) : St := ⟨fun t => (opnVs Heap.nil 0 0 ds).getD t .junk, Heap.nil.setAll (opnUs Heap.nil 0 0 ds)⟩
def lentPs (k : Nat) : List AVal → List AVal
  | .uptr _ :: ds => .ptr (k + 1) 1 0 0 :: lentPs (k + 1) ds
  | _ :: ds => lentPs (k + 1) ds
  | [] => []
def Ret (E : Env) (rvs : List ResultVar) (ds : List AVal) (r : AVal) (ls : List AVal) (s : St) : Prop :=
  ∃ v u b, resA E rvs s v ∧ Pks s.H (v :: lentPs 0 ds) (r :: ls) u b ∧ u.Nodup ∧ ∀ o ∈ u, o ∉ b
theorem lentPs_rel {c : Ctx} : ∀ (ds : List AVal) (k : Nat) (xs : List Value), VRels c (opnVs Heap.nil 0 k ds) xs → VRels c (lentPs k ds) (lentOf ds xs)
  | [], _, _, h => by simp only [opnVs, VRels] at h; subst h; rfl
  | d :: ds, k, _, ⟨y, ys, hx, h1, h2⟩ => by
    subst hx
    have ih := lentPs_rel ds (k + 1) ys h2
    cases d <;> simp only [lentPs, lentOf] <;> try exact ih
    refine ⟨y, _, rfl, ?_, ih⟩
    simpa [opnV, cid, Heap.nil] using h1
section
variable {S S2 : Nat → Prop} {w : World} (hS : ∀ b, S b → S2 b)
include hS
mutual
theorem ORel.mono : ∀ (v : AVal) (x : Value) (U : List Nat), (∀ b ∈ U, ¬ S2 b) → ORel S w v x U → ORel S2 w v x U
  | .bool _, _, _, _, h => h
  | .int _ _, _, _, _, h => h
  | .str _, _, _, _, h => h
  | .sc _, _, _, _, h => h
  | .junk, _, _, _, h => h
  | .agg cs, _, U, hU, ⟨xs, hx, h⟩ => ⟨xs, hx, ORels.mono cs _ U hU h⟩
  | .tup cs, _, U, hU, ⟨xs, hx, h⟩ => ⟨xs, hx, ORels.mono cs _ U hU h⟩
  | .ptr _ _ _ _, _, _, _, h => h
  | .iptr _, _, _, _, h => ⟨CRel.mono hS (fun _ _ => rfl) _ _ h.1, h.2⟩
  | .slice _ _, _, _, _, h => ⟨CRel.mono hS (fun _ _ => rfl) _ _ h.1, h.2⟩
  | .osl _ _ _ _, _, _, _, h => h
  | .fn _ _ _, _, _, _, h => ⟨CRel.mono hS (fun _ _ => rfl) _ _ h.1, h.2⟩
  | .iface _ _, _, _, _, h => ⟨CRel.mono hS (fun _ _ => rfl) _ _ h.1, h.2⟩
  | .usl st es, _, U, hU, ⟨a, cap, hx, hl, h⟩ => ⟨a, cap, hx, hl, by
      rcases h with h | ⟨h0, b, off, ha, hb, hS', hroom, hrows⟩
      · exact .inl h
      · exact .inr ⟨h0, b, off, ha, hb, hU b (by rw [hb]; simp), hroom, CRows.mono hS (fun _ _ => rfl) b rfl st es off hrows⟩⟩
  | .uptr cs, _, U, hU, ⟨b, off, U', hx, hb, hS', hroom, hc⟩ => ⟨b, off, U', hx, hb, hU b (by rw [hb]; simp), hroom, OCells.mono cs b off U' (fun q hq => hU q (by rw [hb]; exact List.mem_cons_of_mem _ hq)) hc⟩
theorem ORels.mono : ∀ (vs : List AVal) (xs : List Value) (U : List Nat), (∀ b ∈ U, ¬ S2 b) → ORels S w vs xs U → ORels S2 w vs xs U
  | [], _, _, _, h => h
  | v :: vs, _, U, hU, ⟨y, ys, U1, U2, hx, hu, h1, h2⟩ =>
    ⟨y, ys, U1, U2, hx, hu, ORel.mono v y U1 (fun b hb => hU b (by rw [hu]; exact List.mem_append_left _ hb)) h1, ORels.mono vs ys U2 (fun b hb => hU b (by rw [hu]; exact List.mem_append_right _ hb)) h2⟩
theorem OCells.mono : ∀ (vs : List AVal) (b off : Nat) (U : List Nat), (∀ q ∈ U, ¬ S2 q) → OCells S w b off vs U → OCells S2 w b off vs U
  | [], _, _, _, _, h => h
  | v :: vs, b, off, U, hU, ⟨x, U1, U2, hx, hu, h1, h2⟩ =>
    ⟨x, U1, U2, hx, hu, ORel.mono v x U1 (fun q hq => hU q (by rw [hu]; exact List.mem_append_left _ hq)) h1, OCells.mono vs b (off + 1) U2 (fun q hq => hU q (by rw [hu]; exact List.mem_append_right _ hq)) h2⟩
end
end
def markEx : List Nat → Heap → Heap
  | [], H => H
  | k :: ks, H => markEx ks (H.set (k + 1) { H (k + 1) with exact := true })
def startX (ex : List Nat) (ds : List AVal) : St := ⟨(start ds).fr, markEx ex (start ds).H⟩
theorem mark_sound {S U0 : Nat → Prop} {w : World} : ∀ (ex : List Nat) (c : Ctx), HeapOk S U0 w c → (∀ k ∈ ex, (c.H (k + 1)).mode = .live ∧ (c.H (k + 1)).rows.length = (c.φ (k + 1)).cap) →
    ∃ c', CtxLe c c' ∧ HeapOk S U0 w c' ∧ c'.H = markEx ex c.H ∧ c'.S = c.S ∧ c'.w = c.w
  | [], c, h, _ => ⟨c, CtxLe.refl c, h, rfl, rfl, rfl⟩
  | k :: ks, c, h, hk => by
    obtain ⟨h1, h2⟩ := hk k (List.mem_cons_self ..)
    have hob := h.objs (k + 1) (by rw [h1]; simp)
    obtain ⟨u1, u2⟩ := h.update' (c' := ⟨c.S, c.w, c.φ, c.H.set (k + 1) { c.H (k + 1) with exact := true }⟩) (k + 1) { c.H (k + 1) with exact := true } (c.φ (k + 1)) rfl rfl (by funext j; split <;> simp_all) (Keep.refl _ _)
      (Nat.le_refl _) (fun _ hm => ⟨hm, rfl, rfl, Nat.le_refl _⟩)
      (fun hle _ => ⟨by simpa using hob.le, by simpa using hob.own, by simpa using hob.rows.mono hle rfl, by simpa using hob.room, by simpa using h2⟩)
      (fun hl hm hs => (hob.own hl).1 h1 hs) (fun j hj hm hc hl hx e => h.inj j (k + 1) hj hm h1 hc hl e.symm) (fun _ hl => h.own (k + 1) h1 hl)
    obtain ⟨c', v1, v2, v3, v4, v5⟩ := mark_sound ks ⟨c.S, c.w, c.φ, c.H.set (k + 1) { c.H (k + 1) with exact := true }⟩ u2 (fun j hj => by
      by_cases e : j = k
      · subst e; simpa using ⟨h1, h2⟩
      · have e' : j + 1 ≠ k + 1 := by omega
        show ((c.H.set (k + 1) _) (j + 1)).mode = _ ∧ ((c.H.set (k + 1) _) (j + 1)).rows.length = _
        rw [Heap.set_ne _ _ e']
        exact hk j (List.mem_cons_of_mem _ hj))
    exact ⟨c', u1.trans v1, v2, v3, v4, v5⟩
theorem opn_usl (H : Heap) : ∀ (ds : List AVal) (k i : Nat) (st : Nat) (es : List (List AVal)), ds[i]? = some (.usl st es) → (opnVs H 0 k ds)[i]? = some (.osl (k + i + 1) ((H (k + i + 1)).gen + 1) 0 es.length) ∧ (k + i + 1, newObj H (k + i + 1) st es) ∈ opnUs H 0 k ds
  | [], _, i, _, _, h => by simp at h
  | d :: ds, k, 0, st, es, h => by
    simp only [List.getElem?_cons_zero, Option.some.injEq] at h
    subst h
    simp [opnVs, opnUs, opnV, opnU, cid]
  | d :: ds, k, i + 1, st, es, h => by
    obtain ⟨h1, h2⟩ := opn_usl H ds (k + 1) i st es (by simpa using h)
    rw [show k + 1 + i + 1 = k + (i + 1) + 1 by omega] at h1 h2
    exact ⟨by simpa [opnVs] using h1, by simp only [opnUs]; exact List.mem_append_right _ h2⟩
theorem setAll_mem {H : Heap} : ∀ {l : List (Nat × Obj)} {k : Nat} {x : Obj}, (k, x) ∈ l → (l.map (·.1)).Nodup → H.setAll l k = x
  | (o, y) :: l, k, x, h, hn => by
    simp only [List.map_cons, List.nodup_cons] at hn
    simp only [Heap.setAll]
    rcases List.mem_cons.1 h with h | h
    · simp only [Prod.mk.injEq] at h
      obtain ⟨rfl, rfl⟩ := h
      rw [setAll_not hn.1]; simp
    · exact setAll_mem h hn.2
theorem calls_fin {f : FuncId} {fn : Func} {code : Code} {ds ls : List AVal} {r : AVal} {S : Nat → Prop} {w : World} {xs : List Value} {U : List Nat} {s0 : St} {c0' : Ctx} {a0 : Go.Act} (hf : E.P.funcs[f]? = some fn) (hb : fn.body = some code) (hm : E.P.follows .mixedOrders = true) (hok : codeOk fn.ntmps code = true)
    (hrel0 : Rel E c0' S (· ∈ U) w fn.ntmps (lentPs 0 ds) (lentOf ds xs) s0 c0' a0) (ha0 : a0 = { tmps := xs.toArray ++ Array.replicate (fn.ntmps - xs.toArray.size) undef, defers := [] }) (hw : c0'.w = w) (h : aw E code (fun e s => (e = .normal ∨ e = .ret) ∧ Ret E fn.results.toList ds r ls s) s0) :
    Calls E.P f xs.toArray w fun e w' => ∃ x U', e = .returned x ∧ Keep (· ∈ U) w w' ∧ ORels (After S U w U' w') w' (r :: ls) (x :: lentOf ds xs) U' ∧ U'.Nodup ∧ (∀ b ∈ U', b < w'.heap.size ∧ (b ∈ U ∨ w.heap.size ≤ b)) := by
  subst ha0
  have haw := aw_sound hm code _ s0 c0' _ hok h hrel0
  rw [hw] at haw
  refine calls_of_wp hf hb (Code.wp_mono ?_ haw)
  rintro e a w' ⟨s, c, ⟨he, v, u, b, hres, hpk, hun, hub⟩, hr, rfl⟩
  obtain ⟨x, hx1, hx2⟩ := res_sound hr hres
  rw [← hr.H] at hpk
  have hul := Pks.live hpk
  have hor' := Pks.sound hr.ok hpk (fun _ ho => ho) hub (xs := x :: lentOf ds xs) ⟨x, _, rfl, hx2, hr.kept⟩
  have hR : ∃ x' U', Ending.returned x = .returned x' ∧ Keep (· ∈ U) w c.w ∧ ORels (After S U w U' c.w) c.w (r :: ls) (x' :: lentOf ds xs) U' ∧ U'.Nodup ∧ (∀ b ∈ U', b < c.w.heap.size ∧ (b ∈ U ∨ w.heap.size ≤ b)) := by
    have hS2 : ∀ q, Look c b q → After S U w (blks c u) c.w q := fun q hq => by
      refine ⟨?_, fun hqb => ?_, ?_⟩
      · rcases hq with hq | ⟨o, _, h2, h3, rfl⟩
        · exact hr.ok.stab q hq
        · exact ((hr.ok.objs o (by rw [h2]; simp)).room h3).lt
      · obtain ⟨o, ho, hc, rfl⟩ := mem_blks.1 hqb
        exact notLook hr.ok (hub o ho) (hul o ho) hc hq
      · rcases hq with hq | ⟨o, _, h2, h3, rfl⟩
        · rcases hr.ok.orig q hq with h1 | h1 | h1
          · exact .inl h1
          · exact .inr (.inr h1)
          · exact .inr (.inl h1)
        · rcases hr.ok.own o h2 h3 with h1 | h1
          · exact .inr (.inr h1)
          · exact .inr (.inl h1)
    refine ⟨x, blks c u, rfl, hr.ok.keep, ORels.mono hS2 _ _ _ (fun q hq hs => hs.2.1 hq) hor', blks_nodup hr.ok hun hul, fun q hq => ?_⟩
    obtain ⟨o, ho, hc, rfl⟩ := mem_blks.1 hq
    exact ⟨((hr.ok.objs o (by rw [hul o ho]; simp)).room hc).lt, hr.ok.own o (hul o ho) hc⟩
  rcases he with rfl | rfl
  · exact ⟨hr.defers, x, hx1, hR⟩
  · exact ⟨hr.defers, x, hx1, hR⟩
theorem spec_ofX {ex : List Nat} {f : FuncId} {fn : Func} {code : Code} {ds ls : List AVal} {r : AVal} (hf : E.P.funcs[f]? = some fn) (hb : fn.body = some code) (hm : E.P.follows .mixedOrders = true) (hok : codeOk fn.ntmps code = true) (hlen : ds.length ≤ fn.ntmps)
    (hids : ((opnUs Heap.nil 0 0 ds).map (·.1)).Nodup) (hexs : ∀ k ∈ ex, ∃ st es, ds[k]? = some (.usl st es)) (h : aw E code (fun e s => (e = .normal ∨ e = .ret) ∧ Ret E fn.results.toList ds r ls s) (startX ex ds)) : SpecX E ex f ds r ls := by
  intro S w xs U hexa hG hst hor hUn hUb
  have hxl : xs.length = ds.length := by
    have : ∀ (ds : List AVal) (xs : List Value) (U : List Nat), ORels S w ds xs U → xs.length = ds.length := by
      intro ds
      induction ds with
      | nil => intro xs U h; simp [h.1]
      | cons d ds ih => intro xs U ⟨y, ys, U1, U2, hx, _, _, h2⟩; subst hx; simp [ih ys U2 h2]
    exact this _ _ _ hor
  have hok0 : HeapOk S (· ∈ U) w ⟨S, w, fun _ => ⟨0, 0, 0⟩, Heap.nil⟩ :=
    ⟨hst, fun b hb => .inl hb, fun o hm => by simp [Heap.nil] at hm, fun o o' _ hm => by simp [Heap.nil] at hm, fun o hm => by simp [Heap.nil] at hm, Keep.refl _ _⟩
  obtain ⟨c0, o1, o2⟩ := opnVs_sound Heap.nil ds 0 0 ⟨S, w, fun _ => ⟨0, 0, 0⟩, Heap.nil⟩ xs U hok0 hor ⟨hUn, fun b hb => (hUb b hb).2, fun b _ o hm => by simp [Heap.nil] at hm, fun b hb => .inl hb⟩ hids (fun _ _ => rfl)
  have hol : (opnVs Heap.nil 0 0 ds).length = ds.length := opn_length _ _ _ _
  obtain ⟨c0', m1, m2, m3, m4, m5⟩ := mark_sound ex c0 o1.ok (fun k hk => by
    obtain ⟨st, es, hd⟩ := hexs k hk
    obtain ⟨g1, g2⟩ := opn_usl Heap.nil ds 0 k st es hd
    rw [Nat.zero_add] at g1 g2
    have hH : c0.H (k + 1) = newObj Heap.nil (k + 1) st es := by rw [o1.H]; exact setAll_mem g2 hids
    obtain ⟨y, hy1, hy2⟩ := o2.get k _ g1
    obtain ⟨a, m, cap, rfl, e2, e3⟩ := hy2
    obtain ⟨rfl, _, e4, _⟩ := e3 (by rw [hH]; rfl) (by rw [hH]; simp [newObj])
    have := hexa k hk a es.length cap hy1
    exact ⟨by rw [hH]; rfl, by rw [hH]; show es.length = _; omega⟩)
  have hrel0 : Rel E c0' S (· ∈ U) w fn.ntmps (lentPs 0 ds) (lentOf ds xs) (startX ex ds) c0' { tmps := xs.toArray ++ Array.replicate (fn.ntmps - xs.toArray.size) undef, defers := [] } := by
    refine ⟨by rw [m3, o1.H]; rfl, m2, ?_, fun t => VRel.mono m1 _ _ ?_, by simp; omega, rfl, VRels.mono m1 _ _ (lentPs_rel ds 0 xs o2), CtxLe.refl _⟩
    · rw [m4, m5, o1.S, o1.w]; exact hG
    · simp only [startX, start, List.getD_eq_getElem?_getD]
      by_cases ht : t < ds.length
      · have h1 : (opnVs Heap.nil 0 0 ds)[t]? = some (opnVs Heap.nil 0 0 ds)[t] := List.getElem?_eq_getElem (by omega)
        obtain ⟨x, hx, hv⟩ := o2.get t _ h1
        rw [h1]
        simp only [Option.getD_some, Array.getD_eq_getD_getElem?]
        rw [Array.getElem?_append_left (by simp; omega)]
        simp only [List.getElem?_toArray, hx, Option.getD_some]
        exact hv
      · rw [List.getElem?_eq_none (by omega)]
        trivial
  exact calls_fin hf hb hm hok hrel0 rfl (m5.trans o1.w) h
theorem inl_of {f : FuncId} {fn : Func} {code : Code} {vals : List AVal} {v : AVal} {H H' : Heap} (hf : E.P.funcs[f]? = some fn) (hb : fn.body = some code) (hm : E.P.follows .mixedOrders = true) (hok : codeOk fn.ntmps code = true) (hlen : vals.length ≤ fn.ntmps)
    (h : aw E code (fun e s => (e = .normal ∨ e = .ret) ∧ resA E fn.results.toList s v ∧ s.H = H') ⟨fun t => vals.getD t .junk, H⟩) : InlSpec E f vals H v H' := by
  intro S0 U0 w0 c xs hH hok0 hG hv
  refine ⟨fun _ => ?_, fun hex => by simp [Program.exFn, hf, hb] at hex⟩
  have hxl := hv.length_eq
  have hrel0 : Rel E c S0 U0 w0 fn.ntmps [] [] ⟨fun t => vals.getD t .junk, H⟩ c { tmps := xs.toArray ++ Array.replicate (fn.ntmps - xs.toArray.size) undef, defers := [] } := by
    refine ⟨hH, hok0, hG, fun t => ?_, by simp; omega, rfl, rfl, CtxLe.refl _⟩
    simp only [List.getD_eq_getElem?_getD]
    by_cases ht : t < vals.length
    · have h1 : vals[t]? = some vals[t] := List.getElem?_eq_getElem ht
      obtain ⟨x, hx, hvx⟩ := hv.get t _ h1
      rw [h1]
      simp only [Option.getD_some, Array.getD_eq_getD_getElem?]
      rw [Array.getElem?_append_left (by simp; omega)]
      simp only [List.getElem?_toArray, hx, Option.getD_some]
      exact hvx
    · rw [List.getElem?_eq_none (by omega)]
      trivial
  have haw := aw_sound hm code _ _ c _ hok h hrel0
  refine calls_of_wp hf hb (Code.wp_mono ?_ haw)
  rintro e a w' ⟨s, c', ⟨he, hres, hH'⟩, hr, rfl⟩
  obtain ⟨x, hx1, hx2⟩ := res_sound hr hres
  have hR : ∃ x' c'', Ending.returned x = .returned x' ∧ c'.w = c''.w ∧ CtxLe c c'' ∧ HeapOk S0 U0 w0 c'' ∧ c''.H = H' ∧ VRel c'' v x' := ⟨x, c', rfl, rfl, hr.le, hr.ok, hr.H.trans hH', hx2⟩
  rcases he with rfl | rfl
  · exact ⟨hr.defers, x, hx1, hR⟩
  · exact ⟨hr.defers, x, hx1, hR⟩
end
end Go.Am
