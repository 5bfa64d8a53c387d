import Derived.Test.YtclgfgnhcakhdaaGreatDoorAm4
namespace Go.Am
set_option linter.unusedSectionVars false
mutual
def ORel (S : Nat → Prop) (w : World) : AVal → Value → List Nat → Prop
  | .usl st es, x, U => ∃ a cap, x = .slice a es.length cap ∧ es.length ≤ cap ∧ ((cap = 0 ∧ U = []) ∨ (cap ≠ 0 ∧ ∃ b off, a = some ⟨b, off, none⟩ ∧ U = [b] ∧ ¬ S b ∧ Room w b (off + cap * st) st True ∧ CRows S w b off st es))
  | .uptr cs, x, U => ∃ b off U', x = .pointer (some ⟨b, off, none⟩) ∧ U = b :: U' ∧ ¬ S b ∧ Room w b (off + cs.length) cs.length True ∧ OCells S w b off cs U'
  | .agg cs, x, U => ∃ xs, x = .agg xs ∧ ORels S w cs xs.toList U
  | .tup cs, x, U => ∃ xs, x = .tuple xs ∧ ORels S w cs xs.toList U
  | .bool b, x, U => CRel S w (.bool b) x ∧ U = []
  | .int k n, x, U => CRel S w (.int k n) x ∧ U = []
  | .str l, x, U => CRel S w (.str l) x ∧ U = []
  | .sc v, x, U => CRel S w (.sc v) x ∧ U = []
  | .ptr o g i j, x, U => CRel S w (.ptr o g i j) x ∧ U = []
  | .iptr cs, x, U => CRel S w (.iptr cs) x ∧ U = []
  | .slice st es, x, U => CRel S w (.slice st es) x ∧ U = []
  | .osl o g i n, x, U => CRel S w (.osl o g i n) x ∧ U = []
  | .fn f fs cs, x, U => CRel S w (.fn f fs cs) x ∧ U = []
  | .iface t v, x, U => CRel S w (.iface t v) x ∧ U = []
  | .junk, _, U => U = []
def ORels (S : Nat → Prop) (w : World) : List AVal → List Value → List Nat → Prop
  | [], xs, U => xs = [] ∧ U = []
  | v :: vs, xs, U => ∃ y ys U1 U2, xs = y :: ys ∧ U = U1 ++ U2 ∧ ORel S w v y U1 ∧ ORels S w vs ys U2
def OCells (S : Nat → Prop) (w : World) (b off : Nat) : List AVal → List Nat → Prop
  | [], U => U = []
  | v :: vs, U => ∃ x U1 U2, w.cell? ⟨b, off, none⟩ = some x ∧ U = U1 ++ U2 ∧ ORel S w v x U1 ∧ OCells S w b (off + 1) vs U2
end
def cid (id k : Nat) : Nat := id * 1000 + k + 1
mutual
def opnV (H : Heap) (id : Nat) : AVal → AVal
  | .usl _ es => .osl id ((H id).gen + 1) 0 es.length
  | .uptr _ => .ptr id ((H id).gen + 1) 0 0
  | .agg cs => .agg (opnVs H id 0 cs)
  | .tup cs => .tup (opnVs H id 0 cs)
  | .bool b => .bool b
  | .int k n => .int k n
  | .str l => .str l
  | .sc v => .sc v
  | .ptr o g i j => .ptr o g i j
  | .iptr cs => .iptr cs
  | .slice st es => .slice st es
  | .osl o g i n => .osl o g i n
  | .fn f fs cs => .fn f fs cs
  | .iface t v => .iface t v
  | .junk => .junk
def opnVs (H : Heap) (id k : Nat) : List AVal → List AVal
  | [] => []
  | v :: vs => opnV H (cid id k) v :: opnVs H id (k + 1) vs
end
mutual
def opnU (H : Heap) (id : Nat) : AVal → List (Nat × Obj)
  | .usl st es => [(id, newObj H id st es)]
  | .uptr cs => opnUs H id 0 cs ++ [(id, newObj H id cs.length [opnVs H id 0 cs])]
  | .agg cs => opnUs H id 0 cs
  | .tup cs => opnUs H id 0 cs
  | _ => []
def opnUs (H : Heap) (id k : Nat) : List AVal → List (Nat × Obj)
  | [] => []
  | v :: vs => opnU H (cid id k) v ++ opnUs H id (k + 1) vs
end
theorem setAll_append (H : Heap) : ∀ l l' : List (Nat × Obj), H.setAll (l ++ l') = (H.setAll l).setAll l'
  | [], _ => rfl
  | (o, x) :: l, l' => by simp only [List.cons_append, Heap.setAll]; exact setAll_append _ l l'
theorem setAll_not {H : Heap} : ∀ {l : List (Nat × Obj)} {k : Nat}, k ∉ l.map (·.1) → H.setAll l k = H k
  | [], _, _ => rfl
  | (o, x) :: l, k, h => by
    simp only [List.map_cons, List.mem_cons, not_or] at h
    simp only [Heap.setAll]
    rw [setAll_not h.2, Heap.set_ne _ _ h.1]
section
variable {S0 U0 : Nat → Prop} {w0 : World}
theorem mem_swap {q b : Nat} {U : List Nat} (h : q ∈ U ++ [b]) : q ∈ b :: U := by
  rcases List.mem_append.1 h with h | h
  · exact List.mem_cons_of_mem _ h
  · simp at h; simp [h]
structure Mine (S0 U0 : Nat → Prop) (w0 : World) (c : Ctx) (U : List Nat) : Prop where
  nodup : U.Nodup
  notS : ∀ b ∈ U, ¬ c.S b
  free : ∀ b ∈ U, ∀ o, (c.H o).mode = .live → (c.φ o).cap ≠ 0 → b ≠ (c.φ o).b
  own : ∀ b ∈ U, U0 b ∨ w0.heap.size ≤ b
structure Opened (S0 U0 : Nat → Prop) (w0 : World) (c c' : Ctx) (up : List (Nat × Obj)) (U : List Nat) : Prop where
  S : c'.S = c.S
  w : c'.w = c.w
  H : c'.H = c.H.setAll up
  le : CtxLe c c'
  ok : HeapOk S0 U0 w0 c'
  φ : ∀ o, o ∉ up.map (·.1) → c'.φ o = c.φ o
  live : ∀ o, (c'.H o).mode = .live → (c'.φ o).cap ≠ 0 → ((c.H o).mode = .live ∧ (c.φ o).cap ≠ 0 ∧ (c.φ o).b = (c'.φ o).b) ∨ (c'.φ o).b ∈ U
theorem Opened.refl {c : Ctx} (h : HeapOk S0 U0 w0 c) (U : List Nat) : Opened S0 U0 w0 c c [] U :=
  ⟨rfl, rfl, rfl, CtxLe.refl c, h, fun _ _ => rfl, fun _ h1 h2 => .inl ⟨h1, h2, rfl⟩⟩
theorem Opened.trans {a b c : Ctx} {u1 u2 : List (Nat × Obj)} {U1 U2 : List Nat} (h : Opened S0 U0 w0 a b u1 U1) (k : Opened S0 U0 w0 b c u2 U2) : Opened S0 U0 w0 a c (u1 ++ u2) (U1 ++ U2) :=
  ⟨k.S.trans h.S, k.w.trans h.w, by rw [k.H, h.H, setAll_append], h.le.trans k.le, k.ok, fun o ho => by
    simp only [List.map_append, List.mem_append, not_or] at ho
    rw [k.φ o ho.2, h.φ o ho.1], fun o h1 h2 => by
    rcases k.live o h1 h2 with ⟨q1, q2, q3⟩ | q
    · rcases h.live o q1 q2 with ⟨r1, r2, r3⟩ | r
      · exact .inl ⟨r1, r2, r3.trans q3⟩
      · exact .inr (List.mem_append_left _ (by rw [← q3]; exact r))
    · exact .inr (List.mem_append_right _ q)⟩
theorem Mine.next {c c' : Ctx} {u : List (Nat × Obj)} {U1 U2 : List Nat} (h : Mine S0 U0 w0 c (U1 ++ U2)) (k : Opened S0 U0 w0 c c' u U1) : Mine S0 U0 w0 c' U2 := by
  have hn := List.nodup_append.1 h.nodup
  refine ⟨hn.2.1, fun b hb => by rw [k.S]; exact h.notS b (List.mem_append_right _ hb), fun b hb o h1 h2 => ?_, fun b hb => h.own b (List.mem_append_right _ hb)⟩
  rcases k.live o h1 h2 with ⟨q1, q2, q3⟩ | q
  · rw [← q3]; exact h.free b (List.mem_append_right _ hb) o q1 q2
  · intro e; exact hn.2.2 _ q _ hb e.symm
theorem Mine.left {c : Ctx} {U1 U2 : List Nat} (h : Mine S0 U0 w0 c (U1 ++ U2)) : Mine S0 U0 w0 c U1 :=
  ⟨(List.nodup_append.1 h.nodup).1, fun b hb => h.notS b (List.mem_append_left _ hb), fun b hb => h.free b (List.mem_append_left _ hb), fun b hb => h.own b (List.mem_append_left _ hb)⟩
theorem Opened.one {c : Ctx} (h : HeapOk S0 U0 w0 c) (id st : Nat) (rows : List (List AVal)) (loc : Loc) (hcap : rows.length ≤ loc.cap) (hm : loc.cap ≠ 0 → Mine S0 U0 w0 c [loc.b])
    (hrows : RowsAt c loc.b loc.base st rows) (hroom : loc.cap ≠ 0 → Room c.w loc.b (loc.base + loc.cap * st) st True) (U : List Nat) (hU : loc.cap ≠ 0 → loc.b ∈ U) :
    ∃ c', Opened S0 U0 w0 c c' [(id, newObj c.H id st rows)] U ∧ c'.φ id = loc := by
  have hup := h.update' (c' := ⟨c.S, c.w, fun k => if k = id then loc else c.φ k, c.H.set id (newObj c.H id st rows)⟩) id (newObj c.H id st rows) loc rfl rfl rfl (Keep.refl _ _)
    (by simp [newObj]) (fun hg => by simp [newObj] at hg) (fun hle _ => ?_) (fun hc _ => (hm hc).notS _ (by simp)) (fun k _ h1 h2 hc _ => (hm hc).free _ (by simp) k h1 h2) (fun _ hc => (hm hc).own _ (by simp))
  · refine ⟨⟨c.S, c.w, fun k => if k = id then loc else c.φ k, c.H.set id (newObj c.H id st rows)⟩, ⟨rfl, rfl, rfl, hup.1, hup.2, fun o ho => ?_, fun o h1 h2 => ?_⟩, by simp⟩
    · simp only [List.map_cons, List.map_nil, List.mem_cons, List.not_mem_nil, or_false] at ho
      simp [ho]
    · by_cases ho : o = id
      · subst ho
        simp only [if_true] at h2 ⊢
        exact .inr (hU h2)
      · simp only [Heap.set_ne _ _ ho, if_neg ho] at h1 h2 ⊢
        exact .inl ⟨h1, h2, trivial⟩
  · refine ⟨by simpa [newObj] using hcap, fun hc => ⟨fun _ => by simpa using (hm (by simpa using hc)).notS _ (by simp), fun hf => by simp [newObj] at hf⟩, fun i r hi => ?_, fun hc => ?_, fun e => by simp [newObj] at e⟩
    · simp only [Heap.set_same, newObj, if_true] at hi ⊢
      obtain ⟨h1, h2⟩ := hrows i r hi
      exact ⟨h1, h2.mono hle rfl⟩
    · simp only [Heap.set_same, newObj, if_true] at hc ⊢
      obtain ⟨cs, e, fz, a1, a2, a3⟩ := hroom hc
      exact ⟨cs, e, fz, a1, a2, fun _ => a3 trivial⟩
mutual
theorem opnV_sound (H : Heap) : ∀ (v : AVal) (id : Nat) (c : Ctx) (x : Value) (U : List Nat), HeapOk S0 U0 w0 c → ORel c.S c.w v x U → Mine S0 U0 w0 c U → ((opnU H id v).map (·.1)).Nodup → (∀ k ∈ (opnU H id v).map (·.1), c.H k = H k) →
    ∃ c', Opened S0 U0 w0 c c' (opnU H id v) U ∧ VRel c' (opnV H id v) x
  | .usl st es, id, c, x, U, h, hr, hm, _, hH => by
    have hHid : c.H id = H id := hH id (by simp [opnU])
    obtain ⟨a, cap, rfl, hle, hc⟩ := hr
    have hnew : newObj H id st es = newObj c.H id st es := by simp [newObj, hHid]
    rcases hc with ⟨h0, rfl⟩ | ⟨h0, b, off, rfl, rfl, hS, hroom, hrows⟩
    · have hes : es = [] := List.eq_nil_of_length_eq_zero (by omega)
      subst hes
      obtain ⟨c', o1, o2⟩ := Opened.one h id st [] ⟨0, 0, 0⟩ (by simp) (fun hn => by simp at hn) (fun i r hi => by simp at hi) (fun hn => by simp at hn) [] (fun hn => by simp at hn)
      refine ⟨c', by simp only [opnU]; rw [hnew]; exact o1, _, _, _, rfl, ?_, fun _ _ => ⟨rfl, by simp, by simp [o2, h0], fun hn => absurd h0 hn⟩⟩
      rw [o1.H]; simp [Heap.setAll, newObj, hHid]
    · obtain ⟨c', o1, o2⟩ := Opened.one h id st es ⟨b, off, cap⟩ hle (fun _ => hm) hrows.toV (fun _ => hroom) [b] (fun _ => by simp)
      refine ⟨c', by simp only [opnU]; rw [hnew]; exact o1, _, _, _, rfl, ?_, fun _ _ => ⟨rfl, ?_, by simp [o2], fun _ => by simp [o2]⟩⟩
      · rw [o1.H]; simp [Heap.setAll, newObj, hHid]
      · rw [o1.H]; simp [Heap.setAll, newObj]
  | .uptr cs, id, c, x, U, h, hr, hm, hn, hH => by
    obtain ⟨b, off, U', rfl, rfl, hS, hroom, hcells⟩ := hr
    have hmm : Mine S0 U0 w0 c (U' ++ [b]) := by
      have := hm
      refine ⟨?_, fun q hq => hm.notS q (mem_swap hq), fun q hq => hm.free q (mem_swap hq), fun q hq => hm.own q (mem_swap hq)⟩
      have h1 := List.nodup_cons.1 hm.nodup
      rw [List.nodup_append]
      exact ⟨h1.2, by simp, fun p hp q hq => by simp at hq; subst hq; intro e; subst e; exact h1.1 hp⟩
    simp only [opnU, List.map_append, List.map_cons, List.map_nil] at hn hH
    have hn' := List.nodup_append.1 hn
    obtain ⟨c1, o1, o2⟩ := opnCells_sound H cs id 0 c b off U' h hcells hmm.left hn'.1 (fun k hk => hH k (List.mem_append_left _ hk))
    have hnot : id ∉ (opnUs H id 0 cs).map (·.1) := fun hk => hn'.2.2 id hk id (by simp) rfl
    have hHid : c1.H id = H id := by rw [o1.H, setAll_not hnot]; exact hH id (by simp)
    have hnew : newObj H id cs.length [opnVs H id 0 cs] = newObj c1.H id cs.length [opnVs H id 0 cs] := by simp [newObj, hHid]
    have hlen : (opnVs H id 0 cs).length = cs.length := opnVs_length H cs id 0
    obtain ⟨c2, q1, q2⟩ := Opened.one o1.ok id cs.length [opnVs H id 0 cs] ⟨b, off, 1⟩ (by simp) (fun _ => hmm.next o1)
      (fun i r hi => by
        have : i = 0 := by
          have := (List.getElem?_eq_some_iff.1 hi).1; simp at this; exact this
        subst this
        simp only [List.getElem?_cons_zero, Option.some.injEq] at hi
        subst hi
        exact ⟨hlen, by simpa using o2⟩) (fun _ => by rw [o1.w]; simpa using hroom) [b] (fun _ => by simp)
    refine ⟨c2, ?_, _, rfl, ?_, fun _ _ => ?_⟩
    · have := o1.trans q1
      rw [← hnew] at this
      simp only [opnU]
      refine ⟨this.S, this.w, this.H, this.le, this.ok, this.φ, fun o h1 h2 => ?_⟩
      rcases this.live o h1 h2 with h3 | h3
      · exact .inl h3
      · exact .inr (mem_swap h3)
    · rw [q1.H]; simp [Heap.setAll, newObj, hHid]
    · simp [q2]
  | .agg cs, id, c, x, U, h, hr, hm, hn, hH => by
    obtain ⟨xs, rfl, hr⟩ := hr
    obtain ⟨c', o1, o2⟩ := opnVs_sound H cs id 0 c xs.toList U h hr hm hn hH
    exact ⟨c', o1, xs, rfl, o2⟩
  | .tup cs, id, c, x, U, h, hr, hm, hn, hH => by
    obtain ⟨xs, rfl, hr⟩ := hr
    obtain ⟨c', o1, o2⟩ := opnVs_sound H cs id 0 c xs.toList U h hr hm hn hH
    exact ⟨c', o1, xs, rfl, o2⟩
  | .bool b, id, c, x, U, h, hr, _, _, _ => ⟨c, Opened.refl h U, hr.1⟩
  | .int k n, id, c, x, U, h, hr, _, _, _ => ⟨c, Opened.refl h U, hr.1⟩
  | .str l, id, c, x, U, h, hr, _, _, _ => ⟨c, Opened.refl h U, hr.1⟩
  | .sc v, id, c, x, U, h, hr, _, _, _ => ⟨c, Opened.refl h U, hr.1⟩
  | .ptr _ _ _ _, id, c, x, U, h, hr, _, _, _ => hr.1.elim
  | .iptr cs, id, c, x, U, h, hr, _, _, _ => ⟨c, Opened.refl h U, hr.1⟩
  | .slice st es, id, c, x, U, h, hr, _, _, _ => ⟨c, Opened.refl h U, hr.1⟩
  | .osl _ _ _ _, id, c, x, U, h, hr, _, _, _ => hr.1.elim
  | .fn f fs cs, id, c, x, U, h, hr, _, _, _ => ⟨c, Opened.refl h U, CRel.toV c _ _ hr.1⟩
  | .iface t v, id, c, x, U, h, hr, _, _, _ => ⟨c, Opened.refl h U, CRel.toV c _ _ hr.1⟩
  | .junk, id, c, x, U, h, _, _, _, _ => ⟨c, Opened.refl h U, trivial⟩
theorem opnVs_sound (H : Heap) : ∀ (vs : List AVal) (id k : Nat) (c : Ctx) (xs : List Value) (U : List Nat), HeapOk S0 U0 w0 c → ORels c.S c.w vs xs U → Mine S0 U0 w0 c U → ((opnUs H id k vs).map (·.1)).Nodup → (∀ q ∈ (opnUs H id k vs).map (·.1), c.H q = H q) →
    ∃ c', Opened S0 U0 w0 c c' (opnUs H id k vs) U ∧ VRels c' (opnVs H id k vs) xs
  | [], id, k, c, xs, U, h, hr, _, _, _ => ⟨c, Opened.refl h U, hr.1⟩
  | v :: vs, id, k, c, xs, U, h, hr, hm, hn, hH => by
    obtain ⟨y, ys, U1, U2, rfl, rfl, h1, h2⟩ := hr
    simp only [opnUs, List.map_append] at hn hH
    have hn' := List.nodup_append.1 hn
    obtain ⟨c1, o1, o2⟩ := opnV_sound H v (cid id k) c y U1 h h1 hm.left hn'.1 (fun q hq => hH q (List.mem_append_left _ hq))
    obtain ⟨c2, p1, p2⟩ := opnVs_sound H vs id (k + 1) c1 ys U2 o1.ok (by rw [o1.S, o1.w]; exact h2) (hm.next o1) hn'.2.1 (fun q hq => by
      rw [o1.H, setAll_not (fun hk => hn'.2.2 q hk q hq rfl)]; exact hH q (List.mem_append_right _ hq))
    exact ⟨c2, o1.trans p1, y, ys, rfl, VRel.mono p1.le _ _ o2, p2⟩
theorem opnCells_sound (H : Heap) : ∀ (vs : List AVal) (id k : Nat) (c : Ctx) (b off : Nat) (U : List Nat), HeapOk S0 U0 w0 c → OCells c.S c.w b off vs U → Mine S0 U0 w0 c U → ((opnUs H id k vs).map (·.1)).Nodup → (∀ q ∈ (opnUs H id k vs).map (·.1), c.H q = H q) →
    ∃ c', Opened S0 U0 w0 c c' (opnUs H id k vs) U ∧ CellsAt c' b off (opnVs H id k vs)
  | [], id, k, c, b, off, U, h, hr, _, _, _ => ⟨c, Opened.refl h U, fun j v hj => by simp [opnVs] at hj⟩
  | v :: vs, id, k, c, b, off, U, h, hr, hm, hn, hH => by
    obtain ⟨y, U1, U2, hy, rfl, h1, h2⟩ := hr
    simp only [opnUs, List.map_append] at hn hH
    have hn' := List.nodup_append.1 hn
    obtain ⟨c1, o1, o2⟩ := opnV_sound H v (cid id k) c y U1 h h1 hm.left hn'.1 (fun q hq => hH q (List.mem_append_left _ hq))
    obtain ⟨c2, p1, p2⟩ := opnCells_sound H vs id (k + 1) c1 b (off + 1) U2 o1.ok (by rw [o1.S, o1.w]; exact h2) (hm.next o1) hn'.2.1 (fun q hq => by
      rw [o1.H, setAll_not (fun hk => hn'.2.2 q hk q hq rfl)]; exact hH q (List.mem_append_right _ hq))
    refine ⟨c2, o1.trans p1, fun j u hj => ?_⟩
    cases j with
    | zero =>
      simp only [opnVs, List.getElem?_cons_zero, Option.some.injEq] at hj
      subst hj
      exact ⟨y, by rw [p1.w, o1.w]; exact hy, VRel.mono p1.le _ _ o2⟩
    | succ j =>
      rw [show off + (j + 1) = off + 1 + j by omega]
      exact p2 j u (by simpa [opnVs] using hj)
theorem opnVs_length (H : Heap) : ∀ (vs : List AVal) (id k : Nat), (opnVs H id k vs).length = vs.length
  | [], _, _ => rfl
  | _ :: vs, id, k => by simp [opnVs, opnVs_length H vs id (k + 1)]
end
end
def GlobOk (Γ : Nat → Option (List AVal)) (S : Nat → Prop) (w : World) : Prop := ∀ g cs, Γ g = some cs → S g ∧ CCells S w g 0 cs ∧ ∃ arr e fz, w.heap[g]? = some (Go.Obj.cells arr e fz) ∧ arr.size = cs.length ∧ (cs = [.junk] → ∃ n, arr[0]? = some (.int .i64 n))
def After (S : Nat → Prop) (U : List Nat) (w : World) (U' : List Nat) (w' : World) : Nat → Prop := fun b => b < w'.heap.size ∧ b ∉ U' ∧ (S b ∨ w.heap.size ≤ b ∨ b ∈ U)
def lentOf : List AVal → List Value → List Value
  | .uptr _ :: ds, x :: xs => x :: lentOf ds xs
  | _ :: ds, _ :: xs => lentOf ds xs
  | _, _ => []
def Exact (ex : List Nat) (xs : List Value) : Prop := ∀ k ∈ ex, ∀ a n cap, xs[k]? = some (.slice a n cap) → cap = n
def ExV (H : Heap) (u : List Nat) (vals : List AVal) (ex : List Nat) : Prop :=
  ∀ k ∈ ex, vals[k]? = some (.sc (.slice none 0 0)) ∨ ∃ o g n, vals[k]? = some (.osl o g 0 n) ∧ o ∈ u ∧ (H o).gen = g ∧ (H o).exact = true ∧ n = (H o).rows.length
theorem ExV.congr {H H1 : Heap} {u : List Nat} {vals : List AVal} {ex : List Nat} (h : ExV H u vals ex) (hu : ∀ k ∈ u, H1 k = H k) : ExV H1 u vals ex := fun k hk => by
  rcases h k hk with h | ⟨o, g, n, h1, h2, h3, h4, h5⟩
  · exact .inl h
  · exact .inr ⟨o, g, n, h1, h2, by rw [hu o h2]; exact h3, by rw [hu o h2]; exact h4, by rw [hu o h2]; exact h5⟩
theorem ExV.nil (H : Heap) (u : List Nat) (vals : List AVal) : ExV H u vals [] := fun k hk => by cases hk
def SpecX (E : Env) (ex : List Nat) (f : FuncId) (ds : List AVal) (r : AVal) (ls : List AVal) : Prop :=
  ∀ (S : Nat → Prop) (w : World) (xs : List Value) (U : List Nat), Exact ex xs → GlobOk E.Γ S w → (∀ b, S b → b < w.heap.size) → ORels S w ds xs U → U.Nodup → (∀ b ∈ U, b < w.heap.size ∧ ¬ S b) →
    Calls E.P f xs.toArray w fun e w' => ∃ x U', e = .returned x ∧ Keep (· ∈ U) w w' ∧ ORels (After S U w U' w') w' (r :: ls) (x :: lentOf ds xs) U' ∧ U'.Nodup ∧ (∀ b ∈ U', b < w'.heap.size ∧ (b ∈ U ∨ w.heap.size ≤ b))
def Spec (E : Env) (f : FuncId) (ds : List AVal) (r : AVal) (ls : List AVal) : Prop := SpecX E [] f ds r ls
def fnJ : AVal → AVal
  | .fn _ _ _ => .junk
  | v => v
def mapJ : List AVal → List AVal
  | [] => []
  | v :: vs => fnJ v :: mapJ vs
theorem mapJ_get : ∀ (vs : List AVal) (k : Nat), (mapJ vs)[k]? = (vs[k]?).map fnJ
  | [], _ => by simp [mapJ]
  | _ :: _, 0 => by simp [mapJ]
  | _ :: vs, k + 1 => by simp only [mapJ, List.getElem?_cons_succ]; exact mapJ_get vs k
mutual
inductive PkC (H : Heap) : AVal → AVal → List Nat → Prop
  | plain {v : AVal} (h : v.plain = true) : PkC H v v []
  | nilS {st : Nat} : PkC H (.sc (.slice none 0 0)) (.slice st []) []
  | agg {cs ds : List AVal} {b : List Nat} (h : PkCs H cs ds b) : PkC H (.agg cs) (.agg ds) b
  | tup {cs ds : List AVal} {b : List Nat} (h : PkCs H cs ds b) : PkC H (.tup cs) (.tup ds) b
  | fn {f : Fn} {fs fs' cs cs' : List AVal} {b1 b2 : List Nat} (h1 : PkCs H fs fs' b1) (h2 : PkCs H cs cs' b2) : PkC H (.fn f fs cs) (.fn f fs' cs') (b1 ++ b2)
  | borS {o g i n : Nat} {y : Obj} {es : List (List AVal)} {b : List Nat} (hy : AVal.obj H o g = some y) (hle : i + n ≤ y.rows.length) (h : PkRs H ((y.rows.drop i).take n) es b) : PkC H (.osl o g i n) (.slice y.st es) (o :: b)
  | borP {o g i j : Nat} {y : Obj} {r cs : List AVal} {b : List Nat} (hy : AVal.obj H o g = some y) (hr : y.rows[i]? = some r) (h : PkCs H (mapJ (r.drop j)) cs b) : PkC H (.ptr o g i j) (.iptr cs) (o :: b)
inductive PkCs (H : Heap) : List AVal → List AVal → List Nat → Prop
  | nil : PkCs H [] [] []
  | cons {v d : AVal} {vs ds : List AVal} {b1 b2 : List Nat} (h : PkC H v d b1) (hs : PkCs H vs ds b2) : PkCs H (v :: vs) (d :: ds) (b1 ++ b2)
inductive PkRs (H : Heap) : List (List AVal) → List (List AVal) → List Nat → Prop
  | nil : PkRs H [] [] []
  | cons {r d : List AVal} {rs ds : List (List AVal)} {b1 b2 : List Nat} (h : PkCs H r d b1) (hs : PkRs H rs ds b2) : PkRs H (r :: rs) (d :: ds) (b1 ++ b2)
end
mutual
inductive Pk (H : Heap) : AVal → AVal → List Nat → List Nat → Prop
  | plain {v : AVal} (h : v.plain = true) : Pk H v v [] []
  | nilS {st : Nat} : Pk H (.sc (.slice none 0 0)) (.slice st []) [] []
  | nilU {st : Nat} : Pk H (.sc (.slice none 0 0)) (.usl st []) [] []
  | agg {cs ds : List AVal} {u b : List Nat} (h : Pks H cs ds u b) : Pk H (.agg cs) (.agg ds) u b
  | tup {cs ds : List AVal} {u b : List Nat} (h : Pks H cs ds u b) : Pk H (.tup cs) (.tup ds) u b
  | fn {f : Fn} {fs fs' cs cs' : List AVal} {b1 b2 : List Nat} (h1 : PkCs H fs fs' b1) (h2 : PkCs H cs cs' b2) : Pk H (.fn f fs cs) (.fn f fs' cs') [] (b1 ++ b2)
  | borS {o g i n : Nat} {y : Obj} {es : List (List AVal)} {b : List Nat} (hy : AVal.obj H o g = some y) (hle : i + n ≤ y.rows.length) (h : PkRs H ((y.rows.drop i).take n) es b) : Pk H (.osl o g i n) (.slice y.st es) [] (o :: b)
  | borP {o g i j : Nat} {y : Obj} {r cs : List AVal} {b : List Nat} (hy : AVal.obj H o g = some y) (hr : y.rows[i]? = some r) (h : PkCs H (mapJ (r.drop j)) cs b) : Pk H (.ptr o g i j) (.iptr cs) [] (o :: b)
  | ownS {o g n : Nat} {y : Obj} {es : List (List AVal)} {b : List Nat} (hy : AVal.obj H o g = some y) (hm : y.mode = .live) (hn : n ≤ y.rows.length) (h : PkRs H (y.rows.take n) es b) : Pk H (.osl o g 0 n) (.usl y.st es) [o] b
  | ownP {o g : Nat} {y : Obj} {r cs : List AVal} {u b : List Nat} (hy : AVal.obj H o g = some y) (hm : y.mode = .live) (hr : y.rows = [r]) (h : Pks H r cs u b) : Pk H (.ptr o g 0 0) (.uptr cs) (o :: u) b
inductive Pks (H : Heap) : List AVal → List AVal → List Nat → List Nat → Prop
  | nil : Pks H [] [] [] []
  | cons {v d : AVal} {vs ds : List AVal} {u1 u2 b1 b2 : List Nat} (h : Pk H v d u1 b1) (hs : Pks H vs ds u2 b2) : Pks H (v :: vs) (d :: ds) (u1 ++ u2) (b1 ++ b2)
end
section
variable {S0 U0 : Nat → Prop} {w0 : World} {c : Ctx}
def Look (c : Ctx) (B : List Nat) : Nat → Prop := fun b => c.S b ∨ ∃ o ∈ B, (c.H o).mode = .live ∧ (c.φ o).cap ≠ 0 ∧ (c.φ o).b = b
theorem Look.of {B : List Nat} (h : HeapOk S0 U0 w0 c) {o : Nat} (ho : o ∈ B) (hm : (c.H o).mode ≠ .dead) (hc : (c.φ o).cap ≠ 0) : Look c B (c.φ o).b := by
  cases hmo : (c.H o).mode with
  | dead => exact absurd hmo hm
  | live => exact .inr ⟨o, ho, hmo, hc, rfl⟩
  | froz => exact .inl (((h.objs o hm).own hc).2 hmo)
theorem PkCs.length {H : Heap} {vs ds : List AVal} {b : List Nat} (h : PkCs H vs ds b) : ds.length = vs.length := by
  induction vs generalizing ds b with
  | nil => cases h; rfl
  | cons r rs ih => cases h with | cons _ hs => simp [ih hs]
theorem PkRs.length {H : Heap} {rs ds : List (List AVal)} {b : List Nat} (h : PkRs H rs ds b) : ds.length = rs.length := by
  induction rs generalizing ds b with
  | nil => cases h; rfl
  | cons r rs ih => cases h with | cons _ hs => simp [ih hs]
mutual
theorem PkC.sound (h : HeapOk S0 U0 w0 c) {B : List Nat} : ∀ {v d : AVal} {b : List Nat} {x : Value}, PkC c.H v d b → (∀ o ∈ b, o ∈ B) → VRel c v x → CRel (Look c B) c.w d x
  | v, _, _, x, .plain hp, _, hv => by
    cases v <;> simp [AVal.plain] at hp
    case bool => exact hv
    case int => exact hv
    case str => exact hv
    case sc => exact hv
    case iptr => exact CRel.mono (fun _ hb => .inl hb) (fun _ _ => rfl) _ _ hv
    case slice => exact CRel.mono (fun _ hb => .inl hb) (fun _ _ => rfl) _ _ hv
    case junk => trivial
  | _, _, _, x, .nilS, _, hv => by
    simp only [VRel] at hv
    subst hv
    exact ⟨none, 0, rfl, Nat.le_refl _, fun hn => absurd rfl hn⟩
  | _, _, _, x, .agg hs, hB, ⟨xs, hx, hv⟩ => ⟨xs, hx, PkCs.sound h hs hB hv⟩
  | _, _, _, x, .tup hs, hB, ⟨xs, hx, hv⟩ => ⟨xs, hx, PkCs.sound h hs hB hv⟩
  | _, _, _, x, .fn h1 h2, hB, ⟨ys, zs, hx, hv1, hv2⟩ => ⟨ys, zs, hx, PkCs.sound h h1 (fun o ho => hB o (List.mem_append_left _ ho)) hv1, PkCs.sound h h2 (fun o ho => hB o (List.mem_append_right _ ho)) hv2⟩
  | .osl o g i n, .slice _ es, _, x, .borS (y := y) hy hle hs, hB, hv => by
    obtain ⟨z1, z2, hyo⟩ := AVal.obj_spec hy
    obtain ⟨a, m, cap, rfl, hg, hl⟩ := hv
    obtain ⟨hmn, _, hcap, had⟩ := hl z1.symm z2
    have hob := h.objs o z2
    have hlen := hs.length
    have hlen' : es.length = m := by rw [hlen]; simp; omega
    have hobl := hob.le
    have hrows := hob.rows.cut i n
    rw [hyo] at hobl hrows had
    refine ⟨a, cap, by rw [hlen'], by rw [hlen']; omega, fun hn => ?_⟩
    have hpos : 0 < m := by rw [← hlen']; exact List.length_pos_iff.2 hn
    obtain rfl := had (by omega)
    refine ⟨_, _, rfl, Look.of h (hB o (List.mem_cons_self ..)) z2 (by omega), ?_⟩
    exact PkRs.sound h hs (fun o ho => hB o (List.mem_cons_of_mem _ ho)) hrows
  | .ptr o g i j, .iptr cs, _, x, .borP (y := y) hy hr hs, hB, hv => by
    obtain ⟨z1, z2, hyo⟩ := AVal.obj_spec hy
    obtain ⟨a, rfl, hg, hl⟩ := hv
    obtain rfl := hl z1.symm z2
    have hob := h.objs o z2
    have hi := (List.getElem?_eq_some_iff.1 hr).1
    have hobl := hob.le
    have hrows := hob.rows
    rw [hyo] at hobl hrows
    refine ⟨_, _, rfl, fun _ => Look.of h (hB o (List.mem_cons_self ..)) z2 (by omega), ?_⟩
    refine PkCs.cells h hs (fun o ho => hB o (List.mem_cons_of_mem _ ho)) ?_
    obtain ⟨_, hc⟩ := hrows i _ hr
    intro k v hk
    rw [mapJ_get, Option.map_eq_some_iff] at hk
    obtain ⟨v0, hk, rfl⟩ := hk
    rw [List.getElem?_drop] at hk
    obtain ⟨x, hx, hvx⟩ := hc (j + k) v0 hk
    exact ⟨x, by rw [← hx, hyo]; congr 2; omega, by cases v0 <;> first | exact hvx | trivial⟩
theorem PkCs.sound (h : HeapOk S0 U0 w0 c) {B : List Nat} : ∀ {vs ds : List AVal} {b : List Nat} {xs : List Value}, PkCs c.H vs ds b → (∀ o ∈ b, o ∈ B) → VRels c vs xs → CRels (Look c B) c.w ds xs
  | _, _, _, _, .nil, _, hv => hv
  | _, _, _, _, .cons h1 hs, hB, ⟨y, ys, hx, hv, hvs⟩ => ⟨y, ys, hx, PkC.sound h h1 (fun o ho => hB o (List.mem_append_left _ ho)) hv, PkCs.sound h hs (fun o ho => hB o (List.mem_append_right _ ho)) hvs⟩
theorem PkCs.cells (h : HeapOk S0 U0 w0 c) {B : List Nat} {blk : Nat} : ∀ {vs ds : List AVal} {b : List Nat} {off : Nat}, PkCs c.H vs ds b → (∀ o ∈ b, o ∈ B) → CellsAt c blk off vs → CCells (Look c B) c.w blk off ds
  | _, _, _, _, .nil, _, _ => trivial
  | _, _, _, off, .cons h1 hs, hB, hc => by
    obtain ⟨x, hx, hv⟩ := hc 0 _ rfl
    exact ⟨⟨x, hx, PkC.sound h h1 (fun o ho => hB o (List.mem_append_left _ ho)) hv⟩, PkCs.cells h hs (fun o ho => hB o (List.mem_append_right _ ho)) (fun j v hj => by
      rw [show off + 1 + j = off + (j + 1) by omega]; exact hc (j + 1) v (by simpa using hj))⟩
theorem PkRs.sound (h : HeapOk S0 U0 w0 c) {B : List Nat} {blk st : Nat} : ∀ {rs ds : List (List AVal)} {b : List Nat} {off : Nat}, PkRs c.H rs ds b → (∀ o ∈ b, o ∈ B) → RowsAt c blk off st rs → CRows (Look c B) c.w blk off st ds
  | _, _, _, _, .nil, _, _ => trivial
  | _, _, _, off, .cons h1 hs, hB, hc => by
    obtain ⟨hl, hcell⟩ := hc 0 _ rfl
    refine ⟨by rw [PkCs.length h1]; exact hl, PkCs.cells h h1 (fun o ho => hB o (List.mem_append_left _ ho)) (by simpa using hcell), PkRs.sound h hs (fun o ho => hB o (List.mem_append_right _ ho)) (fun i r hi => ?_)⟩
    have := hc (i + 1) r (by simpa using hi)
    rw [show off + st + i * st = off + (i + 1) * st by rw [Nat.succ_mul]; omega]
    exact this
end
def blks (c : Ctx) (u : List Nat) : List Nat := u.flatMap fun o => if (c.φ o).cap = 0 then [] else [(c.φ o).b]
theorem blks_append (c : Ctx) (u u' : List Nat) : blks c (u ++ u') = blks c u ++ blks c u' := by simp [blks]
theorem mem_blks {c : Ctx} {u : List Nat} {b : Nat} : b ∈ blks c u ↔ ∃ o ∈ u, (c.φ o).cap ≠ 0 ∧ (c.φ o).b = b := by
  simp only [blks, List.mem_flatMap]
  constructor
  · rintro ⟨o, ho, hb⟩
    split at hb
    · simp at hb
    · rename_i hc; simp only [List.mem_cons, List.not_mem_nil, or_false] at hb; exact ⟨o, ho, hc, hb.symm⟩
  · rintro ⟨o, ho, hc, rfl⟩
    exact ⟨o, ho, by simp [hc]⟩
theorem blks_nodup {c : Ctx} (h : HeapOk S0 U0 w0 c) : ∀ {u : List Nat}, u.Nodup → (∀ o ∈ u, (c.H o).mode = .live) → (blks c u).Nodup
  | [], _, _ => by simp [blks]
  | o :: u, hn, hl => by
    have hn' := List.nodup_cons.1 hn
    have ih := blks_nodup h hn'.2 (fun o' ho' => hl o' (List.mem_cons_of_mem _ ho'))
    rw [show o :: u = [o] ++ u from rfl, blks_append, List.nodup_append]
    refine ⟨by simp only [blks, List.flatMap_cons, List.flatMap_nil]; split <;> simp, ih, fun p hp q hq e => ?_⟩
    obtain ⟨o1, m1, c1, rfl⟩ := mem_blks.1 hp
    obtain ⟨o2, m2, c2, rfl⟩ := mem_blks.1 hq
    simp only [List.mem_cons, List.not_mem_nil, or_false] at m1
    subst m1
    exact h.inj o1 o2 (fun e => hn'.1 (by rw [e]; exact m2)) (hl _ (List.mem_cons_self ..)) (hl o2 (List.mem_cons_of_mem _ m2)) c1 c2 e
theorem notLook (h : HeapOk S0 U0 w0 c) {B : List Nat} {o : Nat} (ho : o ∉ B) (hm : (c.H o).mode = .live) (hc : (c.φ o).cap ≠ 0) : ¬ Look c B (c.φ o).b := by
  rintro (hs | ⟨o', ho', hm', hc', e⟩)
  · exact ((h.objs o (by rw [hm]; simp)).own hc).1 hm hs
  · exact h.inj o' o (fun e => ho (by rw [← e]; exact ho')) hm' hm hc' hc e
theorem ORel.plain {S : Nat → Prop} {w : World} {v : AVal} {x : Value} (hp : v.plain = true) (h : CRel S w v x) : ORel S w v x [] := by
  cases v <;> simp [AVal.plain] at hp <;> first | exact ⟨h, rfl⟩ | rfl
mutual
theorem Pk.live {H : Heap} : ∀ {v d : AVal} {u b : List Nat}, Pk H v d u b → ∀ o ∈ u, (H o).mode = .live
  | _, _, _, _, .plain _, o, ho => by simp at ho
  | _, _, _, _, .nilS, o, ho => by simp at ho
  | _, _, _, _, .nilU, o, ho => by simp at ho
  | _, _, _, _, .agg hs, o, ho => Pks.live hs o ho
  | _, _, _, _, .tup hs, o, ho => Pks.live hs o ho
  | _, _, _, _, .fn _ _, o, ho => by simp at ho
  | _, _, _, _, .borS _ _ _, o, ho => by simp at ho
  | _, _, _, _, .borP _ _ _, o, ho => by simp at ho
  | _, _, _, _, .ownS hy hm _ _, o, ho => by
    simp only [List.mem_cons, List.not_mem_nil, or_false] at ho
    subst ho
    obtain ⟨_, _, e⟩ := AVal.obj_spec hy
    rw [e]; exact hm
  | _, _, _, _, .ownP hy hm _ hs, o, ho => by
    rcases List.mem_cons.1 ho with ho | ho
    · subst ho
      obtain ⟨_, _, e⟩ := AVal.obj_spec hy
      rw [e]; exact hm
    · exact Pks.live hs o ho
theorem Pks.live {H : Heap} : ∀ {vs ds : List AVal} {u b : List Nat}, Pks H vs ds u b → ∀ o ∈ u, (H o).mode = .live
  | _, _, _, _, .nil, o, ho => by simp at ho
  | _, _, _, _, .cons h1 hs, o, ho => by
    rcases List.mem_append.1 ho with ho | ho
    · exact Pk.live h1 o ho
    · exact Pks.live hs o ho
end
theorem Pks.length {H : Heap} {vs ds : List AVal} {u b : List Nat} (h : Pks H vs ds u b) : ds.length = vs.length := by
  induction vs generalizing ds u b with
  | nil => cases h; rfl
  | cons r rs ih => cases h with | cons _ hs => simp [ih hs]
mutual
theorem Pk.sound (h : HeapOk S0 U0 w0 c) {B : List Nat} : ∀ {v d : AVal} {u b : List Nat} {x : Value}, Pk c.H v d u b → (∀ o ∈ b, o ∈ B) → (∀ o ∈ u, o ∉ B) → VRel c v x → ORel (Look c B) c.w d x (blks c u)
  | v, _, _, _, x, .plain hp, hB, _, hv => ORel.plain hp (PkC.sound h (.plain hp) hB hv)
  | _, _, _, _, x, .nilS, hB, _, hv => ⟨PkC.sound h .nilS hB hv, rfl⟩
  | _, _, _, _, x, .nilU, _, _, hv => by
    simp only [VRel] at hv
    subst hv
    exact ⟨none, 0, rfl, Nat.le_refl _, .inl ⟨rfl, rfl⟩⟩
  | _, _, _, _, x, .agg hs, hB, hu, ⟨xs, hx, hv⟩ => ⟨xs, hx, Pks.sound h hs hB hu hv⟩
  | _, _, _, _, x, .tup hs, hB, hu, ⟨xs, hx, hv⟩ => ⟨xs, hx, Pks.sound h hs hB hu hv⟩
  | _, _, _, _, x, .fn h1 h2, hB, _, hv => ⟨PkC.sound h (.fn h1 h2) hB hv, rfl⟩
  | _, _, _, _, x, .borS hy hle hs, hB, _, hv => ⟨PkC.sound h (.borS hy hle hs) hB hv, rfl⟩
  | _, _, _, _, x, .borP hy hr hs, hB, _, hv => ⟨PkC.sound h (.borP hy hr hs) hB hv, rfl⟩
  | .osl o g _ n, .usl _ es, _, _, x, .ownS (y := y) hy hm hn hs, hB, hu, hv => by
    obtain ⟨z1, z2, hyo⟩ := AVal.obj_spec hy
    obtain ⟨a, m, cap, rfl, hg, hl⟩ := hv
    obtain ⟨hmn, _, hcap, had⟩ := hl z1.symm z2
    have hob := h.objs o z2
    have hml : (c.H o).mode = .live := by rw [hyo]; exact hm
    have hlen := hs.length
    rw [List.length_take] at hlen
    have hobl := hob.le
    have hrows := hob.rows.cut 0 n
    rw [hyo] at hobl hrows had
    have hlen' : es.length = m := by omega
    refine ⟨a, cap, by rw [hlen'], by omega, ?_⟩
    by_cases hc : cap = 0
    · exact .inl ⟨hc, by simp [blks]; omega⟩
    · have hc' : (c.φ o).cap ≠ 0 := by omega
      obtain rfl := had hc
      refine .inr ⟨hc, _, _, rfl, by simp [blks, hc'], notLook h (hu o (by simp)) hml hc', ?_, ?_⟩
      · obtain ⟨cs, e, fz, a1, a2, a3⟩ := hob.room hc'
        refine ⟨cs, e, fz, a1, ?_, fun _ => by have := a3 hml; rwa [hyo] at this⟩
        rw [hyo] at a2
        rw [show cap = (c.φ o).cap by omega]
        omega
      · rw [List.drop_zero] at hrows
        have := PkRs.sound h hs hB hrows
        simpa using this
  | .ptr o g _ _, .uptr cs, _, _, x, .ownP (y := y) (r := r) (u := u1) hy hm hr hs, hB, hu, hv => by
    obtain ⟨z1, z2, hyo⟩ := AVal.obj_spec hy
    obtain ⟨a, rfl, hg, hl⟩ := hv
    obtain rfl := hl z1.symm z2
    have hob := h.objs o z2
    have hml : (c.H o).mode = .live := by rw [hyo]; exact hm
    have hobl := hob.le
    have hrows := hob.rows
    rw [hyo, hr] at hobl hrows
    simp only [List.length_cons, List.length_nil] at hobl
    have hc' : (c.φ o).cap ≠ 0 := by omega
    obtain ⟨hrl, hcell⟩ := hrows 0 r rfl
    have hlen := hs.length
    refine ⟨(c.φ o).b, (c.φ o).base, blks c u1, by simp, by rw [show o :: u1 = [o] ++ u1 from rfl, blks_append]; simp [blks, hc'], notLook h (hu o (by simp)) hml hc', ?_, ?_⟩
    · obtain ⟨cs', e, fz, a1, a2, a3⟩ := hob.room hc'
      refine ⟨cs', e, fz, a1, ?_, fun _ => by have := a3 hml; rw [hyo] at this; rw [show cs.length = y.st by omega]; exact this⟩
      rw [hyo] at a2
      have : 1 * y.st ≤ (c.φ o).cap * y.st := Nat.mul_le_mul_right _ hobl
      omega
    · exact Pks.cells h hs hB (fun o' ho' => hu o' (List.mem_cons_of_mem _ ho')) (by simpa using hcell)
theorem Pks.sound (h : HeapOk S0 U0 w0 c) {B : List Nat} : ∀ {vs ds : List AVal} {u b : List Nat} {xs : List Value}, Pks c.H vs ds u b → (∀ o ∈ b, o ∈ B) → (∀ o ∈ u, o ∉ B) → VRels c vs xs → ORels (Look c B) c.w ds xs (blks c u)
  | _, _, _, _, _, .nil, _, _, hv => ⟨hv, rfl⟩
  | _, _, _, _, _, .cons h1 hs, hB, hu, ⟨y, ys, hx, hv, hvs⟩ => ⟨y, ys, _, _, hx, blks_append .., Pk.sound h h1 (fun o ho => hB o (List.mem_append_left _ ho)) (fun o ho => hu o (List.mem_append_left _ ho)) hv,
      Pks.sound h hs (fun o ho => hB o (List.mem_append_right _ ho)) (fun o ho => hu o (List.mem_append_right _ ho)) hvs⟩
theorem Pks.cells (h : HeapOk S0 U0 w0 c) {B : List Nat} {blk : Nat} : ∀ {vs ds : List AVal} {u b : List Nat} {off : Nat}, Pks c.H vs ds u b → (∀ o ∈ b, o ∈ B) → (∀ o ∈ u, o ∉ B) → CellsAt c blk off vs → OCells (Look c B) c.w blk off ds (blks c u)
  | _, _, _, _, _, .nil, _, _, _ => rfl
  | _, _, _, _, off, .cons h1 hs, hB, hu, hc => by
    obtain ⟨x, hx, hv⟩ := hc 0 _ rfl
    exact ⟨x, _, _, hx, blks_append .., Pk.sound h h1 (fun o ho => hB o (List.mem_append_left _ ho)) (fun o ho => hu o (List.mem_append_left _ ho)) hv,
      Pks.cells h hs (fun o ho => hB o (List.mem_append_right _ ho)) (fun o ho => hu o (List.mem_append_right _ ho)) (fun j v hj => by
        rw [show off + 1 + j = off + (j + 1) by omega]; exact hc (j + 1) v (by simpa using hj))⟩
end
end
end Go.Am
