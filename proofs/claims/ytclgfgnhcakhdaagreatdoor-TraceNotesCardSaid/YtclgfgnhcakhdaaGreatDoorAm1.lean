import Derived.WalkKit
import Derived.Deep.MidRow
namespace Go.Am
set_option linter.unusedSectionVars false
inductive Mode where
  | dead | live | froz
  deriving DecidableEq
inductive AVal where
  | bool (b : Bool)
  | int (k : IntKind) (n : Int)
  | str (l : List UInt8)
  | sc (v : Value)
  | agg (cs : List AVal)
  | tup (vs : List AVal)
  | ptr (o g i j : Nat)
  | iptr (cs : List AVal)
  | slice (st : Nat) (es : List (List AVal))
  | osl (o g i n : Nat)
  | fn (f : Fn) (first cap : List AVal)
  | iface (t : TypeId) (v : AVal)
  | usl (st : Nat) (es : List (List AVal))
  | uptr (cs : List AVal)
  | junk
structure Obj where
  gen : Nat
  mode : Mode
  st : Nat
  rows : List (List AVal)
  
  exact : Bool
abbrev Heap := Nat → Obj
structure Loc where
  b : Nat
  base : Nat
  cap : Nat
mutual
def CRel (S : Nat → Prop) (w : World) : AVal → Value → Prop
  | .bool b, x => x = .bool b
  | .int k n, x => x = .int k n
  | .str l, x => x = .string ⟨l.toArray⟩
  | .sc v, x => x = v
  | .agg cs, x => ∃ xs, x = .agg xs ∧ CRels S w cs xs.toList
  | .tup cs, x => ∃ xs, x = .tuple xs ∧ CRels S w cs xs.toList
  | .ptr _ _ _ _, _ => False
  | .iptr cs, x => ∃ b off, x = .pointer (some ⟨b, off, none⟩) ∧ (cs ≠ [] → S b) ∧ CCells S w b off cs
  | .slice st es, x => ∃ a cap, x = .slice a es.length cap ∧ es.length ≤ cap ∧ (es ≠ [] → ∃ b off, a = some ⟨b, off, none⟩ ∧ S b ∧ CRows S w b off st es)
  | .osl _ _ _ _, _ => False
  | .fn f fs cs, x => ∃ ys zs, x = .func f ys zs ∧ CRels S w fs ys.toList ∧ CRels S w cs zs.toList
  | .iface t v, x => ∃ y, x = .iface t y ∧ CRel S w v y
  | .usl _ _, _ => False
  | .uptr _, _ => False
  | .junk, _ => True
def CRels (S : Nat → Prop) (w : World) : List AVal → List Value → Prop
  | [], xs => xs = []
  | v :: vs, xs => ∃ y ys, xs = y :: ys ∧ CRel S w v y ∧ CRels S w vs ys
def CCells (S : Nat → Prop) (w : World) (b off : Nat) : List AVal → Prop
  | [] => True
  | v :: vs => (∃ x, w.cell? ⟨b, off, none⟩ = some x ∧ CRel S w v x) ∧ CCells S w b (off + 1) vs
def CRows (S : Nat → Prop) (w : World) (b off st : Nat) : List (List AVal) → Prop
  | [] => True
  | r :: rs => r.length = st ∧ CCells S w b off r ∧ CRows S w b (off + st) st rs
end
theorem cell_blk {w w' : World} {b off : Nat} (h : w'.heap[b]? = w.heap[b]?) : w'.cell? ⟨b, off, none⟩ = w.cell? ⟨b, off, none⟩ := by
  simp [World.cell?, h]
section
variable {S S' : Nat → Prop} {w w' : World} (hS : ∀ b, S b → S' b) (hw : ∀ b, S b → w'.heap[b]? = w.heap[b]?)
include hS hw
mutual
theorem CRel.mono : ∀ (v : AVal) (x : Value), CRel S w v x → CRel S' w' v x
  | .bool _, _, hv => hv
  | .int _ _, _, hv => hv
  | .str _, _, hv => hv
  | .sc _, _, hv => hv
  | .agg cs, _, ⟨xs, hx, hr⟩ => ⟨xs, hx, CRels.mono cs _ hr⟩
  | .tup cs, _, ⟨xs, hx, hr⟩ => ⟨xs, hx, CRels.mono cs _ hr⟩
  | .ptr _ _ _ _, _, hv => hv
  | .iptr cs, _, ⟨b, off, hx, hs, hc⟩ => ⟨b, off, hx, fun hn => hS b (hs hn), by
      by_cases hn : cs = []
      · subst hn; trivial
      · exact CCells.mono b (hw b (hs hn)) cs off hc⟩
  | .slice st es, _, ⟨a, cap, hx, hl, hc⟩ => ⟨a, cap, hx, hl, fun hn => by
      obtain ⟨b, off, ha, hb, hr⟩ := hc hn
      exact ⟨b, off, ha, hS b hb, CRows.mono b (hw b hb) st es off hr⟩⟩
  | .osl _ _ _ _, _, hv => hv
  | .fn _ fs cs, _, ⟨ys, zs, hx, h1, h2⟩ => ⟨ys, zs, hx, CRels.mono fs _ h1, CRels.mono cs _ h2⟩
  | .iface _ v, _, ⟨y, hx, hr⟩ => ⟨y, hx, CRel.mono v y hr⟩
  | .usl _ _, _, hv => hv
  | .uptr _, _, hv => hv
  | .junk, _, hv => hv
theorem CRels.mono : ∀ (vs : List AVal) (xs : List Value), CRels S w vs xs → CRels S' w' vs xs
  | [], _, hv => hv
  | v :: vs, _, ⟨y, ys, hx, h1, h2⟩ => ⟨y, ys, hx, CRel.mono v y h1, CRels.mono vs ys h2⟩
theorem CCells.mono (b : Nat) (hb : w'.heap[b]? = w.heap[b]?) : ∀ (vs : List AVal) (off : Nat), CCells S w b off vs → CCells S' w' b off vs
  | [], _, _ => trivial
  | v :: vs, off, ⟨⟨x, h1, h2⟩, h3⟩ => ⟨⟨x, by rw [cell_blk hb]; exact h1, CRel.mono v x h2⟩, CCells.mono b hb vs (off + 1) h3⟩
theorem CRows.mono (b : Nat) (hb : w'.heap[b]? = w.heap[b]?) (st : Nat) : ∀ (es : List (List AVal)) (off : Nat), CRows S w b off st es → CRows S' w' b off st es
  | [], _, _ => trivial
  | r :: rs, off, ⟨h1, h2, h3⟩ => ⟨h1, CCells.mono b hb r off h2, CRows.mono b hb st rs (off + st) h3⟩
end
end
structure Ctx where
  S : Nat → Prop
  w : World
  φ : Nat → Loc
  H : Heap
mutual
def VRel (c : Ctx) : AVal → Value → Prop
  | .bool b, x => x = .bool b
  | .int k n, x => x = .int k n
  | .str l, x => x = .string ⟨l.toArray⟩
  | .sc v, x => x = v
  | .agg cs, x => ∃ xs, x = .agg xs ∧ VRels c cs xs.toList
  | .tup cs, x => ∃ xs, x = .tuple xs ∧ VRels c cs xs.toList
  | .ptr o g i j, x => ∃ a, x = .pointer (some a) ∧ g ≤ (c.H o).gen ∧ (g = (c.H o).gen → (c.H o).mode ≠ .dead → a = ⟨(c.φ o).b, (c.φ o).base + (i * (c.H o).st + j), none⟩)
  | .iptr cs, x => CRel c.S c.w (.iptr cs) x
  | .slice st es, x => CRel c.S c.w (.slice st es) x
  | .osl o g i n, x => ∃ a m cap, x = .slice a m cap ∧ g ≤ (c.H o).gen ∧ (g = (c.H o).gen → (c.H o).mode ≠ .dead → m = n ∧ i + n ≤ (c.H o).rows.length ∧
      i + cap = (c.φ o).cap ∧ (cap ≠ 0 → a = some ⟨(c.φ o).b, (c.φ o).base + i * (c.H o).st, none⟩))
  | .fn f fs cs, x => ∃ ys zs, x = .func f ys zs ∧ VRels c fs ys.toList ∧ VRels c cs zs.toList
  | .iface t v, x => ∃ y, x = .iface t y ∧ VRel c v y
  | .usl _ _, _ => False
  | .uptr _, _ => False
  | .junk, _ => True
def VRels (c : Ctx) : List AVal → List Value → Prop
  | [], xs => xs = []
  | v :: vs, xs => ∃ y ys, xs = y :: ys ∧ VRel c v y ∧ VRels c vs ys
end
structure ObjLe (c c' : Ctx) (o : Nat) : Prop where
  gen : (c.H o).gen ≤ (c'.H o).gen
  keep : (c'.H o).gen = (c.H o).gen → (c'.H o).mode ≠ .dead → (c.H o).mode ≠ .dead ∧ c'.φ o = c.φ o ∧ (c'.H o).st = (c.H o).st ∧ (c.H o).rows.length ≤ (c'.H o).rows.length
structure CtxLe (c c' : Ctx) : Prop where
  S : ∀ b, c.S b → c'.S b
  blk : ∀ b, c.S b → c'.w.heap[b]? = c.w.heap[b]?
  obj : ∀ o, ObjLe c c' o
theorem ObjLe.refl (c : Ctx) (o : Nat) : ObjLe c c o := ⟨Nat.le_refl _, fun _ h => ⟨h, rfl, rfl, Nat.le_refl _⟩⟩
theorem CtxLe.refl (c : Ctx) : CtxLe c c := ⟨fun _ h => h, fun _ _ => rfl, ObjLe.refl c⟩
theorem ObjLe.trans {a b c : Ctx} {o : Nat} (h : ObjLe a b o) (k : ObjLe b c o) : ObjLe a c o := by
  refine ⟨Nat.le_trans h.gen k.gen, fun hg hm => ?_⟩
  have g1 := h.gen
  have g2 := k.gen
  obtain ⟨k1, k2, k3, k4⟩ := k.keep (by omega) hm
  obtain ⟨h1, h2, h3, h4⟩ := h.keep (by omega) k1
  exact ⟨h1, by rw [k2, h2], by rw [k3, h3], Nat.le_trans h4 k4⟩
theorem CtxLe.trans {a b c : Ctx} (h : CtxLe a b) (k : CtxLe b c) : CtxLe a c :=
  ⟨fun x hx => k.S x (h.S x hx), fun x hx => (k.blk x (h.S x hx)).trans (h.blk x hx), fun o => (h.obj o).trans (k.obj o)⟩
mutual
theorem VRel.mono {c c' : Ctx} (h : CtxLe c c') : ∀ (v : AVal) (x : Value), VRel c v x → VRel c' v x
  | .bool _, _, hv => hv
  | .int _ _, _, hv => hv
  | .str _, _, hv => hv
  | .sc _, _, hv => hv
  | .agg cs, _, ⟨xs, hx, hr⟩ => ⟨xs, hx, VRels.mono h cs _ hr⟩
  | .tup cs, _, ⟨xs, hx, hr⟩ => ⟨xs, hx, VRels.mono h cs _ hr⟩
  | .ptr o g i j, x, ⟨a, ha, hg, hr⟩ => by
    refine ⟨a, ha, Nat.le_trans hg (h.obj o).gen, fun hg' hm => ?_⟩
    have h1 : (c'.H o).gen = (c.H o).gen := Nat.le_antisymm (by omega) (h.obj o).gen
    obtain ⟨k1, k2, k3, _⟩ := (h.obj o).keep h1 hm
    rw [k2, k3]
    exact hr (by omega) k1
  | .iptr _, _, hv => CRel.mono h.S h.blk _ _ hv
  | .slice _ _, _, hv => CRel.mono h.S h.blk _ _ hv
  | .osl o g i n, x, ⟨a, m, cap, ha, hg, hr⟩ => by
    refine ⟨a, m, cap, ha, Nat.le_trans hg (h.obj o).gen, fun hg' hm => ?_⟩
    have h1 : (c'.H o).gen = (c.H o).gen := Nat.le_antisymm (by omega) (h.obj o).gen
    obtain ⟨k1, k2, k3, k4⟩ := (h.obj o).keep h1 hm
    obtain ⟨e0, e1, e2⟩ := hr (by omega) k1
    exact ⟨e0, Nat.le_trans e1 k4, by rw [k2, k3]; exact e2⟩
  | .fn _ fs cs, _, ⟨ys, zs, hx, h1, h2⟩ => ⟨ys, zs, hx, VRels.mono h fs _ h1, VRels.mono h cs _ h2⟩
  | .iface _ v, _, ⟨y, hx, hr⟩ => ⟨y, hx, VRel.mono h v y hr⟩
  | .usl _ _, _, hv => hv
  | .uptr _, _, hv => hv
  | .junk, _, hv => hv
theorem VRels.mono {c c' : Ctx} (h : CtxLe c c') : ∀ (vs : List AVal) (xs : List Value), VRels c vs xs → VRels c' vs xs
  | [], _, hv => hv
  | v :: vs, _, ⟨y, ys, hx, h1, h2⟩ => ⟨y, ys, hx, VRel.mono h v y h1, VRels.mono h vs ys h2⟩
end
mutual
theorem CRel.toV (c : Ctx) : ∀ (v : AVal) (x : Value), CRel c.S c.w v x → VRel c v x
  | .bool _, _, hv => hv
  | .int _ _, _, hv => hv
  | .str _, _, hv => hv
  | .sc _, _, hv => hv
  | .agg cs, _, ⟨xs, hx, hr⟩ => ⟨xs, hx, CRels.toV c cs _ hr⟩
  | .tup cs, _, ⟨xs, hx, hr⟩ => ⟨xs, hx, CRels.toV c cs _ hr⟩
  | .ptr _ _ _ _, _, hv => hv.elim
  | .iptr _, _, hv => hv
  | .slice _ _, _, hv => hv
  | .osl _ _ _ _, _, hv => hv.elim
  | .fn _ fs cs, _, ⟨ys, zs, hx, h1, h2⟩ => ⟨ys, zs, hx, CRels.toV c fs _ h1, CRels.toV c cs _ h2⟩
  | .iface _ v, _, ⟨y, hx, hr⟩ => ⟨y, hx, CRel.toV c v y hr⟩
  | .usl _ _, _, hv => hv
  | .uptr _, _, hv => hv
  | .junk, _, hv => hv
theorem CRels.toV (c : Ctx) : ∀ (vs : List AVal) (xs : List Value), CRels c.S c.w vs xs → VRels c vs xs
  | [], _, hv => hv
  | v :: vs, _, ⟨y, ys, hx, h1, h2⟩ => ⟨y, ys, hx, CRel.toV c v y h1, CRels.toV c vs ys h2⟩
end
def CellsAt (c : Ctx) (b off : Nat) (vs : List AVal) : Prop := ∀ j v, vs[j]? = some v → ∃ x, c.w.cell? ⟨b, off + j, none⟩ = some x ∧ VRel c v x
def RowsAt (c : Ctx) (b off st : Nat) (es : List (List AVal)) : Prop := ∀ i r, es[i]? = some r → r.length = st ∧ CellsAt c b (off + i * st) r
theorem CellsAt.mono {c c' : Ctx} (h : CtxLe c c') {b off : Nat} {vs : List AVal} (hb : c'.w.heap[b]? = c.w.heap[b]?) (hc : CellsAt c b off vs) : CellsAt c' b off vs :=
  fun j v hj => let ⟨x, h1, h2⟩ := hc j v hj; ⟨x, by rw [cell_blk hb]; exact h1, VRel.mono h v x h2⟩
theorem RowsAt.mono {c c' : Ctx} (h : CtxLe c c') {b off st : Nat} {es : List (List AVal)} (hb : c'.w.heap[b]? = c.w.heap[b]?) (hc : RowsAt c b off st es) : RowsAt c' b off st es :=
  fun i r hi => let ⟨h1, h2⟩ := hc i r hi; ⟨h1, h2.mono h hb⟩
theorem CCells_iff (S : Nat → Prop) (w : World) (b : Nat) : ∀ (vs : List AVal) (off : Nat), CCells S w b off vs ↔ ∀ j v, vs[j]? = some v → ∃ x, w.cell? ⟨b, off + j, none⟩ = some x ∧ CRel S w v x
  | [], _ => by simp [CCells]
  | v :: vs, off => by
    simp only [CCells, CCells_iff S w b vs (off + 1)]
    constructor
    · rintro ⟨h1, h2⟩ j u hj
      cases j with
      | zero => simp only [List.getElem?_cons_zero, Option.some.injEq] at hj; subst hj; exact h1
      | succ j => rw [show off + (j + 1) = off + 1 + j by omega]; exact h2 j u (by simpa using hj)
    · intro h
      exact ⟨h 0 v rfl, fun j u hj => by rw [show off + 1 + j = off + (j + 1) by omega]; exact h (j + 1) u (by simpa using hj)⟩
theorem CRows_iff (S : Nat → Prop) (w : World) (b st : Nat) : ∀ (es : List (List AVal)) (off : Nat), CRows S w b off st es ↔
    ∀ i r, es[i]? = some r → r.length = st ∧ CCells S w b (off + i * st) r
  | [], _ => by simp [CRows]
  | r :: rs, off => by
    simp only [CRows, CRows_iff S w b st rs (off + st)]
    constructor
    · rintro ⟨h0, h1, h2⟩ i u hi
      cases i with
      | zero => simp only [List.getElem?_cons_zero, Option.some.injEq] at hi; subst hi; exact ⟨h0, by simpa using h1⟩
      | succ i =>
        rw [show off + (i + 1) * st = off + st + i * st by rw [Nat.succ_mul]; omega]
        exact h2 i u (by simpa using hi)
    · intro h
      obtain ⟨h1, h2⟩ := h 0 r rfl
      exact ⟨h1, by simpa using h2, fun i u hi => by
        rw [show off + st + i * st = off + (i + 1) * st by rw [Nat.succ_mul]; omega]
        exact h (i + 1) u (by simpa using hi)⟩
theorem CCells.toV {c : Ctx} {b off : Nat} {vs : List AVal} (h : CCells c.S c.w b off vs) : CellsAt c b off vs := fun j v hj => by
  obtain ⟨x, h1, h2⟩ := (CCells_iff _ _ _ _ _).1 h j v hj
  exact ⟨x, h1, h2.toV⟩
theorem CRows.toV {c : Ctx} {b off st : Nat} {es : List (List AVal)} (h : CRows c.S c.w b off st es) : RowsAt c b off st es := fun i r hi => by
  obtain ⟨h1, h2⟩ := (CRows_iff _ _ _ _ _ _).1 h i r hi
  exact ⟨h1, h2.toV⟩
def Free (st : Nat) (fz : Nat × Nat) (size : Nat) : Prop := fz.1 = fz.2 ∨ (st = 1 ∧ size ≤ fz.1)
theorem Free.at {st : Nat} {fz : Nat × Nat} {size : Nat} (h : Free st fz size) : ∀ off, off < size → ¬ (fz.1 ≤ off ∧ off < fz.2) := fun off ho => by
  rcases h with h | ⟨_, h⟩ <;> omega
theorem Free.zero (st size : Nat) : Free st (0, 0) size := .inl rfl
structure Keep (U : Nat → Prop) (w w' : World) : Prop where
  os : w'.os = w.os
  tape : w'.tape = w.tape
  output : w'.output = w.output
  size : w.heap.size ≤ w'.heap.size
  block : ∀ k, k < w.heap.size → ¬ U k → w'.heap[k]? = w.heap[k]?
  stay : ∀ (k : Nat) (cs : Array Value) (e : TypeId) (fz : Nat × Nat), w.heap[k]? = some (Go.Obj.cells cs e fz) → ∃ (cs' : Array Value), w'.heap[k]? = some (Go.Obj.cells cs' e fz) ∧ cs'.size = cs.size
theorem Keep.refl (U : Nat → Prop) (w : World) : Keep U w w := ⟨rfl, rfl, rfl, Nat.le_refl _, fun _ _ _ => rfl, fun _ cs _ fz h => ⟨cs, h, rfl⟩⟩
theorem Keep.drew {U : Nat → Prop} {a w : World} (h : Keep U a w) : Keep U a w.drew := ⟨h.os, h.tape, h.output, h.size, h.block, h.stay⟩
theorem Keep.same {U : Nat → Prop} {w w' : World} (os : w'.os = w.os) (tape : w'.tape = w.tape) (output : w'.output = w.output) (size : w.heap.size ≤ w'.heap.size) (block : ∀ k, k < w.heap.size → w'.heap[k]? = w.heap[k]?) : Keep U w w' :=
  ⟨os, tape, output, size, fun k hk _ => block k hk, fun k cs e fz h => ⟨cs, by
    have hk : k < w.heap.size := by
      rcases Nat.lt_or_ge k w.heap.size with h' | h'
      · exact h'
      · simp [Array.getElem?_eq_none h'] at h
    rw [block k hk]; exact h, rfl⟩⟩
def Room (w : World) (b n st : Nat) (live : Prop) : Prop :=
  ∃ cs elem fz, w.heap[b]? = some (.cells cs elem fz) ∧ n ≤ cs.size ∧ (live → Free st fz cs.size)
structure ObjOk (c : Ctx) (o : Nat) : Prop where
  le : (c.H o).rows.length ≤ (c.φ o).cap
  own : (c.φ o).cap ≠ 0 → ((c.H o).mode = .live → ¬ c.S (c.φ o).b) ∧ ((c.H o).mode = .froz → c.S (c.φ o).b)
  rows : RowsAt c (c.φ o).b (c.φ o).base (c.H o).st (c.H o).rows
  room : (c.φ o).cap ≠ 0 → Room c.w (c.φ o).b ((c.φ o).base + (c.φ o).cap * (c.H o).st) (c.H o).st ((c.H o).mode = .live)
  ex : (c.H o).exact = true → (c.H o).rows.length = (c.φ o).cap
structure HeapOk (S0 : Nat → Prop) (U0 : Nat → Prop) (w0 : World) (c : Ctx) : Prop where
  stab : ∀ b, c.S b → b < c.w.heap.size
  orig : ∀ b, c.S b → S0 b ∨ U0 b ∨ w0.heap.size ≤ b
  objs : ∀ o, (c.H o).mode ≠ .dead → ObjOk c o
  inj : ∀ o o', o ≠ o' → (c.H o).mode = .live → (c.H o').mode = .live → (c.φ o).cap ≠ 0 → (c.φ o').cap ≠ 0 → (c.φ o).b ≠ (c.φ o').b
  own : ∀ o, (c.H o).mode = .live → (c.φ o).cap ≠ 0 → U0 (c.φ o).b ∨ w0.heap.size ≤ (c.φ o).b
  keep : Keep U0 w0 c.w
def Heap.set (H : Heap) (o : Nat) (x : Obj) : Heap := fun k => if k = o then x else H k
@[simp] theorem Heap.set_same (H : Heap) (o : Nat) (x : Obj) : (H.set o x) o = x := by simp [Heap.set]
theorem Heap.set_ne (H : Heap) {o k : Nat} (x : Obj) (h : k ≠ o) : (H.set o x) k = H k := by simp [Heap.set, h]
theorem Room.lt {w : World} {b n st : Nat} {l : Prop} (h : Room w b n st l) : b < w.heap.size := by
  obtain ⟨cs, e, fz, hb, _⟩ := h
  rcases Nat.lt_or_ge b w.heap.size with h' | h'
  · exact h'
  · simp [Array.getElem?_eq_none h'] at hb
theorem HeapOk.update' {S0 U0 : Nat → Prop} {w0 : World} {c c' : Ctx} (h : HeapOk S0 U0 w0 c) (o : Nat) (x : Obj) (loc : Loc)
    (hS : c'.S = c.S) (hH : c'.H = c.H.set o x) (hφ : c'.φ = fun k => if k = o then loc else c.φ k)
    (hkeep : Keep (fun b => loc.cap ≠ 0 ∧ loc.b = b ∧ x.mode = .live) c.w c'.w)
    (hgen : (c.H o).gen ≤ x.gen) (hsame : x.gen = (c.H o).gen → x.mode ≠ .dead → (c.H o).mode ≠ .dead ∧ loc = c.φ o ∧ x.st = (c.H o).st ∧ (c.H o).rows.length ≤ x.rows.length)
    (hok : CtxLe c c' → x.mode ≠ .dead → ObjOk c' o)
    (hnotS : loc.cap ≠ 0 → x.mode = .live → ¬ c.S loc.b) (hfree : ∀ k, k ≠ o → (c.H k).mode = .live → (c.φ k).cap ≠ 0 → loc.cap ≠ 0 → x.mode = .live → loc.b ≠ (c.φ k).b) (hown : x.mode = .live → loc.cap ≠ 0 → U0 loc.b ∨ w0.heap.size ≤ loc.b) :
    CtxLe c c' ∧ HeapOk S0 U0 w0 c' := by
  have hnot := hnotS
  have hle : CtxLe c c' := by
    refine ⟨fun b hb => by rw [hS]; exact hb, fun b hb => hkeep.block b (h.stab b hb) ?_, fun k => ?_⟩
    · rintro ⟨hl, rfl, hm⟩
      exact hnot hl hm hb
    · by_cases hk : k = o
      · subst hk
        refine ⟨by rw [hH]; simpa using hgen, fun hg hm => ?_⟩
        rw [hH] at hg hm ⊢
        simp only [Heap.set_same] at hg hm ⊢
        obtain ⟨h1, h2, h3, h4⟩ := hsame hg hm
        exact ⟨h1, by rw [hφ]; simp [h2], h3, h4⟩
      · refine ⟨by rw [hH, Heap.set_ne _ _ hk]; exact Nat.le_refl _, fun _ hm => ?_⟩
        rw [hH, Heap.set_ne _ _ hk] at hm ⊢
        exact ⟨hm, by rw [hφ]; simp [hk], rfl, Nat.le_refl _⟩
  have hother := hfree
  refine ⟨hle, ⟨fun b hb => ?_, fun b hb => h.orig b (by rw [← hS]; exact hb), fun k hm => ?_, fun k k' hkk hm hm' hl hl' => ?_, fun k hm hl => ?_, ?_⟩⟩
  · rw [hS] at hb; exact Nat.lt_of_lt_of_le (h.stab b hb) hkeep.size
  · by_cases hk : k = o
    · subst hk; exact hok hle (by rw [hH] at hm; simpa using hm)
    · rw [hH, Heap.set_ne _ _ hk] at hm
      have h1 := h.objs k hm
      have e1 : c'.φ k = c.φ k := by rw [hφ]; simp [hk]
      have e2 : c'.H k = c.H k := by rw [hH, Heap.set_ne _ _ hk]
      by_cases hc : (c.φ k).cap = 0
      · have e3 : (c.H k).rows = [] := List.eq_nil_of_length_eq_zero (by have := h1.le; omega)
        exact ⟨by rw [e1, e2]; exact h1.le, by rw [e1]; exact fun hn => absurd hc hn, by rw [e2, e3]; intro i r hi; simp at hi, by rw [e1]; exact fun hn => absurd hc hn, by rw [e1, e2]; exact h1.ex⟩
      · have hblk : c'.w.heap[(c.φ k).b]? = c.w.heap[(c.φ k).b]? := by
          refine hkeep.block _ ((h1.room hc).lt) ?_
          rintro ⟨hl, hb, hx⟩
          cases hmk : (c.H k).mode with
          | dead => exact hm hmk
          | live => exact hother k hk hmk hc hl hx hb
          | froz => exact hnot hl hx (by rw [hb]; exact (h1.own hc).2 hmk)
        refine ⟨by rw [e1, e2]; exact h1.le, by rw [e1, e2, hS]; exact h1.own, by rw [e1, e2]; exact h1.rows.mono hle hblk, ?_, by rw [e1, e2]; exact h1.ex⟩
        rw [e1, e2]
        intro hn
        obtain ⟨cs, el, fz, a5, a6, a7⟩ := h1.room hn
        exact ⟨cs, el, fz, by rw [hblk]; exact a5, a6, a7⟩
  · by_cases hk : k = o
    · subst hk
      have hk' : k' ≠ k := Ne.symm hkk
      rw [hH] at hm hm'
      rw [Heap.set_ne _ _ hk'] at hm'
      rw [hφ] at hl hl' ⊢
      simp only [if_true, if_neg hk'] at hl hl' ⊢
      exact hother k' hk' hm' hl' hl (by simpa using hm)
    · by_cases hk' : k' = o
      · subst hk'
        rw [hH] at hm hm'
        rw [Heap.set_ne _ _ hk] at hm
        rw [hφ] at hl hl' ⊢
        simp only [if_true, if_neg hk] at hl hl' ⊢
        exact Ne.symm (hother k hk hm hl hl' (by simpa using hm'))
      · rw [hH] at hm hm'
        rw [Heap.set_ne _ _ hk] at hm
        rw [Heap.set_ne _ _ hk'] at hm'
        rw [hφ] at hl hl' ⊢
        simp only [if_neg hk, if_neg hk'] at hl hl' ⊢
        exact h.inj k k' hkk hm hm' hl hl'
  · by_cases hk : k = o
    · subst hk
      rw [hH] at hm
      rw [hφ] at hl ⊢
      simp only [if_true] at hl ⊢
      exact hown (by simpa using hm) hl
    · rw [hH, Heap.set_ne _ _ hk] at hm
      rw [hφ] at hl ⊢
      simp only [if_neg hk] at hl ⊢
      exact h.own k hm hl
  · refine ⟨hkeep.os.trans h.keep.os, hkeep.tape.trans h.keep.tape, hkeep.output.trans h.keep.output, Nat.le_trans h.keep.size hkeep.size, fun b hb hu => ?_, fun k cs e fz hk => by
      obtain ⟨cs1, h1, h2⟩ := h.keep.stay k cs e fz hk
      obtain ⟨cs2, h3, h4⟩ := hkeep.stay k cs1 e fz h1
      exact ⟨cs2, h3, h4.trans h2⟩⟩
    rw [hkeep.block b (Nat.lt_of_lt_of_le hb h.keep.size) ?_]
    · exact h.keep.block b hb hu
    · rintro ⟨hl, hlb, hx⟩
      rcases hown hx hl with h4 | h4
      · exact hu (by rw [← hlb]; exact h4)
      · omega
theorem HeapOk.update {S0 U0 : Nat → Prop} {w0 : World} {c c' : Ctx} (h : HeapOk S0 U0 w0 c) (o : Nat) (x : Obj) (loc : Loc)
    (hS : c'.S = c.S) (hH : c'.H = c.H.set o x) (hφ : c'.φ = fun k => if k = o then loc else c.φ k)
    (hkeep : Keep (fun b => loc.cap ≠ 0 ∧ loc.b = b ∧ x.mode = .live) c.w c'.w)
    (hgen : (c.H o).gen ≤ x.gen) (hsame : x.gen = (c.H o).gen → x.mode ≠ .dead → (c.H o).mode ≠ .dead ∧ loc = c.φ o ∧ x.st = (c.H o).st ∧ (c.H o).rows.length ≤ x.rows.length)
    (hok : CtxLe c c' → x.mode ≠ .dead → ObjOk c' o)
    (hloc : x.mode = .live → loc.cap ≠ 0 → (c.w.heap.size ≤ loc.b ∨ ((c.H o).mode = .live ∧ (c.φ o).cap ≠ 0 ∧ (c.φ o).b = loc.b))) :
    CtxLe c c' ∧ HeapOk S0 U0 w0 c' := by
  refine h.update' o x loc hS hH hφ hkeep hgen hsame hok (fun hl hm hs => ?_) (fun k hk hm hc hl hx e => ?_) (fun hx hl => ?_)
  · rcases hloc hm hl with h1 | ⟨h1, h2, h3⟩
    · exact absurd (h.stab _ hs) (by omega)
    · exact ((h.objs o (by rw [h1]; simp)).own h2).1 h1 (by rw [h3]; exact hs)
  · rcases hloc hx hl with h1 | ⟨h1, h2, h3⟩
    · have := ((h.objs k (by rw [hm]; simp)).room hc).lt
      omega
    · exact h.inj k o hk hm h1 hc h2 (by rw [h3, e])
  · rcases hloc hx hl with h1 | ⟨h1, h2, h3⟩
    · exact .inr (Nat.le_trans h.keep.size h1)
    · rw [← h3]; exact h.own o h1 h2
end Go.Am
