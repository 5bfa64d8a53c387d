import Derived.Test.YtclgfgnhcakhdaaGreatDoorAm1
namespace Go.Am
structure Env where
  P : Program
  Γ : Nat → Option (List AVal)
structure St where
  fr : Nat → AVal
  H : Heap
def upd (f : Nat → AVal) (t : Nat) (v : AVal) : Nat → AVal := fun k => if k = t then v else f k
def abs1 : Value → AVal
  | .bool b => .bool b
  | .int k n => .int k n
  | .string s => .str s.data.toList
  | v => .sc v
def absV : Value → AVal
  | .agg cs => .agg (cs.toList.map abs1)
  | v => abs1 v
def ev (Γ : Nat → Option (List AVal)) (fr : Nat → AVal) : Operand → AVal
  | .tmp t => fr t
  | .const v => absV v
  | .global g => match Γ g with
    | some cs => .iptr cs
    | none => .sc (.pointer (some ⟨g, 0, none⟩))
  | .func f => .fn (.func f) [] []
def AVal.cellsV : AVal → List AVal
  | .agg cs => cs
  | v => [v]
def AVal.boxable : AVal → Bool
  | .tup _ | .usl _ _ | .uptr _ | .junk => false
  | .sc v => v.oneCell'
  | _ => true
def AVal.one : AVal → Bool
  | .agg _ | .tup _ | .usl _ _ | .uptr _ | .junk => false
  | .sc v => v.oneCell'
  | _ => true
def mkV (g : Bool) (cs : List AVal) : AVal := if g then .agg cs else cs.headD .junk
def _root_.Go.Program.szO (P : Program) (t : TypeId) : Option Nat := (P.info? t).map (·.size)
def _root_.Go.Program.rowO (P : Program) (t : TypeId) : Option Bool := (P.underlying t).map TypeDesc.isRow
def _root_.Go.Program.zeroL (P : Program) (t : TypeId) : Option (List AVal) := ((P.info? t).bind (·.zero)).map fun z => (absV z).cellsV
def _root_.Go.Program.fldO (P : Program) (t : TypeId) (i : Nat) : Option (Nat × Nat × Bool) :=
  match P.underlying t with
  | some (.struct fs) => (fs[i]?).bind fun f => (P.szO f.type).bind fun n => if n = 0 then none else (P.rowO f.type).map fun g => (f.offset, n, g)
  | _ => none
def _root_.Go.Program.elemO (P : Program) (t : TypeId) : Option Nat :=
  match P.underlying t with
  | some (.slice e) => P.szO e
  | _ => none
def _root_.Go.Program.arrO (P : Program) (t : TypeId) : Option (Nat × Nat × Bool) :=
  match P.underlying t with
  | some (.array n e) => (P.szO e).bind fun k => (P.rowO e).map fun g => (n, k, g)
  | _ => none
def _root_.Go.Program.isStr (P : Program) (t : TypeId) : Bool := match P.underlying t with | some .string => true | _ => false
def AVal.obj (H : Heap) (o g : Nat) : Option Obj := if (H o).gen = g ∧ (H o).mode ≠ .dead then some (H o) else none
def loadC (H : Heap) (p : AVal) (n : Nat) : Option (List AVal) :=
  match p with
  | .ptr o g i j => (AVal.obj H o g).bind fun x => (x.rows[i]?).bind fun r => if j + n ≤ r.length then some ((r.drop j).take n) else none
  | .iptr cs => if n ≤ cs.length then some (cs.take n) else none
  | _ => none
def idsOf : AVal → List Nat
  | .ptr o _ _ _ => [o]
  | .osl o _ _ _ => [o]
  | _ => []
def putCells (r : List AVal) (j : Nat) (cs : List AVal) : List AVal := r.take j ++ cs ++ r.drop (j + cs.length)
def storeC (H : Heap) (p : AVal) (cs : List AVal) : Option (Nat × Obj) :=
  match p with
  | .ptr o g i j => (AVal.obj H o g).bind fun x => if x.mode = .live then (x.rows[i]?).bind fun r => if j + cs.length ≤ r.length then some (o, { x with rows := x.rows.set i (putCells r j cs) }) else none else none
  | _ => none
def site (dst : Option Tmp) : Nat := match dst with | some d => 100 + d | none => 99
def Heap.setAll (H : Heap) : List (Nat × Obj) → Heap
  | [] => H
  | (o, x) :: r => (H.set o x).setAll r
def newObj (H : Heap) (o st : Nat) (rows : List (List AVal)) : Obj := ⟨(H o).gen + 1, .live, st, rows, false⟩
def newObjX (H : Heap) (o st : Nat) (rows : List (List AVal)) (ex : Bool) : Obj := ⟨(H o).gen + 1, .live, st, rows, ex⟩
def Done (S0 U0 : Nat → Prop) (w0 : World) (c : Ctx) (r : Result Next) (v : AVal) (up : List (Nat × Obj)) : Prop :=
  ∃ x c', (r = .ok (.value x) c'.w ∨ (r = .ok .skip c'.w ∧ x = undef)) ∧ CtxLe c c' ∧ HeapOk S0 U0 w0 c' ∧ c'.H = c.H.setAll up ∧ VRel c' v x
section
variable {S0 U0 : Nat → Prop} {w0 : World} {c : Ctx}
theorem Done.pure {r : Result Next} {v : AVal} {x : Value} (h : HeapOk S0 U0 w0 c) (hr : r = .ok (.value x) c.w) (hv : VRel c v x) : Done S0 U0 w0 c r v [] :=
  ⟨x, c, .inl hr, CtxLe.refl c, h, rfl, hv⟩
theorem abs1_rel (c : Ctx) (v : Value) : VRel c (abs1 v) v := by
  cases v <;> simp [abs1, VRel]
theorem absl_rel (c : Ctx) : ∀ l : List Value, VRels c (l.map abs1) l
  | [] => by simp [VRels]
  | v :: l => ⟨v, l, rfl, abs1_rel c v, absl_rel c l⟩
theorem absV_rel (c : Ctx) (v : Value) : VRel c (absV v) v := by
  cases v <;> simp only [absV] <;> first | exact abs1_rel c _ | exact ⟨_, rfl, absl_rel c _⟩
theorem VRels.length_eq : ∀ {vs : List AVal} {xs : List Value}, VRels c vs xs → xs.length = vs.length
  | [], _, h => by simp only [VRels] at h; simp [h]
  | _ :: vs, _, ⟨y, ys, hx, _, h⟩ => by subst hx; simp [VRels.length_eq h]
theorem VRels.get : ∀ {vs : List AVal} {xs : List Value}, VRels c vs xs → ∀ (j : Nat) (v : AVal), vs[j]? = some v → ∃ x, xs[j]? = some x ∧ VRel c v x
  | [], _, _, j, v, hj => by simp at hj
  | u :: vs, _, ⟨y, ys, hx, h1, h2⟩, j, v, hj => by
    subst hx
    cases j with
    | zero => simp only [List.getElem?_cons_zero, Option.some.injEq] at hj; subst hj; exact ⟨y, rfl, h1⟩
    | succ j => simpa using VRels.get h2 j v (by simpa using hj)
theorem VRels.of : ∀ {vs : List AVal} {xs : List Value}, xs.length = vs.length → (∀ (j : Nat) (v : AVal) (x : Value), vs[j]? = some v → xs[j]? = some x → VRel c v x) → VRels c vs xs
  | [], xs, hl, _ => by simpa [VRels] using hl
  | v :: vs, [], hl, _ => by simp at hl
  | v :: vs, x :: xs, hl, h => ⟨x, xs, rfl, h 0 v x rfl rfl, VRels.of (by simpa using hl) fun j v x hj hx => h (j + 1) v x (by simpa using hj) (by simpa using hx)⟩
theorem VRels.append {vs us : List AVal} {xs ys : List Value} (h : VRels c vs xs) (k : VRels c us ys) : VRels c (vs ++ us) (xs ++ ys) := by
  induction vs generalizing xs with
  | nil => simp only [VRels] at h; subst h; simpa using k
  | cons v vs ih => obtain ⟨y, zs, rfl, h1, h2⟩ := h; exact ⟨y, zs ++ ys, rfl, h1, ih h2⟩
theorem VRels.take {vs : List AVal} {xs : List Value} (h : VRels c vs xs) (n : Nat) : VRels c (vs.take n) (xs.take n) := by
  induction vs generalizing xs n with
  | nil => simp only [VRels] at h; subst h; simp [VRels]
  | cons v vs ih =>
    obtain ⟨y, zs, rfl, h1, h2⟩ := h
    cases n with
    | zero => simp [VRels]
    | succ n => exact ⟨y, zs.take n, rfl, h1, ih h2 n⟩
theorem VRels.drop {vs : List AVal} {xs : List Value} (h : VRels c vs xs) (n : Nat) : VRels c (vs.drop n) (xs.drop n) := by
  induction vs generalizing xs n with
  | nil => simp only [VRels] at h; subst h; simp [VRels]
  | cons v vs ih =>
    obtain ⟨y, zs, rfl, h1, h2⟩ := h
    cases n with
    | zero => exact ⟨y, zs, rfl, h1, h2⟩
    | succ n => simpa using ih h2 n
theorem one_rel {v : AVal} {x : Value} (h : v.one = true) (hv : VRel c v x) : x.oneCell' = true := by
  cases v <;> simp [AVal.one] at h <;> simp only [VRel, CRel] at hv
  case bool => subst hv; rfl
  case int => subst hv; rfl
  case str => subst hv; rfl
  case sc => subst hv; exact h
  case ptr => obtain ⟨a, rfl, _⟩ := hv; rfl
  case iptr => obtain ⟨b, off, rfl, _⟩ := hv; rfl
  case slice => obtain ⟨b, off, rfl, _⟩ := hv; rfl
  case osl => obtain ⟨a, m, cap, rfl, _⟩ := hv; rfl
  case fn => obtain ⟨a, m, rfl, _⟩ := hv; rfl
  case iface => obtain ⟨a, rfl, _⟩ := hv; rfl
theorem cells_rel {v : AVal} {x : Value} (h : v.boxable = true) (hv : VRel c v x) : VRels c v.cellsV x.cells.toList := by
  cases v <;> simp [AVal.boxable] at h
  case agg => obtain ⟨xs, rfl, h1⟩ := hv; exact h1
  all_goals
    refine ⟨x, [], ?_, hv, rfl⟩
    simp only [VRel, CRel] at hv
  case bool => subst hv; rfl
  case int => subst hv; rfl
  case str => subst hv; rfl
  case sc v => subst hv; cases x <;> simp [Value.oneCell'] at h <;> rfl
  case ptr => obtain ⟨a, rfl, _⟩ := hv; rfl
  case iptr => obtain ⟨b, off, rfl, _⟩ := hv; rfl
  case slice => obtain ⟨b, off, rfl, _⟩ := hv; rfl
  case osl => obtain ⟨a, m, cap, rfl, _⟩ := hv; rfl
  case fn => obtain ⟨a, m, rfl, _⟩ := hv; rfl
  case iface => obtain ⟨a, rfl, _⟩ := hv; rfl
section
variable {P : Program} {w : World} {t : TypeId}
theorem run_szO {n : Nat} (h : P.szO t = some n) : (sizeOf t).run P w = .ok n w := by
  unfold Program.szO at h
  cases hi : P.info? t with
  | none => simp [hi] at h
  | some i => simp [hi] at h; simp [sizeOf, typeInfo, hi, h]
theorem run_rowO {g : Bool} (h : P.rowO t = some g) : (isAgg t).run P w = .ok g w := by
  unfold Program.rowO at h
  cases hu : P.underlying t with
  | none => simp [hu] at h
  | some d => simp [hu] at h; subst h; cases d <;> simp [isAgg, underlying, hu]
end
theorem AVal.obj_spec {H : Heap} {o g : Nat} {x : Obj} (h : AVal.obj H o g = some x) : (H o).gen = g ∧ (H o).mode ≠ .dead ∧ H o = x := by
  unfold AVal.obj at h
  split at h
  · rename_i hc; injection h with h; exact ⟨hc.1, hc.2, h⟩
  · cases h
theorem loadC_addr (h : HeapOk S0 U0 w0 c) {p : AVal} {x : Value} (hp : VRel c p x) {n : Nat} {cs : List AVal} (hl : loadC c.H p n = some cs) :
    ∃ b off, x = .pointer (some ⟨b, off, none⟩) ∧ CellsAt c b off cs ∧ cs.length = n := by
  cases p <;> simp only [loadC] at hl <;> try (cases hl; done)
  case ptr o g i j =>
    simp only [Option.bind_eq_some_iff] at hl
    obtain ⟨y, hy, r, hr, hl⟩ := hl
    obtain ⟨h1, h2, rfl⟩ := AVal.obj_spec hy
    split at hl
    case isFalse => cases hl
    rename_i hle
    injection hl with hl
    obtain ⟨a, rfl, _, ha⟩ := hp
    obtain rfl := ha h1.symm h2
    obtain ⟨hlen, hcells⟩ := (h.objs o h2).rows i r hr
    refine ⟨_, _, rfl, fun k v hk => ?_, by subst hl; simp; omega⟩
    subst hl
    have hk' : r[j + k]? = some v := by
      rw [List.getElem?_take] at hk
      split at hk
      · simpa using hk
      · cases hk
    obtain ⟨x, hx1, hx2⟩ := hcells (j + k) v hk'
    exact ⟨x, by rw [← hx1]; congr 2; omega, hx2⟩
  case iptr cs' =>
    split at hl
    case isFalse => cases hl
    rename_i hle
    injection hl with hl
    simp only [VRel, CRel] at hp
    obtain ⟨b, off, rfl, _, hc⟩ := hp
    refine ⟨b, off, rfl, fun k v hk => ?_, by subst hl; simp; omega⟩
    subst hl
    rw [List.getElem?_take] at hk
    split at hk
    · exact hc.toV k v hk
    · cases hk
theorem CellsAt.range {b off : Nat} {vs : List AVal} (h : CellsAt c b off vs) : ∃ xs : List Value, xs.length = vs.length ∧ c.w.rangeAt b off xs ∧ VRels c vs xs := by
  induction vs generalizing off with
  | nil => exact ⟨[], rfl, fun j v hj => by simp at hj, rfl⟩
  | cons v vs ih =>
    obtain ⟨x, hx, hv⟩ := h 0 v rfl
    obtain ⟨xs, h1, h2, h3⟩ := ih (off := off + 1) (fun j u hj => by
      rw [show off + 1 + j = off + (j + 1) by omega]; exact h (j + 1) u (by simpa using hj))
    refine ⟨x :: xs, by simp [h1], fun j u hj => ?_, x, xs, rfl, hv, h3⟩
    cases j with
    | zero => simp only [List.getElem?_cons_zero, Option.some.injEq] at hj; subst hj; exact hx
    | succ j => rw [show off + (j + 1) = off + 1 + j by omega]; exact h2 j u (by simpa using hj)
theorem run_load {P : Program} {t : TypeId} {n : Nat} {g : Bool} (hn : P.szO t = some n) (hg : P.rowO t = some g) (h1 : g = false → n = 1) {b off : Nat} {cs : List AVal} (hc : CellsAt c b off cs) (hl : cs.length = n) :
    ∃ x, (Instr.loadAt t (.pointer (some ⟨b, off, none⟩))).run P c.w = .ok x c.w ∧ VRel c (mkV g cs) x := by
  obtain ⟨xs, hx1, hx2, hx3⟩ := hc.range
  cases g with
  | true =>
    refine ⟨.agg xs.toArray, ?_, ⟨_, rfl, by simpa [mkV] using hx3⟩⟩
    obtain ⟨d, hd, hr⟩ : ∃ d, P.underlying t = some d ∧ d.isRow = true := by
      unfold Program.rowO at hg
      cases hu : P.underlying t with
      | none => simp [hu] at hg
      | some d => exact ⟨d, rfl, by simpa [hu] using hg⟩
    exact run_loadAt_mid c.w b off t xs d hx2 hd hr (by rw [hx1, hl]; exact hn)
  | false =>
    obtain rfl := h1 rfl
    match cs, hl, xs, hx1, hx3 with
    | [v], _, [x], _, ⟨_, _, hxx, hv, _⟩ =>
      simp only [List.cons.injEq] at hxx
      obtain ⟨rfl, _⟩ := hxx
      have := hx2 0 x rfl
      refine ⟨x, ?_, hv⟩
      simp only [Nat.add_zero] at this
      simp [Instr.loadAt, Instr.sureAddr, loadVar, run_rowO hg, this]
theorem setCell_heap_ne (w : World) (a : Addr) (v : Value) (b : Nat) (h : b ≠ a.block) : (w.setCell a v).heap[b]? = w.heap[b]? := by
  simp only [World.setCell, Array.getElem?_modify]
  rw [if_neg (fun e => h e.symm)]
theorem setCells_heap_ne (b : Nat) : ∀ (vs : List Value) (o : Nat) (w : World) (k : Nat), k ≠ b → (w.setCells b o vs).heap[k]? = w.heap[k]?
  | [], _, _, _, _ => rfl
  | v :: r, o, w, k, h => by rw [World.setCells, setCells_heap_ne b r (o + 1) _ k h]; exact setCell_heap_ne w _ v k h
theorem setCells_size (b : Nat) : ∀ (vs : List Value) (o : Nat) (w : World), (w.setCells b o vs).heap.size = w.heap.size
  | [], _, _ => rfl
  | v :: r, o, w => by rw [World.setCells, setCells_size b r (o + 1)]; simp [World.setCell]
theorem setCells_rest (b : Nat) : ∀ (vs : List Value) (o : Nat) (w : World), (w.setCells b o vs).os = w.os ∧ (w.setCells b o vs).tape = w.tape ∧ (w.setCells b o vs).output = w.output
  | [], _, _ => ⟨rfl, rfl, rfl⟩
  | v :: r, o, w => by rw [World.setCells]; exact setCells_rest b r (o + 1) _
theorem setCells_block (b : Nat) : ∀ (vs : List Value) (o : Nat) (w : World) (cs : Array Value) (e : TypeId) (fz : Nat × Nat), w.heap[b]? = some (.cells cs e fz) →
    ∃ cs' : Array Value, (w.setCells b o vs).heap[b]? = some (.cells cs' e fz) ∧ cs'.size = cs.size
  | [], _, _, cs, _, _, h => ⟨cs, h, rfl⟩
  | v :: r, o, w, cs, e, fz, h => by
    rw [World.setCells]
    have h1 : (w.setCell ⟨b, o, none⟩ v).heap[b]? = some (.cells (cs.setIfInBounds o v) e fz) := by
      simp [World.setCell, Array.getElem?_modify, h]
    obtain ⟨cs', h2, h3⟩ := setCells_block b r (o + 1) _ _ e fz h1
    exact ⟨cs', h2, by simpa using h3⟩
theorem setCells_stay (b : Nat) (vs : List Value) (o : Nat) (w : World) (k : Nat) (cs : Array Value) (e : TypeId) (fz : Nat × Nat) (h : w.heap[k]? = some (.cells cs e fz)) :
    ∃ cs' : Array Value, (w.setCells b o vs).heap[k]? = some (.cells cs' e fz) ∧ cs'.size = cs.size := by
  by_cases hk : k = b
  · subst hk; exact setCells_block k vs o w cs e fz h
  · exact ⟨cs, by rw [setCells_heap_ne b vs o w k hk]; exact h, rfl⟩
theorem Room.cell {w : World} {b n st : Nat} {l : Prop} (h : Room w b n st l) {off : Nat} (ho : off < n) : (w.cell? ⟨b, off, none⟩).isSome = true := by
  obtain ⟨cs, e, fz, hb, hn, _⟩ := h
  have : off < cs.size := by omega
  simp [World.cell?, hb, this]
theorem Room.free {w : World} {b n st : Nat} {l : Prop} (h : Room w b n st l) (hl : l) {off : Nat} (ho : off < n) : w.frozen? ⟨b, off, none⟩ = false := by
  obtain ⟨cs, e, fz, hb, hn, hf⟩ := h
  have := (hf hl).at off (by omega)
  simp only [World.frozen?, hb]
  simpa using this
theorem Room.there {w : World} {b n st : Nat} {l : Prop} (h : Room w b n st l) (hl : l) {off k : Nat} (ho : off + k ≤ n) : w.there b off k :=
  fun j hj => ⟨h.cell (by omega), h.free hl (by omega)⟩
theorem Room.setCells {w : World} {b n st : Nat} {l : Prop} (h : Room w b n st l) (o : Nat) (vs : List Value) : Room (w.setCells b o vs) b n st l := by
  obtain ⟨cs, e, fz, hb, hn, hf⟩ := h
  obtain ⟨cs', h1, h2⟩ := setCells_block b vs o w cs e fz hb
  exact ⟨cs', e, fz, h1, by omega, fun hl => by rw [h2]; exact hf hl⟩
theorem HeapOk.write (h : HeapOk S0 U0 w0 c) {o : Nat} (hm : (c.H o).mode = .live) (x : Obj) (hg : (c.H o).gen ≤ x.gen) (hxm : x.mode = .live) (hst : x.st = (c.H o).st) (hlen : (c.H o).rows.length ≤ x.rows.length) (hcap : x.rows.length ≤ (c.φ o).cap)
    {k : Nat} {vs : List AVal} {xs : List Value} (hv : VRels c vs xs) (hk : k + vs.length ≤ (c.φ o).cap * (c.H o).st) (hne : (c.φ o).cap ≠ 0)
    (hrow : ∀ i r, x.rows[i]? = some r → r.length = x.st ∧ ∀ j v, r[j]? = some v →
      (∃ q, i * x.st + j = k + q ∧ vs[q]? = some v) ∨ ((i * x.st + j < k ∨ k + vs.length ≤ i * x.st + j) ∧ ∃ r', (c.H o).rows[i]? = some r' ∧ r'[j]? = some v))
    (hex : x.exact = true → x.rows.length = (c.φ o).cap) :
    CtxLe c { c with w := c.w.setCells (c.φ o).b ((c.φ o).base + k) xs, H := c.H.set o x } ∧
    HeapOk S0 U0 w0 { c with w := c.w.setCells (c.φ o).b ((c.φ o).base + k) xs, H := c.H.set o x } := by
  have ho := h.objs o (by rw [hm]; simp)
  have hroom := ho.room hne
  have hxl := hv.length_eq
  obtain ⟨q1, q2, q3⟩ := setCells_rest (c.φ o).b xs ((c.φ o).base + k) c.w
  refine h.update o x (c.φ o) rfl rfl (by funext j; split <;> simp_all) ⟨q1, q2, q3, Nat.le_of_eq (setCells_size _ _ _ _).symm, fun b hb hn => setCells_heap_ne _ _ _ _ _ (fun e => hn ⟨hne, e.symm, hxm⟩), fun k cs e fz hk => let ⟨cs', h1, h2⟩ := setCells_stay _ _ _ _ k cs e fz hk; ⟨cs', h1, h2⟩⟩
    hg (fun _ _ => ⟨by rw [hm]; simp, rfl, hst, hlen⟩) (fun hle _ => ?_) (fun _ _ => .inr ⟨hm, hne, rfl⟩)
  have hS : ∀ b, c.S b → b ≠ (c.φ o).b := fun b hb e => (ho.own hne).1 hm (by rw [← e]; exact hb)
  refine ⟨by simpa using hcap, fun _ => ⟨fun _ => (ho.own hne).1 hm, fun hf => ?_⟩, fun i r hi => ?_, fun _ => ?_, by simpa using hex⟩
  · simp [hxm] at hf
  · simp only [Heap.set_same] at hi ⊢
    obtain ⟨h1, h2⟩ := hrow i r hi
    refine ⟨h1, fun j v hj => ?_⟩
    rcases h2 j v hj with ⟨q, e1, e2⟩ | ⟨e1, r', e2, e3⟩
    · obtain ⟨y, hy1, hy2⟩ := hv.get q v e2
      have hq : q < xs.length := (List.getElem?_eq_some_iff.1 hy1).1
      refine ⟨y, ?_, VRel.mono hle v y hy2⟩
      rw [show (c.φ o).base + i * x.st + j = ((c.φ o).base + k) + q by omega]
      rw [World.cell?_setCells_in _ xs _ c.w (fun j hj => hroom.cell (by omega)) q hq]
      rw [← hy1, List.getElem?_eq_getElem hq]
    · obtain ⟨_, h4⟩ := ho.rows i r' e2
      obtain ⟨y, hy1, hy2⟩ := h4 j v e3
      refine ⟨y, ?_, VRel.mono hle v y hy2⟩
      rw [← hst] at hy1
      rw [← hy1]
      refine World.cell?_setCells_out _ xs _ c.w _ (fun _ _ => ?_)
      show (c.φ o).base + i * x.st + j < _ ∨ _ ≤ (c.φ o).base + i * x.st + j
      omega
  · simp only [Heap.set_same, hst, hxm]
    obtain ⟨cs, e, fz, a1, a2, a3⟩ := hroom
    obtain ⟨cs', b1, b2⟩ := setCells_block (c.φ o).b xs ((c.φ o).base + k) c.w cs e fz a1
    exact ⟨cs', e, fz, b1, by omega, fun _ => by rw [b2]; exact a3 hm⟩
theorem storeC_sound (h : HeapOk S0 U0 w0 c) {p : AVal} {x : Value} (hp : VRel c p x) {cs : List AVal} {o : Nat} {y : Obj} (hs : storeC c.H p cs = some (o, y)) {xs : List Value} (hv : VRels c cs xs) :
    ∃ b off, x = .pointer (some ⟨b, off, none⟩) ∧ c.w.there b off xs.length ∧
      CtxLe c { c with w := c.w.setCells b off xs, H := c.H.set o y } ∧ HeapOk S0 U0 w0 { c with w := c.w.setCells b off xs, H := c.H.set o y } := by
  cases p <;> simp only [storeC] at hs <;> try (cases hs; done)
  case ptr o' g i j =>
    simp only [Option.bind_eq_some_iff] at hs
    obtain ⟨z, hz, hs⟩ := hs
    obtain ⟨h1, h2, rfl⟩ := AVal.obj_spec hz
    split at hs
    case isFalse => cases hs
    rename_i hm
    simp only [Option.bind_eq_some_iff] at hs
    obtain ⟨r, hr, hs⟩ := hs
    split at hs
    case isFalse => cases hs
    rename_i hle
    simp only [Option.some.injEq, Prod.mk.injEq] at hs
    obtain ⟨rfl, rfl⟩ := hs
    obtain ⟨a, rfl, _, ha⟩ := hp
    obtain rfl := ha h1.symm h2
    have ho := h.objs o' h2
    have hi : i < (c.H o').rows.length := (List.getElem?_eq_some_iff.1 hr).1
    have hrl := (ho.rows i r hr).1
    have hcap := ho.le
    have hne : (c.φ o').cap ≠ 0 := by omega
    have hb : i * (c.H o').st + (c.H o').st ≤ (c.φ o').cap * (c.H o').st := by
      rw [← Nat.succ_mul]; exact Nat.mul_le_mul_right _ (by omega)
    have hxl := hv.length_eq
    refine ⟨_, _, rfl, (ho.room hne).there hm (by omega), ?_⟩
    have key := HeapOk.write h hm { c.H o' with rows := (c.H o').rows.set i (putCells r j cs) } (Nat.le_refl _) hm rfl (by simp) (by simpa using hcap) (k := i * (c.H o').st + j) hv (by omega) hne (fun i' r' hi' => ?_)
    · exact key (fun e => by simpa using ho.ex e)
    · simp only [List.getElem?_set] at hi'
      by_cases hii : i = i'
      · subst hii
        simp only [if_true, hi, Option.some.injEq] at hi'
        subst hi'
        refine ⟨by simp [putCells]; omega, fun j' v hj' => ?_⟩
        have hput : (putCells r j cs)[j']? = if j' < j then r[j']? else if j' < j + cs.length then cs[j' - j]? else r[j']? := by
          unfold putCells
          rw [List.getElem?_append, List.getElem?_append]
          simp only [List.length_append, List.length_take, Nat.min_eq_left (show j ≤ r.length by omega)]
          by_cases q1 : j' < j
          · rw [if_pos (by omega), if_pos q1, if_pos q1, List.getElem?_take, if_pos q1]
          · by_cases q2 : j' < j + cs.length
            · rw [if_pos q2, if_neg q1, if_neg q1, if_pos q2]
            · rw [if_neg q2, if_neg q1, if_neg q2, List.getElem?_drop]; congr 1; omega
        rw [hput] at hj'
        split at hj'
        · right; exact ⟨.inl (by dsimp only; omega), r, hr, hj'⟩
        · split at hj'
          · left; exact ⟨j' - j, by dsimp only; omega, hj'⟩
          · right; exact ⟨.inr (by dsimp only; omega), r, hr, hj'⟩
      · rw [if_neg hii] at hi'
        refine ⟨(ho.rows i' r' hi').1, fun j' v hj' => .inr ⟨?_, r', hi', hj'⟩⟩
        have hj2 : j' < (c.H o').st := by rw [← (ho.rows i' r' hi').1]; exact (List.getElem?_eq_some_iff.1 hj').1
        show i' * (c.H o').st + j' < _ ∨ _ ≤ i' * (c.H o').st + j'
        rcases Nat.lt_or_gt_of_ne hii with hlt | hgt
        · right
          have : (i + 1) * (c.H o').st ≤ i' * (c.H o').st := Nat.mul_le_mul_right _ hlt
          rw [Nat.succ_mul] at this
          omega
        · left
          have : (i' + 1) * (c.H o').st ≤ i * (c.H o').st := Nat.mul_le_mul_right _ hgt
          rw [Nat.succ_mul] at this
          omega
theorem HeapOk.drew (h : HeapOk S0 U0 w0 c) : CtxLe c { c with w := c.w.drew } ∧ HeapOk S0 U0 w0 { c with w := c.w.drew } :=
  have hle : CtxLe c { c with w := c.w.drew } := ⟨fun _ hb => hb, fun _ _ => rfl, fun _ => ⟨Nat.le_refl _, fun _ hm => ⟨hm, rfl, rfl, Nat.le_refl _⟩⟩⟩
  ⟨hle, h.stab, h.orig, fun o hm => ⟨(h.objs o hm).le, (h.objs o hm).own, (h.objs o hm).rows.mono hle rfl, (h.objs o hm).room, (h.objs o hm).ex⟩, h.inj, h.own, h.keep.drew⟩
theorem Array.get_push_lt {α : Type} (a : Array α) (x : α) (k : Nat) (h : k < a.size) : (a.push x)[k]? = a[k]? := by
  rw [Array.getElem?_push, if_neg (by omega)]
theorem HeapOk.allocX (h : HeapOk S0 U0 w0 c) (o st : Nat) (ex : Bool) (rows : List (List AVal)) (arr : Array Value) (elem : TypeId) (cap : Nat) (hcap : rows.length ≤ cap) (harr : cap * st ≤ arr.size)
    (hrow : ∀ i r, rows[i]? = some r → r.length = st ∧ ∀ j v, r[j]? = some v → ∃ x, arr[i * st + j]? = some x ∧ VRel c v x) (hex : ex = true → rows.length = cap) :
    CtxLe c ⟨c.S, c.w.alloc (.cells arr elem), fun k => if k = o then ⟨c.w.heap.size, 0, cap⟩ else c.φ k, c.H.set o (newObjX c.H o st rows ex)⟩ ∧
    HeapOk S0 U0 w0 ⟨c.S, c.w.alloc (.cells arr elem), fun k => if k = o then ⟨c.w.heap.size, 0, cap⟩ else c.φ k, c.H.set o (newObjX c.H o st rows ex)⟩ := by
  have hnew : (c.w.alloc (.cells arr elem)).heap[c.w.heap.size]? = some (.cells arr elem) := by
    show (c.w.heap.push _)[c.w.heap.size]? = _
    simp
  refine h.update o (newObjX c.H o st rows ex) ⟨c.w.heap.size, 0, cap⟩ rfl rfl rfl (Keep.same rfl rfl rfl (by simp) (fun b hb => by show (c.w.heap.push _)[b]? = _; exact Array.get_push_lt _ _ _ hb))
    (by simp [newObjX]) (fun hg => by simp [newObjX] at hg) (fun hle _ => ?_) (fun _ _ => .inl (Nat.le_refl _))
  refine ⟨by simpa [newObjX] using hcap, fun _ => ⟨fun _ hs => ?_, fun hf => by simp [newObjX] at hf⟩, fun i r hi => ?_, fun _ => ?_, by simpa [newObjX] using hex⟩
  · simp only [if_true] at hs
    exact absurd (h.stab _ hs) (by omega)
  · simp only [Heap.set_same, newObjX, if_true] at hi ⊢
    obtain ⟨h1, h2⟩ := hrow i r hi
    refine ⟨h1, fun j v hj => ?_⟩
    obtain ⟨x, hx, hv⟩ := h2 j v hj
    exact ⟨x, by simp [hx], VRel.mono hle v x hv⟩
  · simp only [Heap.set_same, newObjX, if_true]
    exact ⟨arr, elem, (0, 0), hnew, by omega, fun _ => Free.zero _ _⟩
theorem HeapOk.alloc (h : HeapOk S0 U0 w0 c) (o st : Nat) (rows : List (List AVal)) (arr : Array Value) (elem : TypeId) (cap : Nat) (hcap : rows.length ≤ cap) (harr : cap * st ≤ arr.size)
    (hrow : ∀ i r, rows[i]? = some r → r.length = st ∧ ∀ j v, r[j]? = some v → ∃ x, arr[i * st + j]? = some x ∧ VRel c v x) :
    CtxLe c ⟨c.S, c.w.alloc (.cells arr elem), fun k => if k = o then ⟨c.w.heap.size, 0, cap⟩ else c.φ k, c.H.set o (newObj c.H o st rows)⟩ ∧
    HeapOk S0 U0 w0 ⟨c.S, c.w.alloc (.cells arr elem), fun k => if k = o then ⟨c.w.heap.size, 0, cap⟩ else c.φ k, c.H.set o (newObj c.H o st rows)⟩ :=
  h.allocX o st false rows arr elem cap hcap harr hrow (fun e => by simp at e)
theorem ptr_new (c' : Ctx) {o b st cap : Nat} {rows : List (List AVal)} {H : Heap} (hφ : c'.φ o = ⟨b, 0, cap⟩) (hH : c'.H o = newObj H o st rows) :
    VRel c' (.ptr o ((H o).gen + 1) 0 0) (.pointer (some ⟨b, 0, none⟩)) :=
  ⟨_, rfl, by rw [hH]; exact Nat.le_refl _, fun _ _ => by rw [hφ, hH]; simp⟩
theorem osl_newX (c' : Ctx) {o b st cap n : Nat} {rows : List (List AVal)} {H : Heap} {ex : Bool} (hφ : c'.φ o = ⟨b, 0, cap⟩) (hH : c'.H o = newObjX H o st rows ex) (hn : n ≤ rows.length) :
    VRel c' (.osl o ((H o).gen + 1) 0 n) (.slice (some ⟨b, 0, none⟩) n cap) :=
  ⟨_, _, _, rfl, by rw [hH]; exact Nat.le_refl _, fun _ _ => ⟨rfl, by rw [hH]; simpa [newObjX] using hn, by rw [hφ]; simp, fun _ => by rw [hφ]; simp⟩⟩
theorem osl_new (c' : Ctx) {o b st cap n : Nat} {rows : List (List AVal)} {H : Heap} (hφ : c'.φ o = ⟨b, 0, cap⟩) (hH : c'.H o = newObj H o st rows) (hn : n ≤ rows.length) :
    VRel c' (.osl o ((H o).gen + 1) 0 n) (.slice (some ⟨b, 0, none⟩) n cap) :=
  ⟨_, _, _, rfl, by rw [hH]; exact Nat.le_refl _, fun _ _ => ⟨rfl, by rw [hH]; simpa [newObj] using hn, by rw [hφ]; simp, fun _ => by rw [hφ]; simp⟩⟩
end
end Go.Am
