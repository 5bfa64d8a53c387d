import Derived.Test.YtclgfgnhcakhdaaGreatDoorAm3
import Derived.Lib.AppendZerosOnto
namespace Go.Am
set_option linter.unusedSimpArgs false
set_option linter.unusedSectionVars false
theorem flat_length {size : Nat} : ∀ {es : List (List AVal)}, (∀ r ∈ es, r.length = size) → es.flatten.length = es.length * size
  | [], _ => by simp
  | r :: es, h => by
    have := flat_length (es := es) (fun r' hr' => h r' (List.mem_cons_of_mem _ hr'))
    simp only [List.flatten_cons, List.length_append, List.length_cons, this, h r (List.mem_cons_self ..)]
    rw [Nat.succ_mul]; omega
theorem flat_get {size : Nat} : ∀ {es : List (List AVal)}, (∀ r ∈ es, r.length = size) → ∀ (i : Nat) (r : List AVal), es[i]? = some r → ∀ j, j < size → es.flatten[i * size + j]? = r[j]?
  | [], _, i, r, hi, _, _ => by simp at hi
  | q :: es, h, i, r, hi, j, hj => by
    have hq := h q (List.mem_cons_self ..)
    cases i with
    | zero =>
      simp only [List.getElem?_cons_zero, Option.some.injEq] at hi
      subst hi
      simp only [Nat.zero_mul, Nat.zero_add, List.flatten_cons]
      rw [List.getElem?_append_left (by omega)]
    | succ i =>
      have := flat_get (es := es) (fun r' hr' => h r' (List.mem_cons_of_mem _ hr')) i r (by simpa using hi) j hj
      simp only [List.flatten_cons]
      rw [List.getElem?_append_right (by rw [Nat.succ_mul]; omega), ← this]
      congr 1
      rw [Nat.succ_mul]; omega
theorem flat_take {size : Nat} : ∀ {es : List (List AVal)}, (∀ r ∈ es, r.length = size) → ∀ m, (es.take m).flatten = es.flatten.take (m * size)
  | [], _, m => by simp
  | q :: es, h, m => by
    have hq := h q (List.mem_cons_self ..)
    cases m with
    | zero => simp
    | succ m =>
      have := flat_take (es := es) (fun r' hr' => h r' (List.mem_cons_of_mem _ hr')) m
      simp only [List.take_succ_cons, List.flatten_cons, this]
      rw [List.take_append, List.take_of_length_le (l := q) (by rw [Nat.succ_mul]; omega)]
      congr 2
      rw [Nat.succ_mul]; omega
def SrcR (P : Program) (H : Heap) (t : TypeId) (size : Nat) (x : AVal) (es : List (List AVal)) (rd : List Nat) : Prop :=
  match x with
  | .slice st es' => es = es' ∧ (st = size ∨ es = []) ∧ rd = []
  | .osl o g i n => ∃ y, AVal.obj H o g = some y ∧ y.st = size ∧ i + n ≤ y.rows.length ∧ es = (y.rows.drop i).take n ∧ rd = [o]
  | .str l => P.isStr t = true ∧ size = 1 ∧ es = l.map (fun b => [.int .u8 (b.toNat : Int)]) ∧ rd = []
  | .sc (.slice none 0 0) => es = [] ∧ rd = []
  | .sc (.slice (some _) 0 _) => es = [] ∧ rd = []
  | _ => False
def byteRow (b : UInt8) : List AVal := [.int .u8 (b.toNat : Int)]
def _root_.Go.Program.elemBytes (P : Program) (t : TypeId) : Option Nat :=
  match P.underlying t with
  | some (.slice e) => (P.info? e).map (·.bytes)
  | _ => none
def _root_.Go.Program.elemZero (P : Program) (t : TypeId) : Option (List AVal) :=
  match P.underlying t with
  | some (.slice e) => P.zeroL e
  | _ => none
def _root_.Go.Program.isInt (P : Program) (t : TypeId) : Bool := match P.underlying t with | some (.int _) => true | _ => false
def _root_.Go.Program.isBytes (P : Program) (t : TypeId) : Bool :=
  match P.underlying t with
  | some (.slice e) => (match P.underlying e with | some (.int .u8) => true | _ => false) && (P.szO e == some 1)
  | _ => false
def ones (es : List (List AVal)) : Bool := es.all fun r => r.all AVal.one
def ActZ (P : Program) (tys : Array TypeId) (dst : Option Tmp) (s x : AVal) (H : Heap) (v : AVal) (rd : List Nat) (up : List (Nat × Obj)) : Prop :=
  ∃ t u size bytes z o g i n kk k y, tys = #[t, u] ∧ P.elemO t = some size ∧ P.elemBytes t = some bytes ∧ P.elemZero t = some z ∧ z.length = size ∧ 0 < size ∧ P.isInt u = true ∧
    s = .osl o g i n ∧ x = .int kk (k : Nat) ∧ AVal.obj H o g = some y ∧ y.st = size ∧ i + n ≤ y.rows.length ∧ (n + k) * bytes ≤ 140737488355328 ∧ n + k ≤ 9223372036854775807 ∧
    ((y.exact = true ∧ y.rows.length < i + n + k ∧ v = .osl (site dst) ((H (site dst)).gen + 1) 0 (n + k) ∧ rd = [site dst, o] ∧ up = [(site dst, newObj H (site dst) size ((y.rows.drop i).take n ++ List.replicate k z))]) ∨
     (y.mode = .live ∧ ones (List.replicate k z) = true ∧ v = .osl o (g + 1) 0 (n + k) ∧ rd = [o] ∧ up = [(o, ⟨g + 1, .live, size, (y.rows.drop i).take n ++ List.replicate k z, false⟩)]))
def ActP (P : Program) (tys : Array TypeId) (s x : AVal) (H : Heap) (v : AVal) (rd : List Nat) (up : List (Nat × Obj)) : Prop :=
  ∃ t u size es rd' o g i n y, tys = #[t, u] ∧ P.elemO t = some size ∧ P.isInt u = false ∧ (P.underlying u).isSome = true ∧ SrcR P H u size x es rd' ∧ ones es = true ∧
    s = .osl o g i n ∧ AVal.obj H o g = some y ∧ y.mode = .live ∧ y.st = size ∧ i + n + es.length ≤ y.rows.length ∧ v = .osl o g i (n + es.length) ∧ rd = o :: rd' ∧
    up = [(o, { y with rows := y.rows.take (i + n) ++ es ++ y.rows.drop (i + n + es.length) })]
def ActCl (P : Program) (tys : Array TypeId) (x : AVal) (H : Heap) (v : AVal) (rd : List Nat) (up : List (Nat × Obj)) : Prop :=
  ∃ t size z o g i n y, tys[0]? = some t ∧ P.elemO t = some size ∧ P.elemZero t = some z ∧ z.length = size ∧ ones [z] = true ∧ x = .osl o g i n ∧ AVal.obj H o g = some y ∧ y.mode = .live ∧ y.st = size ∧ i + n ≤ y.rows.length ∧
    v = .tup [] ∧ rd = [o] ∧ up = [(o, { y with rows := y.rows.take i ++ List.replicate n z ++ y.rows.drop (i + n) })]
def ActB (P : Program) (b : Builtin) (tys : Array TypeId) (dst : Option Tmp) (xs : List AVal) (H : Heap) (v : AVal) (rd : List Nat) (up : List (Nat × Obj)) : Prop :=
  match b, xs with
  | .len, [x] => up = [] ∧ ∃ t, tys[0]? = some t ∧
      match x with
      | .str l => P.isStr t = true ∧ rd = [] ∧ v = .int .i64 (l.length : Int)
      | .slice _ es => (P.elemO t).isSome = true ∧ rd = [] ∧ v = .int .i64 (es.length : Int)
      | .osl o g _ n => (P.elemO t).isSome = true ∧ rd = [o] ∧ (AVal.obj H o g).isSome = true ∧ v = .int .i64 (n : Int)
      | .sc (.slice none 0 0) => (P.elemO t).isSome = true ∧ rd = [] ∧ v = .int .i64 0
      | .agg _ => ∃ n k g, P.arrO t = some (n, k, g) ∧ rd = [] ∧ v = .int .i64 (n : Int)
      | _ => False
  | .cap, [x] => up = [] ∧ ∃ t o g i n, tys[0]? = some t ∧ x = .osl o g i n ∧ (P.elemO t).isSome = true ∧ rd = [o] ∧ ∃ y, AVal.obj H o g = some y ∧ y.exact = true ∧ v = .int .i64 ((y.rows.length - i : Nat) : Int)
  | .max, [.int k a, .int _ b] => rd = [] ∧ up = [] ∧ v = .int k (if b > a then b else a)
  | .min, [.int k a, .int _ b] => rd = [] ∧ up = [] ∧ v = .int k (if b < a then b else a)
  | .clear, [x] => ActCl P tys x H v rd up
  | .append, [s, x] => ActZ P tys dst s x H v rd up ∨ ActP P tys s x H v rd up ∨ ∃ t u size bytes z es rd', tys = #[t, u] ∧ P.elemO t = some size ∧ P.elemBytes t = some bytes ∧ P.elemZero t = some z ∧ z.length = size ∧ P.isInt u = false ∧ (P.underlying u).isSome = true ∧
      SrcR P H u size x es rd' ∧ ones es = true ∧
      match s with
      | .sc (.slice none 0 0) => es.length * bytes ≤ 140737488355328 ∧ es.length ≤ 9223372036854775807 ∧ v = .osl (site dst) ((H (site dst)).gen + 1) 0 es.length ∧ rd = site dst :: rd' ∧ up = [(site dst, newObj H (site dst) size es)]
      | .osl o g i n => ∃ y, AVal.obj H o g = some y ∧ y.mode = .live ∧ y.st = size ∧ i + n ≤ y.rows.length ∧ (n + es.length) * bytes ≤ 140737488355328 ∧ n + es.length ≤ 9223372036854775807 ∧
          v = .osl o (g + 1) 0 (n + es.length) ∧ rd = o :: rd' ∧ up = [(o, ⟨g + 1, .live, size, (y.rows.drop i).take n ++ es, false⟩)]
      | _ => False
  | .copy, [d, x] => ∃ t u size es rd', tys = #[t, u] ∧ P.elemO t = some size ∧ SrcR P H u size x es rd' ∧
      match d with
      | .osl o g i n => ∃ y, AVal.obj H o g = some y ∧ y.mode = .live ∧ y.st = size ∧ i + n ≤ y.rows.length ∧ ones (es.take (min es.length n)) = true ∧ v = .int .i64 ((min es.length n : Nat) : Int) ∧ rd = o :: rd' ∧
          up = [(o, { y with rows := y.rows.take i ++ es.take (min es.length n) ++ y.rows.drop (i + min es.length n) })]
      | _ => False
  | _, _ => False
def fillA (place : Nat → Option (Nat × Nat)) (cells : List AVal) : List (Nat × AVal) → Option (List AVal)
  | [] => some cells
  | (i, v) :: rest => (place i).bind fun p => if v.boxable = true ∧ v.cellsV.length = p.2 ∧ p.1 + p.2 ≤ cells.length then fillA place (putCells cells p.1 v.cellsV) rest else none
def fillR (st : Nat) (rows : List (List AVal)) : List (Nat × AVal) → Option (List (List AVal))
  | [] => some rows
  | (i, v) :: rest => if v.boxable = true ∧ v.cellsV.length = st ∧ i < rows.length then fillR st (rows.set i v.cellsV) rest else none
def _root_.Go.Program.places (P : Program) (t : TypeId) : Nat → Option (Nat × Nat) :=
  match P.underlying t with
  | some (.struct fs) => match fs.toList.mapM (fun f => (P.info? f.type).map fun i => (f.offset, i.size)) with
    | some ps => fun i => ps[i]?
    | none => fun _ => none
  | some (.array _ e) => match P.szO e with
    | some k => fun i => some (i * k, k)
    | none => fun _ => none
  | _ => fun _ => none
def _root_.Go.Program.isComp (P : Program) (t : TypeId) : Bool :=
  match P.underlying t with
  | some (.struct fs) => (fs.toList.mapM (fun f => (P.info? f.type).map fun i => (f.offset, i.size))).isSome
  | some (.array _ e) => (P.szO e).isSome
  | _ => false
def nil1 (st : Nat) : AVal → AVal
  | .sc (.slice none 0 0) => .slice st []
  | v => v
def nilAt : Nat → Nat → List AVal → List AVal
  | _, _, [] => []
  | 0, st, v :: vs => nil1 st v :: vs
  | i + 1, st, v :: vs => v :: nilAt i st vs
def nilD : List (Nat × Nat) → Nat → List AVal → List AVal
  | [], _, cs => cs
  | p :: l, d, cs => if p.1 = d then nilD l d (nilAt (p.2 / 100) (p.2 % 100) cs) else nilD l d cs
def nilO (l : List (Nat × Nat)) (dst : Option Tmp) (cs : List AVal) : List AVal := match dst with | none => cs | some d => nilD l d cs
def Act2 (P : Program) (op : Op) (dst : Option Tmp) (ρ : Operand → AVal) (H : Heap) (v : AVal) (rd : List Nat) (up : List (Nat × Obj)) : Prop :=
  match op with
  | .makeSlice t l c => ∃ kl nl kc nc size bytes z, ρ l = .int kl nl ∧ ρ c = .int kc nc ∧ 0 ≤ nl ∧ nl ≤ nc ∧ P.elemO t = some size ∧ 0 < size ∧ P.elemBytes t = some bytes ∧ P.elemZero t = some z ∧ z.length = size ∧
      (bytes : Int) * nc ≤ 281474976710656 ∧ nc ≤ 9223372036854775807 ∧ v = .osl (site dst) ((H (site dst)).gen + 1) 0 nl.toNat ∧ rd = [site dst] ∧ up = [(site dst, newObjX H (site dst) size (List.replicate nl.toNat z) (decide (nl = nc)))]
  | .convert s d x => (match ρ x with
      | .str l => P.isStr s = true ∧ P.isBytes d = true ∧ l.length ≤ 9223372036854775807 ∧ v = .osl (site dst) ((H (site dst)).gen + 1) 0 l.length ∧ rd = [site dst] ∧ up = [(site dst, newObj H (site dst) 1 (l.map byteRow))]
      | y => P.isBytes s = true ∧ P.isStr d = true ∧ up = [] ∧ ∃ l, SrcR P H s 1 y (l.map byteRow) rd ∧ v = .str l)
  | .build t ps => ∃ z cs, P.isComp t = true ∧ P.zeroL t = some z ∧ fillA (P.places t) z (ps.toList.map fun p => (p.1, ρ p.2)) = some cs ∧ (∃ l d, v = .agg (nilO l d cs)) ∧ rd = [] ∧ up = []
  | .buildSlice t len ps => ∃ size z rows, P.elemO t = some size ∧ 0 < size ∧ P.elemZero t = some z ∧ z.length = size ∧ len * size ≤ 16777216 ∧ fillR size (List.replicate len z) (ps.toList.map fun p => (p.1, ρ p.2)) = some rows ∧
      v = .osl (site dst) ((H (site dst)).gen + 1) 0 len ∧ rd = [site dst] ∧ up = [(site dst, newObj H (site dst) size rows)]
  | _ => False
section
variable {S0 U0 : Nat → Prop} {w0 : World} {c : Ctx}
structure SrcOk (P : Program) (c : Ctx) (size : Nat) (es : List (List AVal)) (x : Value) (news : List Value) : Prop where
  len : ∀ r ∈ es, r.length = size
  rel : VRels c es.flatten news
  lenOf : ∀ w, (Builtin.lenOf x).run P w = .ok es.length w
  first : ∀ w m, (∀ a, w.cell? a = c.w.cell? a) → m ≤ es.length → (Builtin.firstCells size m x).run P w = .ok (news.take (m * size)).toArray w
theorem RowsAt.flat {b off st : Nat} : ∀ {es : List (List AVal)}, RowsAt c b off st es → (∀ r ∈ es, r.length = st) ∧ CellsAt c b off es.flatten := by
  intro es h
  have hl : ∀ r ∈ es, r.length = st := fun r hr => by
    obtain ⟨i, hi⟩ := List.getElem?_of_mem hr
    exact (h i r hi).1
  refine ⟨hl, fun k v hk => ?_⟩
  have hkl : k < es.length * st := by rw [← flat_length hl]; exact (List.getElem?_eq_some_iff.1 hk).1
  have hst : 0 < st := by
    rcases Nat.eq_zero_or_pos st with h0 | h0
    · subst h0; simp at hkl
    · exact h0
  have hi : k / st < es.length := Nat.div_lt_of_lt_mul (by rw [Nat.mul_comm]; exact hkl)
  have hmod := Nat.mod_lt k hst
  have hdm : k / st * st + k % st = k := by rw [Nat.mul_comm]; exact Nat.div_add_mod k st
  obtain ⟨_, h2⟩ := h (k / st) es[k / st] (List.getElem?_eq_getElem hi)
  have h3 := flat_get hl (k / st) es[k / st] (List.getElem?_eq_getElem hi) (k % st) hmod
  rw [hdm, hk] at h3
  obtain ⟨x, hx, hv⟩ := h2 (k % st) v h3.symm
  exact ⟨x, by rw [← hx]; congr 2; omega, hv⟩
theorem CellsAt.take {b off : Nat} {vs : List AVal} (h : CellsAt c b off vs) (n : Nat) : CellsAt c b off (vs.take n) := fun j v hj => by
  rw [List.getElem?_take] at hj
  split at hj
  · exact h j v hj
  · cases hj
theorem first_of_cells {P : Program} {b off size cap len : Nat} {es : List (List AVal)} (hl : ∀ r ∈ es, r.length = size) (hc : CellsAt c b off es.flatten) :
    ∃ news, VRels c es.flatten news ∧ ∀ w m, (∀ a, w.cell? a = c.w.cell? a) → m ≤ es.length → (Builtin.firstCells size m (.slice (some ⟨b, off, none⟩) len cap)).run P w = .ok (news.take (m * size)).toArray w := by
  obtain ⟨xs, h1, h2, h3⟩ := hc.range
  refine ⟨xs, h3, fun w m hw hm => ?_⟩
  refine run_firstCells_some (P := P) w size m _ _ _ (xs.take (m * size)) ?_ (fun j v hj => ?_)
  · rw [List.length_take, h1, flat_length hl]
    exact Nat.min_eq_left (Nat.mul_le_mul_right _ hm)
  · rw [List.getElem?_take] at hj
    split at hj
    · rw [hw, Addr.add_lit]; exact h2 j v hj
    · cases hj
theorem src_sound {P : Program} (h : HeapOk S0 U0 w0 c) {t : TypeId} {size : Nat} {x : AVal} {xv : Value} (hx : VRel c x xv) {es : List (List AVal)} {rd : List Nat} (hs : SrcR P c.H t size x es rd) :
    ∃ news, SrcOk P c size es xv news := by
  unfold SrcR at hs
  split at hs
  · rename_i st es'
    obtain ⟨rfl, hst, _⟩ := hs
    simp only [VRel, CRel] at hx
    obtain ⟨ad, cap, rfl, _, hr⟩ := hx
    by_cases he : es = []
    · subst he
      refine ⟨[], ⟨by simp, rfl, fun w => by simp [Builtin.lenOf], fun w m _ hm => ?_⟩⟩
      obtain rfl : m = 0 := by simpa using hm
      cases ad <;> simp [Builtin.firstCells, loadCells, loadCellsFrom]
    · obtain ⟨b, off, rfl, _, hrows⟩ := hr he
      obtain rfl := hst.resolve_right he
      obtain ⟨hl, hc⟩ := (CRows.toV hrows).flat
      obtain ⟨news, h1, h2⟩ := first_of_cells (P := P) (len := es.length) (cap := cap) hl hc
      exact ⟨news, hl, h1, fun w => by simp [Builtin.lenOf], h2⟩
  · rename_i o g i n
    obtain ⟨y, hy, rfl, hle, rfl, _⟩ := hs
    obtain ⟨z1, z2, rfl⟩ := AVal.obj_spec hy
    obtain ⟨ad, m, cap, rfl, hg, hl⟩ := hx
    obtain ⟨rfl, _, hcap, had⟩ := hl z1.symm z2
    have hob := h.objs o z2
    have hlen : (((c.H o).rows.drop i).take m).length = m := by simp; omega
    by_cases hm : m = 0
    · subst hm
      refine ⟨[], ⟨by simp, by simp [VRels], fun w => by simp [Builtin.lenOf], fun w k _ hk => ?_⟩⟩
      obtain rfl : k = 0 := by simpa using hk
      cases ad <;> simp [Builtin.firstCells, loadCells, loadCellsFrom]
    · have hc0 := hob.le
      obtain rfl := had (by omega)
      have hrows : RowsAt c (c.φ o).b ((c.φ o).base + i * (c.H o).st) (c.H o).st (((c.H o).rows.drop i).take m) := fun k r hk => by
        rw [List.getElem?_take] at hk
        split at hk
        · rw [List.getElem?_drop] at hk
          have := hob.rows _ r hk
          rw [Nat.add_mul] at this
          rw [Nat.add_assoc]
          exact this
        · cases hk
      obtain ⟨hl, hc⟩ := hrows.flat
      obtain ⟨news, h1, h2⟩ := first_of_cells (P := P) (len := m) (cap := cap) hl hc
      exact ⟨news, hl, h1, fun w => by simp only [Builtin.lenOf, hlen, Sem.run_pure], h2⟩
  · rename_i l
    obtain ⟨_, rfl, rfl, _⟩ := hs
    simp only [VRel] at hx
    subst hx
    refine ⟨l.map (fun b => .int .u8 (b.toNat : Int)), ⟨by simp, ?_, fun w => by simp [Builtin.lenOf, ByteArray.size], fun w m _ hm => ?_⟩⟩
    · induction l with
      | nil => rfl
      | cons b l ih => exact ⟨_, _, rfl, rfl, ih⟩
    · simp only [List.length_map] at hm
      simp only [Builtin.firstCells, Sem.run_pure, Nat.mul_one]
      congr 1
      rw [extract_mk]
      simp [List.map_take]
  · obtain ⟨rfl, _⟩ := hs
    simp only [VRel] at hx
    subst hx
    refine ⟨[], ⟨by simp, rfl, fun w => by simp [Builtin.lenOf], fun w m _ hm => ?_⟩⟩
    simp [Builtin.firstCells]
  · obtain ⟨rfl, _⟩ := hs
    simp only [VRel] at hx
    subst hx
    refine ⟨[], ⟨by simp, rfl, fun w => by simp [Builtin.lenOf], fun w m _ hm => ?_⟩⟩
    obtain rfl : m = 0 := by simpa using hm
    simp [Builtin.firstCells, loadCells, loadCellsFrom]
  · exact hs.elim
variable {E : Env} {a : Act} {ρ : Operand → AVal} {o : Oper} {sd : Option Tmp} {v : AVal} {rd : List Nat} {up : List (Nat × Obj)}
theorem isSome_elemO {P : Program} {t : TypeId} (h : (P.elemO t).isSome = true) : ∃ e, P.underlying t = some (.slice e) := by
  obtain ⟨n, hn⟩ := Option.isSome_iff_exists.1 h
  obtain ⟨e, h1, _⟩ := elemO_spec hn
  exact ⟨e, h1⟩
theorem run_len {P : Program} {tys : Array TypeId} {ty : TypeId} {dst : Option Tmp} {x : AVal} {xv : Value} (hx : VRel c x xv) (hA : ActB P .len tys dst [x] c.H v rd up) :
    up = [] ∧ ∃ y, (Builtin.len_ tys ty #[xv]).run P c.w = .ok y c.w ∧ VRel c v y := by
  obtain ⟨rfl, t, ht, h2⟩ := hA
  refine ⟨rfl, ?_⟩
  split at h2
  · rename_i l
    obtain ⟨h3, _, rfl⟩ := h2
    simp only [VRel] at hx
    subst hx
    exact ⟨.int .i64 (l.length : Int), by
      have hsz : (⟨l.toArray⟩ : ByteArray).size = l.length := by simp [ByteArray.size]
      simp [Builtin.len_, ht, run_underlying (isStr_spec h3), goInt, hsz], rfl⟩
  · obtain ⟨h3, _, rfl⟩ := h2
    obtain ⟨e, h4⟩ := isSome_elemO h3
    simp only [VRel, CRel] at hx
    obtain ⟨ad, cap, rfl, _⟩ := hx
    exact ⟨_, by simp [Builtin.len_, ht, run_underlying h4, goInt], rfl⟩
  · obtain ⟨h3, _, h5, rfl⟩ := h2
    obtain ⟨e, h4⟩ := isSome_elemO h3
    obtain ⟨y, hy⟩ := Option.isSome_iff_exists.1 h5
    obtain ⟨z1, z2, rfl⟩ := AVal.obj_spec hy
    obtain ⟨ad, m, cap, rfl, hg, hl⟩ := hx
    obtain ⟨rfl, _⟩ := hl z1.symm z2
    exact ⟨_, by simp [Builtin.len_, ht, run_underlying h4, goInt], rfl⟩
  · obtain ⟨h3, _, rfl⟩ := h2
    obtain ⟨e, h4⟩ := isSome_elemO h3
    simp only [VRel] at hx
    subst hx
    exact ⟨_, by simp [Builtin.len_, ht, run_underlying h4, goInt], rfl⟩
  · obtain ⟨n, k, g, h3, _, rfl⟩ := h2
    obtain ⟨e, h4, _⟩ := arrO_spec h3
    obtain ⟨xs, rfl, _⟩ := hx
    exact ⟨_, by simp [Builtin.len_, ht, run_underlying h4, goInt], rfl⟩
  · exact h2.elim
theorem notInt {P : Program} {u : TypeId} (h1 : P.isInt u = false) (h2 : (P.underlying u).isSome = true) : ∃ d, P.underlying u = some d ∧ ∀ k, d ≠ .int k := by
  obtain ⟨d, hd⟩ := Option.isSome_iff_exists.1 h2
  refine ⟨d, hd, fun k e => ?_⟩
  subst e
  simp [Program.isInt, hd] at h1
theorem elemBytes_spec {P : Program} {t e : TypeId} {n : Nat} (hu : P.underlying t = some (.slice e)) (h : P.elemBytes t = some n) : ∃ i, P.info? e = some i ∧ i.bytes = n := by
  unfold Program.elemBytes at h
  rw [hu] at h
  simpa [Option.map_eq_some_iff] using h
theorem elemZero_spec {P : Program} {t e : TypeId} {z : List AVal} (hu : P.underlying t = some (.slice e)) (h : P.elemZero t = some z) : ∃ i zv, P.info? e = some i ∧ i.zero = some zv ∧ z = (absV zv).cellsV := by
  unfold Program.elemZero at h
  rw [hu] at h
  exact zeroL_spec h
theorem run_append_in {P : Program} {w : World} {t u ty e : TypeId} {i : TypeInfo} (ht : P.underlying t = some (.slice e)) {d : TypeDesc} (hu : P.underlying u = some d) (hd : ∀ k, d ≠ .int k) (hi : P.info? e = some i)
    {base : Option Addr} {n cap : Nat} {x : Value} {m : Nat} {news : List Value} (hlen : (Builtin.lenOf x).run P w = .ok m w) (hf : (Builtin.firstCells i.size m x).run P w = .ok news.toArray w) (hroom : n + m ≤ cap) {w' : World}
    (hst : match base with | some ad => (storeCells (ad.add (n * i.size)) news).run P w = .ok () w' | none => w' = w) :
    (Builtin.append_ #[t, u] ty #[.slice base n cap, x]).run P w = .ok (.slice base (n + m) cap) w' := by
  cases base with
  | none => subst hst; simp [Builtin.append_, run_underlying ht, run_underlying hu, sizeOf, typeInfo, hi, hlen, hroom, hf]
  | some ad => simp [Builtin.append_, run_underlying ht, run_underlying hu, sizeOf, typeInfo, hi, hlen, hroom, hf, hst]
theorem run_append_new {P : Program} {w : World} {t u ty e : TypeId} {i : TypeInfo} {z : Value} (ht : P.underlying t = some (.slice e)) {d : TypeDesc} (hu : P.underlying u = some d) (hd : ∀ k, d ≠ .int k) (hi : P.info? e = some i) (hz : i.zero = some z)
    {base : Option Addr} {n cap : Nat} {x : Value} {m : Nat} {olds news : List Value} (hlen : (Builtin.lenOf x).run P w = .ok m w) (hf : (Builtin.firstCells i.size m x).run P w.drew = .ok news.toArray w.drew)
    (hfo : (Builtin.firstCells i.size n (.slice base n cap)).run P w.drew = .ok olds.toArray w.drew) (hroom : cap < n + m) (h63 : n + m ≤ 9223372036854775807) (hby : (n + m) * i.bytes ≤ 140737488355328) :
    (Builtin.append_ #[t, u] ty #[.slice base n cap, x]).run P w = .ok (.slice (some ⟨w.heap.size, 0, none⟩) (n + m) (grownCap w (n + m) cap e))
      (w.drew.alloc (.cells (olds.toArray ++ news.toArray ++ Builtin.zeroCells z.cells (grownCap w (n + m) cap e - (n + m))) e)) := by
  have hn : ¬ (n + m ≤ cap) := by omega
  have h63' : ¬ (9223372036854775807 < ((n : Int) + (m : Int))) := by omega
  have h48 := growslice_fits hroom hby
  have h48' : ¬ (281474976710656 < Builtin.nextslicecap (n + m) cap * i.bytes) := by omega
  simp [Builtin.append_, run_underlying ht, run_underlying hu, sizeOf, typeInfo, zeroValue, hi, hz, hlen, hn, h63', h48', Question.forced, hf, hfo, newRow, grownCap]
  congr 2
  apply Array.ext'
  simp [List.append_assoc]
theorem hrow_of_flat {st : Nat} {rows : List (List AVal)} {xs : List Value} {arr : Array Value} (hl : ∀ r ∈ rows, r.length = st) (hv : VRels c rows.flatten xs) (ha : ∀ (k : Nat) (x : Value), xs[k]? = some x → arr[k]? = some x) :
    ∀ (i : Nat) (r : List AVal), rows[i]? = some r → r.length = st ∧ ∀ (j : Nat) (v : AVal), r[j]? = some v → ∃ x, arr[i * st + j]? = some x ∧ VRel c v x := fun i r hi => by
  have hr := hl r (List.mem_of_getElem? hi)
  refine ⟨hr, fun j v hj => ?_⟩
  have hjl : j < st := by rw [← hr]; exact (List.getElem?_eq_some_iff.1 hj).1
  have := flat_get hl i r hi j hjl
  rw [hj] at this
  obtain ⟨x, hx, hvx⟩ := hv.get _ v this
  exact ⟨x, ha _ x hx, hvx⟩
theorem ones_rel {es : List (List AVal)} {xs : List Value} (h : ones es = true) (hv : VRels c es.flatten xs) : ∀ x ∈ xs, x.oneCell' = true := fun x hx => by
  obtain ⟨k, hk⟩ := List.getElem?_of_mem hx
  have hkl : k < es.flatten.length := by rw [← hv.length_eq]; exact (List.getElem?_eq_some_iff.1 hk).1
  obtain ⟨y, hy, hvy⟩ := hv.get k _ (List.getElem?_eq_getElem hkl)
  rw [hk] at hy
  injection hy with hy
  subst hy
  refine one_rel ?_ hvy
  obtain ⟨r, hr, hm⟩ := List.mem_flatten.1 (List.getElem_mem hkl)
  exact List.all_eq_true.1 (List.all_eq_true.1 h r hr) _ hm
theorem osl_first {P : Program} (h : HeapOk S0 U0 w0 c) {o g i n : Nat} {xv : Value} (hx : VRel c (.osl o g i n) xv) {y : Obj} (hy : AVal.obj c.H o g = some y) (hle : i + n ≤ y.rows.length) :
    ∃ news, SrcOk P c y.st ((y.rows.drop i).take n) xv news :=
  src_sound (t := 0) h hx ⟨y, hy, rfl, hle, rfl, rfl⟩
theorem rows_of_range {st : Nat} {rows : List (List AVal)} {xs : List Value} {w : World} {b off : Nat} (hl : ∀ r ∈ rows, r.length = st) (hv : VRels c rows.flatten xs) (ha : w.rangeAt b off xs) :
    ∀ (i : Nat) (r : List AVal), rows[i]? = some r → r.length = st ∧ ∀ (j : Nat) (v : AVal), r[j]? = some v → ∃ x, w.cell? ⟨b, off + i * st + j, none⟩ = some x ∧ VRel c v x := fun i r hi => by
  obtain ⟨h1, h2⟩ := hrow_of_flat (arr := xs.toArray) hl hv (fun k x hk => by simpa using hk) i r hi
  refine ⟨h1, fun j v hj => ?_⟩
  obtain ⟨x, hx, hvx⟩ := h2 j v hj
  exact ⟨x, by rw [Nat.add_assoc]; exact ha _ x (by simpa using hx), hvx⟩
theorem RowsAt.cut {b off st : Nat} {es : List (List AVal)} (h : RowsAt c b off st es) (i m : Nat) : RowsAt c b (off + i * st) st ((es.drop i).take m) := fun k r hk => by
  rw [List.getElem?_take] at hk
  split at hk
  · rw [List.getElem?_drop] at hk
    have := h _ r hk
    rw [Nat.add_mul] at this
    rw [Nat.add_assoc]
    exact this
  · cases hk
theorem HeapOk.empty (h : HeapOk S0 U0 w0 c) (o : Nat) (x : Obj) (hx : x.rows = []) (hg : (c.H o).gen < x.gen) :
    ∃ c', c'.w = c.w ∧ CtxLe c c' ∧ HeapOk S0 U0 w0 c' ∧ c'.H = c.H.set o x ∧ (c'.φ o).cap = 0 := by
  have hup := h.update (c' := ⟨c.S, c.w, fun k => if k = o then ⟨0, 0, 0⟩ else c.φ k, c.H.set o x⟩) o x ⟨0, 0, 0⟩ rfl rfl rfl (Keep.refl _ _)
    (Nat.le_of_lt hg) (fun hg' => by omega) (fun _ _ => ⟨by simp [hx], fun hn => by simp at hn, fun k r hk => by simp [hx] at hk, fun hn => by simp at hn, fun _ => by simp [hx]⟩) (fun _ hn => by simp at hn)
  exact ⟨⟨c.S, c.w, fun k => if k = o then ⟨0, 0, 0⟩ else c.φ k, c.H.set o x⟩, rfl, hup.1, hup.2, rfl, by simp⟩
theorem HeapOk.pushIn (h : HeapOk S0 U0 w0 c) {o : Nat} (hm : (c.H o).mode = .live) {i n cap : Nat} (hcap : i + cap = (c.φ o).cap) (hle : i + n ≤ (c.H o).rows.length) {es : List (List AVal)} {news : List Value}
    (hl : ∀ r ∈ es, r.length = (c.H o).st) (hrel : VRels c es.flatten news) (hone : ∀ x ∈ news, x.oneCell' = true) (hroom : n + es.length ≤ cap) (hc0 : cap ≠ 0) (P : Program) :
    ∃ c', (storeCells (⟨(c.φ o).b, (c.φ o).base + i * (c.H o).st + n * (c.H o).st, none⟩ : Addr) news).run P c.w = .ok () c'.w ∧ CtxLe c c' ∧ HeapOk S0 U0 w0 c' ∧
      c'.H = c.H.set o ⟨(c.H o).gen + 1, .live, (c.H o).st, ((c.H o).rows.drop i).take n ++ es, false⟩ ∧ c'.φ o = ⟨(c.φ o).b, (c.φ o).base + i * (c.H o).st, cap⟩ := by
  have hob := h.objs o (by rw [hm]; simp)
  have hcap0 : (c.φ o).cap ≠ 0 := by omega
  have hroomO := hob.room hcap0
  have hnl := hrel.length_eq
  rw [flat_length hl] at hnl
  have hbound : i * (c.H o).st + cap * (c.H o).st = (c.φ o).cap * (c.H o).st := by rw [← Nat.add_mul, hcap]
  have hnew : n * (c.H o).st + news.length ≤ cap * (c.H o).st := by rw [hnl, ← Nat.add_mul]; exact Nat.mul_le_mul_right _ hroom
  have hth : c.w.there (c.φ o).b ((c.φ o).base + i * (c.H o).st + n * (c.H o).st) news.length := hroomO.there hm (by omega)
  have hstore := run_storeCells_cells (P := P) (c.φ o).b ((c.φ o).base + i * (c.H o).st + n * (c.H o).st) news 0 c.w (fun j hj => by simpa using (hth j hj).1) (fun j hj => by simpa using (hth j hj).2) hone
  simp only [Nat.add_zero] at hstore
  obtain ⟨q1, q2, q3⟩ := setCells_rest (c.φ o).b news ((c.φ o).base + i * (c.H o).st + n * (c.H o).st) c.w
  have hlen0 : (((c.H o).rows.drop i).take n).length = n := by simp; omega
  obtain ⟨hl0, hcA⟩ := (hob.rows.cut i n).flat
  obtain ⟨oldv, o1, o2, o3⟩ := hcA.range
  rw [flat_length hl0, hlen0] at o1
  have hrl : ∀ r ∈ ((c.H o).rows.drop i).take n ++ es, r.length = (c.H o).st := fun r hr => by
    rcases List.mem_append.1 hr with h' | h'
    · exact hl0 r h'
    · exact hl r h'
  have hrange : (c.w.setCells (c.φ o).b ((c.φ o).base + i * (c.H o).st + n * (c.H o).st) news).rangeAt (c.φ o).b ((c.φ o).base + i * (c.H o).st) (oldv ++ news) := fun j v hj => by
    by_cases hlt : j < oldv.length
    · rw [List.getElem?_append_left hlt] at hj
      exact World.rangeAt_setCells_apart o2 _ _ _ (.inr (.inl (by omega))) j v hj
    · rw [List.getElem?_append_right (by omega)] at hj
      have := World.rangeAt_setCells_same c.w _ _ news hth (j - oldv.length) v hj
      rw [show (c.φ o).base + i * (c.H o).st + n * (c.H o).st + (j - oldv.length) = (c.φ o).base + i * (c.H o).st + j by omega] at this
      exact this
  have hup := h.update (c' := ⟨c.S, c.w.setCells (c.φ o).b ((c.φ o).base + i * (c.H o).st + n * (c.H o).st) news, fun k => if k = o then ⟨(c.φ o).b, (c.φ o).base + i * (c.H o).st, cap⟩ else c.φ k, c.H.set o ⟨(c.H o).gen + 1, .live, (c.H o).st, ((c.H o).rows.drop i).take n ++ es, false⟩⟩)
    o ⟨(c.H o).gen + 1, .live, (c.H o).st, ((c.H o).rows.drop i).take n ++ es, false⟩ ⟨(c.φ o).b, (c.φ o).base + i * (c.H o).st, cap⟩ rfl rfl rfl
    ⟨q1, q2, q3, Nat.le_of_eq (setCells_size _ _ _ _).symm, fun b hb hn => setCells_heap_ne _ _ _ _ _ (fun e => hn ⟨hc0, e.symm, rfl⟩), fun k cs e fz hk => let ⟨cs', h1, h2⟩ := setCells_stay _ _ _ _ k cs e fz hk; ⟨cs', h1, h2⟩⟩
    (by simp) (fun hg => by simp at hg) (fun hle' _ => ?_) (fun _ _ => .inr ⟨hm, hcap0, rfl⟩)
  · exact ⟨_, hstore, hup.1, hup.2, rfl, by simp⟩
  · refine ⟨by simp [hlen0]; omega, fun _ => ⟨fun _ => by simpa using (hob.own hcap0).1 hm, fun hf => by simp at hf⟩, fun k r hk => ?_, fun _ => ?_, fun e => by simp at e⟩
    · simp only [Heap.set_same, if_true] at hk ⊢
      have hrel2 : VRels c (((c.H o).rows.drop i).take n ++ es).flatten (oldv ++ news) := by
        rw [List.flatten_append]; exact o3.append hrel
      obtain ⟨h1, h2⟩ := rows_of_range hrl hrel2 hrange k r hk
      refine ⟨h1, fun j v hj => ?_⟩
      obtain ⟨xx, hxx, hvx⟩ := h2 j v hj
      exact ⟨xx, hxx, VRel.mono hle' v xx hvx⟩
    · simp only [Heap.set_same, if_true]
      obtain ⟨cs, e, fz, a1, a2, a3⟩ := hroomO
      obtain ⟨cs', b1, b2⟩ := setCells_block (c.φ o).b news ((c.φ o).base + i * (c.H o).st + n * (c.H o).st) c.w cs e fz a1
      exact ⟨cs', e, fz, b1, by omega, fun _ => by rw [b2]; exact a3 hm⟩
theorem isInt_spec {P : Program} {u : TypeId} (h : P.isInt u = true) : ∃ k, P.underlying u = some (.int k) := by
  unfold Program.isInt at h
  split at h
  · rename_i k hk; exact ⟨k, hk⟩
  · cases h
theorem zero_flat {z : List AVal} {zs : List Value} (h : VRels c z zs) : ∀ k : Nat, VRels c (List.replicate k z).flatten (List.replicate k zs).flatten
  | 0 => rfl
  | k + 1 => by
    rw [List.replicate_succ, List.replicate_succ, List.flatten_cons, List.flatten_cons]
    exact h.append (zero_flat h k)
theorem zeroCells_list (z : Array Value) : ∀ k : Nat, (Builtin.zeroCells z k).toList = (List.replicate k z.toList).flatten := by
  intro k
  have h : ∀ k : Nat, List.map (fun i => z[i % z.size]!) (List.range (k * z.size)) = (List.replicate k z.toList).flatten := by
    intro k
    induction k with
    | zero => simp
    | succ k ih =>
      rw [List.replicate_succ, List.flatten_cons, ← ih, show (k + 1) * z.size = z.size + k * z.size by rw [Nat.succ_mul, Nat.add_comm], List.range_add, List.map_append, List.map_map]
      congr 1
      · apply List.ext_getElem
        · simp
        · intro i h1 h2
          simp only [List.length_map, List.length_range] at h1
          simp only [List.getElem_map, List.getElem_range, Nat.mod_eq_of_lt h1, Array.getElem_toList]
          exact getElem!_pos z i h1
      · apply List.map_congr_left
        intro i _
        simp [Nat.add_mod_left]
  have := h k
  simpa [Builtin.zeroCells] using this
theorem run_cap {P : Program} (h : HeapOk S0 U0 w0 c) {tys : Array TypeId} {ty : TypeId} {dst : Option Tmp} {x : AVal} {xv : Value} (hx : VRel c x xv) (hA : ActB P .cap tys dst [x] c.H v rd up) :
    up = [] ∧ ∃ y, (Builtin.cap_ tys ty #[xv]).run P c.w = .ok y c.w ∧ VRel c v y := by
  obtain ⟨rfl, t, o, g, i, n, ht, rfl, h3, rfl, y, hy, hex, rfl⟩ := hA
  refine ⟨rfl, ?_⟩
  obtain ⟨e, h4⟩ := isSome_elemO h3
  obtain ⟨z1, z2, rfl⟩ := AVal.obj_spec hy
  obtain ⟨ad, m, cap, rfl, hg, hl⟩ := hx
  obtain ⟨rfl, hle, hcap, _⟩ := hl z1.symm z2
  have hob := (h.objs o z2).ex hex
  have hc : cap = (c.H o).rows.length - i := by omega
  exact ⟨.int .i64 (cap : Int), by simp [Builtin.cap_, ht, run_underlying h4, goInt], by rw [hc]; rfl⟩
theorem app_osl {P : Program} (h : HeapOk S0 U0 w0 c) {tys : Array TypeId} {ty : TypeId} {o' g i n : Nat} {sv xv : Value} (hs : VRel c (.osl o' g i n) sv) {e : TypeId} {i2 : TypeInfo} {zv : Value} (hzs : zv.cells.size = i2.size)
    {es : List (List AVal)} {news : List Value} (slen : ∀ r ∈ es, r.length = i2.size) (srel : VRels c es.flatten news) (h10 : ones es = true) {y : Obj} (hy : AVal.obj c.H o' g = some y) (hm : y.mode = .live) (hst : y.st = i2.size) (hle : i + n ≤ y.rows.length)
    (hin : ∀ (base : Option Addr) (cap : Nat) (w' : World), n + es.length ≤ cap → (match base with | some ad => (storeCells (ad.add (n * i2.size)) news).run P c.w = .ok () w' | none => w' = c.w) → (Builtin.append_ tys ty #[.slice base n cap, xv]).run P c.w = .ok (.slice base (n + es.length) cap) w')
    (hnew : ∀ (base : Option Addr) (cap : Nat) (olds : List Value), (Builtin.firstCells i2.size n (.slice base n cap)).run P c.w.drew = .ok olds.toArray c.w.drew → n ≤ cap → ¬ (n + es.length ≤ cap) → (Builtin.append_ tys ty #[.slice base n cap, xv]).run P c.w =
      .ok (.slice (some ⟨c.w.heap.size, 0, none⟩) (n + es.length) (grownCap c.w (n + es.length) cap e)) (c.w.drew.alloc (.cells (olds.toArray ++ news.toArray ++ Builtin.zeroCells zv.cells (grownCap c.w (n + es.length) cap e - (n + es.length))) e))) :
    ∃ y' c', (Builtin.append_ tys ty #[sv, xv]).run P c.w = .ok y' c'.w ∧ CtxLe c c' ∧ HeapOk S0 U0 w0 c' ∧ c'.H = c.H.setAll [(o', ⟨g + 1, .live, i2.size, (y.rows.drop i).take n ++ es, false⟩)] ∧ VRel c' (.osl o' (g + 1) 0 (n + es.length)) y' := by
  obtain ⟨oldv, hold⟩ := osl_first (P := P) h hs hy hle
  obtain ⟨z1, z2, rfl⟩ := AVal.obj_spec hy
  have hnl := srel.length_eq
  have hfl := flat_length slen
  obtain ⟨ad, m', cap, rfl, hg, hl⟩ := hs
  obtain ⟨rfl, _, hcap, had⟩ := hl z1.symm z2
  have hlen0 : (((c.H o').rows.drop i).take m').length = m' := by simp; omega
  by_cases hroom : m' + es.length ≤ cap
  · by_cases hc0 : cap = 0
    · obtain rfl : es = [] := List.eq_nil_of_length_eq_zero (by omega)
      obtain rfl : m' = 0 := by omega
      obtain rfl : news = [] := List.eq_nil_of_length_eq_zero (by simpa using hnl)
      have hrun := hin ad cap c.w hroom (by cases ad <;> simp [storeCells])
      obtain ⟨c', f1, f2, f3, f4, f5⟩ := h.empty o' ⟨g + 1, .live, i2.size, [], false⟩ rfl (by simp [z1])
      exact ⟨_, c', by rw [f1]; exact hrun, f2, f3, by simp [Heap.setAll, f4], _, _, _, rfl, by simp [f4], fun _ _ => ⟨rfl, by simp, by simp [f5, hc0], fun hn => absurd hc0 hn⟩⟩
    · obtain rfl := had hc0
      obtain ⟨c', f1, f2, f3, f4, f5⟩ := h.pushIn hm hcap hle (by rw [hst]; exact slen) srel (ones_rel h10 srel) hroom hc0 P
      rw [hst] at f1 f4 f5
      have hrun := hin (some ⟨(c.φ o').b, (c.φ o').base + i * (c.H o').st, none⟩) cap c'.w hroom
        (by simp only [hst, Addr.add_lit]; exact f1)
      exact ⟨_, c', hrun, f2, f3, by rw [f4, z1]; rfl, _, _, _, rfl, by simp [f4, z1], fun _ _ => ⟨rfl, by simp [f4, hlen0], by simp [f5], fun _ => by simp [f5, hst]⟩⟩
  · have hfo : (Builtin.firstCells i2.size m' (.slice ad m' cap)).run P c.w.drew = .ok oldv.toArray c.w.drew := by
      have := hold.first c.w.drew m' (fun _ => rfl) (by rw [hlen0]; exact Nat.le_refl _)
      rw [hst] at this
      have hol := hold.rel.length_eq
      rw [flat_length hold.len, hlen0, hst] at hol
      rwa [List.take_of_length_le (by omega)] at this
    have hol := hold.rel.length_eq
    rw [flat_length hold.len, hlen0, hst] at hol
    have hrun := hnew ad cap oldv hfo (by have := (h.objs o' z2).le; omega) hroom
    obtain ⟨hd1, hd2⟩ := h.drew
    have hge := grownCap_ge c.w (m' + es.length) cap e
    have hrl : ∀ r ∈ ((c.H o').rows.drop i).take m' ++ es, r.length = i2.size := fun r hr => by
      rcases List.mem_append.1 hr with h' | h'
      · rw [← hst]; exact hold.len r h'
      · exact slen r h'
    have hrel : VRels c (((c.H o').rows.drop i).take m' ++ es).flatten (oldv ++ news) := by
      rw [List.flatten_append]; exact hold.rel.append srel
    have hup := hd2.alloc o' i2.size (((c.H o').rows.drop i).take m' ++ es) (oldv.toArray ++ news.toArray ++ Builtin.zeroCells zv.cells (grownCap c.w (m' + es.length) cap e - (m' + es.length))) e (grownCap c.w (m' + es.length) cap e)
      (by rw [List.length_append, hlen0]; exact hge)
      (by simp only [Array.size_append, List.size_toArray, size_zeroCells, hzs, hnl, hfl, hol]
          have : grownCap c.w (m' + es.length) cap e * i2.size = (m' * i2.size + es.length * i2.size) + (grownCap c.w (m' + es.length) cap e - (m' + es.length)) * i2.size := by
            rw [← Nat.add_mul, ← Nat.add_mul]; congr 1; omega
          omega)
      (hrow_of_flat hrl (VRels.mono hd1 _ _ hrel) (fun k x hk => by
        have hkl := (List.getElem?_eq_some_iff.1 hk).1
        rw [Array.getElem?_append_left (by simpa using hkl)]
        simpa using hk))
    have hob : newObj c.H o' i2.size (((c.H o').rows.drop i).take m' ++ es) = ⟨g + 1, .live, i2.size, ((c.H o').rows.drop i).take m' ++ es, false⟩ := by simp [newObj, z1]
    refine ⟨_, _, hrun, hd1.trans hup.1, hup.2, by simp only [Heap.setAll]; rw [← hob], ?_⟩
    have := osl_new ⟨c.S, c.w.drew.alloc (.cells (oldv.toArray ++ news.toArray ++ Builtin.zeroCells zv.cells (grownCap c.w (m' + es.length) cap e - (m' + es.length))) e), fun k => if k = o' then ⟨c.w.heap.size, 0, grownCap c.w (m' + es.length) cap e⟩ else c.φ k, c.H.set o' (newObj c.H o' i2.size (((c.H o').rows.drop i).take m' ++ es))⟩
      (o := o') (b := c.w.heap.size) (cap := grownCap c.w (m' + es.length) cap e) (st := i2.size) (rows := ((c.H o').rows.drop i).take m' ++ es) (H := c.H) (n := m' + es.length) (by simp) (by simp) (by rw [List.length_append, hlen0]; exact Nat.le_refl _)
    rw [z1] at this
    exact this
theorem zeros_sound {P : Program} (h : HeapOk S0 U0 w0 c) {tys : Array TypeId} {ty : TypeId} {dst : Option Tmp} {s x : AVal} {sv xv : Value} (hs : VRel c s sv) (hx : VRel c x xv) (hA : ActZ P tys dst s x c.H v rd up) :
    ∃ y c', (Builtin.append_ tys ty #[sv, xv]).run P c.w = .ok y c'.w ∧ CtxLe c c' ∧ HeapOk S0 U0 w0 c' ∧ c'.H = c.H.setAll up ∧ VRel c' v y := by
  obtain ⟨t, u, size, bytes, z, o', g, i, n, kk, k, y, rfl, h3, h4, h5, h6, h0, h7, rfl, rfl, hy, hst, hle, hb1, hb2, hA⟩ := hA
  obtain ⟨e, e1, e2⟩ := elemO_spec h3
  obtain ⟨i', e3, e4⟩ := elemBytes_spec e1 h4
  obtain ⟨i2, zv, e5, e6, e7⟩ := elemZero_spec e1 h5
  obtain rfl : i2 = i' := by rw [e3] at e5; injection e5 with e5; exact e5.symm
  obtain ⟨ku, hu⟩ := isInt_spec h7
  have hsz : i2.size = size := by
    unfold Program.szO at e2; rw [e3] at e2; simpa using e2
  subst hsz
  have hzs : zv.cells.size = i2.size := by rw [e7, ← (absV_cells c zv).length_eq] at h6; simpa using h6
  have hzr := absV_cells c zv
  rw [← e7] at hzr
  simp only [VRel] at hx
  subst hx
  rcases hA with ⟨hex, hfew, rfl, rfl, rfl⟩ | ⟨hm, h10, rfl, rfl, rfl⟩
  · have hk : 0 < k := by omega
    obtain ⟨oldv, hold⟩ := osl_first (P := P) h hs hy hle
    obtain ⟨z1, z2, rfl⟩ := AVal.obj_spec hy
    obtain ⟨ad, m', cap, rfl, hg, hl⟩ := hs
    obtain ⟨rfl, _, hcap, had⟩ := hl z1.symm z2
    have hob := h.objs o' z2
    have hroom : cap < m' + k := by have := hob.ex hex; omega
    have hlen0 : (((c.H o').rows.drop i).take m').length = m' := by simp; omega
    have hol := hold.rel.length_eq
    rw [flat_length hold.len, hlen0, hst] at hol
    have hfo : (Builtin.firstCells i2.size m' (.slice ad m' cap)).run P c.w.drew = .ok oldv.toArray c.w.drew := by
      have := hold.first c.w.drew m' (fun _ => rfl) (by rw [hlen0]; exact Nat.le_refl _)
      rw [hst] at this
      rwa [List.take_of_length_le (by omega)] at this
    have hbi : k * i2.bytes ≤ (m' + k) * i2.bytes := Nat.mul_le_mul_right _ (by omega)
    have hrun := Go.Lib.run_append_grow_zeros (P := P) c.w t u ty e i2 zv kk ku e1 hu e3 e6 ad m' cap oldv hfo k hk h0 hroom (by omega) (by rw [e4] at hbi ⊢; omega) (growslice_fits hroom (by rw [e4]; exact hb1))
    obtain ⟨hd1, hd2⟩ := h.drew
    have hge := grownCap_ge c.w (m' + k) cap e
    have hrl : ∀ r ∈ ((c.H o').rows.drop i).take m' ++ List.replicate k z, r.length = i2.size := fun r hr => by
      rcases List.mem_append.1 hr with h' | h'
      · rw [← hst]; exact hold.len r h'
      · rw [(List.mem_replicate.1 h').2]; exact h6
    have hzl : ((List.replicate k zv.cells.toList).flatten).length = k * i2.size := by simp [hzs]
    have hrel : VRels c (((c.H o').rows.drop i).take m' ++ List.replicate k z).flatten (oldv ++ (List.replicate k zv.cells.toList).flatten) := by
      rw [List.flatten_append]; exact hold.rel.append (zero_flat hzr k)
    have hup := hd2.alloc (site dst) i2.size (((c.H o').rows.drop i).take m' ++ List.replicate k z) (oldv.toArray ++ Builtin.zeroCells zv.cells k ++ Builtin.zeroCells zv.cells (grownCap c.w (m' + k) cap e - (m' + k))) e (grownCap c.w (m' + k) cap e)
      (by rw [List.length_append, hlen0, List.length_replicate]; exact hge)
      (by simp only [Array.size_append, List.size_toArray, size_zeroCells, hzs, hol]
          have : grownCap c.w (m' + k) cap e * i2.size = (m' * i2.size + k * i2.size) + (grownCap c.w (m' + k) cap e - (m' + k)) * i2.size := by
            rw [← Nat.add_mul, ← Nat.add_mul]; congr 1; omega
          omega)
      (hrow_of_flat hrl (VRels.mono hd1 _ _ hrel) (fun q x hq => by
        have hql := (List.getElem?_eq_some_iff.1 hq).1
        rw [List.length_append, hzl] at hql
        rw [Array.getElem?_append_left (by simp only [Array.size_append, List.size_toArray, size_zeroCells, hzs]; omega)]
        rw [← Array.getElem?_toList, Array.toList_append, zeroCells_list]
        exact hq))
    exact ⟨_, _, hrun, hd1.trans hup.1, hup.2, rfl, osl_new _ (b := c.w.heap.size) (st := i2.size) (rows := ((c.H o').rows.drop i).take m' ++ List.replicate k z) (H := c.H) (by simp) (by simp) (by rw [List.length_append, hlen0, List.length_replicate]; exact Nat.le_refl _)⟩
  · have hzl : ((List.replicate k zv.cells.toList).flatten) = (Builtin.zeroCells zv.cells k).toList := (zeroCells_list _ _).symm
    have hbi : k * i2.bytes ≤ (n + k) * i2.bytes := Nat.mul_le_mul_right _ (by omega)
    have hw : IntKind.i64.wrap (k : Int) = k := by rw [IntKind.wrap_i64]; omega
    have h48i : ¬ (281474976710656 < (k : Int) * (i2.bytes : Int)) := by
      rw [← Int.natCast_mul]; rw [e4] at hbi ⊢; omega
    have hneg : ¬ ((k : Int) < 0) := by omega
    have key := app_osl (P := P) (tys := #[t, u]) (ty := ty) (xv := .int kk k) h hs hzs (es := List.replicate k z) (news := (List.replicate k zv.cells.toList).flatten) (e := e)
      (fun r hr => by rw [(List.mem_replicate.1 hr).2]; exact h6) (zero_flat hzr k) h10 hy hm hst hle
      (fun base cap w' hroom hst' => by
        rw [List.length_replicate] at hroom ⊢
        cases base with
        | none =>
          subst hst'
          by_cases hk0 : k = 0
          · subst hk0; simp [Builtin.append_, run_underlying e1, run_underlying hu, sizeOf, typeInfo, zeroValue, asInt, asIntOf, e3, e6, show n ≤ cap from hroom, show IntKind.i64.wrap 0 = 0 from rfl]
          · have hk1 : ¬ (k * i2.size = 0) := by intro h; rcases Nat.mul_eq_zero.1 h with h | h <;> omega
            simp [Builtin.append_, run_underlying e1, run_underlying hu, sizeOf, typeInfo, zeroValue, asInt, asIntOf, e3, e6, hroom, hw, h48i, hneg, hk1]
        | some ad =>
          rw [hzl] at hst'
          by_cases hk0 : k = 0
          · subst hk0
            have : (Builtin.zeroCells zv.cells 0).toList = [] := by simp [Builtin.zeroCells]
            rw [this] at hst'
            simp [Builtin.append_, run_underlying e1, run_underlying hu, sizeOf, typeInfo, zeroValue, asInt, asIntOf, e3, e6, show n ≤ cap from hroom, show IntKind.i64.wrap 0 = 0 from rfl, hst']
          · have hk1 : ¬ (k * i2.size = 0) := by intro h; rcases Nat.mul_eq_zero.1 h with h | h <;> omega
            simp [Builtin.append_, run_underlying e1, run_underlying hu, sizeOf, typeInfo, zeroValue, asInt, asIntOf, e3, e6, hroom, hw, h48i, hneg, hk1, hst'])
      (fun base cap olds hfo hnc hroom => by
        rw [List.length_replicate] at hroom ⊢
        have hrun := Go.Lib.run_append_grow_zeros (P := P) c.w t u ty e i2 zv kk ku e1 hu e3 e6 base n cap olds hfo k (by omega) h0 (by omega) (by omega) (by rw [e4] at hbi ⊢; omega) (growslice_fits (by omega) (by rw [e4]; exact hb1))
        rw [hzl, Array.toArray_toList]
        exact hrun)
    simpa using key
theorem write_rows {P : Program} (h : HeapOk S0 U0 w0 c) {o : Nat} (hm : (c.H o).mode = .live) {k : Nat} {es : List (List AVal)} {news : List Value} (hl : ∀ r ∈ es, r.length = (c.H o).st) (hrel : VRels c es.flatten news)
    (hone : ∀ x ∈ news, x.oneCell' = true) (hle : k + es.length ≤ (c.H o).rows.length) (hne : es.length ≠ 0) :
    ∃ c', (storeCells (⟨(c.φ o).b, (c.φ o).base + k * (c.H o).st, none⟩ : Addr) news).run P c.w = .ok () c'.w ∧ CtxLe c c' ∧ HeapOk S0 U0 w0 c' ∧
      c'.H = c.H.set o { c.H o with rows := (c.H o).rows.take k ++ es ++ (c.H o).rows.drop (k + es.length) } ∧ c'.φ = c.φ := by
  have hob := h.objs o (by rw [hm]; simp)
  have hobl := hob.le
  have hcap0 : (c.φ o).cap ≠ 0 := by omega
  have hroom := hob.room hcap0
  have hb2 : (k + es.length) * (c.H o).st ≤ (c.φ o).cap * (c.H o).st := Nat.mul_le_mul_right _ (by omega)
  rw [Nat.add_mul] at hb2
  have htl := flat_length hl
  have hxl := hrel.length_eq
  have hth : c.w.there (c.φ o).b ((c.φ o).base + k * (c.H o).st) news.length := hroom.there hm (by rw [hxl, htl]; omega)
  have hstore := run_storeCells_cells (P := P) (c.φ o).b ((c.φ o).base + k * (c.H o).st) news 0 c.w (fun j hj => by simpa using (hth j hj).1) (fun j hj => by simpa using (hth j hj).2) hone
  simp only [Nat.add_zero] at hstore
  have hk0 : k * (c.H o).st + es.flatten.length ≤ (c.φ o).cap * (c.H o).st := by rw [htl]; exact hb2
  have key := HeapOk.write h hm { c.H o with rows := (c.H o).rows.take k ++ es ++ (c.H o).rows.drop (k + es.length) } (Nat.le_refl _) hm rfl (by simp; omega) (by simp; omega) (k := k * (c.H o).st) hrel hk0 hcap0 (fun i' r' hi' => ?_)
  · have key := key (fun e => by have := hob.ex e; dsimp only; simp only [List.length_append, List.length_take, List.length_drop]; omega)
    exact ⟨_, hstore, key.1, key.2, rfl, rfl⟩
  · dsimp only at hi' ⊢
    have htk : ((c.H o).rows.take k).length = k := by rw [List.length_take]; omega
    have hmul : ∀ p q : Nat, p < q → p * (c.H o).st + (c.H o).st ≤ q * (c.H o).st := fun p q hpq => by
      rw [← Nat.succ_mul]; exact Nat.mul_le_mul_right _ hpq
    rcases Nat.lt_or_ge i' k with q1 | q1
    · rw [List.append_assoc, List.getElem?_append_left (by omega), List.getElem?_take, if_pos q1] at hi'
      refine ⟨(hob.rows i' r' hi').1, fun j v hj => .inr ⟨.inl ?_, r', hi', hj⟩⟩
      have hj2 : j < (c.H o).st := by rw [← (hob.rows i' r' hi').1]; exact (List.getElem?_eq_some_iff.1 hj).1
      have := hmul i' k q1
      omega
    · rcases Nat.lt_or_ge i' (k + es.length) with q2 | q2
      · rw [List.append_assoc, List.getElem?_append_right (by omega), List.getElem?_append_left (by omega), htk] at hi'
        have hr' := hl r' (List.mem_of_getElem? hi')
        refine ⟨hr', fun j v hj => .inl ⟨(i' - k) * (c.H o).st + j, ?_, ?_⟩⟩
        · have : i' * (c.H o).st = k * (c.H o).st + (i' - k) * (c.H o).st := by rw [← Nat.add_mul]; congr 1; omega
          rw [this]; omega
        · rw [flat_get hl (i' - k) r' hi' j (by rw [← hr']; exact (List.getElem?_eq_some_iff.1 hj).1)]
          exact hj
      · rw [List.getElem?_append_right (by simp only [List.length_append]; omega), List.getElem?_drop] at hi'
        have e : k + es.length + (i' - ((c.H o).rows.take k ++ es).length) = i' := by simp only [List.length_append]; omega
        rw [e] at hi'
        refine ⟨(hob.rows i' r' hi').1, fun j v hj => .inr ⟨.inr ?_, r', hi', hj⟩⟩
        have := Nat.mul_le_mul_right (c.H o).st q2
        rw [Nat.add_mul] at this
        rw [htl]
        omega
theorem info_szO {P : Program} {t : TypeId} {n : Nat} (h : P.szO t = some n) : ∃ i, P.info? t = some i ∧ i.size = n := by
  unfold Program.szO at h
  cases hi : P.info? t with
  | none => rw [hi] at h; cases h
  | some i => rw [hi] at h; exact ⟨i, rfl, by simpa using h⟩
theorem heap_set_self (H : Heap) (o : Nat) : H.set o (H o) = H := by
  funext k
  by_cases hk : k = o
  · subst hk; simp
  · rw [Heap.set_ne _ _ hk]
theorem appIn_sound {P : Program} (h : HeapOk S0 U0 w0 c) {tys : Array TypeId} {ty : TypeId} {s x : AVal} {sv xv : Value} (hs : VRel c s sv) (hx : VRel c x xv) (hA : ActP P tys s x c.H v rd up) :
    ∃ y c', (Builtin.append_ tys ty #[sv, xv]).run P c.w = .ok y c'.w ∧ CtxLe c c' ∧ HeapOk S0 U0 w0 c' ∧ c'.H = c.H.setAll up ∧ VRel c' v y := by
  obtain ⟨t, u, size, es, rd', o, g, i, n, y, rfl, h3, h7, h8, h9, h10, rfl, hy, hm, hst, hle, rfl, rfl, rfl⟩ := hA
  obtain ⟨e, e1, e2⟩ := elemO_spec h3
  obtain ⟨i2, e3, rfl⟩ := info_szO e2
  obtain ⟨d, d1, d2⟩ := notInt h7 h8
  obtain ⟨news, hsrc⟩ := src_sound h hx h9
  have hnl := hsrc.rel.length_eq
  have hfl := flat_length hsrc.len
  have hfirst : (Builtin.firstCells i2.size es.length xv).run P c.w = .ok news.toArray c.w := by
    have := hsrc.first c.w es.length (fun _ => rfl) (Nat.le_refl _)
    rwa [List.take_of_length_le (by omega)] at this
  obtain ⟨z1, z2, rfl⟩ := AVal.obj_spec hy
  have hob := h.objs o z2
  have hobl := hob.le
  obtain ⟨ad, m', cap, rfl, hg, hl⟩ := hs
  obtain ⟨rfl, _, hcap, had⟩ := hl z1.symm z2
  by_cases hc0 : es.length = 0
  · obtain rfl : es = [] := List.eq_nil_of_length_eq_zero hc0
    obtain rfl : news = [] := List.eq_nil_of_length_eq_zero (by simpa using hnl)
    have hrun := run_append_in (P := P) (w := c.w) (ty := ty) e1 d1 d2 e3 (base := ad) (n := m') (cap := cap) (hsrc.lenOf _) hfirst (by simp; omega) (w' := c.w) (by cases ad <;> simp [storeCells])
    refine ⟨_, c, hrun, CtxLe.refl c, h, ?_, _, _, _, rfl, hg, fun _ _ => ⟨rfl, by simpa using hle, hcap, had⟩⟩
    simp only [Heap.setAll, List.length_nil, Nat.add_zero, List.append_nil, List.take_append_drop]
    exact (heap_set_self _ _).symm
  · obtain rfl := had (by omega)
    obtain ⟨c', f1, f2, f3, f4, f5⟩ := write_rows (P := P) h hm (k := i + m') (by rw [hst]; exact hsrc.len) hsrc.rel (ones_rel h10 hsrc.rel) hle hc0
    have hrun := run_append_in (P := P) (w := c.w) (ty := ty) e1 d1 d2 e3 (base := some ⟨(c.φ o).b, (c.φ o).base + i * (c.H o).st, none⟩) (n := m') (cap := cap) (hsrc.lenOf _) hfirst (by omega) (w' := c'.w)
      (by simp only [Addr.add_lit]; rw [Nat.add_mul, ← Nat.add_assoc, hst] at f1; rw [hst]; exact f1)
    exact ⟨_, c', hrun, f2, f3, by rw [f4]; rfl, _, _, _, rfl, by simp only [f4, Heap.set_same]; exact hg, fun _ _ => ⟨rfl, by simp only [f4, Heap.set_same]; simp; omega, by rw [f5]; exact hcap, fun hn => by simp only [f4, f5, Heap.set_same]⟩⟩
theorem run_clear {P : Program} {w w' : World} {t ty e : TypeId} {z : Value} {tys : Array TypeId} (ht0 : tys[0]? = some t) (ht : P.underlying t = some (.slice e)) {i : TypeInfo} (hi : P.info? e = some i) (hz : i.zero = some z) {a : Addr} {n cap : Nat} (hn : n ≠ 0)
    (hst : (storeCells a (List.replicate n z.cells.toList).flatten).run P w = .ok () w') : (Builtin.clear_ tys ty #[.slice (some a) n cap]).run P w = .ok (.tuple #[]) w' := by
  obtain ⟨m, rfl⟩ : ∃ m, n = m + 1 := ⟨n - 1, by omega⟩
  simp [Builtin.clear_, ht0, run_underlying ht, zeroValue, typeInfo, hi, hz, zeroCells_list, hst]
theorem run_clear_none {P : Program} {w : World} {t ty e : TypeId} {tys : Array TypeId} (ht0 : tys[0]? = some t) (ht : P.underlying t = some (.slice e)) {a : Option Addr} {cap : Nat} : (Builtin.clear_ tys ty #[.slice a 0 cap]).run P w = .ok (.tuple #[]) w := by
  cases a <;> simp [Builtin.clear_, ht0, run_underlying ht]
theorem ones_rep {z : List AVal} (h : ones [z] = true) (k : Nat) : ones (List.replicate k z) = true := by
  simp only [ones, List.all_cons, List.all_nil, Bool.and_true] at h
  simp only [ones, List.all_eq_true]
  intro r hr
  rw [List.eq_of_mem_replicate hr]
  exact List.all_eq_true.1 h
theorem clear_sound {P : Program} (h : HeapOk S0 U0 w0 c) {tys : Array TypeId} {ty : TypeId} {x : AVal} {xv : Value} (hx : VRel c x xv) (hA : ActCl P tys x c.H v rd up) :
    ∃ y c', (Builtin.clear_ tys ty #[xv]).run P c.w = .ok y c'.w ∧ CtxLe c c' ∧ HeapOk S0 U0 w0 c' ∧ c'.H = c.H.setAll up ∧ VRel c' v y := by
  obtain ⟨t, size, z, o, g, i, n, y, ht0, h3, h5, h6, h10, rfl, hy, hm, hst, hle, rfl, rfl, rfl⟩ := hA
  obtain ⟨e, e1, e2⟩ := elemO_spec h3
  obtain ⟨i2, zv, e5, e6, rfl⟩ := elemZero_spec e1 h5
  obtain ⟨z1, z2, rfl⟩ := AVal.obj_spec hy
  have hob := h.objs o z2
  have hobl := hob.le
  obtain ⟨ad, m', cap, rfl, hg, hl⟩ := hx
  obtain ⟨rfl, _, hcap, had⟩ := hl z1.symm z2
  by_cases hc0 : m' = 0
  · subst hc0
    refine ⟨_, c, run_clear_none ht0 e1, CtxLe.refl c, h, ?_, _, rfl, rfl⟩
    simp only [Heap.setAll, List.replicate_zero, Nat.add_zero, List.append_nil, List.take_append_drop]
    exact (heap_set_self _ _).symm
  · obtain rfl := had (by omega)
    have hrel : VRels c (List.replicate m' (absV zv).cellsV).flatten (List.replicate m' zv.cells.toList).flatten := zero_flat (absV_cells c zv) m'
    obtain ⟨c', f1, f2, f3, f4, f5⟩ := write_rows (P := P) h hm (k := i) (es := List.replicate m' (absV zv).cellsV) (fun r hr => by rw [List.eq_of_mem_replicate hr, h6, hst]) hrel (ones_rel (ones_rep h10 _) hrel) (by rw [List.length_replicate]; exact hle) (by rw [List.length_replicate]; exact hc0)
    rw [List.length_replicate] at f4
    exact ⟨_, c', run_clear ht0 e1 e5 e6 hc0 f1, f2, f3, by rw [f4]; rfl, _, rfl, rfl⟩
theorem append_sound {P : Program} (h : HeapOk S0 U0 w0 c) {tys : Array TypeId} {ty : TypeId} {dst : Option Tmp} {s x : AVal} {sv xv : Value} (hs : VRel c s sv) (hx : VRel c x xv) (hA : ActB P .append tys dst [s, x] c.H v rd up) :
    ∃ y c', (Builtin.append_ tys ty #[sv, xv]).run P c.w = .ok y c'.w ∧ CtxLe c c' ∧ HeapOk S0 U0 w0 c' ∧ c'.H = c.H.setAll up ∧ VRel c' v y := by
  rcases hA with hA | hA | hA
  · exact zeros_sound h hs hx hA
  · exact appIn_sound h hs hx hA
  obtain ⟨t, u, size, bytes, z, es, rd', rfl, h3, h4, h5, h6, h7, h8, h9, h10, h11⟩ := hA
  obtain ⟨e, e1, e2⟩ := elemO_spec h3
  obtain ⟨i', e3, e4⟩ := elemBytes_spec e1 h4
  obtain ⟨i2, zv, e5, e6, e7⟩ := elemZero_spec e1 h5
  obtain rfl : i2 = i' := by rw [e3] at e5; injection e5 with e5; exact e5.symm
  obtain ⟨d, d1, d2⟩ := notInt h7 h8
  have hsz : i2.size = size := by
    unfold Program.szO at e2; rw [e3] at e2; simpa using e2
  subst hsz
  obtain ⟨news, hsrc⟩ := src_sound h hx h9
  have hnl := hsrc.rel.length_eq
  have hfl := flat_length hsrc.len
  have hzs : zv.cells.size = i2.size := by rw [e7, ← (absV_cells c zv).length_eq] at h6; simpa using h6
  have hfirst : ∀ w : World, (∀ a, w.cell? a = c.w.cell? a) → (Builtin.firstCells i2.size es.length xv).run P w = .ok news.toArray w := fun w hw => by
    have := hsrc.first w es.length hw (Nat.le_refl _)
    rwa [List.take_of_length_le (by omega)] at this
  split at h11
  · obtain ⟨hb1, hb2, rfl, rfl, rfl⟩ := h11
    simp only [VRel] at hs
    subst hs
    by_cases hm : es.length = 0
    · obtain rfl : es = [] := List.eq_nil_of_length_eq_zero hm
      have hrun := run_append_in (P := P) (w := c.w) (ty := ty) e1 d1 d2 e3 (base := none) (n := 0) (cap := 0) (hsrc.lenOf _) (hfirst c.w (fun _ => rfl)) (by simp) (w' := c.w) rfl
      obtain ⟨c', f1, f2, f3, f4, f5⟩ := h.empty (site dst) (newObj c.H (site dst) i2.size []) rfl (by simp [newObj])
      exact ⟨_, c', by rw [f1]; exact hrun, f2, f3, f4, _, _, _, rfl, by simp [f4, newObj], fun _ _ => ⟨rfl, by simp, by simp [f5], fun hn => by simp at hn⟩⟩
    · have hrun := run_append_new (P := P) (w := c.w) (ty := ty) e1 d1 d2 e3 e6 (base := none) (n := 0) (cap := 0) (olds := []) (hsrc.lenOf _) (hfirst c.w.drew (fun _ => rfl)) (by simp [Builtin.firstCells]) (by omega) (by omega) (by rw [e4]; simpa using hb1)
      obtain ⟨hd1, hd2⟩ := h.drew
      simp only [Nat.zero_add] at hrun
      have hge := grownCap_ge c.w es.length 0 e
      have hup := hd2.alloc (site dst) i2.size es (#[] ++ news.toArray ++ Builtin.zeroCells zv.cells (grownCap c.w es.length 0 e - es.length)) e (grownCap c.w es.length 0 e) hge
        (by simp only [Array.size_append, List.size_toArray, size_zeroCells, hzs, hnl, hfl]
            have : grownCap c.w es.length 0 e * i2.size = es.length * i2.size + (grownCap c.w es.length 0 e - es.length) * i2.size := by rw [← Nat.add_mul]; congr 1; omega
            simp; omega)
        (hrow_of_flat hsrc.len (VRels.mono hd1 _ _ hsrc.rel) (fun k x hk => by
          have hkl := (List.getElem?_eq_some_iff.1 hk).1
          rw [Array.getElem?_append_left (by simp; omega)]
          simpa using hk))
      exact ⟨_, _, hrun, hd1.trans hup.1, hup.2, rfl, osl_new _ (b := c.w.heap.size) (st := i2.size) (rows := es) (H := c.H) (by simp) (by simp) (Nat.le_refl _)⟩
  · rename_i o' g i n
    obtain ⟨y, hy, hm, hst, hle, hb1, hb2, rfl, rfl, rfl⟩ := h11
    exact app_osl h hs hzs hsrc.len hsrc.rel h10 hy hm hst hle
      (fun base cap w' hroom hst' => run_append_in (P := P) (w := c.w) (ty := ty) e1 d1 d2 e3 (base := base) (n := n) (cap := cap) (hsrc.lenOf _) (hfirst c.w (fun _ => rfl)) hroom (w' := w') hst')
      (fun base cap olds hfo _ hroom => run_append_new (P := P) (w := c.w) (ty := ty) e1 d1 d2 e3 e6 (base := base) (n := n) (cap := cap) (olds := olds) (hsrc.lenOf _) (hfirst c.w.drew (fun _ => rfl)) hfo (by omega) (by omega) (by rw [e4]; exact hb1))
  · exact h11.elim
theorem run_copy {P : Program} {w w' : World} {t u ty e : TypeId} {size : Nat} (ht : P.underlying t = some (.slice e)) (hsz : P.szO e = some size) {base : Option Addr} {n cap m : Nat} {x : Value} {news : List Value}
    (hlen : (Builtin.lenOf x).run P w = .ok m w) (hf : (Builtin.firstCells size (min m n) x).run P w = .ok news.toArray w) (hst : match base with | some ad => (storeCells ad news).run P w = .ok () w' | none => w' = w) :
    (Builtin.copy_ #[t, u] ty #[.slice base n cap, x]).run P w = .ok (.int .i64 ((min m n : Nat) : Int)) w' := by
  have e1 : Nat.min m n = min m n := rfl
  cases base with
  | none => subst hst; simp [Builtin.copy_, run_underlying ht, hlen, e1, run_szO hsz, hf, goInt]
  | some ad => simp [Builtin.copy_, run_underlying ht, hlen, e1, run_szO hsz, hf, hst, goInt]
theorem copy_sound {P : Program} (h : HeapOk S0 U0 w0 c) {tys : Array TypeId} {ty : TypeId} {dst : Option Tmp} {s x : AVal} {sv xv : Value} (hs : VRel c s sv) (hx : VRel c x xv) (hA : ActB P .copy tys dst [s, x] c.H v rd up) :
    ∃ y c', (Builtin.copy_ tys ty #[sv, xv]).run P c.w = .ok y c'.w ∧ CtxLe c c' ∧ HeapOk S0 U0 w0 c' ∧ c'.H = c.H.setAll up ∧ VRel c' v y := by
  obtain ⟨t, u, size, es, rd', rfl, h3, h9, h11⟩ := hA
  obtain ⟨e, e1, e2⟩ := elemO_spec h3
  obtain ⟨news, hsrc⟩ := src_sound h hx h9
  have hnl := hsrc.rel.length_eq
  have hfl := flat_length hsrc.len
  split at h11
  · rename_i o' g i n
    obtain ⟨y, hy, hm, hst, hle, h10, rfl, rfl, rfl⟩ := h11
    obtain ⟨z1, z2, rfl⟩ := AVal.obj_spec hy
    obtain ⟨ad, m', cap, rfl, hg, hl⟩ := hs
    obtain ⟨rfl, _, hcap, had⟩ := hl z1.symm z2
    have hob := h.objs o' z2
    have hobl := hob.le
    generalize hmn : min es.length m' = mn
    rw [hmn] at h10
    have hmn1 : mn ≤ es.length := by omega
    have hmn2 : mn ≤ m' := by omega
    have hf := hsrc.first c.w mn (fun _ => rfl) hmn1
    by_cases hc0 : mn = 0
    · have hrun := run_copy (P := P) (w := c.w) (w' := c.w) (u := u) (ty := ty) e1 e2 (base := ad) (n := m') (cap := cap) (hsrc.lenOf _) (by rw [hmn]; exact hf) (by rw [hc0]; cases ad <;> simp [storeCells])
      subst hc0
      refine ⟨_, c, hrun, CtxLe.refl c, h, ?_, by rw [hmn]; rfl⟩
      simp only [Heap.setAll]
      funext k
      by_cases hk : k = o'
      · subst hk
        simp
      · rw [Heap.set_ne _ _ hk]
    · obtain rfl := had (by omega)
      have hcap0 : (c.φ o').cap ≠ 0 := by omega
      have hroom := hob.room hcap0
      have hb2 : (i + mn) * (c.H o').st ≤ (c.φ o').cap * (c.H o').st := Nat.mul_le_mul_right _ (by omega)
      rw [Nat.add_mul] at hb2
      have hrel : VRels c (es.take mn).flatten (news.take (mn * size)) := by
        rw [flat_take hsrc.len]; exact hsrc.rel.take _
      have hes : ∀ r ∈ es.take mn, r.length = size := fun r hr => hsrc.len r (List.mem_of_mem_take hr)
      have htl : (es.take mn).flatten.length = mn * size := by rw [flat_length hes, List.length_take, Nat.min_eq_left hmn1]
      have hxl := hrel.length_eq
      have hth : c.w.there (c.φ o').b ((c.φ o').base + i * (c.H o').st) (news.take (mn * size)).length := hroom.there hm (by rw [hxl, htl, ← hst]; omega)
      have hstore := run_storeCells_cells (P := P) (c.φ o').b ((c.φ o').base + i * (c.H o').st) (news.take (mn * size)) 0 c.w (fun j hj => by simpa using (hth j hj).1) (fun j hj => by simpa using (hth j hj).2)
        (fun x hx => ones_rel h10 hrel x hx)
      simp only [Nat.add_zero] at hstore
      have hrun := run_copy (P := P) (w := c.w) (u := u) (ty := ty) e1 e2 (base := some ⟨(c.φ o').b, (c.φ o').base + i * (c.H o').st, none⟩) (n := m') (cap := cap) (hsrc.lenOf _) (by rw [hmn]; exact hf) hstore
      have hk0 : i * (c.H o').st + (es.take mn).flatten.length ≤ (c.φ o').cap * (c.H o').st := by rw [htl, ← hst]; exact hb2
      have key := HeapOk.write h hm { c.H o' with rows := (c.H o').rows.take i ++ es.take mn ++ (c.H o').rows.drop (i + mn) } (Nat.le_refl _) hm rfl (by simp; omega) (by simp; omega) (k := i * (c.H o').st) hrel hk0 hcap0 (fun i' r' hi' => ?_)
      · have key := key (fun e => by have := hob.ex e; dsimp only; simp only [List.length_append, List.length_take, List.length_drop]; omega)
        exact ⟨_, _, hrun, key.1, key.2, rfl, by rw [hmn]; rfl⟩
      · dsimp only at hi' ⊢
        have htk : ((c.H o').rows.take i).length = i := by rw [List.length_take]; omega
        have hte : (es.take mn).length = mn := by rw [List.length_take]; omega
        have hmul : ∀ p q : Nat, p < q → p * (c.H o').st + (c.H o').st ≤ q * (c.H o').st := fun p q hpq => by
          rw [← Nat.succ_mul]; exact Nat.mul_le_mul_right _ hpq
        rcases Nat.lt_or_ge i' i with q1 | q1
        · rw [List.append_assoc, List.getElem?_append_left (by omega), List.getElem?_take, if_pos q1] at hi'
          refine ⟨(hob.rows i' r' hi').1, fun j v hj => .inr ⟨.inl ?_, r', hi', hj⟩⟩
          have hj2 : j < (c.H o').st := by rw [← (hob.rows i' r' hi').1]; exact (List.getElem?_eq_some_iff.1 hj).1
          have := hmul i' i q1
          omega
        · rcases Nat.lt_or_ge i' (i + mn) with q2 | q2
          · rw [List.append_assoc, List.getElem?_append_right (by omega), List.getElem?_append_left (by omega), htk] at hi'
            have hr' := hes r' (List.mem_of_getElem? hi')
            refine ⟨by rw [hst]; exact hr', fun j v hj => .inl ⟨(i' - i) * size + j, ?_, ?_⟩⟩
            · have : i' * (c.H o').st = i * (c.H o').st + (i' - i) * (c.H o').st := by rw [← Nat.add_mul]; congr 1; omega
              rw [this, hst]; omega
            · rw [flat_get hes (i' - i) r' hi' j (by rw [← hr']; exact (List.getElem?_eq_some_iff.1 hj).1)]
              exact hj
          · rw [List.getElem?_append_right (by simp only [List.length_append]; omega), List.getElem?_drop] at hi'
            have e : i + mn + (i' - ((c.H o').rows.take i ++ es.take mn).length) = i' := by simp only [List.length_append]; omega
            rw [e] at hi'
            refine ⟨(hob.rows i' r' hi').1, fun j v hj => .inr ⟨.inr ?_, r', hi', hj⟩⟩
            have := Nat.mul_le_mul_right (c.H o').st q2
            rw [Nat.add_mul] at this
            rw [htl, ← hst]
            omega
  · exact h11.elim
theorem make_sound {P : Program} (h : HeapOk S0 U0 w0 c) (hρ : ∀ x, VRel c (ρ x) (a.eval x)) {t : TypeId} {l k : Operand} {dst : Option Tmp} (hA : Act2 P (.makeSlice t l k) dst ρ c.H v rd up) :
    ∃ y c', (Instr.makeSlice t (a.eval l) (a.eval k)).run P c.w = .ok y c'.w ∧ CtxLe c c' ∧ HeapOk S0 U0 w0 c' ∧ c'.H = c.H.setAll up ∧ VRel c' v y := by
  obtain ⟨kl, nl, kc, nc, size, bytes, z, h1, h2, h3, h4, h5, h6, h7, h8, h9, h10, h11, rfl, rfl, rfl⟩ := hA
  obtain ⟨e, e1, e2⟩ := elemO_spec h5
  obtain ⟨i', e3, e4⟩ := elemBytes_spec e1 h7
  obtain ⟨i2, zv, e5, e6, e7⟩ := elemZero_spec e1 h8
  obtain rfl : i2 = i' := by rw [e3] at e5; injection e5 with e5; exact e5.symm
  have hsz : i2.size = size := by
    unfold Program.szO at e2; rw [e3] at e2; simpa using e2
  subst hsz
  have hl := hρ l
  have hk := hρ k
  rw [h1] at hl
  rw [h2] at hk
  simp only [VRel] at hl hk
  have hzr := absV_cells c zv
  rw [← e7] at hzr
  have hzs : zv.cells.size = i2.size := by have := hzr.length_eq; rw [h9] at this; simpa using this
  have hrun := run_make (P := P) c.w t e i2 zv e1 e3 e6 kl kc nl nc h3 h4 (by rw [e4]; exact h10) h11
  have hup := h.allocX (site dst) i2.size (decide (nl = nc)) (List.replicate nl.toNat z) (madeCells zv.cells (nc.toNat * i2.size)) e nc.toNat (by simp; omega) (by rw [size_madeCells]; exact Nat.le_refl _) (fun i r hi => by
    obtain ⟨hil, hir⟩ := List.getElem?_eq_some_iff.1 hi
    simp only [List.length_replicate] at hil
    rw [List.getElem_replicate] at hir
    subst hir
    refine ⟨h9, fun j v hj => ?_⟩
    obtain ⟨x, hx, hv⟩ := hzr.get j v hj
    have hjl : j < i2.size := by rw [← h9]; exact (List.getElem?_eq_some_iff.1 hj).1
    refine ⟨x, ?_, hv⟩
    have hb : i * i2.size + j < nc.toNat * i2.size := by
      have : (i + 1) * i2.size ≤ nc.toNat * i2.size := Nat.mul_le_mul_right _ (by omega)
      rw [Nat.succ_mul] at this
      omega
    simp only [madeCells, Array.getElem?_map]
    rw [Array.getElem?_range, if_pos hb]
    simp only [Option.map_some, hzs, Option.some.injEq]
    rw [Nat.mul_comm i, Nat.mul_add_mod, Nat.mod_eq_of_lt hjl]
    have hx' : zv.cells[j]? = some x := by simpa using hx
    rw [getElem!_pos zv.cells j (by omega)]
    rw [getElem?_pos zv.cells j (by omega)] at hx'
    injection hx') (fun e => by have := of_decide_eq_true e; simp; omega)
  exact ⟨_, _, by rw [hl, hk]; exact hrun, hup.1, hup.2, rfl, osl_newX _ (b := c.w.heap.size) (st := i2.size) (rows := List.replicate nl.toNat z) (H := c.H) (ex := decide (nl = nc)) (by simp) (by simp) (by simp)⟩
theorem setMany_get (off : Nat) : ∀ (l : List Value) (k : Nat) (arr : Array Value), off + k + l.length ≤ arr.size →
    ((l.zipIdx k).foldl (fun cs (c, j) => cs.setIfInBounds (off + j) c) arr).size = arr.size ∧
    ∀ q, ((l.zipIdx k).foldl (fun cs (c, j) => cs.setIfInBounds (off + j) c) arr)[q]? = if off + k ≤ q ∧ q < off + k + l.length then l[q - (off + k)]? else arr[q]?
  | [], k, arr, _ => ⟨rfl, fun q => by simp; omega⟩
  | x :: l, k, arr, h => by
    simp only [List.length_cons] at h
    obtain ⟨h1, h2⟩ := setMany_get off l (k + 1) (arr.setIfInBounds (off + k) x) (by simp; omega)
    refine ⟨by simpa [List.zipIdx_cons] using h1, fun q => ?_⟩
    simp only [List.zipIdx_cons, List.foldl_cons, List.length_cons]
    rw [h2 q]
    by_cases e : q = off + k
    · subst e
      rw [if_neg (by omega), if_pos (by omega)]
      simp only [Nat.sub_self, List.getElem?_cons_zero]
      rw [Array.getElem?_setIfInBounds_self, if_pos (by omega)]
    · by_cases e2 : off + (k + 1) ≤ q ∧ q < off + (k + 1) + l.length
      · rw [if_pos e2, if_pos (by omega)]
        rw [show q - (off + k) = (q - (off + (k + 1))) + 1 by omega, List.getElem?_cons_succ]
      · rw [if_neg e2, if_neg (by omega)]
        rw [Array.getElem?_setIfInBounds_ne (by omega)]
theorem fill_step (place : Nat → Option (Nat × Nat)) (cells : Array Value) (i : Nat) (v : Value) (rest : List (Nat × Value)) {off size : Nat} (hp : place i = some (off, size)) (hs : v.cells.size = size) (hb : off + size ≤ cells.size) :
    Instr.fill place cells ((i, v) :: rest) = Instr.fill place ((v.cells.toList.zipIdx 0).foldl (fun cs (c, j) => cs.setIfInBounds (off + j) c) cells) rest := by
  simp only [Instr.fill, hp]
  rw [if_neg (by simp [hs]; omega)]
  congr 1
  rw [← Array.foldl_toList]
  simp
theorem putCells_get {r cs : List AVal} {j : Nat} (hle : j + cs.length ≤ r.length) (q : Nat) : (putCells r j cs)[q]? = if j ≤ q ∧ q < j + cs.length then cs[q - j]? else r[q]? := by
  unfold putCells
  rw [List.getElem?_append, List.getElem?_append]
  simp only [List.length_append, List.length_take, Nat.min_eq_left (show j ≤ r.length by omega)]
  by_cases q1 : q < j
  · rw [if_pos (by omega), if_pos q1, if_neg (by omega), List.getElem?_take, if_pos q1]
  · by_cases q2 : q < j + cs.length
    · rw [if_pos q2, if_neg q1, if_pos (by omega)]
    · rw [if_neg q2, if_neg (by omega), List.getElem?_drop]; congr 1; omega
theorem fillA_sound {place : Nat → Option (Nat × Nat)} : ∀ (ps : List (Nat × Operand)) (cells : List AVal) (arr : Array Value) (cs : List AVal), VRels c cells arr.toList → (∀ x, VRel c (ρ x) (a.eval x)) →
    fillA place cells (ps.map fun p => (p.1, ρ p.2)) = some cs → ∃ arr', Instr.fill place arr (ps.map fun p => (p.1, a.eval p.2)) = some arr' ∧ VRels c cs arr'.toList
  | [], cells, arr, cs, hv, _, h => by
    simp only [List.map_nil, fillA, Option.some.injEq] at h
    subst h
    exact ⟨arr, rfl, hv⟩
  | (i, x) :: ps, cells, arr, cs, hv, hρ, h => by
    simp only [List.map_cons, fillA, Option.bind_eq_some_iff] at h
    obtain ⟨⟨off, size⟩, hp, h⟩ := h
    split at h
    case isFalse => cases h
    rename_i hc
    obtain ⟨h1, h2, h3⟩ := hc
    simp only at h2 h3 h
    have hx := cells_rel h1 (hρ x)
    have hxs : (a.eval x).cells.size = size := by have := hx.length_eq; rw [h2] at this; simpa using this
    have hl := hv.length_eq
    have hsz : arr.size = cells.length := by simpa using hl
    simp only [List.map_cons]
    rw [fill_step place arr i (a.eval x) _ hp hxs (by omega)]
    have hcl : (a.eval x).cells.toList.length = size := by simpa using hxs
    obtain ⟨s1, s2⟩ := setMany_get off (a.eval x).cells.toList 0 arr (by rw [hcl]; omega)
    refine fillA_sound ps _ _ cs ?_ hρ h
    refine VRels.of ?_ fun j v y hj hy => ?_
    · simp only [Array.length_toList, s1]
      simp [putCells]; omega
    · rw [putCells_get (by rw [h2]; exact h3)] at hj
      rw [Array.getElem?_toList, s2 j] at hy
      simp only [Nat.add_zero] at hy
      rw [h2] at hj
      rw [hcl] at hy
      split at hj
      · rename_i hin
        rw [if_pos hin] at hy
        obtain ⟨y', hy', hv'⟩ := hx.get _ v hj
        rw [hy] at hy'
        injection hy' with hy'
        subst hy'
        exact hv'
      · rename_i hin
        rw [if_neg hin] at hy
        obtain ⟨y', hy', hv'⟩ := hv.get _ v hj
        rw [Array.getElem?_toList, hy] at hy'
        injection hy' with hy'
        subst hy'
        exact hv'
def RowsIn (c : Ctx) (st : Nat) (rows : List (List AVal)) (arr : Array Value) : Prop :=
  arr.size = rows.length * st ∧ ∀ (i : Nat) (r : List AVal), rows[i]? = some r → r.length = st ∧ ∀ (j : Nat) (v : AVal), r[j]? = some v → ∃ x, arr[i * st + j]? = some x ∧ VRel c v x
theorem fillR_sound {st : Nat} : ∀ (ps : List (Nat × Operand)) (rows : List (List AVal)) (arr : Array Value) (rows' : List (List AVal)), RowsIn c st rows arr → (∀ x, VRel c (ρ x) (a.eval x)) →
    fillR st rows (ps.map fun p => (p.1, ρ p.2)) = some rows' → ∃ arr', Instr.fill (fun i => some (i * st, st)) arr (ps.map fun p => (p.1, a.eval p.2)) = some arr' ∧ RowsIn c st rows' arr' ∧ rows'.length = rows.length
  | [], rows, arr, rows', hv, _, h => by
    simp only [List.map_nil, fillR, Option.some.injEq] at h
    subst h
    exact ⟨arr, rfl, hv, rfl⟩
  | (i, x) :: ps, rows, arr, rows', hv, hρ, h => by
    simp only [List.map_cons, fillR] at h
    split at h
    case isFalse => cases h
    rename_i hc
    obtain ⟨h1, h2, h3⟩ := hc
    obtain ⟨hsz, hrows⟩ := hv
    have hx := cells_rel h1 (hρ x)
    have hxs : (a.eval x).cells.size = st := by have := hx.length_eq; rw [h2] at this; simpa using this
    have hb : i * st + st ≤ rows.length * st := by rw [← Nat.succ_mul]; exact Nat.mul_le_mul_right _ h3
    simp only [List.map_cons]
    rw [fill_step (fun i => some (i * st, st)) arr i (a.eval x) _ rfl hxs (by omega)]
    have hcl : (a.eval x).cells.toList.length = st := by simpa using hxs
    obtain ⟨s1, s2⟩ := setMany_get (i * st) (a.eval x).cells.toList 0 arr (by rw [hcl]; omega)
    have := fillR_sound ps (rows.set i (ρ x).cellsV) _ rows' ⟨by rw [s1, hsz]; simp, fun i' r hi' => ?_⟩ hρ h
    · simpa using this
    · rw [List.getElem?_set] at hi'
      by_cases e : i = i'
      · subst e
        simp only [if_true, h3, Option.some.injEq] at hi'
        subst hi'
        refine ⟨h2, fun j v hj => ?_⟩
        have hjl : j < st := by rw [← h2]; exact (List.getElem?_eq_some_iff.1 hj).1
        obtain ⟨y, hy, hvy⟩ := hx.get j v hj
        refine ⟨y, ?_, hvy⟩
        rw [s2, if_pos (by rw [hcl]; omega), ← hy]
        congr 1; omega
      · rw [if_neg e] at hi'
        obtain ⟨q1, q2⟩ := hrows i' r hi'
        refine ⟨q1, fun j v hj => ?_⟩
        have hjl : j < st := by rw [← q1]; exact (List.getElem?_eq_some_iff.1 hj).1
        obtain ⟨y, hy, hvy⟩ := q2 j v hj
        refine ⟨y, ?_, hvy⟩
        rw [s2, if_neg ?_, hy]
        rw [hcl]
        rcases Nat.lt_or_gt_of_ne e with hlt | hgt
        · have : (i + 1) * st ≤ i' * st := Nat.mul_le_mul_right _ hlt
          rw [Nat.succ_mul] at this
          omega
        · have : (i' + 1) * st ≤ i * st := Nat.mul_le_mul_right _ hgt
          rw [Nat.succ_mul] at this
          omega
theorem fillR_len {st : Nat} : ∀ (rows : List (List AVal)) (ps : List (Nat × AVal)) (out : List (List AVal)), fillR st rows ps = some out → out.length = rows.length
  | rows, [], out, h => by simp only [fillR, Option.some.injEq] at h; rw [h]
  | rows, (i, v) :: rest, out, h => by
    unfold fillR at h
    split at h
    · rw [fillR_len _ rest out h]; simp
    · cases h
theorem info_of_szO {P : Program} {t : TypeId} {n : Nat} (h : P.szO t = some n) : ∃ i, P.info? t = some i ∧ i.size = n := by
  unfold Program.szO at h
  simpa [Option.map_eq_some_iff] using h
theorem buildSlice_sound {P : Program} (h : HeapOk S0 U0 w0 c) (hρ : ∀ x, VRel c (ρ x) (a.eval x)) {t : TypeId} {len : Nat} {ps : Array (Nat × Operand)} {dst : Option Tmp} (hA : Act2 P (.buildSlice t len ps) dst ρ c.H v rd up) :
    ∃ y c', (Instr.buildSlice t len (ps.map fun p => (p.1, a.eval p.2))).run P c.w = .ok y c'.w ∧ CtxLe c c' ∧ HeapOk S0 U0 w0 c' ∧ c'.H = c.H.setAll up ∧ VRel c' v y := by
  obtain ⟨size, z, rows, h1, h2, h3, h4, h5, h6, rfl, rfl, rfl⟩ := hA
  obtain ⟨e, e1, e2⟩ := elemO_spec h1
  obtain ⟨i', e3, e4⟩ := info_of_szO e2
  obtain ⟨i2, zv, e5, e6, e7⟩ := elemZero_spec e1 h3
  obtain rfl : i2 = i' := by rw [e3] at e5; injection e5 with e5; exact e5.symm
  subst e4
  have hzr := absV_cells c zv
  rw [← e7] at hzr
  have hzs : zv.cells.size = i2.size := by have := hzr.length_eq; rw [h4] at this; simpa using this
  have hstart : RowsIn c i2.size (List.replicate len z) (if len * i2.size = 0 then #[] else madeCells zv.cells (len * i2.size)) := by
    by_cases h0 : len * i2.size = 0
    · rw [if_pos h0]
      obtain rfl : len = 0 := by
        rcases Nat.mul_eq_zero.1 h0 with h' | h'
        · exact h'
        · omega
      exact ⟨by simp, fun i r hi => by simp at hi⟩
    · rw [if_neg h0]
      refine ⟨by rw [size_madeCells]; simp, fun i r hi => ?_⟩
      obtain ⟨hil, hir⟩ := List.getElem?_eq_some_iff.1 hi
      simp only [List.length_replicate] at hil
      rw [List.getElem_replicate] at hir
      subst hir
      refine ⟨h4, fun j v hj => ?_⟩
      obtain ⟨x, hx, hv⟩ := hzr.get j v hj
      have hjl : j < i2.size := by rw [← h4]; exact (List.getElem?_eq_some_iff.1 hj).1
      refine ⟨x, ?_, hv⟩
      have hb : i * i2.size + j < len * i2.size := by
        have : (i + 1) * i2.size ≤ len * i2.size := Nat.mul_le_mul_right _ (by omega)
        rw [Nat.succ_mul] at this
        omega
      simp only [madeCells, Array.getElem?_map]
      rw [Array.getElem?_range, if_pos hb]
      simp only [Option.map_some, hzs, Option.some.injEq]
      rw [Nat.mul_comm i, Nat.mul_add_mod, Nat.mod_eq_of_lt hjl]
      have hx' : zv.cells[j]? = some x := by simpa using hx
      rw [getElem!_pos zv.cells j (by omega)]
      rw [getElem?_pos zv.cells j (by omega)] at hx'
      injection hx'
  obtain ⟨arr, f1, ⟨f2, f3⟩, f4⟩ := fillR_sound ps.toList _ _ rows hstart hρ h6
  have hlen : rows.length = len := by simpa using f4
  have hrun : (Instr.buildSlice t len (ps.map fun p => (p.1, a.eval p.2))).run P c.w = .ok (.slice (some ⟨c.w.heap.size, 0, none⟩) len len) (c.w.alloc (.cells arr e)) := by
    by_cases h0 : len * i2.size = 0
    · rw [if_pos h0] at f1
      simp [Instr.buildSlice, run_underlying e1, sizeOf, typeInfo, e3, h0, newRow, Array.range_zero', f1]
    · rw [if_neg h0] at f1
      refine run_buildSlice c.w t e len _ arr i2 zv e1 e3 e6 (by omega) h0 ?_
      rw [Array.toList_map]
      exact f1
  have hup := h.alloc (site dst) i2.size rows arr e len (by omega) (by rw [f2, hlen]; exact Nat.le_refl _) f3
  exact ⟨_, _, hrun, hup.1, hup.2, rfl, osl_new _ (b := c.w.heap.size) (st := i2.size) (rows := rows) (H := c.H) (by simp) (by simp) (by omega)⟩
theorem nil1_rel {st : Nat} {v : AVal} {x : Value} (h : VRel c v x) : VRel c (nil1 st v) x := by
  unfold nil1
  split
  · simp only [VRel] at h
    subst h
    exact ⟨none, 0, rfl, Nat.le_refl _, fun hn => absurd rfl hn⟩
  · exact h
theorem nilAt_rel {st : Nat} : ∀ {i : Nat} {vs : List AVal} {xs : List Value}, VRels c vs xs → VRels c (nilAt i st vs) xs
  | _, [], _, h => by cases ‹Nat› <;> exact h
  | 0, v :: vs, _, ⟨y, ys, hx, h1, h2⟩ => ⟨y, ys, hx, nil1_rel h1, h2⟩
  | i + 1, v :: vs, _, ⟨y, ys, hx, h1, h2⟩ => ⟨y, ys, hx, h1, nilAt_rel h2⟩
theorem nilD_rel {d : Nat} : ∀ {l : List (Nat × Nat)} {vs : List AVal} {xs : List Value}, VRels c vs xs → VRels c (nilD l d vs) xs
  | [], _, _, h => h
  | p :: l, _, _, h => by
    unfold nilD
    split
    · exact nilD_rel (nilAt_rel h)
    · exact nilD_rel h
theorem nilO_rel {l : List (Nat × Nat)} {d : Option Tmp} {vs : List AVal} {xs : List Value} (h : VRels c vs xs) : VRels c (nilO l d vs) xs := by
  cases d with
  | none => exact h
  | some d => exact nilD_rel h
theorem build_sound {P : Program} (hρ : ∀ x, VRel c (ρ x) (a.eval x)) {t : TypeId} {ps : Array (Nat × Operand)} {dst : Option Tmp} (hA : Act2 P (.build t ps) dst ρ c.H v rd up) :
    up = [] ∧ ∃ y, (Instr.build t (ps.map fun p => (p.1, a.eval p.2))).run P c.w = .ok y c.w ∧ VRel c v y := by
  obtain ⟨z, cs, h1, h2, h3, ⟨nl, nd, rfl⟩, rfl, rfl⟩ := hA
  refine ⟨rfl, ?_⟩
  obtain ⟨i, zv, e1, e2, rfl⟩ := zeroL_spec h2
  obtain ⟨arr, f1, f2⟩ := fillA_sound ps.toList _ zv.cells cs (absV_cells c zv) hρ h3
  refine ⟨.agg arr, run_build c.w t _ arr ?_, _, rfl, nilO_rel f2⟩
  unfold Program.isComp at h1
  unfold Program.places at f1
  unfold Program.built
  rw [Array.toList_map]
  cases hu : P.underlying t with
  | none => simp [hu] at h1
  | some d =>
    cases d <;> simp only [hu, Bool.false_eq_true] at h1
    case array n e =>
      obtain ⟨k, hk⟩ := Option.isSome_iff_exists.1 h1
      obtain ⟨ie, hie, rfl⟩ := info_of_szO hk
      simp only [hu, hk] at f1
      simp only [e1, e2, hie]
      exact f1
    case struct fs =>
      obtain ⟨ps', hps⟩ := Option.isSome_iff_exists.1 h1
      simp only [hu, hps] at f1
      simp only [e1, e2, hps]
      simpa using f1
theorem isBytes_spec {P : Program} {t : TypeId} (h : P.isBytes t = true) : ∃ e, P.underlying t = some (.slice e) ∧ P.underlying e = some (.int .u8) ∧ P.szO e = some 1 := by
  unfold Program.isBytes at h
  split at h
  · rename_i e hu
    simp only [Bool.and_eq_true, beq_iff_eq] at h
    refine ⟨e, hu, ?_, h.2⟩
    have h1 := h.1
    split at h1
    · assumption
    · cases h1
  · cases h
theorem freeze_new (w : World) (arr : Array Value) (elem : TypeId) : ((w.alloc (.cells arr elem)).freeze ⟨w.heap.size, arr.size, none⟩ 1).heap[w.heap.size]? = some (.cells arr elem (arr.size, arr.size + 1)) := by
  show ((w.heap.push (Go.Obj.cells arr elem)).modify w.heap.size _)[w.heap.size]? = _
  rw [Array.getElem?_modify, if_pos rfl, Array.getElem?_push_size]
  rfl
theorem freeze_old (w : World) (o : Go.Obj) (a : Addr) (n k : Nat) (hk : k < w.heap.size) (ha : a.block ≠ k) : ((w.alloc o).freeze a n).heap[k]? = w.heap[k]? := by
  unfold World.freeze
  split
  · show (w.heap.push _)[k]? = _
    exact Array.get_push_lt _ _ _ hk
  · show ((w.heap.push _).modify _ _)[k]? = _
    rw [Array.getElem?_modify, if_neg ha]
    exact Array.get_push_lt _ _ _ hk
theorem freeze_rest (w : World) (o : Go.Obj) (a : Addr) (n : Nat) : ((w.alloc o).freeze a n).os = w.os ∧ ((w.alloc o).freeze a n).tape = w.tape ∧ ((w.alloc o).freeze a n).output = w.output ∧ ((w.alloc o).freeze a n).heap.size = w.heap.size + 1 := by
  unfold World.freeze
  split
  · exact ⟨rfl, rfl, rfl, by simp⟩
  · refine ⟨rfl, rfl, rfl, ?_⟩
    show ((w.heap.push _).modify _ _).size = _
    simp
theorem toBytes_sound {P : Program} (h : HeapOk S0 U0 w0 c) (s : Nat) (l : List UInt8) (elem : TypeId) :
    ∃ y c', (Conv.stringToBytes elem ⟨l.toArray⟩).run P c.w = .ok y c'.w ∧ CtxLe c c' ∧ HeapOk S0 U0 w0 c' ∧ c'.H = c.H.set s (newObj c.H s 1 (l.map byteRow)) ∧ VRel c' (.osl s ((c.H s).gen + 1) 0 l.length) y := by
  generalize hcap : grownCap c.w l.length 0 elem = cap
  have hge : l.length ≤ cap := by rw [← hcap]; exact grownCap_ge _ _ _ _
  generalize harr : ((l.map fun b => Value.int .u8 (b.toNat : Int)).toArray ++ Array.replicate (cap - l.length) (Value.int .u8 0)) = arr
  have hsz : arr.size = cap := by rw [← harr]; simp; omega
  have hs0 : (⟨l.toArray⟩ : ByteArray).size = l.length := by simp [ByteArray.size]
  have hrun : (Conv.stringToBytes elem ⟨l.toArray⟩).run P c.w = .ok (.slice (some ⟨c.w.heap.size, 0, none⟩) l.length cap) ((c.w.drew.alloc (.cells arr elem)).freeze ⟨c.w.heap.size, arr.size, none⟩ 1) := by
    have hshape : (c.w.drew.alloc (.cells arr elem)).shape? c.w.heap.size = some (elem, arr.size) := by
      have : (c.w.drew.alloc (.cells arr elem)).heap[c.w.heap.size]? = some (.cells arr elem) := by
        show (c.w.heap.push _)[c.w.heap.size]? = _
        simp
      unfold World.shape?
      rw [this]
    have hcut : (Question.appendCap l.length 0 elem).cut (c.w.tape c.w.drawn (.appendCap l.length 0 elem)) = cap := hcap
    have hels : (Array.map (fun b : UInt8 => Value.int .u8 (b.toNat : Int)) l.toArray ++ Array.replicate (cap - l.length) (Value.int .u8 0)) = arr := by
      rw [← harr]; simp
    simp only [Conv.stringToBytes, hs0, Sem.run_bind, run_choose, Question.forced, Bool.false_eq_true, if_false, hcut, Result.andThen_ok, newRow, run_newObj, hels, World.alloc_eq, World.drew_eq, Sem.run_pure, markStringish, run_shape, World.size_drew, hshape]
    simp
  obtain ⟨hd1, hd2⟩ := h.drew
  obtain ⟨q1, q2, q3, q4⟩ := freeze_rest c.w.drew (.cells arr elem) ⟨c.w.heap.size, arr.size, none⟩ 1
  have hblk := freeze_new c.w.drew arr elem
  have hup := hd2.update (c' := ⟨c.S, (c.w.drew.alloc (.cells arr elem)).freeze ⟨c.w.heap.size, arr.size, none⟩ 1, fun k => if k = s then ⟨c.w.heap.size, 0, cap⟩ else c.φ k, c.H.set s (newObj c.H s 1 (l.map byteRow))⟩)
    s (newObj c.H s 1 (l.map byteRow)) ⟨c.w.heap.size, 0, cap⟩ rfl rfl rfl
    (Keep.same q1 q2 q3 (by rw [q4]; exact Nat.le_succ _) (fun b hb => freeze_old _ _ _ _ _ hb (fun e => Nat.ne_of_gt hb (by simpa using e))))
    (by simp [newObj]) (fun hg => by simp [newObj] at hg) (fun hle _ => ?_) (fun _ _ => .inl (Nat.le_refl _))
  · exact ⟨_, _, hrun, hd1.trans hup.1, hup.2, rfl, osl_new _ (b := c.w.heap.size) (cap := cap) (st := 1) (rows := l.map byteRow) (H := c.H) (by simp) (by simp) (by simp)⟩
  · refine ⟨by simpa [newObj] using hge, fun _ => ⟨fun _ hs => ?_, fun hf => by simp [newObj] at hf⟩, fun i r hi => ?_, fun _ => ?_, fun e => by simp [newObj] at e⟩
    · simp only [if_true] at hs
      exact absurd (h.stab _ hs) (by omega)
    · simp only [Heap.set_same, newObj, if_true] at hi ⊢
      rw [List.getElem?_map, Option.map_eq_some_iff] at hi
      obtain ⟨b, hb, rfl⟩ := hi
      refine ⟨rfl, fun j v hj => ?_⟩
      have hj0 : j = 0 := by
        have := (List.getElem?_eq_some_iff.1 hj).1; simp [byteRow] at this; exact this
      subst hj0
      simp only [byteRow, List.getElem?_cons_zero, Option.some.injEq] at hj
      subst hj
      refine ⟨.int .u8 b.toNat, ?_, rfl⟩
      have hil := (List.getElem?_eq_some_iff.1 hb).1
      have e1 : arr[i]? = some (.int .u8 (b.toNat : Int)) := by
        rw [← harr, Array.getElem?_append_left (by simpa using hil)]
        simp [hb]
      have hb' : ((c.w.drew.alloc (.cells arr elem)).freeze ⟨c.w.heap.size, arr.size, none⟩ 1).heap[c.w.heap.size]? = some (.cells arr elem (arr.size, arr.size + 1)) := hblk
      simp [World.cell?, hb', e1]
    · simp only [Heap.set_same, newObj, if_true]
      exact ⟨arr, elem, _, hblk, by simp [hsz], fun _ => .inr ⟨rfl, Nat.le_refl _⟩⟩
theorem push_all : ∀ (l : List UInt8) (s : ByteArray), ((l.map fun b => (b.toNat : Int)).foldl (fun r n => r.push (UInt8.ofNat n.toNat)) s) = ⟨s.data ++ l.toArray⟩
  | [], s => by simp
  | b :: l, s => by
    simp only [List.map_cons, List.foldl_cons, Int.toNat_natCast]
    rw [push_all l, UInt8.ofNat_toNat]
    simp [ByteArray.push]
theorem byteRows_rel : ∀ (l : List UInt8) (news : List Value), VRels c (l.map byteRow).flatten news → news = (l.map fun b => (b.toNat : Int)).map (Value.int .u8)
  | [], news, h => by simpa [VRels] using h
  | b :: l, news, h => by
    obtain ⟨y, ys, rfl, h1, h2⟩ := h
    simp only [VRel] at h1
    subst h1
    rw [byteRows_rel l ys h2]
    rfl
theorem toString_sound {P : Program} (h : HeapOk S0 U0 w0 c) {t : TypeId} {x : AVal} {xv : Value} (hx : VRel c x xv) (hstr : ∀ l', x ≠ .str l') {l : List UInt8} {rd : List Nat} (hs : SrcR P c.H t 1 x (l.map byteRow) rd) :
    ∃ a m cap, xv = .slice a m cap ∧ (Conv.bytesToString xv).run P c.w = .ok (.string ⟨l.toArray⟩) c.w := by
  obtain ⟨news, hsrc⟩ := src_sound h hx hs
  have hxs : ∃ a m cap, xv = .slice a m cap := by
    unfold SrcR at hs
    split at hs
    · simp only [VRel, CRel] at hx; obtain ⟨a, cap, rfl, _⟩ := hx; exact ⟨_, _, _, rfl⟩
    · obtain ⟨a, m, cap, rfl, _⟩ := hx; exact ⟨_, _, _, rfl⟩
    · exact absurd rfl (hstr _)
    · simp only [VRel] at hx; exact ⟨_, _, _, hx⟩
    · simp only [VRel] at hx; exact ⟨_, _, _, hx⟩
    · exact hs.elim
  obtain ⟨a, m, cap, rfl⟩ := hxs
  have hm := hsrc.lenOf c.w
  simp only [Builtin.lenOf, Sem.run_pure, Result.ok.injEq, List.length_map, and_true] at hm
  subst hm
  have hnews := byteRows_rel l news hsrc.rel
  have hf := hsrc.first c.w l.length (fun _ => rfl) (by simp)
  refine ⟨a, _, cap, rfl, ?_⟩
  cases a with
  | none =>
    simp only [Builtin.firstCells, Sem.run_pure, Result.ok.injEq, and_true] at hf
    have hl : l = [] := by
      have h2 := congrArg Array.size hf
      simp only [List.size_toArray, List.length_take, hnews, List.length_map, List.size_toArray, List.length_nil] at h2
      exact List.eq_nil_of_length_eq_zero (by omega)
    subst hl
    simp [Conv.bytesToString]
    rfl
  | some ad =>
    simp only [Builtin.firstCells, Nat.mul_one] at hf
    rw [List.take_of_length_le (by rw [hnews]; simp), hnews] at hf
    rw [run_bytesToString c.w ad l.length cap _ hf, push_all]
    simp
def AVal.num : AVal → Bool
  | .int _ _ => true
  | .bool _ => true
  | .str _ => true
  | _ => false
theorem num_rel {v : AVal} (hn : v.num = true) {x : Value} (h : VRel c v x) (S : Nat → Prop) (w : World) : CRel S w v x := by
  cases v <;> simp [AVal.num] at hn <;> exact h
theorem HeapOk.freeze (h : HeapOk S0 U0 w0 c) (o : Nat) (hm : (c.H o).mode ≠ .dead) (hc : (c.φ o).cap ≠ 0) :
    CtxLe c ⟨fun b => c.S b ∨ b = (c.φ o).b, c.w, c.φ, c.H.set o { c.H o with mode := .froz }⟩ ∧ HeapOk S0 U0 w0 ⟨fun b => c.S b ∨ b = (c.φ o).b, c.w, c.φ, c.H.set o { c.H o with mode := .froz }⟩ := by
  have ho := h.objs o hm
  have hle : CtxLe c ⟨fun b => c.S b ∨ b = (c.φ o).b, c.w, c.φ, c.H.set o { c.H o with mode := .froz }⟩ := by
    refine ⟨fun b hb => .inl hb, fun _ _ => rfl, fun k => ?_⟩
    by_cases hk : k = o
    · subst hk; exact ⟨by simp, fun _ _ => ⟨hm, rfl, by simp, by simp⟩⟩
    · refine ⟨by simp [Heap.set_ne _ _ hk], fun _ hm' => ?_⟩
      simp only [Heap.set_ne _ _ hk] at hm' ⊢
      exact ⟨hm', trivial, trivial, Nat.le_refl _⟩
  have other : ∀ k, k ≠ o → (c.H k).mode = .live → (c.φ k).cap ≠ 0 → (c.φ k).b ≠ (c.φ o).b := fun k hk hl hkc e => by
    cases hmo : (c.H o).mode with
    | dead => exact hm hmo
    | live => exact h.inj k o hk hl hmo hkc hc e
    | froz =>
      have h1 := (ho.own hc).2 hmo
      exact ((h.objs k (by rw [hl]; simp)).own hkc).1 hl (by rw [e]; exact h1)
  refine ⟨hle, ⟨fun b hb => ?_, fun b hb => ?_, fun k hk => ?_, fun k k' hkk h1 h2 h3 h4 => ?_, fun k h1 h2 => ?_, h.keep⟩⟩
  · rcases hb with hb | rfl
    · exact h.stab b hb
    · exact (ho.room hc).lt
  · rcases hb with hb | rfl
    · exact h.orig b hb
    · cases hmo : (c.H o).mode with
      | dead => exact absurd hmo hm
      | live => exact .inr (h.own o hmo hc)
      | froz => exact h.orig _ ((ho.own hc).2 hmo)
  · by_cases e : k = o
    · subst e
      simp only [Heap.set_same] at hk ⊢
      refine ⟨by simpa using ho.le, fun _ => ⟨fun h => by simp at h, fun _ => .inr rfl⟩, by simpa using ho.rows.mono hle rfl, fun hn => ?_, by simpa using ho.ex⟩
      obtain ⟨cs, el, fz, a1, a2, a3⟩ := ho.room hn
      exact ⟨cs, el, fz, a1, by simpa using a2, fun hl => by simp at hl⟩
    · simp only [Heap.set_ne _ _ e] at hk ⊢
      have hob := h.objs k hk
      refine ⟨by simpa [Heap.set_ne _ _ e] using hob.le, fun hn => ⟨fun hl hs => ?_, fun hf => ?_⟩, by simpa [Heap.set_ne _ _ e] using hob.rows.mono hle rfl, by simpa [Heap.set_ne _ _ e] using hob.room, by simpa [Heap.set_ne _ _ e] using hob.ex⟩
      · simp only [Heap.set_ne _ _ e] at hl
        rcases hs with hs | hs
        · exact (hob.own hn).1 hl hs
        · exact other k e hl hn hs
      · simp only [Heap.set_ne _ _ e] at hf
        exact .inl ((hob.own hn).2 hf)
  · by_cases e : k = o
    · subst e; simp at h1
    · by_cases e' : k' = o
      · subst e'; simp at h2
      · simp only [Heap.set_ne _ _ e, Heap.set_ne _ _ e'] at h1 h2
        exact h.inj k k' hkk h1 h2 h3 h4
  · by_cases e : k = o
    · subst e; simp at h1
    · simp only [Heap.set_ne _ _ e] at h1
      exact h.own k h1 h2
def ActS (P : Program) (t : TypeId) (x : AVal) (lo hi : Option AVal) (H : Heap) (v : AVal) (rd : List Nat) (up : List (Nat × Obj)) : Prop :=
  ∃ o g i j n r h b, x = .ptr o g i j ∧ (H o).gen = g ∧ (H o).mode ≠ .dead ∧ P.arrO t = some (n, 1, false) ∧ (H o).rows[i]? = some r ∧ j + n ≤ r.length ∧ ((r.drop j).take n).all AVal.num = true ∧
    bnd hi n n = some h ∧ bnd lo 0 h = some b ∧ v = .slice 1 (((((r.drop j).take n).map fun a => [a]).drop b).take (h - b)) ∧ rd = [o] ∧ up = [(o, { H o with mode := .froz })]
theorem crows_ones {S : Nat → Prop} {w : World} {b : Nat} : ∀ (cs : List AVal) (off : Nat), CCells S w b off cs → CRows S w b off 1 (cs.map fun a => [a])
  | [], _, _ => trivial
  | v :: vs, off, h => by
    simp only [CCells] at h
    simp only [List.map_cons, CRows, List.length_singleton, CCells, and_true, true_and]
    exact ⟨h.1, crows_ones vs (off + 1) h.2⟩
theorem slice_arr_sound {E : Env} (h : HeapOk S0 U0 w0 c) (hρ : ∀ x, VRel c (ρ x) (a.eval x)) {t : TypeId} {x : Operand} {lo hi : Option Operand} (hA : ActS E.P t (ρ x) (lo.map ρ) (hi.map ρ) c.H v rd up) :
    ∃ y c', (Instr.sliceAt t (a.eval x) (lo.map a.eval) (hi.map a.eval) none).run E.P c.w = .ok y c'.w ∧ CtxLe c c' ∧ HeapOk S0 U0 w0 c' ∧ c'.H = c.H.setAll up ∧ VRel c' v y := by
  obtain ⟨o, g, i, j, n, r, hh, bb, hx, h1, h2, h3, h4, h5, h6, hhi, hlo, rfl, rfl, rfl⟩ := hA
  have hv := hρ x
  rw [hx] at hv
  obtain ⟨ad, hp, _, had⟩ := hv
  have had := had h1.symm h2
  obtain ⟨e, e1, e2, _⟩ := arrO_spec h3
  have hob := h.objs o h2
  have hilt := (List.getElem?_eq_some_iff.1 h4).1
  have hle := hob.le
  have hc : (c.φ o).cap ≠ 0 := by omega
  obtain ⟨f1, f2⟩ := h.freeze o h2 hc
  obtain ⟨hb, hble, hhle⟩ := run_bounds (c := c) (P := E.P) (w := c.w) (isS := false) hρ (Nat.le_refl n) (Nat.le_refl _) hhi hlo
  refine ⟨.slice (some (if n = bb then ad else ad.add (bb * 1))) (hh - bb) (n - bb), _, ?_, f1, f2, rfl, ?_⟩
  · rw [hp]
    simp [Instr.sliceAt, run_underlying e1, Instr.sureAddr, hb, run_szO e2]
  · have hlen : (((((r.drop j).take n).map fun a => [a]).drop bb).take (hh - bb)).length = hh - bb := by simp; omega
    obtain ⟨r1, r2⟩ := hob.rows i r h4
    have hcells : CCells (fun b => c.S b ∨ b = (c.φ o).b) c.w (c.φ o).b ((c.φ o).base + (i * (c.H o).st + j)) ((r.drop j).take n) := by
      rw [CCells_iff]
      intro k z hk
      have hk' : r[j + k]? = some z := by
        rw [List.getElem?_take] at hk
        split at hk
        · rwa [List.getElem?_drop] at hk
        · cases hk
      obtain ⟨y, y1, y2⟩ := r2 (j + k) z hk'
      refine ⟨y, by rw [← y1]; congr 2; omega, num_rel (c := c) ?_ y2 _ _⟩
      exact List.all_eq_true.1 h6 z (List.mem_of_getElem? hk)
    have hrows := CRows_cut (crows_ones _ _ hcells) bb (hh - bb)
    simp only [VRel, CRel]
    refine ⟨_, n - bb, by rw [hlen], by rw [hlen]; omega, fun hn => ?_⟩
    have hpos : 0 < hh - bb := by rw [← hlen]; exact List.length_pos_iff.2 hn
    rw [if_neg (by omega), had]
    simp only [Addr.add_lit, Option.some.injEq]
    exact ⟨_, _, rfl, .inr rfl, hrows⟩
def AVal.plain : AVal → Bool
  | .bool _ | .int _ _ | .str _ | .sc _ | .iptr _ | .slice _ _ | .junk => true
  | _ => false
mutual
def AVal.clo : AVal → Bool
  | .agg cs => clos cs
  | .tup cs => clos cs
  | v => v.plain
def clos : List AVal → Bool
  | [] => true
  | v :: vs => v.clo && clos vs
end
mutual
theorem clo_rel : ∀ (v : AVal) (x : Value), v.clo = true → VRel c v x → CRel c.S c.w v x
  | .agg cs, _, h, ⟨xs, hx, hr⟩ => ⟨xs, hx, clos_rel cs _ h hr⟩
  | .tup cs, _, h, ⟨xs, hx, hr⟩ => ⟨xs, hx, clos_rel cs _ h hr⟩
  | .bool _, _, _, hv => hv
  | .int _ _, _, _, hv => hv
  | .str _, _, _, hv => hv
  | .sc _, _, _, hv => hv
  | .iptr _, _, _, hv => hv
  | .slice _ _, _, _, hv => hv
  | .junk, _, _, hv => hv
  | .ptr _ _ _ _, _, h, _ => by simp [AVal.clo, AVal.plain] at h
  | .osl _ _ _ _, _, h, _ => by simp [AVal.clo, AVal.plain] at h
  | .fn _ _ _, _, h, _ => by simp [AVal.clo, AVal.plain] at h
  | .iface _ _, _, h, _ => by simp [AVal.clo, AVal.plain] at h
  | .usl _ _, _, h, _ => by simp [AVal.clo, AVal.plain] at h
  | .uptr _, _, h, _ => by simp [AVal.clo, AVal.plain] at h
theorem clos_rel : ∀ (vs : List AVal) (xs : List Value), clos vs = true → VRels c vs xs → CRels c.S c.w vs xs
  | [], _, _, hv => hv
  | v :: vs, _, h, ⟨y, ys, hx, h1, h2⟩ => by
    simp only [clos, Bool.and_eq_true] at h
    exact ⟨y, ys, hx, clo_rel v y h.1 h1, clos_rel vs ys h.2 h2⟩
end
theorem clos_get : ∀ (vs : List AVal), clos vs = true → ∀ (j : Nat) (v : AVal), vs[j]? = some v → v.clo = true
  | [], _, j, v, h => by simp at h
  | u :: vs, h, j, v, hj => by
    simp only [clos, Bool.and_eq_true] at h
    cases j with
    | zero => simp only [List.getElem?_cons_zero, Option.some.injEq] at hj; subst hj; exact h.1
    | succ j => exact clos_get vs h.2 j v (by simpa using hj)
theorem run_bounds3 {P : Program} {w : World} {lo : Option Operand} {hi mx : Operand} {ρ : Operand → AVal} {f : Operand → Value} (hρ : ∀ x, VRel c (ρ x) (f x)) {len cap : Nat} {isS : Bool} {top m h b : Nat} (ht : top ≤ cap) (hm : bnd (some (ρ mx)) 0 top = some m) (hh : bnd (some (ρ hi)) 0 m = some h) (hb : bnd (lo.map ρ) 0 h = some b) :
    (Instr.sliceBounds isS len cap (lo.map f) (some (f hi)) (some (f mx))).run P w = .ok (b, h, m) w ∧ b ≤ h ∧ h ≤ m ∧ m ≤ top := by
  have h1 : ∀ code, (Instr.sliceBound (f mx) cap code).run P w = .ok m w := fun code => (bnd_sound (c := c) (P := P) (w := w) (hρ mx) (d := 0) (top := cap) (r := m) (by
    unfold bnd at hm ⊢
    split at hm <;> simp_all; omega) code).1
  have h2 := fun code => bnd_sound (c := c) (P := P) (w := w) (hρ hi) hh code
  have h3 := (bnd_sound (c := c) (P := P) (w := w) (hρ mx) hm .sliceB).2
  have hlo : ∀ code, ((match lo.map f with | some v => Instr.sliceBound v h code | none => pure 0 : Sem Nat)).run P w = .ok b w ∧ b ≤ h := by
    intro code
    cases lo with
    | none => simp only [Option.map_none, bnd] at hb ⊢; split at hb <;> simp_all; omega
    | some x => exact bnd_sound (c := c) (P := P) (w := w) (hρ x) hb code
  refine ⟨?_, (hlo .sliceB).2, (h2 .sliceB).2, h3⟩
  have e2 := hlo .slice3C
  have e3 := (h2 .slice3B).1
  unfold Instr.sliceBounds
  cases lo <;> simp_all
def ActS3 (P : Program) (t : TypeId) (x : AVal) (lo : Option AVal) (hi mx : AVal) (H : Heap) (v : AVal) (rd : List Nat) (up : List (Nat × Obj)) : Prop :=
  match x with
  | .osl o g i _ => (H o).gen = g ∧ (H o).mode ≠ .dead ∧ P.elemO t = some (H o).st ∧ 0 < (H o).rows.length ∧ ∃ m h b, bnd (some mx) 0 ((H o).rows.length - i) = some m ∧ bnd (some hi) 0 m = some h ∧ bnd lo 0 h = some b ∧
      ((i = 0 ∧ (H o).mode = .live ∧ h = m ∧ b = 0 ∧ v = .osl o ((H o).gen + 1) 0 m ∧ rd = [o] ∧ up = [(o, ⟨(H o).gen + 1, .live, (H o).st, (H o).rows.take m, true⟩)]) ∨
       ((H o).rows.all clos = true ∧ v = .slice (H o).st (((H o).rows.drop (i + b)).take (h - b)) ∧ rd = [o] ∧ up = [(o, { H o with mode := .froz })]) ∨
       (v = .junk ∧ rd = [o] ∧ up = []))
  | .slice st es => P.elemO t = some st ∧ ∃ m h b, bnd (some mx) 0 es.length = some m ∧ bnd (some hi) 0 m = some h ∧ bnd lo 0 h = some b ∧ v = .slice st ((es.drop b).take (h - b)) ∧ rd = [] ∧ up = []
  | _ => False
theorem slice3_sound {E : Env} (h : HeapOk S0 U0 w0 c) (hρ : ∀ x, VRel c (ρ x) (a.eval x)) {t : TypeId} {x hi mx : Operand} {lo : Option Operand} (hA : ActS3 E.P t (ρ x) (lo.map ρ) (ρ hi) (ρ mx) c.H v rd up) :
    ∃ y c', (Instr.sliceAt t (a.eval x) (lo.map a.eval) (some (a.eval hi)) (some (a.eval mx))).run E.P c.w = .ok y c'.w ∧ CtxLe c c' ∧ HeapOk S0 U0 w0 c' ∧ c'.H = c.H.setAll up ∧ VRel c' v y := by
  have hx := hρ x
  unfold ActS3 at hA
  split at hA
  · rename_i o g i n q
    obtain ⟨h1, h2, h3, h0, m, hh, bb, hm, hhi, hlo, hA⟩ := hA
    obtain ⟨el, e1, e2⟩ := elemO_spec h3
    rw [q] at hx
    obtain ⟨ad, m', cap, hp, hg, hl⟩ := hx
    obtain ⟨rfl, hle, hcap, had⟩ := hl h1.symm h2
    have hob := h.objs o h2
    have hol := hob.le
    have hc : (c.φ o).cap ≠ 0 := by omega
    obtain ⟨hb, hble, hhle, hmle⟩ := run_bounds3 (c := c) (P := E.P) (w := c.w) (isS := true) (len := m') (cap := cap) hρ (top := (c.H o).rows.length - i) (by omega) hm hhi hlo
    rcases hA with ⟨rfl, hlv, rfl, rfl, rfl, rfl, rfl⟩ | ⟨hcl, rfl, rfl, rfl⟩ | ⟨rfl, rfl, rfl⟩
    case inr.inr =>
      refine ⟨.slice (if m = bb then ad else ad.map (·.add (bb * (c.H o).st))) (hh - bb) (m - bb), c, ?_, CtxLe.refl c, h, rfl, trivial⟩
      rw [hp, sliceAt_slice e1]; simp [Instr.slice, run_underlying e1, hb, run_szO e2]
    · have hlen : ((c.H o).rows.take hh).length = hh := by simp; omega
      obtain ⟨u1, u2⟩ := h.update' (c' := ⟨c.S, c.w, fun k => if k = o then ⟨(c.φ o).b, (c.φ o).base, hh⟩ else c.φ k, c.H.set o ⟨(c.H o).gen + 1, .live, (c.H o).st, (c.H o).rows.take hh, true⟩⟩) o ⟨(c.H o).gen + 1, .live, (c.H o).st, (c.H o).rows.take hh, true⟩ ⟨(c.φ o).b, (c.φ o).base, hh⟩ rfl rfl rfl (Keep.refl _ _)
        (by simp) (fun e => by simp at e) (fun hle' _ => by
          refine ⟨by simp only [Heap.set_same, if_true]; omega, fun _ => ⟨fun _ => by simpa using (hob.own hc).1 hlv, fun e => by simp at e⟩, fun i r hi => ?_, fun _ => ?_, fun _ => by simp only [Heap.set_same, if_true]; exact hlen⟩
          · simp only [Heap.set_same, if_true] at hi ⊢
            rw [List.getElem?_take] at hi
            split at hi
            · obtain ⟨r1, r2⟩ := hob.rows i r hi
              exact ⟨r1, r2.mono hle' rfl⟩
            · cases hi
          · simp only [Heap.set_same, if_true]
            obtain ⟨cs, e, fz, a1, a2, a3⟩ := hob.room hc
            have : hh * (c.H o).st ≤ (c.φ o).cap * (c.H o).st := Nat.mul_le_mul_right _ (by omega)
            exact ⟨cs, e, fz, a1, by omega, fun _ => a3 hlv⟩)
        (fun _ _ => (hob.own hc).1 hlv) (fun k hk hkl hkc _ _ => fun e => h.inj k o hk hkl hlv hkc hc e.symm) (fun _ _ => h.own o hlv hc)
      refine ⟨.slice (if hh = 0 then ad else ad.map (·.add (0 * (c.H o).st))) (hh - 0) (hh - 0), _, ?_, u1, u2, rfl, ?_⟩
      · rw [hp, sliceAt_slice e1]; simp [Instr.slice, run_underlying e1, hb, run_szO e2]
      · refine ⟨_, _, _, rfl, by simp, fun _ _ => ⟨by omega, by simp; omega, by simp, fun hn => ?_⟩⟩
        rw [if_neg (by omega), had (by omega)]
        simp [Addr.add_lit]
    obtain ⟨f1, f2⟩ := h.freeze o h2 hc
    refine ⟨.slice (if m = bb then ad else ad.map (·.add (bb * (c.H o).st))) (hh - bb) (m - bb), _, ?_, f1, f2, rfl, ?_⟩
    · rw [hp, sliceAt_slice e1]; simp [Instr.slice, run_underlying e1, hb, run_szO e2]
    · have hlen : (((c.H o).rows.drop (i + bb)).take (hh - bb)).length = hh - bb := by simp; omega
      simp only [VRel, CRel]
      refine ⟨_, m - bb, by rw [hlen], by rw [hlen]; omega, fun hn => ?_⟩
      have hpos : 0 < hh - bb := by rw [← hlen]; exact List.length_pos_iff.2 hn
      rw [if_neg (by omega), had (by omega)]
      refine ⟨(c.φ o).b, (c.φ o).base + i * (c.H o).st + bb * (c.H o).st, by simp only [Option.map_some, Addr.add_lit], .inr rfl, ?_⟩
      have hrows : CRows (fun b => c.S b ∨ b = (c.φ o).b) c.w (c.φ o).b (c.φ o).base (c.H o).st (c.H o).rows := by
        rw [CRows_iff]
        intro k r hk
        obtain ⟨r1, r2⟩ := hob.rows k r hk
        refine ⟨r1, ?_⟩
        rw [CCells_iff]
        intro j z hj
        obtain ⟨y, y1, y2⟩ := r2 j z hj
        have hr : clos r = true := List.all_eq_true.1 hcl r (List.mem_of_getElem? hk)
        exact ⟨y, y1, CRel.mono (fun b hb => .inl hb) (fun _ _ => rfl) _ _ (clo_rel (c := c) z y (clos_get r hr j z hj) y2)⟩
      have := CRows_cut hrows (i + bb) (hh - bb)
      rwa [Nat.add_mul, ← Nat.add_assoc] at this
  · rename_i st es q
    obtain ⟨h3, m, hh, bb, hm, hhi, hlo, rfl, rfl, rfl⟩ := hA
    obtain ⟨el, e1, e2⟩ := elemO_spec h3
    rw [q] at hx
    simp only [VRel, CRel] at hx
    obtain ⟨ad, cap, hp, hcap, hs⟩ := hx
    obtain ⟨hb, hble, hhle, hmle⟩ := run_bounds3 (c := c) (P := E.P) (w := c.w) (isS := true) (len := es.length) (cap := cap) hρ (top := es.length) hcap hm hhi hlo
    refine ⟨_, c, by rw [hp, sliceAt_slice e1]; simp [Instr.slice, run_underlying e1, hb, run_szO e2]; rfl, CtxLe.refl c, h, rfl, ?_⟩
    simp only [VRel, CRel]
    have hlen : ((es.drop bb).take (hh - bb)).length = hh - bb := by simp; omega
    refine ⟨_, m - bb, by rw [hlen], by rw [hlen]; omega, fun hn => ?_⟩
    have hpos : 0 < hh - bb := by rw [← hlen]; exact List.length_pos_iff.2 hn
    obtain ⟨b, off, rfl, hSb, hr⟩ := hs (fun e => by rw [e] at hmle; simp at hmle; omega)
    rw [if_neg (by omega)]
    simp only [Option.map_some, Addr.add_lit]
    exact ⟨b, _, rfl, hSb, CRows_cut hr _ _⟩
  · exact hA.elim
def ActBF (P : Program) (t : TypeId) (len : Nat) (ps : Array (Nat × Operand)) (dst : Option Tmp) (ρ : Operand → AVal) (H : Heap) (v : AVal) (rd : List Nat) (up : List (Nat × Obj)) : Prop :=
  ∃ size z rows, P.elemO t = some size ∧ 0 < size ∧ P.elemZero t = some z ∧ z.length = size ∧ len * size ≤ 16777216 ∧ fillR size (List.replicate len z) (ps.toList.map fun p => (p.1, ρ p.2)) = some rows ∧ 0 < len ∧ rows.all clos = true ∧
    v = .slice size rows ∧ rd = [site dst] ∧ up = [(site dst, { newObj H (site dst) size rows with mode := .froz })]
theorem buildSliceF_sound {P : Program} (h : HeapOk S0 U0 w0 c) (hρ : ∀ x, VRel c (ρ x) (a.eval x)) {t : TypeId} {len : Nat} {ps : Array (Nat × Operand)} {dst : Option Tmp} (hA : ActBF P t len ps dst ρ c.H v rd up) :
    ∃ y c', (Instr.buildSlice t len (ps.map fun p => (p.1, a.eval p.2))).run P c.w = .ok y c'.w ∧ CtxLe c c' ∧ HeapOk S0 U0 w0 c' ∧ c'.H = c.H.setAll up ∧ VRel c' v y := by
  obtain ⟨size, z, rows, h1, h2, h3, h4, h5, h6, hlen0, hcl, rfl, rfl, rfl⟩ := hA
  obtain ⟨y, c1, g1, g2, g3, g4, g5⟩ := buildSlice_sound (P := P) (dst := dst) (v := .osl (site dst) ((c.H (site dst)).gen + 1) 0 len) (rd := [site dst]) (up := [(site dst, newObj c.H (site dst) size rows)]) h hρ ⟨size, z, rows, h1, h2, h3, h4, h5, h6, rfl, rfl, rfl⟩
  have hH : c1.H (site dst) = newObj c.H (site dst) size rows := by rw [g4]; simp [Heap.setAll]
  obtain ⟨ad, m, cap, rfl, hg, hl⟩ := g5
  obtain ⟨rfl, hle, hcap, had⟩ := hl (by rw [hH]; rfl) (by rw [hH]; simp [newObj])
  have hm : (c1.H (site dst)).mode ≠ .dead := by rw [hH]; simp [newObj]
  have hob := g3.objs (site dst) hm
  have hol := hob.le
  have hst : (c1.H (site dst)).st = size := by rw [hH]; rfl
  have hrw : (c1.H (site dst)).rows = rows := by rw [hH]; rfl
  have hc : (c1.φ (site dst)).cap ≠ 0 := by omega
  obtain ⟨f1, f2⟩ := g3.freeze (site dst) hm hc
  refine ⟨_, ⟨fun b => c1.S b ∨ b = (c1.φ (site dst)).b, c1.w, c1.φ, c1.H.set (site dst) { c1.H (site dst) with mode := .froz }⟩, g1, g2.trans f1, f2, ?_, ?_⟩
  · simp only [Heap.setAll]
    funext k
    by_cases hk : k = site dst
    · subst hk; simp [hH]
    · rw [Heap.set_ne _ _ hk, Heap.set_ne _ _ hk, g4]
      simp only [Heap.setAll]
      rw [Heap.set_ne _ _ hk]
  · rw [hrw] at hle
    have hrl : rows.length = m := by
      have := fillR_len (List.replicate m z) (ps.toList.map fun p => (p.1, ρ p.2)) rows h6
      simpa using this
    simp only [VRel, CRel]
    rw [hrw] at hol
    refine ⟨ad, cap, by rw [hrl], by omega, fun _ => ?_⟩
    rw [had (by omega)]
    refine ⟨(c1.φ (site dst)).b, (c1.φ (site dst)).base, by simp, .inr rfl, ?_⟩
    rw [CRows_iff]
    intro k r hk
    obtain ⟨r1, r2⟩ := hob.rows k r (by rw [hrw]; exact hk)
    rw [hst] at r1 r2
    refine ⟨r1, ?_⟩
    rw [CCells_iff]
    intro j z' hj
    obtain ⟨y, y1, y2⟩ := r2 j z' hj
    have hr : clos r = true := List.all_eq_true.1 hcl r (List.mem_of_getElem? hk)
    exact ⟨y, y1, CRel.mono (fun b hb => .inl hb) (fun _ _ => rfl) _ _ (clo_rel (c := c1) z' y (clos_get r hr j z' hj) y2)⟩
def ActI (P : Program) (s d : TypeId) (x : AVal) (H : Heap) (v : AVal) (rd : List Nat) (up : List (Nat × Obj)) : Prop :=
  ∃ o g i n, x = .osl o g i n ∧ s = d ∧ P.isBytes s = true ∧ n < 0 ∧ (H o).gen = g ∧ (H o).mode = .live ∧ v = .osl o g i n ∧ rd = [o] ∧ up = [(o, H o)]
theorem convertC_sound {P : Program} (h : HeapOk S0 U0 w0 c) {ρ : Operand → AVal} (hρ : ∀ x, VRel c (ρ x) (a.eval x)) {s d : TypeId} {x : Operand} (hA : ActI P s d (ρ x) c.H v rd up) :
    ∃ y c', (convert s d (a.eval x)).run P c.w = .ok y c'.w ∧ CtxLe c c' ∧ HeapOk S0 U0 w0 c' ∧ c'.H = c.H.setAll up ∧ VRel c' v y := by
  obtain ⟨o, g, i, n, _, _, _, hn, _⟩ := hA
  exact absurd hn (Nat.not_lt_zero _)
def ActNil (dst : Option Tmp) (x : AVal) (H : Heap) (v : AVal) (rd : List Nat) (up : List (Nat × Obj)) : Prop :=
  ∃ k, x = .sc (.slice none 0 0) ∧ v = .osl (site dst) ((H (site dst)).gen + 1) 0 0 ∧ rd = [site dst] ∧ up = [(site dst, newObj H (site dst) k [])]
def ActN (E : Env) (op : Op) (dst : Option Tmp) (ρ : Operand → AVal) (H : Heap) (v : AVal) (rd : List Nat) (up : List (Nat × Obj)) : Prop :=
  match op with
  | .call cl => match cl.callee with
    | .builtin b => ActB E.P b cl.argTypes dst (cl.args.toList.map ρ) H v rd up
    | _ => False
  | .makeSlice t l c => Act2 E.P (.makeSlice t l c) dst ρ H v rd up
  | .build t ps => Act2 E.P (.build t ps) dst ρ H v rd up
  | .buildSlice t n ps => Act2 E.P (.buildSlice t n ps) dst ρ H v rd up ∨ ActBF E.P t n ps dst ρ H v rd up
  | .convert s d x => Act1 E (.convert s d x) dst ρ H v rd up ∨ Act2 E.P (.convert s d x) dst ρ H v rd up ∨ ActI E.P s d (ρ x) H v rd up
  | .slice t x lo hi mx => Act1 E (.slice t x lo hi mx) dst ρ H v rd up ∨ (mx = none ∧ ActS E.P t (ρ x) (lo.map ρ) (hi.map ρ) H v rd up) ∨ (∃ h m, hi = some h ∧ mx = some m ∧ ActS3 E.P t (ρ x) (lo.map ρ) (ρ h) (ρ m) H v rd up)
  | .assign x => Act1 E (.assign x) dst ρ H v rd up ∨ ActNil dst (ρ x) H v rd up
  | op => Act1 E op dst ρ H v rd up
theorem nil_sound (h : HeapOk S0 U0 w0 c) (hρ : ∀ x, VRel c (ρ x) (a.eval x)) {x : Operand} (ho : o.op = .assign x) (hA : ActNil sd (ρ x) c.H v rd up) : Done S0 U0 w0 c ((execOp a.eval o).run E.P c.w) v up := by
  obtain ⟨k, h1, rfl, rfl, rfl⟩ := hA
  have hx := hρ x
  rw [h1] at hx
  simp only [VRel] at hx
  obtain ⟨c', f1, f2, f3, f4, f5⟩ := h.empty (site sd) (newObj c.H (site sd) k []) rfl (by simp [newObj])
  exact ⟨.slice none 0 0, c', .inl (by rw [f1]; simp [execOp, ho, hx]), f2, f3, f4, none, 0, 0, rfl, by simp [f4, newObj], fun _ _ => ⟨rfl, by simp, by simp [f5], fun hn => by simp at hn⟩⟩
theorem convert2_sound {P : Program} (h : HeapOk S0 U0 w0 c) (hρ : ∀ x, VRel c (ρ x) (a.eval x)) {s d : TypeId} {x : Operand} {dst : Option Tmp} (hA : Act2 P (.convert s d x) dst ρ c.H v rd up) :
    ∃ y c', (convert s d (a.eval x)).run P c.w = .ok y c'.w ∧ CtxLe c c' ∧ HeapOk S0 U0 w0 c' ∧ c'.H = c.H.setAll up ∧ VRel c' v y := by
  have hx := hρ x
  simp only [Act2] at hA
  split at hA
  · rename_i l q
    obtain ⟨h1, h2, _, rfl, rfl, rfl⟩ := hA
    rw [q] at hx
    simp only [VRel] at hx
    obtain ⟨e, e1, e2, e3⟩ := isBytes_spec h2
    obtain ⟨y, c', f1, f2, f3, f4, f5⟩ := toBytes_sound (P := P) h (site dst) l e
    exact ⟨y, c', by rw [hx]; simpa [convert, run_underlying (isStr_spec h1), run_underlying e1, run_underlying e2] using f1, f2, f3, f4, f5⟩
  · rename_i q
    obtain ⟨h1, h2, rfl, l, h3, rfl⟩ := hA
    obtain ⟨e, e1, e2, e3⟩ := isBytes_spec h1
    obtain ⟨ad, m, cap, f1, f2⟩ := toString_sound h hx q h3
    exact ⟨_, c, by rw [f1] at f2 ⊢; rw [run_convert_bytes_string c.w s d e ad m cap e1 e2 (isStr_spec h2)]; exact f2, CtxLe.refl c, h, rfl, rfl⟩
theorem mapList2 {args : Array Operand} {x y : AVal} (h : args.toList.map ρ = [x, y]) : ∃ p q, args = #[p, q] ∧ ρ p = x ∧ ρ q = y := by
  obtain ⟨l⟩ := args
  match l, h with
  | [p, q], h => simp at h; exact ⟨p, q, rfl, h.1, h.2⟩
theorem mapList1 {args : Array Operand} {x : AVal} (h : args.toList.map ρ = [x]) : ∃ p, args = #[p] ∧ ρ p = x := by
  obtain ⟨l⟩ := args
  match l, h with
  | [p], h => simp at h; exact ⟨p, rfl, h⟩
theorem builtin_sound (h : HeapOk S0 U0 w0 c) (hρ : ∀ x, VRel c (ρ x) (a.eval x)) {cl : Go.Call} {b : Builtin} (ho : o.op = .call cl) (hb : cl.callee = .builtin b) (hA : ActB E.P b cl.argTypes sd (cl.args.toList.map ρ) c.H v rd up) :
    Done S0 U0 w0 c ((execOp a.eval o).run E.P c.w) v up := by
  have e : (execOp a.eval o).run E.P c.w = (builtin b cl.argTypes o.type (cl.args.map fun | .const _ => true | _ => false) (cl.args.map a.eval)).run E.P c.w := by
    simp [execOp, ho, resolve, hb, invoke]
    rfl
  rw [e]
  unfold ActB at hA
  split at hA
  · rename_i x q
    obtain ⟨p, hp, rfl⟩ := mapList1 q
    obtain ⟨rfl, y, hy, hv⟩ := run_len (P := E.P) (ty := o.type) (dst := sd) (rd := rd) (hρ p) hA
    exact .pure h (by rw [hp]; simp [builtin, hy]) hv
  · rename_i x q
    obtain ⟨p, hp, rfl⟩ := mapList1 q
    obtain ⟨rfl, y, hy, hv⟩ := run_cap (P := E.P) (ty := o.type) (dst := sd) (rd := rd) h (hρ p) hA
    exact .pure h (by rw [hp]; simp [builtin, hy]) hv
  · rename_i k x k' y q
    obtain ⟨p1, p2, hp, h1, h2⟩ := mapList2 q
    obtain ⟨rfl, rfl, rfl⟩ := hA
    have e1 := hρ p1
    have e2 := hρ p2
    rw [h1] at e1
    rw [h2] at e2
    simp only [VRel] at e1 e2
    exact .pure (x := .int k (if y > x then y else x)) h (by rw [hp]; simp [builtin, Builtin.max_, e1, e2, Builtin.max2]) rfl
  · rename_i k x k' y q
    obtain ⟨p1, p2, hp, h1, h2⟩ := mapList2 q
    obtain ⟨rfl, rfl, rfl⟩ := hA
    have e1 := hρ p1
    have e2 := hρ p2
    rw [h1] at e1
    rw [h2] at e2
    simp only [VRel] at e1 e2
    exact .pure (x := .int k (if y < x then y else x)) h (by rw [hp]; simp [builtin, Builtin.min_, e1, e2, Builtin.min2]) rfl
  · rename_i x q
    obtain ⟨p, hp, rfl⟩ := mapList1 q
    obtain ⟨y, c', f1, f2, f3, f4, f5⟩ := clear_sound (P := E.P) (ty := o.type) (rd := rd) (up := up) h (hρ p) hA
    exact ⟨y, c', .inl (by rw [hp]; simp [builtin, f1]), f2, f3, f4, f5⟩
  · rename_i s x q
    obtain ⟨p1, p2, hp, rfl, rfl⟩ := mapList2 q
    obtain ⟨y, c', f1, f2, f3, f4, f5⟩ := append_sound (P := E.P) (ty := o.type) (dst := sd) (rd := rd) (up := up) h (hρ p1) (hρ p2) hA
    exact ⟨y, c', .inl (by rw [hp]; simp [builtin, f1]), f2, f3, f4, f5⟩
  · rename_i s x q
    obtain ⟨p1, p2, hp, rfl, rfl⟩ := mapList2 q
    obtain ⟨y, c', f1, f2, f3, f4, f5⟩ := copy_sound (P := E.P) (ty := o.type) (dst := sd) (rd := rd) (up := up) h (hρ p1) (hρ p2) hA
    exact ⟨y, c', .inl (by rw [hp]; simp [builtin, f1]), f2, f3, f4, f5⟩
  · exact hA.elim
theorem actN_sound (h : HeapOk S0 U0 w0 c) (hρ : ∀ x, VRel c (ρ x) (a.eval x)) (hA : ActN E o.op sd ρ c.H v rd up) : Done S0 U0 w0 c ((execOp a.eval o).run E.P c.w) v up := by
  have put : ∀ {s : Sem Value}, (execOp a.eval o).run E.P c.w = (s.run E.P c.w).andThen (fun z w => .ok (.value z) w) → (∃ y c', s.run E.P c.w = .ok y c'.w ∧ CtxLe c c' ∧ HeapOk S0 U0 w0 c' ∧ c'.H = c.H.setAll up ∧ VRel c' v y) → Done S0 U0 w0 c ((execOp a.eval o).run E.P c.w) v up := by
    rintro s he ⟨y, c', f1, f2, f3, f4, f5⟩
    exact ⟨y, c', .inl (by rw [he, f1]; rfl), f2, f3, f4, f5⟩
  cases ho : o.op <;> rw [ho] at hA <;> simp only [ActN] at hA <;> try (exact hA.elim)
  case move x => exact snd_move h hρ ho hA
  case assign x =>
    rcases hA with hA | hA
    · exact snd_assign h hρ ho hA
    · exact nil_sound h hρ ho hA
  case pick x y z => exact snd_pick h hρ ho hA
  case alloc t => exact snd_alloc h hρ ho hA
  case box t x => exact snd_box h hρ ho hA
  case build t ps =>
    obtain ⟨rfl, y, hy, hv⟩ := build_sound (P := E.P) (dst := sd) (rd := rd) (up := up) hρ hA
    exact .pure h (by simp [execOp, ho, hy]) hv
  case buildSlice t n ps =>
    rcases hA with hA | hA
    · exact put (by simp [execOp, ho]) (buildSlice_sound (P := E.P) (dst := sd) (rd := rd) (up := up) h hρ hA)
    · exact put (by simp [execOp, ho]) (buildSliceF_sound (P := E.P) (dst := sd) (rd := rd) (up := up) h hρ hA)
  case load t x => exact snd_load h hρ ho hA
  case store t x y => exact snd_store h hρ ho hA
  case nilCheck x => exact snd_nilCheck h hρ ho hA
  case sliceToArrayPointer t x => exact snd_s2a h hρ ho hA
  case binOp op t x y u => exact snd_binOp h hρ ho hA
  case unOp op t x => exact snd_unOp h hρ ho hA
  case convert s d x =>
    rcases hA with hA | hA | hA
    · exact snd_convert h hρ ho hA
    · exact put (by simp [execOp, ho]) (convert2_sound (P := E.P) (dst := sd) (rd := rd) (up := up) h hρ hA)
    · exact put (by simp [execOp, ho]) (convertC_sound (P := E.P) (rd := rd) (up := up) h hρ hA)
  case makeFunc f fs cs => exact snd_makeFunc h hρ ho hA
  case makeSlice t l k => exact put (by simp [execOp, ho]) (make_sound (P := E.P) (dst := sd) (rd := rd) (up := up) h hρ hA)
  case slice t x lo hi mx =>
    rcases hA with hA | ⟨rfl, hA⟩ | ⟨_, _, rfl, rfl, hA⟩
    · exact snd_slice h hρ ho hA
    · exact put (by simp [execOp, ho]) (slice_arr_sound (E := E) (rd := rd) (up := up) h hρ hA)
    · exact put (by simp [execOp, ho]) (slice3_sound (E := E) (rd := rd) (up := up) h hρ hA)
  case fieldAddr s x f => exact snd_fieldAddr h hρ ho hA
  case field s x f => exact snd_field h hρ ho hA
  case indexAddr t x i => exact snd_indexAddr h hρ ho hA
  case index t x i => exact snd_index h hρ ho hA
  case extract x i => exact snd_extract h hρ ho hA
  case call cl =>
    split at hA
    · rename_i b hb; exact builtin_sound h hρ ho hb hA
    · exact hA.elim
end
end Go.Am
