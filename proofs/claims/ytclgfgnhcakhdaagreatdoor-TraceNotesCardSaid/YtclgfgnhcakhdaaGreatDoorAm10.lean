import Derived.Test.YtclgfgnhcakhdaaGreatDoorAm9
namespace Go.Am
set_option linter.unusedSectionVars false
def xBool (v : AVal) (K : Bool → Prop) : Prop := match v with | .bool t => K t | _ => False
def xInt (v : AVal) (K : IntKind → Int → Prop) : Prop := match v with | .int k n => K k n | _ => False
def xSome {α : Type} (v : Option α) (K : α → Prop) : Prop := match v with | some a => K a | none => False
theorem xBool_spec {v : AVal} {K : Bool → Prop} (h : xBool v K) : ∃ t, v = .bool t ∧ K t := by
  cases v <;> simp only [xBool] at h <;> first | exact h.elim | exact ⟨_, rfl, h⟩
theorem xInt_spec {v : AVal} {K : IntKind → Int → Prop} (h : xInt v K) : ∃ k n, v = .int k n ∧ K k n := by
  cases v <;> simp only [xInt] at h <;> first | exact h.elim | exact ⟨_, _, rfl, h⟩
theorem xSome_spec {α : Type} {v : Option α} {K : α → Prop} (h : xSome v K) : ∃ a, v = some a ∧ K a := by
  cases v <;> simp only [xSome] at h <;> first | exact h.elim | exact ⟨_, rfl, h⟩
abbrev Cont := AVal → List Nat → List (Nat × Obj) → Prop
def xLoad (H : Heap) (g : Bool) (n : Nat) (p : AVal) (K : Cont) : Prop :=
  match p with
  | .ptr o gn i j => (H o).gen = gn ∧ (H o).mode ≠ .dead ∧ xSome ((H o).rows[i]?) fun r => j + n ≤ r.length ∧ K (mkV g ((r.drop j).take n)) [o] []
  | .iptr cs => n ≤ cs.length ∧ K (mkV g (cs.take n)) [] []
  | _ => False
def xStore (H : Heap) (n : Nat) (p v : AVal) (K : Cont) : Prop :=
  v.boxable = true ∧ v.cellsV.length = n ∧ v.cellsV.all AVal.one = true ∧
  match p with
  | .ptr o gn i j => (H o).gen = gn ∧ (H o).mode = .live ∧ xSome ((H o).rows[i]?) fun r => j + v.cellsV.length ≤ r.length ∧ K .junk [o] [(o, { H o with rows := (H o).rows.set i (putCells r j v.cellsV) })]
  | _ => False
def xField (off : Nat) (p : AVal) (K : Cont) : Prop :=
  match p with
  | .ptr o g i j => K (.ptr o g i (j + off)) [] []
  | .iptr cs => K (.iptr (cs.drop off)) [] []
  | _ => False
def xPart (g : Bool) (off n : Nat) (v : AVal) (K : Cont) : Prop :=
  match v with
  | .agg cs => off + n ≤ cs.length ∧ (g = false → n = 1) ∧ K (mkV g ((cs.drop off).take n)) [] []
  | _ => False
def xIndexAddr (P : Program) (H : Heap) (t : TypeId) (p : AVal) (n : Int) (K : Cont) : Prop :=
  match p with
  | .slice st es => P.elemO t = some st ∧ xSome (es[n.toNat]?) fun r => K (.iptr r) [] []
  | .osl o g i m => (H o).gen = g ∧ (H o).mode ≠ .dead ∧ P.elemO t = some (H o).st ∧ n.toNat < m ∧ K (.ptr o g (i + n.toNat) 0) [o] []
  | .ptr o g i j => xSome (P.arrO t) fun a => n.toNat < a.1 ∧ K (.ptr o g i (j + n.toNat * a.2.1)) [] []
  | .iptr cs => xSome (P.arrO t) fun a => n.toNat < a.1 ∧ K (.iptr (cs.drop (n.toNat * a.2.1))) [] []
  | _ => False
def xIndex (P : Program) (t : TypeId) (p : AVal) (n : Int) (K : Cont) : Prop :=
  match p with
  | .str l => P.isStr t = true ∧ xSome (l[n.toNat]?) fun b => K (.int .u8 b.toNat) [] []
  | .agg cs => xSome (P.arrO t) fun a => n.toNat < a.1 ∧ n.toNat * a.2.1 + a.2.1 ≤ cs.length ∧ (a.2.2 = false → a.2.1 = 1) ∧ K (mkV a.2.2 ((cs.drop (n.toNat * a.2.1)).take a.2.1)) [] []
  | _ => False
def xTup (i : Nat) (v : AVal) (K : Cont) : Prop :=
  match v with
  | .tup vs => xSome (vs[i]?) fun v => K v [] []
  | _ => False
def xSlice (P : Program) (H : Heap) (t : TypeId) (p : AVal) (lo hi : Option AVal) (K : Cont) : Prop :=
  match p with
  | .str l => P.isStr t = true ∧ xSome (bnd hi l.length l.length) fun h => xSome (bnd lo 0 h) fun b => K (.str ((l.drop b).take (h - b))) [] []
  | .slice st es => P.elemO t = some st ∧ xSome (bnd hi es.length es.length) fun h => xSome (bnd lo 0 h) fun b => K (.slice st ((es.drop b).take (h - b))) [] []
  | .osl o g i m => (H o).gen = g ∧ (H o).mode ≠ .dead ∧ P.elemO t = some (H o).st ∧ xSome (bnd hi m ((H o).rows.length - i)) fun h => xSome (bnd lo 0 h) fun b => K (.osl o g (i + b) (h - b)) [o] []
  | .ptr o g i j => (H o).gen = g ∧ (H o).mode ≠ .dead ∧ xSome (P.arrO t) fun n => n.2 = (1, false) ∧ xSome ((H o).rows[i]?) fun r => j + n.1 ≤ r.length ∧ ((r.drop j).take n.1).all AVal.num = true ∧ xSome (bnd hi n.1 n.1) fun h => xSome (bnd lo 0 h) fun b =>
      K (.slice 1 (((((r.drop j).take n.1).map fun a => [a]).drop b).take (h - b))) [o] [(o, { H o with mode := .froz })]
  | _ => False
def xSlice3 (P : Program) (H : Heap) (t : TypeId) (p : AVal) (lo : Option AVal) (hi mx : AVal) (K : Cont) : Prop :=
  match p with
  | .slice st es => P.elemO t = some st ∧ xSome (bnd (some mx) 0 es.length) fun m => xSome (bnd (some hi) 0 m) fun h => xSome (bnd lo 0 h) fun b => K (.slice st ((es.drop b).take (h - b))) [] []
  | .osl o g i _ => (H o).gen = g ∧ (H o).mode ≠ .dead ∧ P.elemO t = some (H o).st ∧ 0 < (H o).rows.length ∧ xSome (bnd (some mx) 0 ((H o).rows.length - i)) fun m => xSome (bnd (some hi) 0 m) fun h => xSome (bnd lo 0 h) fun b =>
      if i = 0 ∧ (H o).mode = .live ∧ h = m ∧ b = 0 then K (.osl o ((H o).gen + 1) 0 m) [o] [(o, ⟨(H o).gen + 1, .live, (H o).st, (H o).rows.take m, true⟩)]
      else (H o).rows.all clos = true ∧ K (.slice (H o).st (((H o).rows.drop (i + b)).take (h - b))) [o] [(o, { H o with mode := .froz })]
  | _ => False
def xSlice3J (P : Program) (H : Heap) (t : TypeId) (p : AVal) (lo : Option AVal) (hi mx : AVal) (K : Cont) : Prop :=
  match p with
  | .osl o g i _ => (H o).gen = g ∧ (H o).mode ≠ .dead ∧ P.elemO t = some (H o).st ∧ 0 < (H o).rows.length ∧ xSome (bnd (some mx) 0 ((H o).rows.length - i)) fun m => xSome (bnd (some hi) 0 m) fun h => xSome (bnd lo 0 h) fun _ => K .junk [o] []
  | _ => False
def xConv (P : Program) (H : Heap) (s d : TypeId) (dst : Option Tmp) (v : AVal) (K : Cont) : Prop :=
  match v with
  | .int _ n => (P.underlying s).isSome = true ∧ (match P.underlying d with | some (.int k) => K (.int k (k.wrap n)) [] [] | _ => False)
  | .str l => if P.isStr d = true then (P.underlying s).isSome = true ∧ K (.str l) [] []
      else P.isStr s = true ∧ P.isBytes d = true ∧ l.length ≤ 9223372036854775807 ∧ K (.osl (site dst) ((H (site dst)).gen + 1) 0 l.length) [site dst] [(site dst, newObj H (site dst) 1 (l.map byteRow))]
  | .osl o g i n => if P.isStr d = true then P.isBytes s = true ∧ P.isStr d = true ∧ ∃ l rd, SrcR P H s 1 (.osl o g i n) (l.map byteRow) rd ∧ K (.str l) rd []
      else s = d ∧ P.isBytes s = true ∧ n < 0 ∧ (H o).gen = g ∧ (H o).mode = .live ∧ K (.osl o g i n) [o] [(o, H o)]
  | v => P.isBytes s = true ∧ P.isStr d = true ∧ ∃ l rd, SrcR P H s 1 v (l.map byteRow) rd ∧ K (.str l) rd []
def xSrc (P : Program) (H : Heap) (t : TypeId) (size : Nat) (x : AVal) (K : List (List AVal) → List Nat → Prop) : Prop :=
  match x with
  | .slice st es => (st = size ∨ es = []) ∧ K es []
  | .osl o g i n => (H o).gen = g ∧ (H o).mode ≠ .dead ∧ (H o).st = size ∧ i + n ≤ (H o).rows.length ∧ K (((H o).rows.drop i).take n) [o]
  | .str l => P.isStr t = true ∧ size = 1 ∧ K (l.map byteRow) []
  | .sc (.slice none 0 0) => K [] []
  | .sc (.slice (some _) 0 _) => K [] []
  | _ => False
def xLen (P : Program) (H : Heap) (t : TypeId) (x : AVal) (K : Cont) : Prop :=
  match x with
  | .str l => P.isStr t = true ∧ K (.int .i64 (l.length : Int)) [] []
  | .slice _ es => (P.elemO t).isSome = true ∧ K (.int .i64 (es.length : Int)) [] []
  | .osl o g _ n => (P.elemO t).isSome = true ∧ (H o).gen = g ∧ (H o).mode ≠ .dead ∧ K (.int .i64 (n : Int)) [o] []
  | .sc (.slice none 0 0) => (P.elemO t).isSome = true ∧ K (.int .i64 0) [] []
  | .agg _ => xSome (P.arrO t) fun a => K (.int .i64 (a.1 : Int)) [] []
  | _ => False
def xAppend (P : Program) (H : Heap) (t u : TypeId) (dst : Option Tmp) (s x : AVal) (K : Cont) : Prop :=
  xSome (P.elemO t) fun size => xSome (P.elemBytes t) fun bytes => xSome (P.elemZero t) fun z => z.length = size ∧ P.isInt u = false ∧ (P.underlying u).isSome = true ∧
  xSrc P H u size x fun es rd => ones es = true ∧
  match s with
  | .sc (.slice none 0 0) => es.length * bytes ≤ 140737488355328 ∧ es.length ≤ 9223372036854775807 ∧ K (.osl (site dst) ((H (site dst)).gen + 1) 0 es.length) (site dst :: rd) [(site dst, newObj H (site dst) size es)]
  | .osl o g i n => (H o).gen = g ∧ (H o).mode = .live ∧ (H o).st = size ∧ i + n ≤ (H o).rows.length ∧ (n + es.length) * bytes ≤ 140737488355328 ∧ n + es.length ≤ 9223372036854775807 ∧
      K (.osl o (g + 1) 0 (n + es.length)) (o :: rd) [(o, ⟨g + 1, .live, size, ((H o).rows.drop i).take n ++ es, false⟩)]
  | _ => False
def xAppIn (P : Program) (H : Heap) (t u : TypeId) (s x : AVal) (K : Cont) : Prop :=
  xSome (P.elemO t) fun size => P.isInt u = false ∧ (P.underlying u).isSome = true ∧
  xSrc P H u size x fun es rd => ones es = true ∧
  match s with
  | .osl o g i n => (H o).gen = g ∧ (H o).mode = .live ∧ (H o).st = size ∧ i + n + es.length ≤ (H o).rows.length ∧
      K (.osl o g i (n + es.length)) (o :: rd) [(o, { H o with rows := (H o).rows.take (i + n) ++ es ++ (H o).rows.drop (i + n + es.length) })]
  | _ => False
def xClear (P : Program) (H : Heap) (t : TypeId) (x : AVal) (K : Cont) : Prop :=
  match x with
  | .osl o g i n => xSome (P.elemO t) fun size => xSome (P.elemZero t) fun z => z.length = size ∧ ones [z] = true ∧ (H o).gen = g ∧ (H o).mode = .live ∧ (H o).st = size ∧ i + n ≤ (H o).rows.length ∧
      K (.tup []) [o] [(o, { H o with rows := (H o).rows.take i ++ List.replicate n z ++ (H o).rows.drop (i + n) })]
  | _ => False
def xZeros (P : Program) (H : Heap) (t u : TypeId) (dst : Option Tmp) (s : AVal) (k : Int) (K : Cont) : Prop :=
  match s with
  | .osl o g i n => P.isInt u = true ∧ xSome (P.elemO t) fun size => 0 < size ∧ xSome (P.elemBytes t) fun bytes => xSome (P.elemZero t) fun z => z.length = size ∧ 0 ≤ k ∧
      (H o).gen = g ∧ (H o).mode ≠ .dead ∧ (H o).st = size ∧ i + n ≤ (H o).rows.length ∧ (n + k.toNat) * bytes ≤ 140737488355328 ∧ n + k.toNat ≤ 9223372036854775807 ∧
      if (H o).exact = true ∧ (H o).rows.length < i + n + k.toNat then K (.osl (site dst) ((H (site dst)).gen + 1) 0 (n + k.toNat)) [site dst, o] [(site dst, newObj H (site dst) size (((H o).rows.drop i).take n ++ List.replicate k.toNat z))]
      else (H o).mode = .live ∧ ones (List.replicate k.toNat z) = true ∧ K (.osl o (g + 1) 0 (n + k.toNat)) [o] [(o, ⟨g + 1, .live, size, ((H o).rows.drop i).take n ++ List.replicate k.toNat z, false⟩)]
  | _ => False
def xCap (P : Program) (H : Heap) (t : TypeId) (x : AVal) (K : Cont) : Prop :=
  match x with
  | .osl o g i _ => (P.elemO t).isSome = true ∧ (H o).gen = g ∧ (H o).mode ≠ .dead ∧ (H o).exact = true ∧ K (.int .i64 (((H o).rows.length - i : Nat) : Int)) [o] []
  | _ => False
def xCopy (P : Program) (H : Heap) (t u : TypeId) (d x : AVal) (K : Cont) : Prop :=
  xSome (P.elemO t) fun size => xSrc P H u size x fun es rd =>
  match d with
  | .osl o g i n => (H o).gen = g ∧ (H o).mode = .live ∧ (H o).st = size ∧ i + n ≤ (H o).rows.length ∧ ones (es.take (min es.length n)) = true ∧
      K (.int .i64 ((min es.length n : Nat) : Int)) (o :: rd) [(o, { H o with rows := (H o).rows.take i ++ es.take (min es.length n) ++ (H o).rows.drop (i + min es.length n) })]
  | _ => False
def xCall (E : Env) (f : FuncId) (vals : List AVal) (dst : Option Tmp) (H : Heap) (K : Cont) : Prop :=
  E.P.goFn f = true ∧ ∃ ds r ls u b bz,
    Pks H vals ds u b ∧ u.Nodup ∧ (∀ o ∈ u, o ∉ b) ∧ (∃ ex, SpecX E ex f ds r ls ∧ ExV H u vals ex) ∧ (bz = b ∨ (bz = [] ∧ r.flat = true ∧ flats ls = true)) ∧ (lents vals ds).length = ls.length ∧
    (∀ (k : Nat) (o : Nat) (l : AVal), (lents vals ds)[k]? = some o → ls[k]? = some l → ∃ cs, l = .uptr cs ∧ cs.length = (H o).st) ∧
    ((opnU (callH H u (lents vals ds) bz) (site dst) r ++ lentUp (callH H u (lents vals ds) bz) (lents vals ds) ls).map (·.1)).Nodup ∧
    K (opnV (callH H u (lents vals ds) bz) (site dst) r)
      (u ++ b ++ (callUp H u (lents vals ds) bz ++ (opnU (callH H u (lents vals ds) bz) (site dst) r ++ lentUp (callH H u (lents vals ds) bz) (lents vals ds) ls)).map (·.1))
      (callUp H u (lents vals ds) bz ++ (opnU (callH H u (lents vals ds) bz) (site dst) r ++ lentUp (callH H u (lents vals ds) bz) (lents vals ds) ls))
def xFn (v : AVal) (K : FuncId → List AVal → List AVal → Prop) : Prop := match v with | .fn (.func f) first cap => K f first cap | _ => False
def opX (E : Env) (op : Op) (dst : Option Tmp) (ρ : Operand → AVal) (H : Heap) (K : Cont) : Prop :=
  match op with
  | .move x => K (ρ x) [] []
  | .assign x => K (ρ x) [] [] ∨ (ρ x = .sc (.slice none 0 0) ∧ ∃ k, K (.osl (site dst) ((H (site dst)).gen + 1) 0 0) [site dst] [(site dst, newObj H (site dst) k [])])
  | .pick c a b => xBool (ρ c) fun t => K (if t = true then ρ a else ρ b) [] []
  | .alloc t => xSome (E.P.zeroL t) fun z => K (.ptr (site dst) ((H (site dst)).gen + 1) 0 0) [site dst] [(site dst, newObj H (site dst) z.length [z])]
  | .box _ x => (ρ x).boxable = true ∧ K (.ptr (site dst) ((H (site dst)).gen + 1) 0 0) [site dst] [(site dst, newObj H (site dst) (ρ x).cellsV.length [(ρ x).cellsV])]
  | .build t ps => E.P.isComp t = true ∧ xSome (E.P.zeroL t) fun z => xSome (fillA (E.P.places t) z (ps.toList.map fun p => (p.1, ρ p.2))) fun cs => ∃ l d, K (.agg (nilO l d cs)) [] []
  | .buildSlice t len ps => xSome (E.P.elemO t) fun size => 0 < size ∧ xSome (E.P.elemZero t) fun z => z.length = size ∧ len * size ≤ 16777216 ∧ xSome (fillR size (List.replicate len z) (ps.toList.map fun p => (p.1, ρ p.2))) fun rows =>
      K (.osl (site dst) ((H (site dst)).gen + 1) 0 len) [site dst] [(site dst, newObj H (site dst) size rows)] ∨ (0 < len ∧ rows.all clos = true ∧ K (.slice size rows) [site dst] [(site dst, { newObj H (site dst) size rows with mode := .froz })])
  | .load t x => xSome (E.P.szO t) fun n => xSome (E.P.rowO t) fun g => (g = false → n = 1) ∧ xLoad H g n (ρ x) K
  | .store t x y => xSome (E.P.szO t) fun n => xStore H n (ρ x) (ρ y) K
  | .nilCheck x => (match ρ x with | .ptr _ _ _ _ => True | .iptr _ => True | _ => False) ∧ K (ρ x) [] []
  | .binOp op t x y _ => xSome (binV E.P op t (ρ x) (ρ y)) fun v => K v [] []
  | .unOp op _ x => xSome (unV op (ρ x)) fun v => K v [] []
  | .sliceToArrayPointer t x => xSome (s2aE E.P t (ρ x)) fun v => K v [] []
  | .convert s d x => xConv E.P H s d dst (ρ x) K
  | .makeFunc f first cap => K (.fn f (first.toList.map ρ) (cap.toList.map ρ)) [] []
  | .makeSlice t l c => xInt (ρ l) fun _ nl => xInt (ρ c) fun _ nc => 0 ≤ nl ∧ nl ≤ nc ∧ xSome (E.P.elemO t) fun size => 0 < size ∧ xSome (E.P.elemBytes t) fun bytes => xSome (E.P.elemZero t) fun z => z.length = size ∧
      (bytes : Int) * nc ≤ 281474976710656 ∧ nc ≤ 9223372036854775807 ∧ K (.osl (site dst) ((H (site dst)).gen + 1) 0 nl.toNat) [site dst] [(site dst, newObjX H (site dst) size (List.replicate nl.toNat z) (decide (nl = nc)))]
  | .slice t x lo hi mx => match mx with
    | none => xSlice E.P H t (ρ x) (lo.map ρ) (hi.map ρ) K
    | some m => match hi with
      | some h => xSlice3 E.P H t (ρ x) (lo.map ρ) (ρ h) (ρ m) K ∨ xSlice3J E.P H t (ρ x) (lo.map ρ) (ρ h) (ρ m) K
      | none => False
  | .fieldAddr s x f => xSome (E.P.fldO s f) fun a => xField a.1 (ρ x) K
  | .field s x f => xSome (E.P.fldO s f) fun a => xPart a.2.2 a.1 a.2.1 (ρ x) K
  | .indexAddr t x ix => xInt (ρ ix) fun _ n => 0 ≤ n ∧ xIndexAddr E.P H t (ρ x) n K
  | .index t x ix => xInt (ρ ix) fun _ n => 0 ≤ n ∧ xIndex E.P t (ρ x) n K
  | .extract x i => xTup i (ρ x) K
  | .call cl => match cl.callee with
    | .value g => xFn (ρ g) fun f first cap => xCall E f (first ++ cl.args.toList.map ρ ++ cap) dst H K
    | .builtin .len => (match cl.args.toList.map ρ, cl.argTypes.toList with | [x], t :: _ => xLen E.P H t x K | _, _ => False)
    | .builtin .max => (match cl.args.toList.map ρ with | [x, y] => xInt x fun k a => xInt y fun _ b => K (.int k (if b > a then b else a)) [] [] | _ => False)
    | .builtin .min => (match cl.args.toList.map ρ with | [x, y] => xInt x fun k a => xInt y fun _ b => K (.int k (if b < a then b else a)) [] [] | _ => False)
    | .builtin .append => (match cl.args.toList.map ρ, cl.argTypes.toList with | [s, .int _ k], [t, u] => xZeros E.P H t u dst s k K | [s, x], [t, u] => xAppend E.P H t u dst s x K | _, _ => False) ∨ (match cl.args.toList.map ρ, cl.argTypes.toList with | [s, x], [t, u] => xAppIn E.P H t u s x K | _, _ => False)
    | .builtin .clear => (match cl.args.toList.map ρ, cl.argTypes.toList with | [x], t :: _ => xClear E.P H t x K | _, _ => False)
    | .builtin .cap => (match cl.args.toList.map ρ, cl.argTypes.toList with | [x], t :: _ => xCap E.P H t x K | _, _ => False)
    | .builtin .copy => (match cl.args.toList.map ρ, cl.argTypes.toList with | [d, x], [t, u] => xCopy E.P H t u d x K | _, _ => False)
    | _ => False
  | _ => False
theorem obj_some {H : Heap} {o g : Nat} (h1 : (H o).gen = g) (h2 : (H o).mode ≠ .dead) : AVal.obj H o g = some (H o) := by
  unfold AVal.obj; rw [if_pos ⟨h1, h2⟩]
theorem xSrc_spec {P : Program} {H : Heap} {t : TypeId} {size : Nat} {x : AVal} {K : List (List AVal) → List Nat → Prop} (h : xSrc P H t size x K) : ∃ es rd, SrcR P H t size x es rd ∧ K es rd := by
  unfold xSrc at h
  split at h
  · exact ⟨_, _, ⟨rfl, h.1, rfl⟩, h.2⟩
  · obtain ⟨h1, h2, h3, h4, h5⟩ := h
    exact ⟨_, _, ⟨_, obj_some h1 h2, h3, h4, rfl, rfl⟩, h5⟩
  · obtain ⟨h1, h2, h3⟩ := h
    exact ⟨_, _, ⟨h1, h2, rfl, rfl⟩, h3⟩
  · exact ⟨_, _, ⟨rfl, rfl⟩, h⟩
  · exact ⟨_, _, ⟨rfl, rfl⟩, h⟩
  · exact h.elim
theorem opX_sound {E : Env} {op : Op} {dst : Option Tmp} {ρ : Operand → AVal} {H : Heap} {K : Cont} (h : opX E op dst ρ H K) : ∃ v rd up, Acts E op dst ρ H v rd up ∧ K v rd up := by
  cases op <;> simp only [opX] at h <;> try (exact h.elim)
  case move x => exact ⟨_, _, _, .inl ⟨rfl, rfl, rfl⟩, h⟩
  case assign x =>
    rcases h with h | ⟨h1, k, h⟩
    · exact ⟨_, _, _, .inl (.inl ⟨rfl, rfl, rfl⟩), h⟩
    · exact ⟨_, _, _, .inl (.inr ⟨k, h1, rfl, rfl, rfl⟩), h⟩
  case pick x y z =>
    obtain ⟨t, h1, h2⟩ := xBool_spec h
    exact ⟨_, _, _, .inl ⟨t, h1, rfl, rfl, rfl⟩, h2⟩
  case alloc t =>
    obtain ⟨z, h1, h2⟩ := xSome_spec h
    exact ⟨_, _, _, .inl ⟨z, h1, rfl, rfl, rfl⟩, h2⟩
  case box t x => exact ⟨_, _, _, .inl ⟨h.1, rfl, rfl, rfl⟩, h.2⟩
  case build t ps =>
    obtain ⟨h0, h⟩ := h
    obtain ⟨z, h1, h⟩ := xSome_spec h
    obtain ⟨cs, h2, nl, nd, h⟩ := xSome_spec h
    exact ⟨_, _, _, .inl ⟨z, cs, h0, h1, h2, ⟨nl, nd, rfl⟩, rfl, rfl⟩, h⟩
  case buildSlice t n ps =>
    obtain ⟨size, h1, h2, h⟩ := xSome_spec h
    obtain ⟨z, h3, h4, h5, h⟩ := xSome_spec h
    obtain ⟨rows, h6, h⟩ := xSome_spec h
    rcases h with h | ⟨h7, h8, h⟩
    · exact ⟨_, _, _, .inl (.inl ⟨size, z, rows, h1, h2, h3, h4, h5, h6, rfl, rfl, rfl⟩), h⟩
    · exact ⟨_, _, _, .inl (.inr ⟨size, z, rows, h1, h2, h3, h4, h5, h6, h7, h8, rfl, rfl, rfl⟩), h⟩
  case load t x =>
    obtain ⟨n, h1, h⟩ := xSome_spec h
    obtain ⟨g, h2, h3, h⟩ := xSome_spec h
    unfold xLoad at h
    split at h
    · rename_i o gn i j q
      obtain ⟨q1, q2, h⟩ := h
      obtain ⟨r, q3, q4, h⟩ := xSome_spec h
      refine ⟨_, _, _, .inl ⟨n, g, (r.drop j).take n, h1, h2, h3, ?_, rfl, by rw [q]; rfl, rfl⟩, h⟩
      rw [q]
      simp [loadC, obj_some q1 q2, q3, q4]
    · rename_i cs q
      refine ⟨_, _, _, .inl ⟨n, g, cs.take n, h1, h2, h3, ?_, rfl, by rw [q]; rfl, rfl⟩, h.2⟩
      rw [q]
      simp [loadC, h.1]
    · exact h.elim
  case store t x y =>
    obtain ⟨n, h1, h⟩ := xSome_spec h
    obtain ⟨h2, h3, h4, h⟩ := h
    split at h
    · rename_i o gn i j q
      obtain ⟨q1, q2, h⟩ := h
      obtain ⟨r, q3, q4, h⟩ := xSome_spec h
      refine ⟨_, _, _, .inl ⟨n, _, h1, h2, h3, h4, ?_, rfl, by rw [q]; rfl, rfl⟩, h⟩
      rw [q]
      simp [storeC, obj_some q1 (by rw [q2]; simp), q2, q3, q4]
    · exact h.elim
  case nilCheck x => exact ⟨_, _, _, .inl ⟨h.1, rfl, rfl, rfl⟩, h.2⟩
  case binOp op t x y u =>
    obtain ⟨v, h1, h2⟩ := xSome_spec h
    exact ⟨_, _, _, .inl ⟨h1, rfl, rfl⟩, h2⟩
  case unOp op t x =>
    obtain ⟨v, h1, h2⟩ := xSome_spec h
    exact ⟨_, _, _, .inl ⟨h1, rfl, rfl⟩, h2⟩
  case sliceToArrayPointer t x =>
    obtain ⟨v, h1, h2⟩ := xSome_spec h
    exact ⟨_, _, _, .inl ⟨h1, rfl, rfl⟩, h2⟩
  case convert s d x =>
    unfold xConv at h
    split at h
    · rename_i k n q
      obtain ⟨h1, h⟩ := h
      split at h
      · rename_i k' hk
        exact ⟨_, _, _, .inl (.inl ⟨rfl, rfl, by rw [q]; exact ⟨k', h1, hk, rfl⟩⟩), h⟩
      · exact h.elim
    · rename_i l q
      split at h
      · rename_i hs
        exact ⟨_, _, _, .inl (.inl ⟨rfl, rfl, by rw [q]; exact ⟨h.1, hs, rfl⟩⟩), h.2⟩
      · obtain ⟨h1, h2, h3, h⟩ := h
        refine ⟨_, _, _, .inl (.inr (.inl ?_)), h⟩
        simp only [Act2]
        rw [q]
        exact ⟨h1, h2, h3, rfl, trivial, rfl⟩
    · rename_i o g i n q
      split at h
      · obtain ⟨h1, h2, l, rd, h3, h⟩ := h
        refine ⟨_, _, _, .inl (.inr (.inl ?_)), h⟩
        simp only [Act2]
        rw [q]
        exact ⟨h1, h2, trivial, l, h3, rfl⟩
      · obtain ⟨h1, h2, h3, h4, h5, h⟩ := h
        exact ⟨_, _, _, .inl (.inr (.inr ⟨o, g, i, n, q, h1, h2, h3, h4, h5, rfl, rfl, rfl⟩)), h⟩
    · rename_i q1 q2 q3
      obtain ⟨h1, h2, l, rd, h3, h⟩ := h
      refine ⟨_, _, _, .inl (.inr (.inl ?_)), h⟩
      simp only [Act2]
      exact ⟨h1, h2, trivial, l, h3, rfl⟩
  case makeFunc f fs cs => exact ⟨_, _, _, .inl ⟨rfl, rfl, rfl⟩, h⟩
  case makeSlice t l k =>
    obtain ⟨kl, nl, h1, h⟩ := xInt_spec h
    obtain ⟨kc, nc, h2, h3, h4, h⟩ := xInt_spec h
    obtain ⟨size, h5, h6, h⟩ := xSome_spec h
    obtain ⟨bytes, h7, h⟩ := xSome_spec h
    obtain ⟨z, h8, h9, h10, h11, h⟩ := xSome_spec h
    exact ⟨_, _, _, .inl ⟨kl, nl, kc, nc, size, bytes, z, h1, h2, h3, h4, h5, h6, h7, h8, h9, h10, h11, rfl, rfl, rfl⟩, h⟩
  case slice t x lo hi mx =>
    cases mx with
    | some m =>
      cases hi with
      | none => exact h.elim
      | some hh =>
        simp only at h
        rcases h with h | h
        case inr =>
          unfold xSlice3J at h
          split at h
          · rename_i o g i n q
            obtain ⟨h1, h2, h3, h5, h⟩ := h
            obtain ⟨m', h7, h⟩ := xSome_spec h
            obtain ⟨h', h8, h⟩ := xSome_spec h
            obtain ⟨bb, h9, h⟩ := xSome_spec h
            exact ⟨_, _, _, .inl (.inr (.inr ⟨_, _, rfl, rfl, by rw [q]; exact ⟨h1, h2, h3, h5, m', h', bb, h7, h8, h9, .inr (.inr ⟨rfl, rfl, rfl⟩)⟩⟩)), h⟩
          · exact h.elim
        unfold xSlice3 at h
        split at h
        · rename_i st es q
          obtain ⟨h1, h⟩ := h
          obtain ⟨m', h2, h⟩ := xSome_spec h
          obtain ⟨h', h3, h⟩ := xSome_spec h
          obtain ⟨bb, h4, h⟩ := xSome_spec h
          exact ⟨_, _, _, .inl (.inr (.inr ⟨_, _, rfl, rfl, by rw [q]; exact ⟨h1, m', h', bb, h2, h3, h4, rfl, rfl, rfl⟩⟩)), h⟩
        · rename_i o g i n q
          obtain ⟨h1, h2, h3, h5, h⟩ := h
          obtain ⟨m', h7, h⟩ := xSome_spec h
          obtain ⟨h', h8, h⟩ := xSome_spec h
          obtain ⟨bb, h9, h⟩ := xSome_spec h
          split at h
          · rename_i hc
            obtain ⟨c1, c2, c3, c4⟩ := hc
            exact ⟨_, _, _, .inl (.inr (.inr ⟨_, _, rfl, rfl, by rw [q]; exact ⟨h1, h2, h3, h5, m', h', bb, h7, h8, h9, .inl ⟨c1, c2, c3, c4, rfl, rfl, rfl⟩⟩⟩)), h⟩
          · obtain ⟨h6, h⟩ := h
            exact ⟨_, _, _, .inl (.inr (.inr ⟨_, _, rfl, rfl, by rw [q]; exact ⟨h1, h2, h3, h5, m', h', bb, h7, h8, h9, .inr (.inl ⟨h6, rfl, rfl, rfl⟩)⟩⟩)), h⟩
        · exact h.elim
    | none =>
    have h0 : (none : Option Operand) = none := rfl
    simp only at h
    unfold xSlice at h
    split at h
    · rename_i l q
      obtain ⟨h1, h⟩ := h
      obtain ⟨hh, h2, h⟩ := xSome_spec h
      obtain ⟨bb, h3, h⟩ := xSome_spec h
      exact ⟨_, _, _, .inl (.inl ⟨rfl, h0, by rw [q]; exact ⟨h1, rfl, hh, bb, h2, h3, rfl⟩⟩), h⟩
    · rename_i st es q
      obtain ⟨h1, h⟩ := h
      obtain ⟨hh, h2, h⟩ := xSome_spec h
      obtain ⟨bb, h3, h⟩ := xSome_spec h
      exact ⟨_, _, _, .inl (.inl ⟨rfl, h0, by rw [q]; exact ⟨h1, rfl, hh, bb, h2, h3, rfl⟩⟩), h⟩
    · rename_i o g i m q
      obtain ⟨q1, q2, h1, h⟩ := h
      obtain ⟨hh, h2, h⟩ := xSome_spec h
      obtain ⟨bb, h3, h⟩ := xSome_spec h
      exact ⟨_, _, _, .inl (.inl ⟨rfl, h0, by rw [q]; exact ⟨rfl, _, hh, bb, obj_some q1 q2, h1, h2, h3, rfl⟩⟩), h⟩
    · rename_i o g i j q
      obtain ⟨q1, q2, h⟩ := h
      obtain ⟨⟨n, k, w⟩, h1, hkw, h⟩ := xSome_spec h
      obtain ⟨r, h2, h3, h4, h⟩ := xSome_spec h
      obtain ⟨hh, h5, h⟩ := xSome_spec h
      obtain ⟨bb, h6, h⟩ := xSome_spec h
      simp only [Prod.mk.injEq] at hkw
      obtain ⟨rfl, rfl⟩ := hkw
      exact ⟨_, _, _, .inl (.inr (.inl ⟨h0, o, g, i, j, n, r, hh, bb, q, q1, q2, h1, h2, h3, h4, h5, h6, rfl, rfl, rfl⟩)), h⟩
    · exact h.elim
  case fieldAddr s x f =>
    obtain ⟨⟨off, n, g⟩, h1, h⟩ := xSome_spec h
    unfold xField at h
    split at h
    · rename_i q; exact ⟨_, _, _, .inl ⟨off, n, g, h1, rfl, rfl, by rw [q]⟩, h⟩
    · rename_i q; exact ⟨_, _, _, .inl ⟨off, n, g, h1, rfl, rfl, by rw [q]⟩, h⟩
    · exact h.elim
  case field s x f =>
    obtain ⟨⟨off, n, g⟩, h1, h⟩ := xSome_spec h
    unfold xPart at h
    split at h
    · rename_i cs q; exact ⟨_, _, _, .inl ⟨off, n, g, cs, h1, q, h.1, h.2.1, rfl, rfl, rfl⟩, h.2.2⟩
    · exact h.elim
  case indexAddr t x i =>
    obtain ⟨k, n, h1, h0, h⟩ := xInt_spec h
    unfold xIndexAddr at h
    split at h
    · rename_i st es q
      obtain ⟨h2, h⟩ := h
      obtain ⟨r, h3, h⟩ := xSome_spec h
      exact ⟨_, _, _, .inl ⟨k, n, h1, h0, rfl, by rw [q]; exact ⟨h2, rfl, r, h3, rfl⟩⟩, h⟩
    · rename_i o g j m q
      obtain ⟨q1, q2, h2, h3, h⟩ := h
      exact ⟨_, _, _, .inl ⟨k, n, h1, h0, rfl, by rw [q]; exact ⟨rfl, _, obj_some q1 q2, h2, h3, rfl⟩⟩, h⟩
    · rename_i o g j m q
      obtain ⟨⟨len, kk, w⟩, h2, h3, h⟩ := xSome_spec h
      exact ⟨_, _, _, .inl ⟨k, n, h1, h0, rfl, by rw [q]; exact ⟨rfl, len, kk, w, h2, h3, rfl⟩⟩, h⟩
    · rename_i cs q
      obtain ⟨⟨len, kk, w⟩, h2, h3, h⟩ := xSome_spec h
      exact ⟨_, _, _, .inl ⟨k, n, h1, h0, rfl, by rw [q]; exact ⟨rfl, len, kk, w, h2, h3, rfl⟩⟩, h⟩
    · exact h.elim
  case index t x i =>
    obtain ⟨k, n, h1, h0, h⟩ := xInt_spec h
    unfold xIndex at h
    split at h
    · rename_i l q
      obtain ⟨h2, h⟩ := h
      obtain ⟨b, h3, h⟩ := xSome_spec h
      exact ⟨_, _, _, .inl ⟨k, n, h1, h0, rfl, rfl, by rw [q]; exact ⟨h2, b, h3, rfl⟩⟩, h⟩
    · rename_i cs q
      obtain ⟨⟨len, kk, w⟩, h2, h3, h4, h5, h⟩ := xSome_spec h
      exact ⟨_, _, _, .inl ⟨k, n, h1, h0, rfl, rfl, by rw [q]; exact ⟨len, kk, w, h2, h3, h4, h5, rfl⟩⟩, h⟩
    · exact h.elim
  case extract x i =>
    unfold xTup at h
    split at h
    · rename_i vs q
      obtain ⟨v, h1, h⟩ := xSome_spec h
      exact ⟨_, _, _, .inl ⟨vs, q, h1, rfl, rfl⟩, h⟩
    · exact h.elim
  case call cl =>
    split at h
    · rename_i g hg
      unfold xFn at h
      split at h
      case h_2 => exact h.elim
      rename_i f first cap q
      obtain ⟨h1, ds, r, ls, u, b, bz, h2, h3, h4, h5, h6, h7, h8, h9, h⟩ := h
      exact ⟨_, _, _, .inr ⟨cl, rfl, f, _, ds, r, ls, u, b, bz, by rw [hg]; dsimp only; rw [q]; exact ⟨rfl, rfl⟩, h1, h2, h3, h4, h5, h6, h7, h8, h9, rfl, rfl, rfl⟩, h⟩
    · rename_i hb
      split at h
      · rename_i x t ts q1 q2
        have ht : cl.argTypes[0]? = some t := by rw [← Array.getElem?_toList, q2]; rfl
        unfold xLen at h
        have hact : ∀ {v rd up}, ActB E.P .len cl.argTypes dst [x] H v rd up → Acts E (.call cl) dst ρ H v rd up := fun hA => .inl (by simp only [ActN, hb, q1]; exact hA)
        split at h
        · exact ⟨_, _, _, hact ⟨rfl, t, ht, h.1, rfl, rfl⟩, h.2⟩
        · exact ⟨_, _, _, hact ⟨rfl, t, ht, h.1, rfl, rfl⟩, h.2⟩
        · obtain ⟨h1, h2, h3, h⟩ := h
          exact ⟨_, _, _, hact ⟨rfl, t, ht, h1, rfl, by rw [obj_some h2 h3]; rfl, rfl⟩, h⟩
        · exact ⟨_, _, _, hact ⟨rfl, t, ht, h.1, rfl, rfl⟩, h.2⟩
        · obtain ⟨⟨len, kk, w⟩, h2, h⟩ := xSome_spec h
          exact ⟨_, _, _, hact ⟨rfl, t, ht, len, kk, w, h2, rfl, rfl⟩, h⟩
        · exact h.elim
      · exact h.elim
    · rename_i hb
      split at h
      · rename_i x y q1
        obtain ⟨k, p, e1, h⟩ := xInt_spec h
        obtain ⟨k', p', e2, h⟩ := xInt_spec h
        subst e1; subst e2
        exact ⟨_, _, _, .inl (by simp only [ActN, hb, q1]; exact ⟨rfl, rfl, rfl⟩), h⟩
      · exact h.elim
    · rename_i hb
      split at h
      · rename_i x y q1
        obtain ⟨k, p, e1, h⟩ := xInt_spec h
        obtain ⟨k', p', e2, h⟩ := xInt_spec h
        subst e1; subst e2
        exact ⟨_, _, _, .inl (by simp only [ActN, hb, q1]; exact ⟨rfl, rfl, rfl⟩), h⟩
      · exact h.elim
    · rename_i hb
      rcases h with h | h
      case inr =>
        split at h
        · rename_i s x t u q1 q2
          have ht : cl.argTypes = #[t, u] := by apply Array.ext'; simpa using q2
          obtain ⟨size, h1, h5, h6, h⟩ := xSome_spec h
          obtain ⟨es, rd, h7, h8, h⟩ := xSrc_spec h
          split at h
          · obtain ⟨g1, g2, g3, g4, h⟩ := h
            exact ⟨_, _, _, .inl (by simp only [ActN, hb, q1]; exact .inr (.inl ⟨t, u, size, es, rd, _, _, _, _, _, ht, h1, h5, h6, h7, h8, rfl, obj_some g1 (by rw [g2]; simp), g2, g3, g4, rfl, rfl, rfl⟩)), h⟩
          · exact h.elim
        · exact h.elim
      split at h
      · rename_i s kk k t u q1 q2
        have ht : cl.argTypes = #[t, u] := by apply Array.ext'; simpa using q2
        unfold xZeros at h
        split at h
        case h_2 => exact h.elim
        rename_i o g i n
        obtain ⟨h0, h⟩ := h
        obtain ⟨size, h1, h2, h⟩ := xSome_spec h
        obtain ⟨bytes, h3, h⟩ := xSome_spec h
        obtain ⟨z, h4, h5, h6, g1, g2, g4, g5, g7, g8, h⟩ := xSome_spec h
        split at h
        · rename_i hc
          refine ⟨_, _, _, .inl (by simp only [ActN, hb, q1]; exact .inl ⟨t, u, size, bytes, z, o, g, i, n, kk, k.toNat, _, ht, h1, h3, h4, h5, h2, h0, rfl, by rw [Int.toNat_of_nonneg (by omega)], obj_some g1 g2, g4, g5, g7, g8, .inl ⟨hc.1, hc.2, rfl, rfl, rfl⟩⟩), h⟩
        · obtain ⟨h8, h9, h⟩ := h
          refine ⟨_, _, _, .inl (by simp only [ActN, hb, q1]; exact .inl ⟨t, u, size, bytes, z, o, g, i, n, kk, k.toNat, _, ht, h1, h3, h4, h5, h2, h0, rfl, by rw [Int.toNat_of_nonneg (by omega)], obj_some g1 g2, g4, g5, g7, g8, .inr ⟨h8, h9, rfl, rfl, rfl⟩⟩), h⟩
      · rename_i s x t u hno q1 q2
        have ht : cl.argTypes = #[t, u] := by apply Array.ext'; simpa using q2
        obtain ⟨size, h1, h⟩ := xSome_spec h
        obtain ⟨bytes, h2, h⟩ := xSome_spec h
        obtain ⟨z, h3, h4, h5, h6, h⟩ := xSome_spec h
        obtain ⟨es, rd, h7, h8, h⟩ := xSrc_spec h
        have hact : ∀ {v rd up}, ActB E.P .append cl.argTypes dst [s, x] H v rd up → Acts E (.call cl) dst ρ H v rd up := fun hA => .inl (by simp only [ActN, hb, q1]; exact hA)
        split at h
        · obtain ⟨g1, g2, h⟩ := h
          exact ⟨_, _, _, hact (.inr (.inr ⟨t, u, size, bytes, z, es, rd, ht, h1, h2, h3, h4, h5, h6, h7, h8, g1, g2, rfl, rfl, rfl⟩)), h⟩
        · obtain ⟨g1, g2, g3, g4, g5, g6, h⟩ := h
          exact ⟨_, _, _, hact (.inr (.inr ⟨t, u, size, bytes, z, es, rd, ht, h1, h2, h3, h4, h5, h6, h7, h8, _, obj_some g1 (by rw [g2]; simp), g2, g3, g4, g5, g6, rfl, rfl, rfl⟩)), h⟩
        · exact h.elim
      · exact h.elim
    · rename_i hb
      split at h
      · rename_i x t ts q1 q2
        have ht : cl.argTypes[0]? = some t := by rw [← Array.getElem?_toList, q2]; rfl
        unfold xClear at h
        split at h
        case h_2 => exact h.elim
        obtain ⟨size, h1, h⟩ := xSome_spec h
        obtain ⟨z, h2, h3, h4, g1, g2, g3, g4, h⟩ := xSome_spec h
        exact ⟨_, _, _, .inl (by simp only [ActN, hb, q1]; exact ⟨t, size, z, _, _, _, _, _, ht, h1, h2, h3, h4, rfl, obj_some g1 (by rw [g2]; simp), g2, g3, g4, rfl, rfl, rfl⟩), h⟩
      · exact h.elim
    · rename_i hb
      split at h
      · rename_i x t ts q1 q2
        have ht : cl.argTypes[0]? = some t := by rw [← Array.getElem?_toList, q2]; rfl
        unfold xCap at h
        split at h
        case h_2 => exact h.elim
        obtain ⟨h1, h2, h3, h4, h⟩ := h
        exact ⟨_, _, _, .inl (by simp only [ActN, hb, q1]; exact ⟨rfl, t, _, _, _, _, ht, rfl, h1, rfl, _, obj_some h2 h3, h4, rfl⟩), h⟩
      · exact h.elim
    · rename_i hb
      split at h
      · rename_i s x t u q1 q2
        have ht : cl.argTypes = #[t, u] := by apply Array.ext'; simpa using q2
        obtain ⟨size, h1, h⟩ := xSome_spec h
        obtain ⟨es, rd, h7, h⟩ := xSrc_spec h
        have hact : ∀ {v rd up}, ActB E.P .copy cl.argTypes dst [s, x] H v rd up → Acts E (.call cl) dst ρ H v rd up := fun hA => .inl (by simp only [ActN, hb, q1]; exact hA)
        split at h
        · obtain ⟨g1, g2, g3, g4, g5, h⟩ := h
          exact ⟨_, _, _, hact ⟨t, u, size, es, rd, ht, h1, h7, _, obj_some g1 (by rw [g2]; simp), g2, g3, g4, g5, rfl, rfl, rfl⟩, h⟩
        · exact h.elim
      · exact h.elim
    · exact h.elim
end Go.Am
