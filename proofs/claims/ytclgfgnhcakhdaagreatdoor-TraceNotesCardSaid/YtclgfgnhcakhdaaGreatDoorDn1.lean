import Derived.Test.YtclgfgnhcakhdaaGreatDoorAm12
namespace Go.Am
set_option linter.unusedSectionVars false
abbrev Res := AVal × List AVal
abbrev Orc := FuncId → List Nat → List AVal → Option Res
abbrev Out := AVal × List Nat × List (Nat × Obj)
def gu {α : Type} (p : Prop) [Decidable p] (x : Option α) : Option α := if p then x else none
theorem gu_some {α : Type} {p : Prop} [Decidable p] {x : Option α} {y : α} : gu p x = some y ↔ p ∧ x = some y := by
  unfold gu; split <;> simp_all
def loadE (H : Heap) (g : Bool) (n : Nat) (p : AVal) : Option Out :=
  match p with
  | .ptr o gn i j => gu ((H o).gen = gn) (gu ((H o).mode ≠ .dead) (((H o).rows[i]?).bind fun r => gu (j + n ≤ r.length) (some (mkV g ((r.drop j).take n), [o], []))))
  | .iptr cs => gu (n ≤ cs.length) (some (mkV g (cs.take n), [], []))
  | _ => none
def storeE (H : Heap) (n : Nat) (p v : AVal) : Option Out :=
  gu (v.boxable = true) (gu (v.cellsV.length = n) (gu (v.cellsV.all AVal.one = true)
  (match p with
  | .ptr o gn i j => gu ((H o).gen = gn) (gu ((H o).mode = .live) (((H o).rows[i]?).bind fun r => gu (j + v.cellsV.length ≤ r.length) (some (.junk, [o], [(o, { H o with rows := (H o).rows.set i (putCells r j v.cellsV) })]))))
  | _ => none)))
def fieldE (off : Nat) (p : AVal) : Option Out :=
  match p with
  | .ptr o g i j => some (.ptr o g i (j + off), [], [])
  | .iptr cs => some (.iptr (cs.drop off), [], [])
  | _ => none
def partE (g : Bool) (off n : Nat) (v : AVal) : Option Out :=
  match v with
  | .agg cs => gu (off + n ≤ cs.length) (gu (g = false → n = 1) (some (mkV g ((cs.drop off).take n), [], [])))
  | _ => none
def indexAddrE (P : Program) (H : Heap) (t : TypeId) (p : AVal) (n : Int) : Option Out :=
  match p with
  | .slice st es => gu (P.elemO t = some st) ((es[n.toNat]?).bind fun r => some (.iptr r, [], []))
  | .osl o g i m => gu ((H o).gen = g) (gu ((H o).mode ≠ .dead) (gu (P.elemO t = some (H o).st) (gu (n.toNat < m) (some (.ptr o g (i + n.toNat) 0, [o], [])))))
  | .ptr o g i j => (P.arrO t).bind fun a => gu (n.toNat < a.1) (some (.ptr o g i (j + n.toNat * a.2.1), [], []))
  | .iptr cs => (P.arrO t).bind fun a => gu (n.toNat < a.1) (some (.iptr (cs.drop (n.toNat * a.2.1)), [], []))
  | _ => none
def indexE (P : Program) (t : TypeId) (p : AVal) (n : Int) : Option Out :=
  match p with
  | .str l => gu (P.isStr t = true) ((l[n.toNat]?).bind fun b => some (.int .u8 b.toNat, [], []))
  | .agg cs => (P.arrO t).bind fun a => gu (n.toNat < a.1) (gu (n.toNat * a.2.1 + a.2.1 ≤ cs.length) (gu (a.2.2 = false → a.2.1 = 1) (some (mkV a.2.2 ((cs.drop (n.toNat * a.2.1)).take a.2.1), [], []))))
  | _ => none
def tupE (i : Nat) (v : AVal) : Option Out :=
  match v with
  | .tup vs => (vs[i]?).bind fun v => some (v, [], [])
  | _ => none
def sliceE (P : Program) (H : Heap) (t : TypeId) (p : AVal) (lo hi : Option AVal) : Option Out :=
  match p with
  | .str l => gu (P.isStr t = true) ((bnd hi l.length l.length).bind fun h => (bnd lo 0 h).bind fun b => some (.str ((l.drop b).take (h - b)), [], []))
  | .slice st es => gu (P.elemO t = some st) ((bnd hi es.length es.length).bind fun h => (bnd lo 0 h).bind fun b => some (.slice st ((es.drop b).take (h - b)), [], []))
  | .osl o g i m => gu ((H o).gen = g) (gu ((H o).mode ≠ .dead) (gu (P.elemO t = some (H o).st) ((bnd hi m ((H o).rows.length - i)).bind fun h => (bnd lo 0 h).bind fun b => some (.osl o g (i + b) (h - b), [o], []))))
  | .ptr o g i j => gu ((H o).gen = g) (gu ((H o).mode ≠ .dead) ((P.arrO t).bind fun n => gu (n.2 = (1, false)) (((H o).rows[i]?).bind fun r => gu (j + n.1 ≤ r.length) (gu (((r.drop j).take n.1).all AVal.num = true) ((bnd hi n.1 n.1).bind fun h => (bnd lo 0 h).bind fun b =>
      some (.slice 1 (((((r.drop j).take n.1).map fun a => [a]).drop b).take (h - b)), [o], [(o, { H o with mode := .froz })]))))))
  | _ => none
def slice3E (P : Program) (H : Heap) (t : TypeId) (p : AVal) (lo : Option AVal) (hi mx : AVal) : Option Out :=
  match p with
  | .slice st es => gu (P.elemO t = some st) ((bnd (some mx) 0 es.length).bind fun m => (bnd (some hi) 0 m).bind fun h => (bnd lo 0 h).bind fun b => some (.slice st ((es.drop b).take (h - b)), [], []))
  | .osl o g i _ => gu ((H o).gen = g) (gu ((H o).mode ≠ .dead) (gu (P.elemO t = some (H o).st) (gu (0 < (H o).rows.length) ((bnd (some mx) 0 ((H o).rows.length - i)).bind fun m => (bnd (some hi) 0 m).bind fun h => (bnd lo 0 h).bind fun b =>
      if i = 0 ∧ (H o).mode = .live ∧ h = m ∧ b = 0 then some (.osl o ((H o).gen + 1) 0 m, [o], [(o, ⟨(H o).gen + 1, .live, (H o).st, (H o).rows.take m, true⟩)])
      else gu ((H o).rows.all clos = true) (some (.slice (H o).st (((H o).rows.drop (i + b)).take (h - b)), [o], [(o, { H o with mode := .froz })]))))))
  | _ => none
def slice3J (P : Program) (H : Heap) (t : TypeId) (p : AVal) (lo : Option AVal) (hi mx : AVal) : Option Out :=
  match p with
  | .osl o g i _ => gu ((H o).gen = g) (gu ((H o).mode ≠ .dead) (gu (P.elemO t = some (H o).st) (gu (0 < (H o).rows.length) ((bnd (some mx) 0 ((H o).rows.length - i)).bind fun m => (bnd (some hi) 0 m).bind fun h => (bnd lo 0 h).bind fun _ => some (.junk, [o], [])))))
  | _ => none
def slice3F (k : Nat) (P : Program) (H : Heap) (t : TypeId) (p : AVal) (lo : Option AVal) (hi mx : AVal) : Option Out :=
  match k with
  | 0 => slice3E P H t p lo hi mx
  | _ + 1 => slice3J P H t p lo hi mx
def unbyte : List (List AVal) → Option (List UInt8)
  | [] => some []
  | r :: rs => match r with
    | [.int .u8 n] => gu (0 ≤ n ∧ n < 256) ((unbyte rs).bind fun l => some (UInt8.ofNat n.toNat :: l))
    | _ => none
theorem unbyte_spec : ∀ (rs : List (List AVal)) (l : List UInt8), unbyte rs = some l → rs = l.map byteRow
  | [], l, h => by simp only [unbyte, Option.some.injEq] at h; subst h; rfl
  | r :: rs, l, h => by
    unfold unbyte at h
    split at h
    · rename_i n
      rw [gu_some, Option.bind_eq_some_iff] at h
      obtain ⟨h0, l', h1, h2⟩ := h
      simp only [Option.some.injEq] at h2
      subst h2
      rw [unbyte_spec rs l' h1]
      simp only [List.map_cons, byteRow, List.cons.injEq, AVal.int.injEq, true_and, and_true]
      have : (UInt8.ofNat n.toNat).toNat = n.toNat := by simp [UInt8.toNat_ofNat']; omega
      rw [this]; omega
    · cases h
theorem unbyte_cons (b : UInt8) (rs : List (List AVal)) : unbyte (byteRow b :: rs) = (unbyte rs).bind fun l => some (b :: l) := by
  have hb := b.toNat_lt
  have e : byteRow b = [AVal.int .u8 (b.toNat : Int)] := rfl
  rw [e]
  simp only [unbyte, gu]
  rw [if_pos (by omega)]
  simp
theorem unbyte_map (l : List UInt8) : unbyte (l.map byteRow) = some l := by
  induction l with
  | nil => rfl
  | cons b l ih => rw [List.map_cons, unbyte_cons, ih]; rfl
def srcE (P : Program) (H : Heap) (t : TypeId) (size : Nat) (x : AVal) : Option (List (List AVal) × List Nat) :=
  match x with
  | .slice st es => gu (st = size ∨ es = []) (some (es, []))
  | .osl o g i n => gu ((H o).gen = g) (gu ((H o).mode ≠ .dead) (gu ((H o).st = size) (gu (i + n ≤ (H o).rows.length) (some (((H o).rows.drop i).take n, [o])))))
  | .str l => gu (P.isStr t = true) (gu (size = 1) (some (l.map byteRow, [])))
  | .sc (.slice none 0 0) => some ([], [])
  | .sc (.slice (some _) 0 _) => some ([], [])
  | _ => none
instance (o : Option Nat) (n : Nat) : Decidable (o = some n) := inferInstance
def convE (P : Program) (H : Heap) (s d : TypeId) (dst : Option Tmp) (v : AVal) : Option Out :=
  match v with
  | .int _ n => gu ((P.underlying s).isSome = true) ((kindO P d).bind fun k => some (.int k (k.wrap n), [], []))
  | .str l => if P.isStr d = true then gu ((P.underlying s).isSome = true) (some (.str l, [], []))
      else gu (P.isStr s = true) (gu (P.isBytes d = true) (gu (l.length ≤ 9223372036854775807) (some (.osl (site dst) ((H (site dst)).gen + 1) 0 l.length, [site dst], [(site dst, newObj H (site dst) 1 (l.map byteRow))]))))
  | .osl o g i n => if P.isStr d = true then gu (P.isBytes s = true) (gu (P.isStr d = true) ((srcE P H s 1 (.osl o g i n)).bind fun p => (unbyte p.1).bind fun l => some (.str l, p.2, [])))
      else gu (s = d) (gu (P.isBytes s = true) (gu (n < 0) (gu ((H o).gen = g) (gu ((H o).mode = .live) (some (.osl o g i n, [o], [(o, H o)]))))))
  | v => gu (P.isBytes s = true) (gu (P.isStr d = true) ((srcE P H s 1 v).bind fun p => (unbyte p.1).bind fun l => some (.str l, p.2, [])))
def lenE (P : Program) (H : Heap) (t : TypeId) (x : AVal) : Option Out :=
  match x with
  | .str l => gu (P.isStr t = true) (some (.int .i64 (l.length : Int), [], []))
  | .slice _ es => gu ((P.elemO t).isSome = true) (some (.int .i64 (es.length : Int), [], []))
  | .osl o g _ n => gu ((P.elemO t).isSome = true) (gu ((H o).gen = g) (gu ((H o).mode ≠ .dead) (some (.int .i64 (n : Int), [o], []))))
  | .sc (.slice none 0 0) => gu ((P.elemO t).isSome = true) (some (.int .i64 0, [], []))
  | .agg _ => (P.arrO t).bind fun a => some (.int .i64 (a.1 : Int), [], [])
  | _ => none
def appendE (P : Program) (H : Heap) (t u : TypeId) (dst : Option Tmp) (s x : AVal) : Option Out :=
  (P.elemO t).bind fun size => (P.elemBytes t).bind fun bytes => (P.elemZero t).bind fun z => gu (z.length = size) (gu (P.isInt u = false) (gu ((P.underlying u).isSome = true)
  ((srcE P H u size x).bind fun p => gu (ones p.1 = true)
  (match s with
  | .sc (.slice none 0 0) => gu (p.1.length * bytes ≤ 140737488355328) (gu (p.1.length ≤ 9223372036854775807) (some (.osl (site dst) ((H (site dst)).gen + 1) 0 p.1.length, site dst :: p.2, [(site dst, newObj H (site dst) size p.1)])))
  | .osl o g i n => gu ((H o).gen = g) (gu ((H o).mode = .live) (gu ((H o).st = size) (gu (i + n ≤ (H o).rows.length) (gu ((n + p.1.length) * bytes ≤ 140737488355328) (gu (n + p.1.length ≤ 9223372036854775807)
      (some (.osl o (g + 1) 0 (n + p.1.length), o :: p.2, [(o, ⟨g + 1, .live, size, ((H o).rows.drop i).take n ++ p.1, false⟩)])))))))
  | _ => none))))
def zerosE (P : Program) (H : Heap) (t u : TypeId) (dst : Option Tmp) (s : AVal) (k : Int) : Option Out :=
  match s with
  | .osl o g i n => gu (P.isInt u = true) ((P.elemO t).bind fun size => gu (0 < size) ((P.elemBytes t).bind fun bytes => (P.elemZero t).bind fun z => gu (z.length = size) (gu (0 ≤ k)
      (gu ((H o).gen = g) (gu ((H o).mode ≠ .dead) (gu ((H o).st = size) (gu (i + n ≤ (H o).rows.length) (gu ((n + k.toNat) * bytes ≤ 140737488355328) (gu (n + k.toNat ≤ 9223372036854775807)
      (if (H o).exact = true ∧ (H o).rows.length < i + n + k.toNat then some (.osl (site dst) ((H (site dst)).gen + 1) 0 (n + k.toNat), [site dst, o], [(site dst, newObj H (site dst) size (((H o).rows.drop i).take n ++ List.replicate k.toNat z))])
       else gu ((H o).mode = .live) (gu (ones (List.replicate k.toNat z) = true) (some (.osl o (g + 1) 0 (n + k.toNat), [o], [(o, ⟨g + 1, .live, size, ((H o).rows.drop i).take n ++ List.replicate k.toNat z, false⟩)])))))))))))))
  | _ => none
def appE (P : Program) (H : Heap) (t u : TypeId) (dst : Option Tmp) (s x : AVal) : Option Out :=
  match x with
  | .int _ k => zerosE P H t u dst s k
  | x => appendE P H t u dst s x
def appInE (P : Program) (H : Heap) (t u : TypeId) (s x : AVal) : Option Out :=
  (P.elemO t).bind fun size => gu (P.isInt u = false) (gu ((P.underlying u).isSome = true) ((srcE P H u size x).bind fun p => gu (ones p.1 = true)
  (match s with
  | .osl o g i n => gu ((H o).gen = g) (gu ((H o).mode = .live) (gu ((H o).st = size) (gu (i + n + p.1.length ≤ (H o).rows.length)
      (some (.osl o g i (n + p.1.length), o :: p.2, [(o, { H o with rows := (H o).rows.take (i + n) ++ p.1 ++ (H o).rows.drop (i + n + p.1.length) })])))))
  | _ => none)))
def appF (k : Nat) (P : Program) (H : Heap) (t u : TypeId) (dst : Option Tmp) (s x : AVal) : Option Out :=
  match k with
  | 0 => appE P H t u dst s x
  | _ + 1 => appInE P H t u s x
def clearE (P : Program) (H : Heap) (t : TypeId) (x : AVal) : Option Out :=
  match x with
  | .osl o g i n => (P.elemO t).bind fun size => (P.elemZero t).bind fun z => gu (z.length = size) (gu (ones [z] = true) (gu ((H o).gen = g) (gu ((H o).mode = .live) (gu ((H o).st = size) (gu (i + n ≤ (H o).rows.length)
      (some (.tup [], [o], [(o, { H o with rows := (H o).rows.take i ++ List.replicate n z ++ (H o).rows.drop (i + n) })])))))))
  | _ => none
def capE (P : Program) (H : Heap) (t : TypeId) (x : AVal) : Option Out :=
  match x with
  | .osl o g i _ => gu ((P.elemO t).isSome = true) (gu ((H o).gen = g) (gu ((H o).mode ≠ .dead) (gu ((H o).exact = true) (some (.int .i64 (((H o).rows.length - i : Nat) : Int), [o], [])))))
  | _ => none
def copyE (P : Program) (H : Heap) (t u : TypeId) (d x : AVal) : Option Out :=
  (P.elemO t).bind fun size => (srcE P H u size x).bind fun p =>
  (match d with
  | .osl o g i n => gu ((H o).gen = g) (gu ((H o).mode = .live) (gu ((H o).st = size) (gu (i + n ≤ (H o).rows.length) (gu (ones (p.1.take (min p.1.length n)) = true)
      (some (.int .i64 ((min p.1.length n : Nat) : Int), o :: p.2, [(o, { H o with rows := (H o).rows.take i ++ p.1.take (min p.1.length n) ++ (H o).rows.drop (i + min p.1.length n) })]))))))
  | _ => none)
def pkL (f : AVal → Option (AVal × List Nat)) : List AVal → Option (List AVal × List Nat)
  | [] => some ([], [])
  | v :: vs => (f v).bind fun p => (pkL f vs).bind fun q => some (p.1 :: q.1, p.2 ++ q.2)
def pkLL (f : AVal → Option (AVal × List Nat)) : List (List AVal) → Option (List (List AVal) × List Nat)
  | [] => some ([], [])
  | v :: vs => (pkL f v).bind fun p => (pkLL f vs).bind fun q => some (p.1 :: q.1, p.2 ++ q.2)
def pkRows (f : AVal → Option (AVal × List Nat)) (rs : List (List AVal)) : Option (List (List AVal) × List Nat) :=
  if rs.all clos = true then some (rs, []) else pkLL f rs
def pkE (H : Heap) : Nat → AVal → Option (AVal × List Nat)
  | 0, v => gu (v.clo = true) (some (v, []))
  | d + 1, v => match v with
    | .agg cs => (pkL (pkE H d) cs).bind fun p => some (.agg p.1, p.2)
    | .tup cs => (pkL (pkE H d) cs).bind fun p => some (.tup p.1, p.2)
    | .fn f fs cs => (pkL (pkE H d) fs).bind fun p => (pkL (pkE H d) cs).bind fun q => some (.fn f p.1 q.1, p.2 ++ q.2)
    | .osl o g i n => gu ((H o).gen = g) (gu ((H o).mode ≠ .dead) (gu (i + n ≤ (H o).rows.length) ((pkRows (pkE H d) (((H o).rows.drop i).take n)).bind fun p => some (.slice (H o).st p.1, o :: p.2))))
    | .ptr o g i j => gu ((H o).gen = g) (gu ((H o).mode ≠ .dead) (((H o).rows[i]?).bind fun r => (pkL (pkE H d) (mapJ (r.drop j))).bind fun p => some (.iptr p.1, o :: p.2)))
    | v => gu (v.plain = true) (some (v, []))
abbrev Pko := AVal × List Nat × List Nat
def pkOL (f : AVal → Option Pko) : List AVal → Option (List AVal × List Nat × List Nat)
  | [] => some ([], [], [])
  | v :: vs => (f v).bind fun p => (pkOL f vs).bind fun q => some (p.1 :: q.1, p.2.1 ++ q.2.1, p.2.2 ++ q.2.2)
def pkOne (f : List AVal → Option (List AVal × List Nat × List Nat)) (o : Nat) : List (List AVal) → Option Pko
  | [r] => (f r).bind fun p => some (.uptr p.1, o :: p.2.1, p.2.2)
  | _ => none
def pkO (H : Heap) : Nat → AVal → Option Pko
  | 0, v => gu (v.clo = true) (some (v, [], []))
  | d + 1, v => match v with
    | .agg cs => (pkOL (pkO H d) cs).bind fun p => some (.agg p.1, p.2)
    | .tup cs => (pkOL (pkO H d) cs).bind fun p => some (.tup p.1, p.2)
    | .osl o g i n => if (H o).mode = .live ∧ i = 0 ∧ n ≤ (H o).rows.length then gu ((H o).gen = g) ((pkRows (pkE H d) ((H o).rows.take n)).bind fun p => some (.usl (H o).st p.1, [o], p.2))
        else (pkE H (d + 1) (.osl o g i n)).bind fun p => some (p.1, [], p.2)
    | .ptr o g i j => gu ((H o).gen = g) (gu ((H o).mode = .live) (gu (i = 0 ∧ j = 0) (pkOne (pkOL (pkO H d)) o (H o).rows)))
    | v => (pkE H (d + 1) v).bind fun p => some (p.1, [], p.2)
theorem pkL_sound {H : Heap} {f : AVal → Option (AVal × List Nat)} (hf : ∀ v p, f v = some p → PkC H v p.1 p.2) : ∀ (vs : List AVal) (p), pkL f vs = some p → PkCs H vs p.1 p.2
  | [], p, h => by simp only [pkL, Option.some.injEq] at h; subst h; exact .nil
  | v :: vs, p, h => by
    simp only [pkL, Option.bind_eq_some_iff, Option.some.injEq] at h
    obtain ⟨a, h1, b, h2, rfl⟩ := h
    exact .cons (hf _ _ h1) (pkL_sound hf _ _ h2)
theorem pkLL_sound {H : Heap} {f : AVal → Option (AVal × List Nat)} (hf : ∀ v p, f v = some p → PkC H v p.1 p.2) : ∀ (vs : List (List AVal)) (p), pkLL f vs = some p → PkRs H vs p.1 p.2
  | [], p, h => by simp only [pkLL, Option.some.injEq] at h; subst h; exact .nil
  | v :: vs, p, h => by
    simp only [pkLL, Option.bind_eq_some_iff, Option.some.injEq] at h
    obtain ⟨a, h1, b, h2, rfl⟩ := h
    exact .cons (pkL_sound hf _ _ h1) (pkLL_sound hf _ _ h2)
theorem pkRows_sound {H : Heap} {f : AVal → Option (AVal × List Nat)} (hf : ∀ v p, f v = some p → PkC H v p.1 p.2) {rs p} (h : pkRows f rs = some p) : PkRs H rs p.1 p.2 := by
  unfold pkRows at h
  split at h
  · rename_i hc; simp only [Option.some.injEq] at h; subst h; exact pkrs_clo H rs hc
  · exact pkLL_sound hf _ _ h
theorem pkE_sound {H : Heap} : ∀ (d : Nat) (v : AVal) (p), pkE H d v = some p → PkC H v p.1 p.2
  | 0, v, p, h => by
    simp only [pkE, gu_some, Option.some.injEq] at h
    obtain ⟨h1, rfl⟩ := h
    exact pkc_clo H v h1
  | d + 1, v, p, h => by
    have ih := pkE_sound (H := H) d
    cases v <;> simp only [pkE, gu_some, Option.bind_eq_some_iff, Option.some.injEq] at h
    case agg cs => obtain ⟨q, h1, rfl⟩ := h; exact .agg (pkL_sound ih _ _ h1)
    case tup cs => obtain ⟨q, h1, rfl⟩ := h; exact .tup (pkL_sound ih _ _ h1)
    case fn f fs cs => obtain ⟨q, h1, q', h2, rfl⟩ := h; exact .fn (pkL_sound ih _ _ h1) (pkL_sound ih _ _ h2)
    case osl o g i n => obtain ⟨h1, h2, h3, q, h4, rfl⟩ := h; exact .borS (obj_some h1 h2) h3 (pkRows_sound ih h4)
    case ptr o g i j => obtain ⟨h1, h2, r, h3, q, h4, rfl⟩ := h; exact .borP (obj_some h1 h2) h3 (pkL_sound ih _ _ h4)
    all_goals obtain ⟨h1, rfl⟩ := h; exact .plain h1
theorem pkOL_sound {H : Heap} {f : AVal → Option Pko} (hf : ∀ v p, f v = some p → Pk H v p.1 p.2.1 p.2.2) : ∀ (vs : List AVal) (p), pkOL f vs = some p → Pks H vs p.1 p.2.1 p.2.2
  | [], p, h => by simp only [pkOL, Option.some.injEq] at h; subst h; exact .nil
  | v :: vs, p, h => by
    simp only [pkOL, Option.bind_eq_some_iff, Option.some.injEq] at h
    obtain ⟨a, h1, b, h2, rfl⟩ := h
    exact .cons (hf _ _ h1) (pkOL_sound hf _ _ h2)
mutual
theorem PkC.toPk {H : Heap} : ∀ {v d : AVal} {b : List Nat}, PkC H v d b → Pk H v d [] b
  | _, _, _, .plain h => .plain h
  | _, _, _, .nilS => .nilS
  | _, _, _, .agg h => .agg (PkCs.toPk h)
  | _, _, _, .tup h => .tup (PkCs.toPk h)
  | _, _, _, .fn h1 h2 => .fn h1 h2
  | _, _, _, .borS h1 h2 h3 => .borS h1 h2 h3
  | _, _, _, .borP h1 h2 h3 => .borP h1 h2 h3
theorem PkCs.toPk {H : Heap} : ∀ {v d : List AVal} {b : List Nat}, PkCs H v d b → Pks H v d [] b
  | _, _, _, .nil => .nil
  | _, _, _, .cons h1 h2 => by have := Pks.cons (PkC.toPk h1) (PkCs.toPk h2); simpa using this
end
theorem pkO_sound {H : Heap} : ∀ (d : Nat) (v : AVal) (p), pkO H d v = some p → Pk H v p.1 p.2.1 p.2.2
  | 0, v, p, h => by
    simp only [pkO, gu_some, Option.some.injEq] at h
    obtain ⟨h1, rfl⟩ := h
    exact pk_clo H v h1
  | d + 1, v, p, h => by
    have ih := pkO_sound (H := H) d
    have ihE := pkE_sound (H := H) d
    have rest : ∀ q : AVal × List Nat, pkE H (d + 1) v = some q → p = (q.1, [], q.2) → Pk H v p.1 p.2.1 p.2.2 := fun q h1 e => by
      subst e; exact (pkE_sound (d + 1) v q h1).toPk
    cases v <;> simp only [pkO, gu_some, Option.bind_eq_some_iff, Option.some.injEq] at h
    case agg cs => obtain ⟨q, h1, rfl⟩ := h; exact .agg (pkOL_sound ih _ _ h1)
    case tup cs => obtain ⟨q, h1, rfl⟩ := h; exact .tup (pkOL_sound ih _ _ h1)
    case osl o g i n =>
      split at h
      · rename_i hc
        obtain ⟨rfl', hi, hn⟩ := hc
        subst hi
        rw [gu_some, Option.bind_eq_some_iff] at h
        obtain ⟨h1, q, h2, h3⟩ := h
        simp only [Option.some.injEq] at h3
        subst h3
        exact .ownS (obj_some h1 (by rw [rfl']; simp)) rfl' hn (pkRows_sound ihE h2)
      · rw [Option.bind_eq_some_iff] at h
        obtain ⟨q, h1, h2⟩ := h
        simp only [Option.some.injEq] at h2
        exact rest q h1 h2.symm
    case ptr o g i j =>
      obtain ⟨h1, h2, ⟨rfl, rfl⟩, h⟩ := h
      unfold pkOne at h
      split at h
      · rename_i r hr
        rw [Option.bind_eq_some_iff] at h
        obtain ⟨q, h4, h5⟩ := h
        simp only [Option.some.injEq] at h5
        subst h5
        exact .ownP (obj_some h1 (by rw [h2]; simp)) h2 hr (pkOL_sound ih _ _ h4)
      · cases h
    all_goals
      obtain ⟨q, h1, h2⟩ := h
      exact rest q (by simpa [pkE, gu_some] using h1) h2.symm
def fix1 (own : Bool) (k : Nat) (v : AVal) : AVal :=
  match v, k with
  | .sc (.slice none 0 0), k + 1 => if own = true then .usl k [] else .slice k []
  | v, _ => v
def fixC (own : Bool) : List Nat → List AVal → List AVal
  | k :: ks, v :: vs => fix1 own k v :: fixC own ks vs
  | _, vs => vs
def fixV (own : Bool) (ks : List Nat) (v : AVal) : AVal :=
  match v with
  | .agg cs => .agg (fixC own ks cs)
  | v => fix1 own (ks.headD 0) v
theorem fix1_sound {H : Heap} {own : Bool} {k : Nat} {v d : AVal} {u b : List Nat} (h : Pk H v d u b) : Pk H v (fix1 own k d) u b := by
  unfold fix1
  split
  · cases h with
    | plain hp => split <;> first | exact .nilU | exact .nilS
  · exact h
theorem fixC_sound {H : Heap} {own : Bool} : ∀ {ks : List Nat} {vs ds : List AVal} {u b : List Nat}, Pks H vs ds u b → Pks H vs (fixC own ks ds) u b
  | [], _, _, _, _, h => by unfold fixC; exact h
  | k :: ks, _, _, _, _, .nil => .nil
  | k :: ks, _, _, _, _, .cons h hs => .cons (fix1_sound h) (fixC_sound hs)
theorem fixV_sound {H : Heap} {own : Bool} {ks : List Nat} {v d : AVal} {u b : List Nat} (h : Pk H v d u b) : Pk H v (fixV own ks d) u b := by
  unfold fixV
  split
  · cases h with
    | plain hp => simp [AVal.plain] at hp
    | agg h => exact .agg (fixC_sound h)
  · exact fix1_sound h
def pack1 (H : Heap) (m : Nat) (ks : List Nat) (v : AVal) : Option Pko :=
  if m = 0 then (pkE H 4 v).bind fun p => some (fixV false ks p.1, [], p.2) else (pkO H 4 v).bind fun p => some (fixV true ks p.1, p.2)
theorem pack1_sound {H : Heap} {m : Nat} {ks : List Nat} {v : AVal} {p : Pko} (h : pack1 H m ks v = some p) : Pk H v p.1 p.2.1 p.2.2 := by
  unfold pack1 at h
  split at h
  · rw [Option.bind_eq_some_iff] at h
    obtain ⟨q, h1, h2⟩ := h
    simp only [Option.some.injEq] at h2
    subst h2
    exact fixV_sound (pkE_sound _ _ _ h1).toPk
  · rw [Option.bind_eq_some_iff] at h
    obtain ⟨q, h1, h2⟩ := h
    simp only [Option.some.injEq] at h2
    subst h2
    exact fixV_sound (pkO_sound _ _ _ h1)
def packs (H : Heap) : List Nat → List (List Nat) → List AVal → Option (List AVal × List Nat × List Nat)
  | _, _, [] => some ([], [], [])
  | ms, kss, v :: vs => (pack1 H (ms.headD 0) (kss.headD []) v).bind fun p => (packs H ms.tail kss.tail vs).bind fun q => some (p.1 :: q.1, p.2.1 ++ q.2.1, p.2.2 ++ q.2.2)
theorem packs_sound {H : Heap} : ∀ {vs : List AVal} {ms : List Nat} {kss : List (List Nat)} {p}, packs H ms kss vs = some p → Pks H vs p.1 p.2.1 p.2.2
  | [], _, _, p, h => by simp only [packs, Option.some.injEq] at h; subst h; exact .nil
  | v :: vs, ms, kss, p, h => by
    simp only [packs, Option.bind_eq_some_iff, Option.some.injEq] at h
    obtain ⟨a, h1, b, h2, rfl⟩ := h
    exact .cons (pack1_sound h1) (packs_sound h2)
def _root_.Go.Program.kindsF (P : Program) : Nat → TypeId → List Nat
  | 0, _ => [0]
  | d + 1, t => match P.underlying t with
    | some (.slice e) => (match P.szO e with | some n => [n + 1] | none => [0])
    | some (.struct fs) => fs.toList.flatMap fun f => P.kindsF d f.type
    | some (.array n e) => (List.replicate n (P.kindsF d e)).flatten
    | _ => [0]
def _root_.Go.Program.parK (P : Program) (f : FuncId) : List (List Nat) := match P.funcs[f]? with | some fn => fn.params.toList.map (P.kindsF 5) | none => []
def _root_.Go.Program.resK (P : Program) (f : FuncId) : List (List Nat) := match P.funcs[f]? with | some fn => fn.resultTypes.toList.map (P.kindsF 5) | none => []
structure Mds where
  par : FuncId → List Nat
  res : FuncId → List Nat
  
  loc : FuncId → Nat
  
  nl : FuncId → List (Nat × Nat)
  
  cur : List (Nat × Nat)
  
  inls : List (FuncId × Nat)
  
  base : Nat
  
  gh : Option (Nat × Nat × Int)
def Mds.at (M : Mds) (f : FuncId) : Mds := { M with cur := M.nl f, base := 0 }
def inlB : List (FuncId × Nat) → FuncId → Nat
  | [], _ => 0
  | p :: l, f => if p.1 = f then p.2 else inlB l f
def Mds.inat (M : Mds) (f : FuncId) : Mds := { M with cur := M.nl f, base := inlB M.inls f }
def shD (b : Nat) (dst : Option Tmp) : Option Tmp :=
  match b with
  | 0 => dst
  | b + 1 => some (match dst with | some d => b + 1 + d | none => b + 1)
def nlk : List (Nat × Nat) → Nat → Nat
  | [], _ => 0
  | p :: l, t => if p.1 = t then p.2 + 1 else nlk l t
def assE (M : Mds) (dst : Option Tmp) (H : Heap) (v : AVal) : Option Out :=
  match dst with
  | none => some (v, [], [])
  | some d => match nlk M.cur d with
    | 0 => some (v, [], [])
    | k + 1 => match v with
      | .sc (.slice none 0 0) => some (.osl (site (shD M.base (some d))) ((H (site (shD M.base (some d)))).gen + 1) 0 0, [site (shD M.base (some d))], [(site (shD M.base (some d)), newObj H (site (shD M.base (some d))) k [])])
      | v => some (v, [], [])
def isNilS : AVal → Bool | .sc (.slice none 0 0) => true | _ => false
def exOf (H : Heap) : List Nat → Nat → List AVal → List AVal → List Nat
  | ms, k, .osl o _ _ n :: vs, .usl _ _ :: ds => if (H o).exact = true ∧ n = (H o).rows.length then k :: exOf H ms.tail (k + 1) vs ds else exOf H ms.tail (k + 1) vs ds
  | ms, k, .sc x :: vs, .usl _ _ :: ds => if ms.headD 0 = 2 ∧ isNilS (.sc x) = true then k :: exOf H ms.tail (k + 1) vs ds else exOf H ms.tail (k + 1) vs ds
  | ms, k, _ :: vs, _ :: ds => exOf H ms.tail (k + 1) vs ds
  | _, _, _, _ => []
def lentOkE (H : Heap) : List Nat → List AVal → Bool
  | o :: os, .uptr cs :: ls => decide (cs.length = (H o).st) && lentOkE H os ls
  | [], [] => true
  | _, _ => false
def noneIn (u b : List Nat) : Bool := u.all fun o => !b.contains o
def nodupB : List Nat → Bool
  | [] => true
  | x :: xs => !xs.contains x && nodupB xs
def backE (H : Heap) (u b lent : List Nat) (dst : Option Tmp) (r : AVal) (ls : List AVal) (bz : List Nat) : Option Out :=
  gu (nodupB ((opnU (callH H u lent bz) (site dst) r ++ lentUp (callH H u lent bz) lent ls).map (·.1)) = true)
  (some (opnV (callH H u lent bz) (site dst) r,
      u ++ b ++ (callUp H u lent bz ++ (opnU (callH H u lent bz) (site dst) r ++ lentUp (callH H u lent bz) lent ls)).map (·.1),
      callUp H u lent bz ++ (opnU (callH H u lent bz) (site dst) r ++ lentUp (callH H u lent bz) lent ls)))
def callE (E : Env) (M : Mds) (C : Orc) (f : FuncId) (vals : List AVal) (dst : Option Tmp) (H : Heap) : Option Out :=
  gu (E.P.goFn f = true) ((packs H (M.par f) (E.P.parK f) vals).bind fun p => gu (nodupB p.2.1 = true) (gu (noneIn p.2.1 p.2.2 = true)
  ((C f (exOf H (M.par f) 0 vals p.1) p.1).bind fun q => gu (lentOkE H (lents vals p.1) q.2 = true)
  (backE H p.2.1 p.2.2 (lents vals p.1) dst q.1 q.2 (if q.1.flat && flats q.2 then [] else p.2.2)))))
def closeV : AVal → AVal | .usl st es => .slice st es | v => v
def closeO (C : Orc) : Orc := fun f ex ds => (C f ex ds).map fun q => (closeV q.1, q.2)
def ghO (gh : Option (Nat × Nat × Int)) (dst : Option Tmp) (ρ : Operand → AVal) (C : Orc) : Orc :=
  match gh with
  | none => C
  | some (d, t, n) => if dst = some d then (match ρ (.tmp t) with | .int _ m => if m = n then C else closeO C | _ => C) else C
def nlkD (l : List (Nat × Nat)) (dst : Option Tmp) : Nat := match dst with | none => 0 | some d => nlk l d
def bsE (k : Nat) (H : Heap) (o size len : Nat) (rows : List (List AVal)) : Option Out :=
  match k with
  | 0 => some (.osl o ((H o).gen + 1) 0 len, [o], [(o, newObj H o size rows)])
  | _ + 1 => gu (0 < len) (gu (rows.all clos = true) (some (.slice size rows, [o], [(o, { newObj H o size rows with mode := .froz })])))
def builtinE (E : Env) (k : Nat) (b : Builtin) (args : List Operand) (ts : Array TypeId) (dst : Option Tmp) (ρ : Operand → AVal) (H : Heap) : Option Out :=
  match b, args, ts with
  | .len, [x], ⟨t :: _⟩ => lenE E.P H t (ρ x)
  | .max, [x, y], _ => match ρ x, ρ y with | .int k a, .int _ b => some (.int k (if b > a then b else a), [], []) | _, _ => none
  | .min, [x, y], _ => match ρ x, ρ y with | .int k a, .int _ b => some (.int k (if b < a then b else a), [], []) | _, _ => none
  | .append, [x, y], ⟨[t, u]⟩ => appF k E.P H t u dst (ρ x) (ρ y)
  | .clear, [x], ⟨t :: _⟩ => clearE E.P H t (ρ x)
  | .cap, [x], ⟨t :: _⟩ => capE E.P H t (ρ x)
  | .copy, [x, y], ⟨[t, u]⟩ => copyE E.P H t u (ρ x) (ρ y)
  | _, _, _ => none
def opE (E : Env) (M : Mds) (C : Orc) (op : Op) (dst : Option Tmp) (ρ : Operand → AVal) (H : Heap) : Option Out :=
  match op with
  | .move x => some (ρ x, [], [])
  | .assign x => assE M dst H (ρ x)
  | .pick c a b => match ρ c with | .bool t => some (if t = true then ρ a else ρ b, [], []) | _ => none
  | .alloc t => (E.P.zeroL t).bind fun z => some (.ptr (site (shD M.base dst)) ((H (site (shD M.base dst))).gen + 1) 0 0, [site (shD M.base dst)], [(site (shD M.base dst), newObj H (site (shD M.base dst)) z.length [z])])
  | .box _ x => gu ((ρ x).boxable = true) (some (.ptr (site (shD M.base dst)) ((H (site (shD M.base dst))).gen + 1) 0 0, [site (shD M.base dst)], [(site (shD M.base dst), newObj H (site (shD M.base dst)) (ρ x).cellsV.length [(ρ x).cellsV])]))
  | .build t ps => gu (E.P.isComp t = true) ((E.P.zeroL t).bind fun z => (fillA (E.P.places t) z (ps.toList.map fun p => (p.1, ρ p.2))).bind fun cs => some (.agg (nilO M.cur dst cs), [], []))
  | .buildSlice t len ps => (E.P.elemO t).bind fun size => gu (0 < size) ((E.P.elemZero t).bind fun z => gu (z.length = size) (gu (len * size ≤ 16777216) ((fillR size (List.replicate len z) (ps.toList.map fun p => (p.1, ρ p.2))).bind fun rows =>
      bsE (nlkD M.cur dst) H (site (shD M.base dst)) size len rows)))
  | .load t x => (E.P.szO t).bind fun n => (E.P.rowO t).bind fun g => gu (g = false → n = 1) (loadE H g n (ρ x))
  | .store t x y => (E.P.szO t).bind fun n => storeE H n (ρ x) (ρ y)
  | .nilCheck x => gu (isPtr (ρ x) = true) (some (ρ x, [], []))
  | .binOp op t x y _ => (binV E.P op t (ρ x) (ρ y)).bind fun v => some (v, [], [])
  | .unOp op _ x => (unV op (ρ x)).bind fun v => some (v, [], [])
  | .convert s d x => convE E.P H s d (shD M.base dst) (ρ x)
  | .makeFunc f first cap => some (.fn f (first.toList.map ρ) (cap.toList.map ρ), [], [])
  | .makeSlice t l c => match ρ l, ρ c with
    | .int _ nl, .int _ nc => gu (0 ≤ nl) (gu (nl ≤ nc) ((E.P.elemO t).bind fun size => gu (0 < size) ((E.P.elemBytes t).bind fun bytes => (E.P.elemZero t).bind fun z => gu (z.length = size)
      (gu ((bytes : Int) * nc ≤ 281474976710656) (gu (nc ≤ 9223372036854775807) (some (.osl (site (shD M.base dst)) ((H (site (shD M.base dst))).gen + 1) 0 nl.toNat, [site (shD M.base dst)], [(site (shD M.base dst), newObjX H (site (shD M.base dst)) size (List.replicate nl.toNat z) (decide (nl = nc)))])))))))
    | _, _ => none
  | .slice t x lo hi none => sliceE E.P H t (ρ x) (lo.map ρ) (hi.map ρ)
  | .slice t x lo (some h) (some m) => slice3F (nlkD M.cur dst) E.P H t (ρ x) (lo.map ρ) (ρ h) (ρ m)
  | .fieldAddr s x f => (E.P.fldO s f).bind fun a => fieldE a.1 (ρ x)
  | .field s x f => (E.P.fldO s f).bind fun a => partE a.2.2 a.1 a.2.1 (ρ x)
  | .indexAddr t x ix => match ρ ix with | .int _ n => gu (0 ≤ n) (indexAddrE E.P H t (ρ x) n) | _ => none
  | .index t x ix => match ρ ix with | .int _ n => gu (0 ≤ n) (indexE E.P t (ρ x) n) | _ => none
  | .extract x i => tupE i (ρ x)
  | .call ⟨.value g, ⟨args⟩, _⟩ => match ρ g with | .fn (.func f) first cap => callE E M (ghO M.gh dst ρ C) f (first ++ args.map ρ ++ cap) (shD M.base dst) H | _ => none
  | .call ⟨.builtin b, ⟨args⟩, ts⟩ => builtinE E (nlkD M.cur dst) b args ts (shD M.base dst) ρ H
  | .sliceToArrayPointer t x => (s2aE E.P t (ρ x)).bind fun v => some (v, [], [])
  | _ => none
end Go.Am
