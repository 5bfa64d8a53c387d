import Derived.Test.YtclgfgnhcakhdaaGreatDoorAm2
import Derived.Great.BuildSlice
namespace Go.Am
set_option linter.unusedSectionVars false
def intV (op : BinOp) (k : IntKind) (a b : Int) : Option AVal :=
  match op with
  | .add => some (.int k (k.wrap (a + b)))
  | .sub => some (.int k (k.wrap (a - b)))
  | .mul => some (.int k (k.wrap (a * b)))
  | .quo => if b = 0 then none else some (.int k (k.wrap (a.tdiv b)))
  | .rem => if b = 0 then none else some (.int k (a.tmod b))
  | .and => some (.int k (k.wrap ((BitVec.ofInt k.bits a &&& BitVec.ofInt k.bits b).toNat : Int)))
  | .or => some (.int k (k.wrap ((BitVec.ofInt k.bits a ||| BitVec.ofInt k.bits b).toNat : Int)))
  | .xor => some (.int k (k.wrap ((BitVec.ofInt k.bits a ^^^ BitVec.ofInt k.bits b).toNat : Int)))
  | .andNot => some (.int k (k.wrap ((BitVec.ofInt k.bits a &&& ~~~BitVec.ofInt k.bits b).toNat : Int)))
  | .eql => some (.bool (a == b))
  | .neq => some (.bool (a != b))
  | .lss => some (.bool (decide (a < b)))
  | .leq => some (.bool (decide (a ≤ b)))
  | .gtr => some (.bool (decide (b < a)))
  | .geq => some (.bool (decide (b ≤ a)))
  | _ => none
def shiftV (op : BinOp) (k : IntKind) (a b : Int) : Option AVal :=
  if b < 0 then none else
  match op with
  | .shl => some (.int k (k.wrap (a * 2 ^ (min b.toNat k.bits))))
  | .shr => some (.int k (a.fdiv (2 ^ (min b.toNat k.bits))))
  | _ => none
def strV (op : BinOp) (a b : List UInt8) : Option AVal :=
  match op with
  | .add => if a.length + b.length ≤ 9223372036854775807 then some (.str (a ++ b)) else none
  | .eql => some (.bool (a == b))
  | .neq => some (.bool (!(a == b)))
  | .lss => some (.bool (Op.bytesLess a b))
  | .leq => some (.bool (Op.bytesLess a b || a == b))
  | .gtr => some (.bool (!(Op.bytesLess a b || a == b)))
  | .geq => some (.bool (!Op.bytesLess a b))
  | _ => none
def isShift : BinOp → Bool
  | .shl | .shr => true
  | _ => false
def eqGo (P : Program) (rec : TypeId → AVal → AVal → Option Bool) (xs ys : List AVal) : List Field → Option Bool
  | [] => some true
  | f :: fs => if f.name = "_" then eqGo P rec xs ys fs else
    (P.szO f.type).bind fun n => (P.rowO f.type).bind fun g => if (g = true ∨ n = 1) ∧ f.offset + n ≤ xs.length ∧ f.offset + n ≤ ys.length then
      (rec f.type (mkV g ((xs.drop f.offset).take n)) (mkV g ((ys.drop f.offset).take n))).bind fun r => (eqGo P rec xs ys fs).map fun r' => r && r'
    else none
def eqF (P : Program) : Nat → TypeId → AVal → AVal → Option Bool
  | 0, _, _, _ => none
  | d + 1, t, x, y =>
    match P.underlying t, x, y with
    | some .bool, .bool a, .bool b => some (a == b)
    | some (.int _), .int k a, .int k' b => if k = k' then some (a == b) else none
    | some .string, .str a, .str b => some (a == b)
    | some (.struct fs), .agg xs, .agg ys => if P.stoodInHeld t = true then none else eqGo P (eqF P d) xs ys fs.toList
    | _, _, _ => none
def binV (P : Program) (op : BinOp) (t : TypeId) (x y : AVal) : Option AVal :=
  match x, y with
  | .int k a, .int k' b => if isShift op then shiftV op k a b else if k = k' then intV op k a b else none
  | .str a, .str b => strV op a b
  | .bool a, .bool b =>
    match P.underlying t, op with
    | some .bool, .eql => some (.bool (a == b))
    | some .bool, .neq => some (.bool (!(a == b)))
    | _, _ => none
  | .ptr _ _ _ _, .sc (.pointer none) | .iptr _, .sc (.pointer none) =>
    match P.underlying t, op with
    | some (.pointer _), .eql => some (.bool false)
    | some (.pointer _), .neq => some (.bool true)
    | _, _ => none
  | .sc (.pointer none), .sc (.pointer none) =>
    match P.underlying t, op with
    | some (.pointer _), .eql => some (.bool true)
    | some (.pointer _), .neq => some (.bool false)
    | _, _ => none
  | .sc (.slice none _ _), .sc (.slice none 0 0) =>
    match P.underlying t, op with
    | some (.slice _), .eql => some (.bool true)
    | some (.slice _), .neq => some (.bool false)
    | _, _ => none
  | .slice _ (_ :: _), .sc (.slice none 0 0) =>
    match P.underlying t, op with
    | some (.slice _), .eql => some (.bool false)
    | some (.slice _), .neq => some (.bool true)
    | _, _ => none
  | .sc (.slice (some _) _ _), .sc (.slice none 0 0) =>
    match P.underlying t, op with
    | some (.slice _), .eql => some (.bool false)
    | some (.slice _), .neq => some (.bool true)
    | _, _ => none
  | .agg a, .agg b =>
    if P.eqGuardType P.depth t = true then none else
    match op with
    | .eql => (eqF P 8 t (.agg a) (.agg b)).map .bool
    | .neq => (eqF P 8 t (.agg a) (.agg b)).map fun r => .bool (!r)
    | _ => none
  | _, _ => none
def unV (op : UnOp) (x : AVal) : Option AVal :=
  match op, x with
  | .not, .bool b => some (.bool (!b))
  | .neg, .int k n => intV .sub k 0 n
  | .xor, .int k n => intV .xor k (if k.signed then -1 else k.max) n
  | _, _ => none
def bnd (x : Option AVal) (dflt top : Nat) : Option Nat :=
  match x with
  | none => if dflt ≤ top then some dflt else none
  | some (.int _ n) => if 0 ≤ n ∧ n ≤ top then some n.toNat else none
  | some _ => none
def s2aE (P : Program) (t : TypeId) : AVal → Option AVal
  | .slice st es => (P.arrO t).bind fun a => if a.2.1 = st ∧ 0 < a.1 ∧ a.1 ≤ es.length then some (.iptr es.flatten) else none
  | _ => none
def Act1 (E : Env) (op : Op) (dst : Option Tmp) (ρ : Operand → AVal) (H : Heap) (v : AVal) (rd : List Nat) (up : List (Nat × Obj)) : Prop :=
  match op with
  | .move x | .assign x => v = ρ x ∧ rd = [] ∧ up = []
  | .pick c a b => ∃ t, ρ c = .bool t ∧ v = (if t then ρ a else ρ b) ∧ rd = [] ∧ up = []
  | .alloc t => ∃ z, E.P.zeroL t = some z ∧ v = .ptr (site dst) ((H (site dst)).gen + 1) 0 0 ∧ rd = [site dst] ∧ up = [(site dst, newObj H (site dst) z.length [z])]
  | .box _ x => (ρ x).boxable = true ∧ v = .ptr (site dst) ((H (site dst)).gen + 1) 0 0 ∧ rd = [site dst] ∧ up = [(site dst, newObj H (site dst) (ρ x).cellsV.length [(ρ x).cellsV])]
  | .load t x => ∃ n g cs, E.P.szO t = some n ∧ E.P.rowO t = some g ∧ (g = false → n = 1) ∧ loadC H (ρ x) n = some cs ∧ v = mkV g cs ∧ rd = idsOf (ρ x) ∧ up = []
  | .store t x y => ∃ n u, E.P.szO t = some n ∧ (ρ y).boxable = true ∧ (ρ y).cellsV.length = n ∧ (ρ y).cellsV.all AVal.one = true ∧ storeC H (ρ x) (ρ y).cellsV = some u ∧ v = .junk ∧ rd = idsOf (ρ x) ∧ up = [u]
  | .nilCheck x => (match ρ x with | .ptr _ _ _ _ => True | .iptr _ => True | _ => False) ∧ v = ρ x ∧ rd = [] ∧ up = []
  | .binOp op t x y _ => binV E.P op t (ρ x) (ρ y) = some v ∧ rd = [] ∧ up = []
  | .unOp op _ x => unV op (ρ x) = some v ∧ rd = [] ∧ up = []
  | .sliceToArrayPointer t x => s2aE E.P t (ρ x) = some v ∧ rd = [] ∧ up = []
  | .convert s d x => rd = [] ∧ up = [] ∧
      match ρ x with
      | .int _ n => ∃ k, (E.P.underlying s).isSome = true ∧ E.P.underlying d = some (.int k) ∧ v = .int k (k.wrap n)
      | .str l => (E.P.underlying s).isSome = true ∧ E.P.isStr d = true ∧ v = .str l
      | _ => False
  | .makeFunc f first cap => v = .fn f (first.toList.map ρ) (cap.toList.map ρ) ∧ rd = [] ∧ up = []
  | .fieldAddr s x f => ∃ off n g, E.P.fldO s f = some (off, n, g) ∧ rd = [] ∧ up = [] ∧
      match ρ x with
      | .ptr o g i j => v = .ptr o g i (j + off)
      | .iptr cs => v = .iptr (cs.drop off)
      | _ => False
  | .field s x f => ∃ off n g cs, E.P.fldO s f = some (off, n, g) ∧ ρ x = .agg cs ∧ off + n ≤ cs.length ∧ (g = false → n = 1) ∧ v = mkV g ((cs.drop off).take n) ∧ rd = [] ∧ up = []
  | .indexAddr t x ix => ∃ k n, ρ ix = .int k n ∧ 0 ≤ n ∧ up = [] ∧
      match ρ x with
      | .slice st es => E.P.elemO t = some st ∧ rd = [] ∧ ∃ r, es[n.toNat]? = some r ∧ v = .iptr r
      | .osl o g i m => rd = [o] ∧ ∃ y, AVal.obj H o g = some y ∧ E.P.elemO t = some y.st ∧ n.toNat < m ∧ v = .ptr o g (i + n.toNat) 0
      | .ptr o g i j => rd = [] ∧ ∃ len k w, E.P.arrO t = some (len, k, w) ∧ n.toNat < len ∧ v = .ptr o g i (j + n.toNat * k)
      | .iptr cs => rd = [] ∧ ∃ len k w, E.P.arrO t = some (len, k, w) ∧ n.toNat < len ∧ v = .iptr (cs.drop (n.toNat * k))
      | _ => False
  | .index t x ix => ∃ k n, ρ ix = .int k n ∧ 0 ≤ n ∧ rd = [] ∧ up = [] ∧
      match ρ x with
      | .str l => E.P.isStr t = true ∧ ∃ b, l[n.toNat]? = some b ∧ v = .int .u8 b.toNat
      | .agg cs => ∃ len k w, E.P.arrO t = some (len, k, w) ∧ n.toNat < len ∧ n.toNat * k + k ≤ cs.length ∧ (w = false → k = 1) ∧ v = mkV w ((cs.drop (n.toNat * k)).take k)
      | _ => False
  | .extract x i => ∃ vs, ρ x = .tup vs ∧ vs[i]? = some v ∧ rd = [] ∧ up = []
  | .slice t x lo hi mx => up = [] ∧ mx = none ∧
      match ρ x with
      | .str l => E.P.isStr t = true ∧ rd = [] ∧ ∃ h b, bnd (hi.map ρ) l.length l.length = some h ∧ bnd (lo.map ρ) 0 h = some b ∧ v = .str ((l.drop b).take (h - b))
      | .slice st es => E.P.elemO t = some st ∧ rd = [] ∧ ∃ h b, bnd (hi.map ρ) es.length es.length = some h ∧ bnd (lo.map ρ) 0 h = some b ∧ v = .slice st ((es.drop b).take (h - b))
      | .osl o g i m => rd = [o] ∧ ∃ y h b, AVal.obj H o g = some y ∧ E.P.elemO t = some y.st ∧ bnd (hi.map ρ) m (y.rows.length - i) = some h ∧ bnd (lo.map ρ) 0 h = some b ∧ v = .osl o g (i + b) (h - b)
      | _ => False
  | _ => False
section
variable {S0 U0 : Nat → Prop} {w0 : World} {c : Ctx}
theorem intV_sound {P : Program} {w : World} {op : BinOp} {k : IntKind} {a b : Int} {v : AVal} (hs : isShift op = false) (h : intV op k a b = some v) (t : TypeId) :
    ∃ x, (binOp op t (.int k a) (.int k b)).run P w = .ok x w ∧ VRel c v x := by
  cases op <;> simp only [intV, isShift] at h hs <;> first
    | (cases hs; done)
    | (cases h; done)
    | (injection h with h; subst h; refine ⟨_, ?_, rfl⟩; simp [binOp, Op.intArith, Op.intBits, Op.intCmp]; done)
    | (split at h
       · cases h
       · rename_i hb; injection h with h; subst h; refine ⟨_, ?_, rfl⟩; simp [binOp, Op.intDiv, hb])
theorem shiftV_sound {P : Program} {w : World} {op : BinOp} {k k' : IntKind} {a b : Int} {v : AVal} (h : shiftV op k a b = some v) (t : TypeId) :
    ∃ x, (binOp op t (.int k a) (.int k' b)).run P w = .ok x w ∧ VRel c v x := by
  unfold shiftV at h
  split at h
  · cases h
  · rename_i hb
    cases op <;> simp only at h <;> first
      | (cases h; done)
      | (injection h with h; subst h; refine ⟨_, ?_, rfl⟩; simp [binOp, Op.shift, hb])
theorem strV_sound {P : Program} {w : World} {op : BinOp} {a b : List UInt8} {v : AVal} (h : strV op a b = some v) (t : TypeId) :
    ∃ x, (binOp op t (.string ⟨a.toArray⟩) (.string ⟨b.toArray⟩)).run P w = .ok x w ∧ VRel c v x := by
  cases op <;> simp only [strV] at h <;> first
    | (cases h; done)
    | (injection h with h; subst h; refine ⟨_, ?_, rfl⟩; simp [binOp, Op.stringOp]; done)
    | skip
  split at h
  case isFalse => cases h
  rename_i hle
  injection h with h
  subst h
  refine ⟨_, ?_, rfl⟩
  have e : (⟨a.toArray⟩ : ByteArray) ++ ⟨b.toArray⟩ = ⟨(a ++ b).toArray⟩ := by
    apply ByteArray.ext; simp
  simp [binOp, Op.stringOp, ByteArray.size, e]
  omega
theorem run_equal {P : Program} {w : World} {t : TypeId} {x y : Value} {r : Bool} (h : ∀ d, (Op.equalIn (d + 1) t x y).run P w = .ok r w) : (Op.equal t x y).run P w = .ok r w := h 9999
theorem run_eql_of {P : Program} {w : World} {t : TypeId} {x y : Value} {r : Bool} (h : ∀ d, (Op.equalIn (d + 1) t x y).run P w = .ok r w) (hx : binOp .eql t x y = (do pure (.bool (← Op.equal t x y)) : Sem Value)) :
    (binOp .eql t x y).run P w = .ok (.bool r) w := by
  rw [hx]; simp [run_equal h]
theorem run_neq_of {P : Program} {w : World} {t : TypeId} {x y : Value} {r : Bool} (h : ∀ d, (Op.equalIn (d + 1) t x y).run P w = .ok r w) (hx : binOp .neq t x y = (do pure (.bool (!(← Op.equal t x y))) : Sem Value)) :
    (binOp .neq t x y).run P w = .ok (.bool (!r)) w := by
  rw [hx]; simp [run_equal h]
theorem run_eql_of' {P : Program} {w : World} {t : TypeId} {x y : Value} {r : Bool} (h : (Op.equalIn (8 + 9992) t x y).run P w = .ok r w) (hx : binOp .eql t x y = (do pure (.bool (← Op.equal t x y)) : Sem Value)) :
    (binOp .eql t x y).run P w = .ok (.bool r) w := by
  have h' : (Op.equal t x y).run P w = .ok r w := h
  rw [hx]; simp [h']
theorem run_neq_of' {P : Program} {w : World} {t : TypeId} {x y : Value} {r : Bool} (h : (Op.equalIn (8 + 9992) t x y).run P w = .ok r w) (hx : binOp .neq t x y = (do pure (.bool (!(← Op.equal t x y))) : Sem Value)) :
    (binOp .neq t x y).run P w = .ok (.bool (!r)) w := by
  have h' : (Op.equal t x y).run P w = .ok r w := h
  rw [hx]; simp [h']
theorem eql_bool {P : Program} {w : World} {t : TypeId} (hu : P.underlying t = some .bool) (a b : Bool) (d : Nat) : (Op.equalIn (d + 1) t (.bool a) (.bool b)).run P w = .ok (a == b) w := by
  simp [Op.equalIn, run_underlying hu]
theorem eql_ptr_nil {P : Program} {w : World} {t e : TypeId} (hu : P.underlying t = some (.pointer e)) (a : Addr) (d : Nat) : (Op.equalIn (d + 1) t (.pointer (some a)) (.pointer none)).run P w = .ok false w := by
  simp [Op.equalIn, run_underlying hu]
theorem eql_nil_nil {P : Program} {w : World} {t e : TypeId} (hu : P.underlying t = some (.pointer e)) (d : Nat) : (Op.equalIn (d + 1) t (.pointer none) (.pointer none)).run P w = .ok true w := by
  simp [Op.equalIn, run_underlying hu]
theorem eql_slice_nil {P : Program} {w : World} {t e : TypeId} (hu : P.underlying t = some (.slice e)) (a : Addr) (n m : Nat) (d : Nat) : (Op.equalIn (d + 1) t (.slice (some a) n m) (.slice none 0 0)).run P w = .ok false w := by
  simp [Op.equalIn, run_underlying hu]
theorem eql_nils_nils {P : Program} {w : World} {t e : TypeId} (hu : P.underlying t = some (.slice e)) (n m : Nat) (d : Nat) : (Op.equalIn (d + 1) t (.slice none n m) (.slice none 0 0)).run P w = .ok true w := by
  simp [Op.equalIn, run_underlying hu]
theorem part_rel {P : Program} {t : TypeId} {n off : Nat} {g : Bool} {cs : List AVal} {xs : Array Value} (hn : P.szO t = some n) (hg : P.rowO t = some g) (h1 : g = false → n = 1) (hv : VRels c cs xs.toList) (hl : off + n ≤ cs.length) :
    ∃ x, (part t xs off).run P c.w = .ok x c.w ∧ VRel c (mkV g ((cs.drop off).take n)) x := by
  cases g with
  | true =>
    refine ⟨.agg (xs.extract off (off + n)), by simp [part, run_rowO hg, run_szO hn], ?_⟩
    refine ⟨_, rfl, ?_⟩
    have e : (xs.extract off (off + n)).toList = (xs.toList.drop off).take n := by
      rw [Array.toList_extract]; simp [List.extract]
    rw [e]
    exact (hv.drop off).take n
  | false =>
    obtain rfl := h1 rfl
    have hlt : off < cs.length := by omega
    obtain ⟨x, hx, hvx⟩ := hv.get off cs[off] (List.getElem?_eq_getElem hlt)
    have hx' : xs[off]? = some x := by simpa using hx
    refine ⟨x, by simp [part, run_rowO hg, hx'], ?_⟩
    have e : (cs.drop off).take 1 = [cs[off]] := by
      rw [List.drop_eq_getElem_cons hlt]; rfl
    rw [e]
    exact hvx
theorem str_beq (a b : List UInt8) : ((⟨a.toArray⟩ : ByteArray).toList == (⟨b.toArray⟩ : ByteArray).toList) = (a == b) := by
  rw [ByteArray.toList_eq, ByteArray.toList_eq]
theorem eqGo_sound {P : Program} {d : Nat} {rec : TypeId → AVal → AVal → Option Bool} (hrec : ∀ (t : TypeId) (x y : AVal) (r : Bool) (xv yv : Value), rec t x y = some r → VRel c x xv → VRel c y yv → (Op.equalIn d t xv yv).run P c.w = .ok r c.w)
    {xs ys : List AVal} {xa ya : Array Value} (h1 : VRels c xs xa.toList) (h2 : VRels c ys ya.toList) : ∀ (fs : List Field) (r : Bool), eqGo P rec xs ys fs = some r → (Op.eqFields d xa ya fs).run P c.w = .ok r c.w
  | [], r, h => by
    simp only [eqGo, Option.some.injEq] at h
    subst h
    simp [Op.eqFields]
  | f :: fs, r, h => by
    simp only [eqGo] at h
    simp only [Op.eqFields]
    split at h
    · rename_i hf
      rw [if_neg (by simpa using hf)]
      exact eqGo_sound hrec h1 h2 fs r h
    · rename_i hf
      rw [if_pos hf]
      simp only [Option.bind_eq_some_iff] at h
      obtain ⟨n, hn, g, hg, h⟩ := h
      split at h
      case isFalse => cases h
      rename_i hc
      simp only [Option.bind_eq_some_iff, Option.map_eq_some_iff] at h
      obtain ⟨r1, hr1, r2, hr2, rfl⟩ := h
      have hg1 : g = false → n = 1 := fun e => by
        rcases hc.1 with h' | h'
        · rw [e] at h'; cases h'
        · exact h'
      obtain ⟨a, ha1, ha2⟩ := part_rel hn hg hg1 h1 hc.2.1
      obtain ⟨b, hb1, hb2⟩ := part_rel hn hg hg1 h2 hc.2.2
      have hq := hrec f.type _ _ r1 a b hr1 ha2 hb2
      simp only [Sem.run_bind, ha1, hb1, hq, Result.andThen_ok, Sem.run_ite]
      cases r1 with
      | false => simp
      | true => simpa using eqGo_sound hrec h1 h2 fs r2 hr2
theorem eqF_sound {P : Program} (e : Nat) : ∀ (d : Nat) (t : TypeId) (x y : AVal) (r : Bool) (xv yv : Value), eqF P d t x y = some r → VRel c x xv → VRel c y yv → (Op.equalIn (d + e) t xv yv).run P c.w = .ok r c.w := by
  intro d
  induction d with
  | zero => intro t x y r xv yv h; simp [eqF] at h
  | succ d ih =>
    intro t x y r xv yv h hx hy
    rw [show d + 1 + e = (d + e) + 1 by omega]
    unfold eqF at h
    split at h
    · rename_i hu
      simp only [VRel] at hx hy
      subst hx; subst hy
      injection h with h
      subst h
      exact eql_bool hu _ _ _
    · rename_i hu
      simp only [VRel] at hx hy
      subst hx; subst hy
      split at h
      · rename_i hk; subst hk
        injection h with h
        subst h
        exact run_equalIn_int c.w _ t _ _ _ _ hu
      · cases h
    · rename_i hu
      simp only [VRel] at hx hy
      subst hx; subst hy
      injection h with h
      subst h
      rw [run_equalIn_string c.w _ t _ _ hu, str_beq]
    · rename_i fs xs ys hu
      obtain ⟨xa, rfl, h1⟩ := hx
      obtain ⟨ya, rfl, h2⟩ := hy
      split at h
      · cases h
      · rename_i hs
        have hfo : P.fieldsOf t = fs := by simp [Program.fieldsOf, hu]
        rw [run_equalIn_struct c.w (d + e) t xa ya (by rw [hfo]; exact hu) (by simpa using hs), hfo]
        exact eqGo_sound ih h1 h2 fs.toList r h
    · cases h
theorem run_aggs {P : Program} {op : BinOp} {t : TypeId} {x y : Operand} {xs ys : Array Value} {w : World} (h : P.eqGuardType P.depth t = false) : (eqGuard op t x y (.agg xs) (.agg ys)).run P w = .ok () w := by
  unfold eqGuard
  cases op <;> simp [h]
theorem binV_sound {P : Program} {op : BinOp} {t : TypeId} {x y : Operand} {a b v : AVal} {xa xb : Value} (ha : VRel c a xa) (hb : VRel c b xb) (h : binV P op t a b = some v) :
    ∃ z, (do eqGuard op t x y xa xb; binOp op t xa xb : Sem Value).run P c.w = .ok z c.w ∧ VRel c v z := by
  unfold binV at h
  split at h
  case h_1 k a k' b =>
    simp only [VRel] at ha hb
    subst ha; subst hb
    simp only [Sem.run_bind, eqGuard_at_int, Sem.run_pure, Result.andThen_ok]
    split at h
    · exact shiftV_sound h t
    · rename_i hs
      split at h
      · rename_i hk; subst hk; exact intV_sound (by simpa using hs) h t
      · cases h
  case h_2 a b =>
    simp only [VRel] at ha hb
    subst ha; subst hb
    simp only [Sem.run_bind, eqGuard_at_string, Sem.run_pure, Result.andThen_ok]
    exact strV_sound h t
  case h_3 a b =>
    simp only [VRel] at ha hb
    subst ha; subst hb
    simp only [Sem.run_bind, eqGuard_at_bool, Sem.run_pure, Result.andThen_ok]
    split at h
    · rename_i hu; injection h with h; subst h; exact ⟨_, run_eql_of (eql_bool hu a b) rfl, rfl⟩
    · rename_i hu; injection h with h; subst h; exact ⟨_, run_neq_of (eql_bool hu a b) rfl, rfl⟩
    · cases h
  case h_4 o g i j =>
    simp only [VRel] at ha hb
    obtain ⟨p, rfl, _⟩ := ha; subst hb
    simp only [Sem.run_bind, eqGuard_at_pointer, Sem.run_pure, Result.andThen_ok]
    split at h
    · rename_i hu; injection h with h; subst h; exact ⟨_, run_eql_of (eql_ptr_nil hu _) rfl, rfl⟩
    · rename_i hu; injection h with h; subst h; exact ⟨_, run_neq_of (eql_ptr_nil hu _) rfl, rfl⟩
    · cases h
  case h_5 =>
    simp only [VRel, CRel] at ha hb
    obtain ⟨p, off, rfl, _⟩ := ha; subst hb
    simp only [Sem.run_bind, eqGuard_at_pointer, Sem.run_pure, Result.andThen_ok]
    split at h
    · rename_i hu; injection h with h; subst h; exact ⟨_, run_eql_of (eql_ptr_nil hu _) rfl, rfl⟩
    · rename_i hu; injection h with h; subst h; exact ⟨_, run_neq_of (eql_ptr_nil hu _) rfl, rfl⟩
    · cases h
  case h_6 =>
    simp only [VRel] at ha hb
    subst ha; subst hb
    simp only [Sem.run_bind, eqGuard_at_pointer, Sem.run_pure, Result.andThen_ok]
    split at h
    · rename_i hu; injection h with h; subst h; exact ⟨_, run_eql_of (eql_nil_nil hu) rfl, rfl⟩
    · rename_i hu; injection h with h; subst h; exact ⟨_, run_neq_of (eql_nil_nil hu) rfl, rfl⟩
    · cases h
  case h_7 =>
    simp only [VRel] at ha hb
    subst ha; subst hb
    simp only [Sem.run_bind, eqGuard_at_slice, Sem.run_pure, Result.andThen_ok]
    split at h
    · rename_i hu; injection h with h; subst h; exact ⟨_, run_eql_of (eql_nils_nils hu _ _) rfl, rfl⟩
    · rename_i hu; injection h with h; subst h; exact ⟨_, run_neq_of (eql_nils_nils hu _ _) rfl, rfl⟩
    · cases h
  case h_8 =>
    simp only [VRel, CRel] at ha hb
    obtain ⟨p, cap, rfl, _, hr⟩ := ha; subst hb
    obtain ⟨b, off, rfl, _⟩ := hr (by simp)
    simp only [Sem.run_bind, eqGuard_at_slice, Sem.run_pure, Result.andThen_ok]
    split at h
    · rename_i hu; injection h with h; subst h; exact ⟨_, run_eql_of (eql_slice_nil hu _ _ _) rfl, rfl⟩
    · rename_i hu; injection h with h; subst h; exact ⟨_, run_neq_of (eql_slice_nil hu _ _ _) rfl, rfl⟩
    · cases h
  case h_9 =>
    simp only [VRel] at ha hb
    subst ha; subst hb
    simp only [Sem.run_bind, eqGuard_at_slice, Sem.run_pure, Result.andThen_ok]
    split at h
    · rename_i hu; injection h with h; subst h; exact ⟨_, run_eql_of (eql_slice_nil hu _ _ _) rfl, rfl⟩
    · rename_i hu; injection h with h; subst h; exact ⟨_, run_neq_of (eql_slice_nil hu _ _ _) rfl, rfl⟩
    · cases h
  case h_10 a b =>
    split at h
    · cases h
    rename_i hq
    have ha' := ha
    have hb' := hb
    obtain ⟨xa, rfl, h1⟩ := ha
    obtain ⟨ya, rfl, h2⟩ := hb
    simp only [Sem.run_bind, run_aggs (by simpa using hq), Result.andThen_ok]
    split at h
    · simp only [Option.map_eq_some_iff] at h
      obtain ⟨r, hr, rfl⟩ := h
      exact ⟨_, run_eql_of' (eqF_sound (c := c) 9992 8 t _ _ r _ _ hr ha' hb') rfl, rfl⟩
    · simp only [Option.map_eq_some_iff] at h
      obtain ⟨r, hr, rfl⟩ := h
      exact ⟨_, run_neq_of' (eqF_sound (c := c) 9992 8 t _ _ r _ _ hr ha' hb') rfl, rfl⟩
    · cases h
  case h_11 => cases h
variable {E : Env} {a : Act} {ρ : Operand → AVal} {o : Oper} {sd : Option Tmp} {v : AVal} {rd : List Nat} {up : List (Nat × Obj)}
theorem snd_move (h : HeapOk S0 U0 w0 c) (hρ : ∀ x, VRel c (ρ x) (a.eval x)) {x : Operand} (ho : o.op = .move x) (hA : Act1 E (.move x) sd ρ c.H v rd up) : Done S0 U0 w0 c ((execOp a.eval o).run E.P c.w) v up := by
  obtain ⟨rfl, rfl, rfl⟩ := hA
  exact .pure h (by simp [execOp, ho]) (hρ x)
theorem snd_assign (h : HeapOk S0 U0 w0 c) (hρ : ∀ x, VRel c (ρ x) (a.eval x)) {x : Operand} (ho : o.op = .assign x) (hA : Act1 E (.assign x) sd ρ c.H v rd up) : Done S0 U0 w0 c ((execOp a.eval o).run E.P c.w) v up := by
  obtain ⟨rfl, rfl, rfl⟩ := hA
  exact .pure h (by simp [execOp, ho]) (hρ x)
theorem snd_pick (h : HeapOk S0 U0 w0 c) (hρ : ∀ x, VRel c (ρ x) (a.eval x)) {x y z : Operand} (ho : o.op = .pick x y z) (hA : Act1 E (.pick x y z) sd ρ c.H v rd up) : Done S0 U0 w0 c ((execOp a.eval o).run E.P c.w) v up := by
  obtain ⟨t, ht, rfl, rfl, rfl⟩ := hA
  have hx := hρ x
  rw [ht] at hx
  simp only [VRel] at hx
  refine .pure h (by simp [execOp, ho, hx, asBool]; rfl) ?_
  split <;> simp [*]
theorem snd_load (h : HeapOk S0 U0 w0 c) (hρ : ∀ x, VRel c (ρ x) (a.eval x)) {t : TypeId} {x : Operand} (ho : o.op = .load t x) (hA : Act1 E (.load t x) sd ρ c.H v rd up) : Done S0 U0 w0 c ((execOp a.eval o).run E.P c.w) v up := by
  obtain ⟨n, g, cs, h1, h2, h3, h4, rfl, rfl, rfl⟩ := hA
  obtain ⟨b, off, hx, hc, hl⟩ := loadC_addr h (hρ x) h4
  obtain ⟨y, hy, hv⟩ := run_load h1 h2 h3 hc hl
  exact .pure h (by simp [execOp, ho, hx, hy]) hv
theorem snd_store (h : HeapOk S0 U0 w0 c) (hρ : ∀ x, VRel c (ρ x) (a.eval x)) {t : TypeId} {x y : Operand} (ho : o.op = .store t x y) (hA : Act1 E (.store t x y) sd ρ c.H v rd up) : Done S0 U0 w0 c ((execOp a.eval o).run E.P c.w) v up := by
  obtain ⟨n, u, h1, h2, h3, h4, h5, rfl, rfl, rfl⟩ := hA
  have hcells := cells_rel h2 (hρ y)
  obtain ⟨b, off, hx, hth, hle, hok⟩ := storeC_sound h (hρ x) (o := u.1) (y := u.2) h5 hcells
  have hall : (a.eval y).cells.all (·.oneCell') = true := by
    rw [Array.all_eq_true_iff_forall_mem]
    intro z hz
    obtain ⟨j, hj⟩ := List.getElem?_of_mem (Array.mem_toList_iff.2 hz)
    have hjl : j < (ρ y).cellsV.length := by rw [← hcells.length_eq]; exact (List.getElem?_eq_some_iff.1 hj).1
    obtain ⟨z', hz1, hz2⟩ := hcells.get j _ (List.getElem?_eq_getElem hjl)
    rw [hj] at hz1
    injection hz1 with hz1
    subst hz1
    exact one_rel (List.all_eq_true.1 h4 _ (List.getElem_mem hjl)) hz2
  have hsz : (a.eval y).cells.size = n := by rw [← h3, ← hcells.length_eq]; simp
  have hrun := run_storeVar_mid (P := E.P) c.w b off t (a.eval y).cells (by simpa using hth) (by rw [hsz]; exact h1) hall
  have hrun' : (storeVar t ⟨b, off, none⟩ (a.eval y)).run E.P c.w = .ok () (c.w.setCells b off (a.eval y).cells.toList) := by
    have e : (storeVar t ⟨b, off, none⟩ (a.eval y)) = storeVar t ⟨b, off, none⟩ (.agg (a.eval y).cells) := rfl
    rw [e]; exact hrun
  refine ⟨undef, _, .inr ⟨by simp [execOp, ho, hx, Instr.storeAt, Instr.sureAddr, hrun'], rfl⟩, hle, hok, rfl, trivial⟩
theorem snd_binOp (h : HeapOk S0 U0 w0 c) (hρ : ∀ x, VRel c (ρ x) (a.eval x)) {op : BinOp} {t u : TypeId} {x y : Operand} (ho : o.op = .binOp op t x y u) (hA : Act1 E (.binOp op t x y u) sd ρ c.H v rd up) : Done S0 U0 w0 c ((execOp a.eval o).run E.P c.w) v up := by
  obtain ⟨h1, rfl, rfl⟩ := hA
  obtain ⟨z, hz, hv⟩ := binV_sound (x := x) (y := y) (hρ x) (hρ y) h1
  refine .pure h ?_ hv
  have e : execOp a.eval o = (do pure (.value (← (do eqGuard op t x y (a.eval x) (a.eval y); binOp op t (a.eval x) (a.eval y) : Sem Value))) : Sem Next) := by simp [execOp, ho]
  rw [e, Sem.run_bind, hz]
  rfl
theorem snd_unOp (h : HeapOk S0 U0 w0 c) (hρ : ∀ x, VRel c (ρ x) (a.eval x)) {op : UnOp} {t : TypeId} {x : Operand} (ho : o.op = .unOp op t x) (hA : Act1 E (.unOp op t x) sd ρ c.H v rd up) : Done S0 U0 w0 c ((execOp a.eval o).run E.P c.w) v up := by
  obtain ⟨h1, rfl, rfl⟩ := hA
  have hx := hρ x
  have e : execOp a.eval o = (do pure (.value (← Op.unary op (a.eval x))) : Sem Next) := by simp [execOp, ho]
  rw [e]
  generalize a.eval x = y at hx
  generalize hq : ρ x = q at h1 hx
  unfold unV at h1
  split at h1
  · simp only [VRel] at hx
    injection h1 with h1
    subst h1; subst hx
    exact .pure h (by simp [Op.unary]) rfl
  · simp only [VRel] at hx
    simp only [intV] at h1
    injection h1 with h1
    subst h1; subst hx
    exact .pure h (by simp [Op.unary, Op.intArith]) rfl
  · simp only [VRel] at hx
    simp only [intV] at h1
    injection h1 with h1
    subst h1; subst hx
    exact .pure h (by simp [Op.unary, Op.intBits]) rfl
  · cases h1
theorem ccells_app {S : Nat → Prop} {w : World} {b : Nat} : ∀ (r s : List AVal) (off : Nat), CCells S w b off r → CCells S w b (off + r.length) s → CCells S w b off (r ++ s)
  | [], s, off, _, h => by simpa using h
  | v :: r, s, off, h1, h2 => ⟨h1.1, ccells_app r s (off + 1) h1.2 (by rw [show off + 1 + r.length = off + (r.length + 1) by omega]; exact h2)⟩
theorem crows_flat {S : Nat → Prop} {w : World} {b st : Nat} : ∀ (es : List (List AVal)) (off : Nat), CRows S w b off st es → CCells S w b off es.flatten
  | [], _, _ => trivial
  | r :: rs, off, ⟨h0, h1, h2⟩ => ccells_app r rs.flatten off h1 (by rw [h0]; exact crows_flat rs _ h2)
theorem snd_s2a (h : HeapOk S0 U0 w0 c) (hρ : ∀ x, VRel c (ρ x) (a.eval x)) {t : TypeId} {x : Operand} (ho : o.op = .sliceToArrayPointer t x) (hA : Act1 E (.sliceToArrayPointer t x) sd ρ c.H v rd up) : Done S0 U0 w0 c ((execOp a.eval o).run E.P c.w) v up := by
  obtain ⟨h1, rfl, rfl⟩ := hA
  have hx := hρ x
  generalize hq : ρ x = q at h1 hx
  unfold s2aE at h1
  split at h1
  · rename_i st es
    rw [Option.bind_eq_some_iff] at h1
    obtain ⟨ar, ha, h2⟩ := h1
    split at h2
    · rename_i hh
      simp only [Option.some.injEq] at h2
      subst h2
      obtain ⟨n, k, g⟩ := ar
      obtain ⟨rfl, hn, hle⟩ := hh
      simp only at hn hle
      unfold Program.arrO at ha
      split at ha
      case h_2 => cases ha
      rename_i n' e hu
      simp only [Option.bind_eq_some_iff, Option.map_eq_some_iff, Prod.mk.injEq] at ha
      obtain ⟨k', hk', g', hg', rfl, rfl, rfl⟩ := ha
      obtain ⟨ad, cap, hy, _, hr⟩ := hx
      obtain ⟨b, off, rfl, hS, hrow⟩ := hr (fun e => by rw [e] at hle; simp at hle; omega)
      refine .pure h ?_ ⟨b, off, rfl, fun _ => hS, crows_flat _ _ hrow⟩
      have : ¬ es.length < n' := by omega
      simp [execOp, ho, hy, Instr.arrayAt, run_underlying hu, this]
    · cases h2
  · cases h1
theorem snd_nilCheck (h : HeapOk S0 U0 w0 c) (hρ : ∀ x, VRel c (ρ x) (a.eval x)) {x : Operand} (ho : o.op = .nilCheck x) (hA : Act1 E (.nilCheck x) sd ρ c.H v rd up) : Done S0 U0 w0 c ((execOp a.eval o).run E.P c.w) v up := by
  obtain ⟨h1, rfl, rfl, rfl⟩ := hA
  have hx := hρ x
  refine .pure h ?_ hx
  split at h1
  · rename_i q; rw [q] at hx; obtain ⟨p, hp, _⟩ := hx; simp [execOp, ho, hp]
  · rename_i q; rw [q] at hx; simp only [VRel, CRel] at hx; obtain ⟨p, off, hp, _⟩ := hx; simp [execOp, ho, hp]
  · exact h1.elim
theorem map_rel {c : Ctx} {ρ : Operand → AVal} {f : Operand → Value} (hρ : ∀ x, VRel c (ρ x) (f x)) : ∀ l : List Operand, VRels c (l.map ρ) (l.map f)
  | [] => rfl
  | x :: l => ⟨f x, l.map f, rfl, hρ x, map_rel hρ l⟩
theorem snd_makeFunc (h : HeapOk S0 U0 w0 c) (hρ : ∀ x, VRel c (ρ x) (a.eval x)) {f : Fn} {fs cs : Array Operand} (ho : o.op = .makeFunc f fs cs) (hA : Act1 E (.makeFunc f fs cs) sd ρ c.H v rd up) : Done S0 U0 w0 c ((execOp a.eval o).run E.P c.w) v up := by
  obtain ⟨rfl, rfl, rfl⟩ := hA
  exact .pure (x := .func f (fs.map a.eval) (cs.map a.eval)) h (by simp [execOp, ho, Instr.makeFunc]) ⟨_, _, rfl, by simpa using map_rel hρ _, by simpa using map_rel hρ _⟩
theorem snd_extract (h : HeapOk S0 U0 w0 c) (hρ : ∀ x, VRel c (ρ x) (a.eval x)) {x : Operand} {i : Nat} (ho : o.op = .extract x i) (hA : Act1 E (.extract x i) sd ρ c.H v rd up) : Done S0 U0 w0 c ((execOp a.eval o).run E.P c.w) v up := by
  obtain ⟨vs, h1, h2, rfl, rfl⟩ := hA
  have hx := hρ x
  rw [h1] at hx
  obtain ⟨xs, h3, h4⟩ := hx
  obtain ⟨y, hy, hv⟩ := h4.get i v h2
  exact .pure h (by simp at hy; simp [execOp, ho, h3, Instr.extract, hy]) hv
theorem fldO_spec {P : Program} {t : TypeId} {f off n : Nat} {g : Bool} (h : P.fldO t f = some (off, n, g)) :
    ∃ fs fd, P.underlying t = some (.struct fs) ∧ fs[f]? = some fd ∧ fd.offset = off ∧ P.szO fd.type = some n ∧ n ≠ 0 ∧ P.rowO fd.type = some g := by
  unfold Program.fldO at h
  split at h
  case h_2 => cases h
  rename_i fs hu
  simp only [Option.bind_eq_some_iff] at h
  obtain ⟨fd, h1, m, h2, h3⟩ := h
  split at h3
  · cases h3
  rename_i hm
  simp only [Option.map_eq_some_iff, Prod.mk.injEq] at h3
  obtain ⟨q, h4, h5, h6, h7⟩ := h3
  subst h5; subst h6; subst h7
  exact ⟨fs, fd, hu, h1, rfl, h2, hm, h4⟩
theorem run_fieldAt {P : Program} {w : World} {t : TypeId} {f off n : Nat} {g : Bool} (h : P.fldO t f = some (off, n, g)) (b k : Nat) :
    (Instr.fieldAt t (.pointer (some ⟨b, k, none⟩)) f).run P w = .ok (.pointer (some ⟨b, k + off, none⟩)) w := by
  obtain ⟨fs, fd, h1, h2, rfl, h3, h4, h5⟩ := fldO_spec h
  simp [Instr.fieldAt, run_underlying h1, h2, Instr.sureAddr, fieldPlace, run_szO h3, h4, Addr.add_lit]
theorem snd_fieldAddr (h : HeapOk S0 U0 w0 c) (hρ : ∀ x, VRel c (ρ x) (a.eval x)) {t : TypeId} {x : Operand} {f : Nat} (ho : o.op = .fieldAddr t x f) (hA : Act1 E (.fieldAddr t x f) sd ρ c.H v rd up) : Done S0 U0 w0 c ((execOp a.eval o).run E.P c.w) v up := by
  obtain ⟨off, n, g, h1, rfl, rfl, h2⟩ := hA
  have hx := hρ x
  split at h2
  · rename_i o' g' i j q
    subst h2
    rw [q] at hx
    obtain ⟨⟨b, k, sp⟩, hp, h3, h4⟩ := hx
    by_cases hl : g' = (c.H o').gen ∧ (c.H o').mode ≠ .dead
    · have h5 := h4 hl.1 hl.2
      simp only [Addr.mk.injEq] at h5
      obtain ⟨rfl, rfl, rfl⟩ := h5
      exact .pure (x := .pointer (some ⟨(c.φ o').b, (c.φ o').base + (i * (c.H o').st + j) + off, none⟩)) h (by simp [execOp, ho, hp, run_fieldAt h1]) ⟨_, rfl, h3, fun _ _ => by congr 1; omega⟩
    · obtain ⟨fs, fd, e1, e2, rfl, e3, e4, e5⟩ := fldO_spec h1
      exact .pure h (by simp [execOp, ho, hp, Instr.fieldAt, run_underlying e1, e2, Instr.sureAddr, fieldPlace, run_szO e3, e4]; rfl) ⟨_, rfl, h3, fun q1 q2 => absurd ⟨q1, q2⟩ hl⟩
  · rename_i cs q
    subst h2
    rw [q] at hx
    simp only [VRel, CRel] at hx
    obtain ⟨b, k, hp, hs, hc⟩ := hx
    refine .pure h (by simp [execOp, ho, hp, run_fieldAt h1]; rfl) ?_
    simp only [VRel, CRel]
    refine ⟨b, k + off, rfl, fun hn => hs (fun e => hn (by simp [e])), ?_⟩
    rw [CCells_iff] at hc ⊢
    intro j v hj
    rw [List.getElem?_drop] at hj
    rw [Nat.add_assoc]
    exact hc _ v hj
  · exact h2.elim
theorem snd_field (h : HeapOk S0 U0 w0 c) (hρ : ∀ x, VRel c (ρ x) (a.eval x)) {t : TypeId} {x : Operand} {f : Nat} (ho : o.op = .field t x f) (hA : Act1 E (.field t x f) sd ρ c.H v rd up) : Done S0 U0 w0 c ((execOp a.eval o).run E.P c.w) v up := by
  obtain ⟨off, n, g, cs, h1, h2, h3, h4, rfl, rfl, rfl⟩ := hA
  have hx := hρ x
  rw [h2] at hx
  obtain ⟨xs, hp, hv⟩ := hx
  obtain ⟨fs, fd, e1, e2, rfl, e3, e4, e5⟩ := fldO_spec h1
  obtain ⟨y, hy, hvy⟩ := part_rel e3 e5 h4 hv h3
  exact .pure h (by simp [execOp, ho, hp, Instr.field, run_underlying e1, e2, asAgg, hy]) hvy
theorem elemO_spec {P : Program} {t : TypeId} {n : Nat} (h : P.elemO t = some n) : ∃ e, P.underlying t = some (.slice e) ∧ P.szO e = some n := by
  unfold Program.elemO at h
  split at h
  · rename_i e hu; exact ⟨e, hu, h⟩
  · cases h
theorem arrO_spec {P : Program} {t : TypeId} {len k : Nat} {g : Bool} (h : P.arrO t = some (len, k, g)) : ∃ e, P.underlying t = some (.array len e) ∧ P.szO e = some k ∧ P.rowO e = some g := by
  unfold Program.arrO at h
  split at h
  case h_2 => cases h
  rename_i n e hu
  simp only [Option.bind_eq_some_iff, Option.map_eq_some_iff, Prod.mk.injEq] at h
  obtain ⟨k', h1, g', h2, rfl, rfl, rfl⟩ := h
  exact ⟨e, hu, h1, h2⟩
theorem isStr_spec {P : Program} {t : TypeId} (h : P.isStr t = true) : P.underlying t = some .string := by
  unfold Program.isStr at h
  split at h
  · assumption
  · cases h
theorem run_indexSlice {P : Program} {w : World} {t : TypeId} {st : Nat} (h : P.elemO t = some st) {ad : Addr} {len cap : Nat} {k : IntKind} {n : Int} (h0 : 0 ≤ n) (hlt : n.toNat < len) :
    (Instr.indexAt t (.slice (some ad) len cap) (.int k n)).run P w = .ok (.pointer (some (ad.add (n.toNat * st)))) w := by
  obtain ⟨e, h1, h2⟩ := elemO_spec h
  have : n < len := by omega
  simp [Instr.indexAt, asIntOf, run_underlying h1, h0, this, run_szO h2]
theorem run_indexArr {P : Program} {w : World} {t : TypeId} {len st : Nat} {g : Bool} (h : P.arrO t = some (len, st, g)) {ad : Addr} {k : IntKind} {n : Int} (h0 : 0 ≤ n) (hlt : n.toNat < len) :
    (Instr.indexAt t (.pointer (some ad)) (.int k n)).run P w = .ok (.pointer (some (ad.add (n.toNat * st)))) w := by
  obtain ⟨e, h1, h2, _⟩ := arrO_spec h
  have : n < len := by omega
  simp [Instr.indexAt, asIntOf, run_underlying h1, h0, this, run_szO h2, Instr.sureAddr]
theorem snd_indexAddr (h : HeapOk S0 U0 w0 c) (hρ : ∀ x, VRel c (ρ x) (a.eval x)) {t : TypeId} {x ix : Operand} (ho : o.op = .indexAddr t x ix) (hA : Act1 E (.indexAddr t x ix) sd ρ c.H v rd up) : Done S0 U0 w0 c ((execOp a.eval o).run E.P c.w) v up := by
  obtain ⟨k, n, h1, h0, rfl, h2⟩ := hA
  have hx := hρ x
  have hi := hρ ix
  rw [h1] at hi
  simp only [VRel] at hi
  have e : (execOp a.eval o).run E.P c.w = (((Instr.indexAt t (a.eval x) (.int k n))).run E.P c.w).andThen fun z w => .ok (.value z) w := by
    simp [execOp, ho, hi]
  split at h2
  · rename_i st es q
    obtain ⟨h3, rfl, r, hr, rfl⟩ := h2
    rw [q] at hx
    simp only [VRel, CRel] at hx
    obtain ⟨ad, cap, hp, _, hs⟩ := hx
    have hlt := (List.getElem?_eq_some_iff.1 hr).1
    obtain ⟨b, off, rfl, hSb, hrows⟩ := hs (fun e => by rw [e] at hlt; simp at hlt)
    refine .pure h (by rw [e, hp, run_indexSlice h3 h0 hlt]; rfl) ?_
    rw [Addr.add_lit]
    simp only [VRel, CRel]
    exact ⟨b, _, rfl, fun _ => hSb, ((CRows_iff _ _ _ _ _ _).1 hrows _ r hr).2⟩
  · rename_i o' g i m q
    obtain ⟨rfl, y, hy, h3, hlt, rfl⟩ := h2
    rw [q] at hx
    obtain ⟨z1, z2, rfl⟩ := AVal.obj_spec hy
    obtain ⟨ad, m', cap, hp, hg, hl⟩ := hx
    obtain ⟨rfl, hle, hcap, had⟩ := hl z1.symm z2
    have hob := h.objs o' z2
    obtain rfl := had (by have := hob.le; omega)
    refine .pure h (by rw [e, hp, run_indexSlice h3 h0 hlt]; rfl) ?_
    rw [Addr.add_lit]
    exact ⟨_, rfl, hg, fun _ _ => by rw [Nat.add_mul]; congr 1; omega⟩
  · rename_i o' g i j q
    obtain ⟨rfl, len, kk, ww, h3, hlt, rfl⟩ := h2
    rw [q] at hx
    obtain ⟨⟨b, off, sp⟩, hp, hg, hl⟩ := hx
    refine .pure h (by rw [e, hp, run_indexArr h3 h0 hlt]; rfl) ?_
    refine ⟨_, rfl, hg, fun q1 q2 => ?_⟩
    have := hl q1 q2
    simp only [Addr.mk.injEq] at this
    obtain ⟨rfl, rfl, rfl⟩ := this
    rw [Addr.add_lit]
    congr 1; omega
  · rename_i cs q
    obtain ⟨rfl, len, kk, ww, h3, hlt, rfl⟩ := h2
    rw [q] at hx
    simp only [VRel, CRel] at hx
    obtain ⟨b, off, hp, hs, hc⟩ := hx
    refine .pure h (by rw [e, hp, run_indexArr h3 h0 hlt]; rfl) ?_
    rw [Addr.add_lit]
    simp only [VRel, CRel]
    refine ⟨b, _, rfl, fun hn => hs (fun e => hn (by simp [e])), ?_⟩
    rw [CCells_iff] at hc ⊢
    intro j v hj
    rw [List.getElem?_drop] at hj
    rw [Nat.add_assoc]
    exact hc _ v hj
  · exact h2.elim
theorem snd_index (h : HeapOk S0 U0 w0 c) (hρ : ∀ x, VRel c (ρ x) (a.eval x)) {t : TypeId} {x ix : Operand} (ho : o.op = .index t x ix) (hA : Act1 E (.index t x ix) sd ρ c.H v rd up) : Done S0 U0 w0 c ((execOp a.eval o).run E.P c.w) v up := by
  obtain ⟨k, n, h1, h0, rfl, rfl, h2⟩ := hA
  have hx := hρ x
  have hi := hρ ix
  rw [h1] at hi
  simp only [VRel] at hi
  have e : (execOp a.eval o).run E.P c.w = (((Instr.index t (a.eval x) (.int k n))).run E.P c.w).andThen fun z w => .ok (.value z) w := by
    simp [execOp, ho, hi]
  split at h2
  · rename_i l q
    obtain ⟨h3, b, hb, rfl⟩ := h2
    rw [q] at hx
    simp only [VRel] at hx
    have hget : (⟨l.toArray⟩ : ByteArray)[n.toNat]? = some b := by
      have hlt := (List.getElem?_eq_some_iff.1 hb)
      obtain ⟨hlt, hbb⟩ := hlt
      rw [getElem?_pos _ _ (by simpa [ByteArray.size] using hlt)]
      congr 1
    refine .pure h (by rw [e, hx]; simp [Instr.index, asIntOf, run_underlying (isStr_spec h3), h0, hget]) rfl
  · rename_i cs q
    obtain ⟨len, kk, ww, h3, hlt, hle, h4, rfl⟩ := h2
    rw [q] at hx
    obtain ⟨xs, hp, hv⟩ := hx
    obtain ⟨el, e1, e2, e3⟩ := arrO_spec h3
    obtain ⟨y, hy, hvy⟩ := part_rel e2 e3 h4 hv hle
    have : n < len := by omega
    exact .pure h (by rw [e, hp]; simp [Instr.index, asIntOf, run_underlying e1, h0, this, run_szO e2, hy]) hvy
  · exact h2.elim
theorem bnd_sound {P : Program} {w : World} {x : Operand} {ρ : Operand → AVal} {f : Operand → Value} (hx : VRel c (ρ x) (f x)) {d top r : Nat} (h : bnd (some (ρ x)) d top = some r) (code : BoundsCode) :
    (Instr.sliceBound (f x) top code).run P w = .ok r w ∧ r ≤ top := by
  unfold bnd at h
  split at h
  · rename_i hh; cases hh
  · rename_i k n hh
    injection hh with hh
    rw [hh] at hx
    simp only [VRel] at hx
    split at h
    · rename_i hc
      injection h with h
      refine ⟨by simp [Instr.sliceBound, hx, asIntOf, hc, h], by omega⟩
    · cases h
  · cases h
theorem run_bounds {P : Program} {w : World} {lo hi : Option Operand} {ρ : Operand → AVal} {f : Operand → Value} (hρ : ∀ x, VRel c (ρ x) (f x)) {len cap : Nat} {isS : Bool} {top h b : Nat} (ht : top ≤ cap) (hl : len ≤ top) (hh : bnd (hi.map ρ) len top = some h) (hb : bnd (lo.map ρ) 0 h = some b) :
    (Instr.sliceBounds isS len cap (lo.map f) (hi.map f) none).run P w = .ok (b, h, cap) w ∧ b ≤ h ∧ h ≤ top := by
  have hhi : ∀ code, ((match hi.map f with | some v => Instr.sliceBound v cap code | none => pure len : Sem Nat)).run P w = .ok h w ∧ h ≤ top := by
    intro code
    cases hi with
    | none => simp only [Option.map_none, bnd] at hh ⊢; split at hh <;> simp_all
    | some x =>
      simp only [Option.map_some] at hh ⊢
      have h1 := bnd_sound (c := c) (P := P) (w := w) (hρ x) (d := len) (top := cap) (r := h) (by
        unfold bnd at hh ⊢
        split at hh <;> simp_all; omega) code
      exact ⟨h1.1, (bnd_sound (c := c) (P := P) (w := w) (hρ x) hh code).2⟩
  have hlo : ∀ code, ((match lo.map f with | some v => Instr.sliceBound v h code | none => pure 0 : Sem Nat)).run P w = .ok b w ∧ b ≤ h := by
    intro code
    cases lo with
    | none => simp only [Option.map_none, bnd] at hb ⊢; split at hb <;> simp_all; omega
    | some x => exact bnd_sound (c := c) (P := P) (w := w) (hρ x) hb code
  refine ⟨?_, (hlo .sliceB).2, (hhi .sliceB).2⟩
  have e1 := hhi (if isS then .sliceAcap else .sliceAlen)
  have e2 := hlo .sliceB
  unfold Instr.sliceBounds
  cases hi <;> cases lo <;> simp_all
theorem CRows_cut {S : Nat → Prop} {w : World} {b off st : Nat} {es : List (List AVal)} (h : CRows S w b off st es) (lo n : Nat) : CRows S w b (off + lo * st) st ((es.drop lo).take n) := by
  rw [CRows_iff] at h ⊢
  intro i r hi
  rw [List.getElem?_take] at hi
  split at hi
  · rw [List.getElem?_drop] at hi
    have := h _ r hi
    rw [Nat.add_mul] at this
    rw [Nat.add_assoc]
    exact this
  · cases hi
theorem sliceAt_slice {P : Program} {t e : TypeId} (hu : P.underlying t = some (.slice e)) (x : Value) (lo hi mx : Option Value) (w : World) : (Instr.sliceAt t x lo hi mx).run P w = (Instr.slice t x lo hi mx).run P w := by
  simp [Instr.sliceAt, run_underlying hu]
theorem sliceAt_string {P : Program} {t : TypeId} (hu : P.underlying t = some .string) (x : Value) (lo hi mx : Option Value) (w : World) : (Instr.sliceAt t x lo hi mx).run P w = (Instr.slice t x lo hi mx).run P w := by
  simp [Instr.sliceAt, run_underlying hu]
theorem extract_mk (l : List UInt8) (b h : Nat) : (⟨l.toArray⟩ : ByteArray).extract b h = ⟨((l.drop b).take (h - b)).toArray⟩ := by
  apply ByteArray.ext
  simp [ByteArray.data_extract, List.extract]
theorem snd_slice (h : HeapOk S0 U0 w0 c) (hρ : ∀ x, VRel c (ρ x) (a.eval x)) {t : TypeId} {x : Operand} {lo hi mx : Option Operand} (ho : o.op = .slice t x lo hi mx) (hA : Act1 E (.slice t x lo hi mx) sd ρ c.H v rd up) : Done S0 U0 w0 c ((execOp a.eval o).run E.P c.w) v up := by
  obtain ⟨rfl, rfl, h2⟩ := hA
  have hx := hρ x
  have e : (execOp a.eval o).run E.P c.w = ((Instr.sliceAt t (a.eval x) (lo.map a.eval) (hi.map a.eval) none).run E.P c.w).andThen fun z w => .ok (.value z) w := by
    simp [execOp, ho]
  split at h2
  · rename_i l q
    obtain ⟨h3, rfl, hh, bb, hhi, hlo, rfl⟩ := h2
    rw [q] at hx
    simp only [VRel] at hx
    obtain ⟨hb, _, _⟩ := run_bounds (c := c) (P := E.P) (w := c.w) (isS := false) hρ (Nat.le_refl l.length) (Nat.le_refl _) hhi hlo
    have hsz : (⟨l.toArray⟩ : ByteArray).size = l.length := by simp [ByteArray.size]
    refine .pure h (by rw [e, hx, sliceAt_string (isStr_spec h3)]; simp [Instr.slice, run_underlying (isStr_spec h3), hsz, hb]; rfl) ?_
    rw [extract_mk]
    rfl
  · rename_i st es q
    obtain ⟨h3, rfl, hh, bb, hhi, hlo, rfl⟩ := h2
    obtain ⟨el, e1, e2⟩ := elemO_spec h3
    rw [q] at hx
    simp only [VRel, CRel] at hx
    obtain ⟨ad, cap, hp, hcap, hs⟩ := hx
    obtain ⟨hb, hble, hhle⟩ := run_bounds (c := c) (P := E.P) (w := c.w) (isS := true) (cap := cap) hρ hcap (Nat.le_refl _) hhi hlo
    refine .pure h (by rw [e, hp, sliceAt_slice e1]; simp [Instr.slice, run_underlying e1, hb, run_szO e2]; rfl) ?_
    simp only [VRel, CRel]
    have hlen : ((es.drop bb).take (hh - bb)).length = hh - bb := by simp; omega
    refine ⟨_, cap - bb, by rw [hlen], by rw [hlen]; omega, fun hn => ?_⟩
    have hpos : 0 < hh - bb := by rw [← hlen]; exact List.length_pos_iff.2 hn
    obtain ⟨b, off, rfl, hSb, hr⟩ := hs (fun e => by rw [e] at hhle; simp at hhle; omega)
    rw [if_neg (by omega)]
    simp only [Option.map_some, Addr.add_lit]
    exact ⟨b, _, rfl, hSb, CRows_cut hr _ _⟩
  · rename_i o' g i m q
    obtain ⟨rfl, y, hh, bb, hy, h3, hhi, hlo, rfl⟩ := h2
    obtain ⟨el, e1, e2⟩ := elemO_spec h3
    rw [q] at hx
    obtain ⟨z1, z2, rfl⟩ := AVal.obj_spec hy
    obtain ⟨ad, m', cap, hp, hg, hl⟩ := hx
    obtain ⟨rfl, hle, hcap, had⟩ := hl z1.symm z2
    have hob := h.objs o' z2
    have := hob.le
    obtain ⟨hb, hble, hhle⟩ := run_bounds (c := c) (P := E.P) (w := c.w) (isS := true) (cap := cap) hρ (top := (c.H o').rows.length - i) (by omega) (by omega) hhi hlo
    refine .pure h (by rw [e, hp, sliceAt_slice e1]; simp [Instr.slice, run_underlying e1, hb, run_szO e2]; rfl) ?_
    refine ⟨_, _, _, rfl, hg, fun _ _ => ⟨rfl, by omega, by omega, fun hn => ?_⟩⟩
    rw [if_neg (by omega), had (by omega)]
    simp only [Option.map_some, Addr.add_lit, Nat.add_mul]
    congr 2
    omega
  · exact h2.elim
theorem snd_convert (h : HeapOk S0 U0 w0 c) (hρ : ∀ x, VRel c (ρ x) (a.eval x)) {s d : TypeId} {x : Operand} (ho : o.op = .convert s d x) (hA : Act1 E (.convert s d x) sd ρ c.H v rd up) : Done S0 U0 w0 c ((execOp a.eval o).run E.P c.w) v up := by
  obtain ⟨rfl, rfl, h2⟩ := hA
  have hx := hρ x
  split at h2
  · rename_i k n q
    obtain ⟨kk, h3, h4, rfl⟩ := h2
    obtain ⟨ds, h5⟩ := Option.isSome_iff_exists.1 h3
    rw [q] at hx
    simp only [VRel] at hx
    refine .pure h ?_ rfl
    cases ds <;> simp [execOp, ho, hx, convert, run_underlying h5, run_underlying h4, Conv.intToInt]
  · rename_i l q
    obtain ⟨h3, h4, rfl⟩ := h2
    obtain ⟨ds, h5⟩ := Option.isSome_iff_exists.1 h3
    rw [q] at hx
    simp only [VRel] at hx
    refine .pure h ?_ rfl
    cases ds <;> simp [execOp, ho, hx, convert, run_underlying h5, run_underlying (isStr_spec h4)]
  · exact h2.elim
theorem zeroL_spec {P : Program} {t : TypeId} {z : List AVal} (h : P.zeroL t = some z) : ∃ i zv, P.info? t = some i ∧ i.zero = some zv ∧ z = (absV zv).cellsV := by
  unfold Program.zeroL at h
  simp only [Option.map_eq_some_iff, Option.bind_eq_some_iff] at h
  obtain ⟨zv, ⟨i, h1, h2⟩, rfl⟩ := h
  exact ⟨i, zv, h1, h2, rfl⟩
theorem absV_cells (c : Ctx) (v : Value) : VRels c (absV v).cellsV v.cells.toList := by
  cases v <;> simp only [absV, abs1, AVal.cellsV, Value.cells] <;> first
    | exact absl_rel c _
    | (refine ⟨_, [], rfl, ?_, rfl⟩; simp [VRel])
theorem alloc_row (h : HeapOk S0 U0 w0 c) (s : Nat) {cs : List AVal} {xs : Array Value} (hv : VRels c cs xs.toList) (elem : TypeId) :
    ∃ c', c'.w = c.w.alloc (.cells xs elem) ∧ CtxLe c c' ∧ HeapOk S0 U0 w0 c' ∧ c'.H = c.H.set s (newObj c.H s cs.length [cs]) ∧ VRel c' (.ptr s ((c.H s).gen + 1) 0 0) (.pointer (some ⟨c.w.heap.size, 0, none⟩)) := by
  have hl := hv.length_eq
  have := h.alloc s cs.length [cs] xs elem 1 (by simp) (by simp at hl ⊢; omega) (fun i r hi => by
    have : i = 0 := by
      rcases Nat.eq_zero_or_pos i with h0 | h0
      · exact h0
      · have := (List.getElem?_eq_some_iff.1 hi).1; simp at this; omega
    subst this
    simp only [List.getElem?_cons_zero, Option.some.injEq] at hi
    subst hi
    refine ⟨rfl, fun j u hj => ?_⟩
    obtain ⟨x, hx, hu⟩ := hv.get j u hj
    exact ⟨x, by simpa using hx, hu⟩)
  exact ⟨_, rfl, this.1, this.2, rfl, ptr_new _ (b := c.w.heap.size) (cap := 1) (st := cs.length) (rows := [cs]) (by simp) (by simp)⟩
theorem snd_alloc (h : HeapOk S0 U0 w0 c) (_hρ : ∀ x, VRel c (ρ x) (a.eval x)) {t : TypeId} (ho : o.op = .alloc t) (hA : Act1 E (.alloc t) sd ρ c.H v rd up) : Done S0 U0 w0 c ((execOp a.eval o).run E.P c.w) v up := by
  obtain ⟨z, h1, rfl, rfl, rfl⟩ := hA
  obtain ⟨i, zv, h2, h3, rfl⟩ := zeroL_spec h1
  obtain ⟨c', e1, e2, e3, e4, e5⟩ := alloc_row h (site sd) (absV_cells c zv) t
  exact ⟨_, c', .inl (by rw [e1]; simp [execOp, ho, Instr.alloc, zeroValue, typeInfo, h2, h3, newVar, newRow]), e2, e3, e4, e5⟩
theorem snd_box (h : HeapOk S0 U0 w0 c) (hρ : ∀ x, VRel c (ρ x) (a.eval x)) {t : TypeId} {x : Operand} (ho : o.op = .box t x) (hA : Act1 E (.box t x) sd ρ c.H v rd up) : Done S0 U0 w0 c ((execOp a.eval o).run E.P c.w) v up := by
  obtain ⟨h1, rfl, rfl, rfl⟩ := hA
  obtain ⟨c', e1, e2, e3, e4, e5⟩ := alloc_row h (site sd) (cells_rel h1 (hρ x)) t
  exact ⟨_, c', .inl (by rw [e1]; simp [execOp, ho, Instr.box, newVar, newRow]), e2, e3, e4, e5⟩
end
end Go.Am
