import Derived.Test.YtclgfgnhcakhdaaGreatDoorAm10
namespace Go.Am
theorem beq_dec {α : Type} [BEq α] [LawfulBEq α] [DecidableEq α] (a b : α) : (a == b) = decide (a = b) := by
  by_cases h : a = b <;> simp [h]
class Hold (α : Type) where
  val : α
def hAnd (p : Prop) [K : Hold Prop] : Prop := p ∧ K.val
theorem hAnd_intro {p A : Prop} (h1 : p) (h2 : A) : @hAnd p ⟨A⟩ := ⟨h1, h2⟩
section
variable {α : Type}
def hSome (v : Option α) [K : Hold (α → Prop)] : Prop := xSome v K.val
def hBool (v : AVal) [K : Hold (Bool → Prop)] : Prop := xBool v K.val
def hInt (v : AVal) [K : Hold (IntKind → Int → Prop)] : Prop := xInt v K.val
end
section
variable (E : Env) (Q : Exit → St → Prop) (f : Nat → AVal) (H : Heap) (s : St)
end
def gd (ops : Array Oper) (j : Nat) : Option Tmp := (ops[j]?).bind (·.dst)
theorem gd_zero (o : Oper) (l : List Oper) : gd ⟨o :: l⟩ 0 = o.dst := rfl
theorem gd_succ (o : Oper) (l : List Oper) (n : Nat) : gd ⟨o :: l⟩ (n + 1) = gd ⟨l⟩ n := by simp [gd]
section
variable (E : Env) (ops : Array Oper) (f : Nat → AVal) (H : Heap)
end
section
variable (Γ : Nat → Option (List AVal)) (f : Nat → AVal)
theorem ev_tmp (t) : ev Γ f (.tmp t) = f t := rfl
theorem ev_int (k n) : ev Γ f (.const (.int k n)) = .int k n := rfl
theorem ev_bool (b) : ev Γ f (.const (.bool b)) = .bool b := rfl
theorem ev_str (l) : ev Γ f (.const (.string ⟨⟨l⟩⟩)) = .str l := rfl
theorem ev_nilp : ev Γ f (.const (.pointer none)) = .sc (.pointer none) := rfl
theorem ev_nils : ev Γ f (.const (.slice none 0 0)) = .sc (.slice none 0 0) := rfl
theorem ev_agg (l) : ev Γ f (.const (.agg ⟨l⟩)) = .agg (l.map abs1) := rfl
theorem ev_func (g) : ev Γ f (.func g) = .fn (.func g) [] [] := rfl
theorem abs1_int (k n) : abs1 (.int k n) = .int k n := rfl
theorem abs1_bool (b) : abs1 (.bool b) = .bool b := rfl
theorem abs1_str (l) : abs1 (.string ⟨⟨l⟩⟩) = .str l := rfl
theorem abs1_nilp : abs1 (.pointer none) = .sc (.pointer none) := rfl
theorem abs1_nils : abs1 (.slice none 0 0) = .sc (.slice none 0 0) := rfl
theorem putF_some (t v) : putF f (some t) v = upd f t v := rfl
theorem putF_none (v) : putF f none v = f := rfl
theorem upd_at (t v k) : upd f t v k = if k = t then v else f k := rfl
theorem upd_upd (t v v') : upd (upd f t v) t v' = upd f t v' := by funext k; simp only [upd]; split <;> rfl
end
section
variable (P : Program) (H : Heap)
def hIndexAddr (P : Program) (H : Heap) (t : TypeId) (p : AVal) (n : Int) [K : Hold Cont] : Prop := xIndexAddr P H t p n K.val
def hIndex (P : Program) (t : TypeId) (p : AVal) (n : Int) [K : Hold Cont] : Prop := xIndex P t p n K.val
def hSlice (P : Program) (H : Heap) (t : TypeId) (p : AVal) (lo hi : Option AVal) [K : Hold Cont] : Prop := xSlice P H t p lo hi K.val
def hApp (P : Program) (H : Heap) (t u : TypeId) (dst : Option Tmp) (s x : AVal) [K : Hold Cont] : Prop := match x with | .int _ k => xZeros P H t u dst s k K.val | x => xAppend P H t u dst s x K.val
variable (K : Cont)
def kindO (P : Program) (t : TypeId) : Option IntKind := match P.underlying t with | some (.int k) => some k | _ => none
end
section
variable (E : Env) (d : Option Tmp) (ρ : Operand → AVal) (H : Heap) (K : Cont)
theorem opX_pick (c a b) : opX E (.pick c a b) d ρ H K = @hBool (ρ c) ⟨fun t => K (if t = true then ρ a else ρ b) [] []⟩ := rfl
def isPtr : AVal → Bool | .ptr _ _ _ _ => true | .iptr _ => true | _ => false
theorem isPtr_ptr (o g i j) : isPtr (.ptr o g i j) = true := rfl
theorem isPtr_iptr (cs) : isPtr (.iptr cs) = true := rfl
theorem opX_nilCheck (x) : opX E (.nilCheck x) d ρ H K = @hAnd (isPtr (ρ x) = true) ⟨K (ρ x) [] []⟩ := by
  simp only [opX, hAnd]
  cases ρ x <;> simp [isPtr]
theorem opX_makeSlice (t l c) : opX E (.makeSlice t l c) d ρ H K = @hInt (ρ l) ⟨fun _ nl => @hInt (ρ c) ⟨fun _ nc => @hAnd (0 ≤ nl) ⟨@hAnd (nl ≤ nc) ⟨@hSome _ (E.P.elemO t) ⟨fun size => @hAnd (0 < size) ⟨@hSome _ (E.P.elemBytes t) ⟨fun bytes => @hSome _ (E.P.elemZero t) ⟨fun z => @hAnd (z.length = size) ⟨
      @hAnd ((bytes : Int) * nc ≤ 281474976710656) ⟨@hAnd (nc ≤ 9223372036854775807) ⟨K (.osl (site d) ((H (site d)).gen + 1) 0 nl.toNat) [site d] [(site d, newObjX H (site d) size (List.replicate nl.toNat z) (decide (nl = nc)))]⟩⟩⟩⟩⟩⟩⟩⟩⟩⟩⟩ := rfl
theorem opX_slice (t x lo hi) : opX E (.slice t x lo hi none) d ρ H K = @hSlice E.P H t (ρ x) (lo.map ρ) (hi.map ρ) ⟨K⟩ := by simp [opX, hSlice]
theorem opX_indexAddr (t x i) : opX E (.indexAddr t x i) d ρ H K = @hInt (ρ i) ⟨fun _ n => @hAnd (0 ≤ n) ⟨@hIndexAddr E.P H t (ρ x) n ⟨K⟩⟩⟩ := rfl
theorem opX_index (t x i) : opX E (.index t x i) d ρ H K = @hInt (ρ i) ⟨fun _ n => @hAnd (0 ≤ n) ⟨@hIndex E.P t (ρ x) n ⟨K⟩⟩⟩ := rfl
theorem opX_max (x y t) : opX E (.call ⟨.builtin .max, #[x, y], t⟩) d ρ H K = @hInt (ρ x) ⟨fun k a => @hInt (ρ y) ⟨fun _ b => K (.int k (if b > a then b else a)) [] []⟩⟩ := rfl
theorem opX_min (x y t) : opX E (.call ⟨.builtin .min, #[x, y], t⟩) d ρ H K = @hInt (ρ x) ⟨fun k a => @hInt (ρ y) ⟨fun _ b => K (.int k (if b < a then b else a)) [] []⟩⟩ := rfl
theorem opX_append {x y t u} (h : @hApp E.P H t u d (ρ x) (ρ y) ⟨K⟩) : opX E (.call ⟨.builtin .append, #[x, y], #[t, u]⟩) d ρ H K := by
  refine .inl ?_
  show (match [ρ x, ρ y], [t, u] with | [s, .int _ k], [t, u] => xZeros E.P H t u d s k K | [s, x], [t, u] => xAppend E.P H t u d s x K | _, _ => False)
  cases hy : ρ y <;> rw [hy] at h <;> exact h
end
section
variable (P : Program) (t : TypeId) (k : IntKind) (a b : Int)
theorem binV_add : binV P .add t (.int k a) (.int k b) = some (.int k (k.wrap (a + b))) := by simp [binV, isShift, intV]
theorem binV_sub : binV P .sub t (.int k a) (.int k b) = some (.int k (k.wrap (a - b))) := by simp [binV, isShift, intV]
theorem binV_mul : binV P .mul t (.int k a) (.int k b) = some (.int k (k.wrap (a * b))) := by simp [binV, isShift, intV]
theorem binV_quo : binV P .quo t (.int k a) (.int k b) = if b = 0 then none else some (.int k (k.wrap (a.tdiv b))) := by simp [binV, isShift, intV]
theorem binV_rem : binV P .rem t (.int k a) (.int k b) = if b = 0 then none else some (.int k (a.tmod b)) := by simp [binV, isShift, intV]
theorem binV_eql : binV P .eql t (.int k a) (.int k b) = some (.bool (decide (a = b))) := by simp [binV, isShift, intV, beq_dec]
theorem binV_neq : binV P .neq t (.int k a) (.int k b) = some (.bool (!decide (a = b))) := by simp [binV, isShift, intV, bne, beq_dec]
theorem binV_lss : binV P .lss t (.int k a) (.int k b) = some (.bool (decide (a < b))) := by simp [binV, isShift, intV]
theorem binV_leq : binV P .leq t (.int k a) (.int k b) = some (.bool (decide (a ≤ b))) := by simp [binV, isShift, intV]
theorem binV_gtr : binV P .gtr t (.int k a) (.int k b) = some (.bool (decide (b < a))) := by simp [binV, isShift, intV]
theorem binV_geq : binV P .geq t (.int k a) (.int k b) = some (.bool (decide (b ≤ a))) := by simp [binV, isShift, intV]
theorem binV_str (op x y) : binV P op t (.str x) (.str y) = strV op x y := rfl
theorem binV_aggEq (x y) : binV P .eql t (.agg x) (.agg y) = if P.eqGuardType P.depth t = true then none else (eqF P 8 t (.agg x) (.agg y)).map .bool := rfl
theorem binV_aggNe (x y) : binV P .neq t (.agg x) (.agg y) = if P.eqGuardType P.depth t = true then none else (eqF P 8 t (.agg x) (.agg y)).map fun r => .bool (!r) := rfl
theorem strV_add (x y : List UInt8) : strV .add x y = if x.length + y.length ≤ 9223372036854775807 then some (.str (x ++ y)) else none := rfl
theorem strV_eql (x y : List UInt8) : strV .eql x y = some (.bool (decide (x = y))) := by simp [strV, beq_dec]
theorem strV_neq (x y : List UInt8) : strV .neq x y = some (.bool (!decide (x = y))) := by simp [strV, beq_dec]
theorem strV_lss (x y : List UInt8) : strV .lss x y = some (.bool (Op.bytesLess x y)) := rfl
theorem strV_leq (x y : List UInt8) : strV .leq x y = some (.bool (Op.bytesLess x y || x == y)) := rfl
theorem strV_gtr (x y : List UInt8) : strV .gtr x y = some (.bool (!(Op.bytesLess x y || x == y))) := rfl
theorem strV_geq (x y : List UInt8) : strV .geq x y = some (.bool (!Op.bytesLess x y)) := rfl
theorem unV_not (x : Bool) : unV .not (.bool x) = some (.bool (!x)) := rfl
theorem unV_neg : unV .neg (.int k a) = some (.int k (k.wrap (0 - a))) := rfl
theorem bnd_none (d top : Nat) : bnd none d top = if d ≤ top then some d else none := rfl
theorem bnd_some (d top : Nat) (k) (n : Int) : bnd (some (.int k n)) d top = if 0 ≤ n ∧ n ≤ top then some n.toNat else none := rfl
end
theorem wrap_i64_id {n : Int} (h1 : -9223372036854775808 ≤ n) (h2 : n ≤ 9223372036854775807) : IntKind.i64.wrap n = n := by rw [IntKind.wrap_i64]; omega
theorem wrap_u64_id {n : Int} (h1 : 0 ≤ n) (h2 : n ≤ 18446744073709551615) : IntKind.u64.wrap n = n := by rw [IntKind.wrap_u64]; omega
theorem wrap_u8_id {n : Int} (h1 : 0 ≤ n) (h2 : n ≤ 255) : IntKind.u8.wrap n = n := by rw [IntKind.wrap_u8]; omega
theorem get_lt {α : Type} (l : List α) (i : Nat) (h : i < l.length) : l[i]? = some (l[i]'h) := List.getElem?_eq_getElem h
theorem heap_at (H : Heap) (o : Nat) (x : Obj) (k : Nat) : (H.set o x) k = if k = o then x else H k := rfl
theorem heap_set_set (H : Heap) (o : Nat) (x y : Obj) : (H.set o x).set o y = H.set o y := by funext k; simp only [Heap.set]; split <;> rfl
theorem heap_nil (k : Nat) : Heap.nil k = ⟨0, .dead, 0, [], false⟩ := rfl
theorem setAll_nil (H : Heap) : H.setAll [] = H := rfl
theorem setAll_cons (H : Heap) (o : Nat) (x : Obj) (r : List (Nat × Obj)) : H.setAll ((o, x) :: r) = (H.set o x).setAll r := rfl
theorem site_some (d : Nat) : site (some d) = 100 + d := rfl
theorem site_none : site none = 99 := rfl
theorem mkV_t (cs : List AVal) : mkV true cs = .agg cs := rfl
theorem mkV_f (x : AVal) (cs : List AVal) : mkV false (x :: cs) = x := rfl
def frame : Nat → List AVal → Nat → AVal
  | _, [] => fun _ => .junk
  | k, v :: vs => upd (frame (k + 1) vs) k v
theorem frame_at : ∀ (vs : List AVal) (k t : Nat), frame k vs t = if k ≤ t then vs.getD (t - k) .junk else .junk
  | [], _, _ => by simp [frame]
  | v :: vs, k, t => by
    simp only [frame, upd, frame_at vs (k + 1) t]
    by_cases h : t = k
    · subst h; simp
    · rw [if_neg h]
      by_cases h2 : k ≤ t
      · rw [if_pos h2, if_pos (by omega)]
        have : t - k = (t - (k + 1)) + 1 := by omega
        rw [this]; rfl
      · rw [if_neg h2, if_neg (by omega)]
theorem start_eq (ds : List AVal) : start ds = ⟨frame 0 (opnVs Heap.nil 0 0 ds), Heap.nil.setAll (opnUs Heap.nil 0 0 ds)⟩ := by
  unfold start
  congr 1
  funext t
  rw [frame_at]; simp
theorem frame_nil (k : Nat) : frame k [] = fun _ => .junk := rfl
theorem frame_cons (k : Nat) (v : AVal) (vs : List AVal) : frame k (v :: vs) = upd (frame (k + 1) vs) k v := rfl
theorem markEx_nil (H : Heap) : markEx [] H = H := rfl
theorem markEx_cons (k : Nat) (ks : List Nat) (H : Heap) : markEx (k :: ks) H = markEx ks (H.set (k + 1) { H (k + 1) with exact := true }) := rfl
attribute [go_sem ↓] gd_zero gd_succ
attribute [go_sem] ev_tmp ev_int ev_bool ev_str ev_nilp ev_nils ev_agg ev_func abs1_int abs1_bool abs1_str abs1_nilp abs1_nils putF_some putF_none upd_at upd_upd binV_aggEq binV_aggNe isPtr_ptr isPtr_iptr binV_add binV_sub binV_mul binV_quo binV_rem binV_eql binV_neq binV_lss binV_leq binV_gtr binV_geq binV_str strV_add strV_eql strV_neq strV_lss strV_leq strV_gtr strV_geq unV_not unV_neg bnd_none bnd_some wrap_i64_id wrap_u64_id wrap_u8_id heap_at heap_set_set heap_nil setAll_nil setAll_cons site_some site_none mkV_t mkV_f frame_nil frame_cons opnVs opnV opnUs opnU List.map_nil List.map_cons List.nil_append List.cons_append List.append_nil Option.map_some Option.map_none Option.isSome_some true_and and_true Bool.false_eq_true eq_self ne_eq not_false_eq_true not_true_eq_false reduceCtorEq Bool.not_true Bool.not_false decide_true decide_false decide_eq_true_eq List.drop_zero List.drop_succ_cons List.take_zero List.take_succ_cons List.length_cons List.length_nil List.getElem?_cons_zero List.getElem?_cons_succ Int.toNat_natCast Int.natCast_nonneg
attribute [go_sem low] get_lt
end Go.Am
