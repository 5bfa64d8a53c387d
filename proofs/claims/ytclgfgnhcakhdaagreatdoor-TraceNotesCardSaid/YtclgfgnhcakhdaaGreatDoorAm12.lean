import Derived.Test.YtclgfgnhcakhdaaGreatDoorAm11
namespace Go.Am
mutual
theorem pk_clo (H : Heap) : ∀ (v : AVal), v.clo = true → Pk H v v [] []
  | .agg cs, h => .agg (pks_clo H cs h)
  | .tup cs, h => .tup (pks_clo H cs h)
  | .bool _, h => .plain h
  | .int _ _, h => .plain h
  | .str _, h => .plain h
  | .sc _, h => .plain h
  | .iptr _, h => .plain h
  | .slice _ _, h => .plain h
  | .junk, h => .plain h
  | .ptr _ _ _ _, h => by simp [AVal.clo, AVal.plain] at h
  | .osl _ _ _ _, h => by simp [AVal.clo, AVal.plain] at h
  | .fn _ _ _, h => by simp [AVal.clo, AVal.plain] at h
  | .iface _ _, h => by simp [AVal.clo, AVal.plain] at h
  | .usl _ _, h => by simp [AVal.clo, AVal.plain] at h
  | .uptr _, h => by simp [AVal.clo, AVal.plain] at h
theorem pks_clo (H : Heap) : ∀ (vs : List AVal), clos vs = true → Pks H vs vs [] []
  | [], _ => .nil
  | v :: vs, h => by
    simp only [clos, Bool.and_eq_true] at h
    have := Pks.cons (pk_clo H v h.1) (pks_clo H vs h.2)
    simpa using this
end
mutual
theorem pkc_clo (H : Heap) : ∀ (v : AVal), v.clo = true → PkC H v v []
  | .agg cs, h => .agg (pkcs_clo H cs h)
  | .tup cs, h => .tup (pkcs_clo H cs h)
  | .bool _, h => .plain h
  | .int _ _, h => .plain h
  | .str _, h => .plain h
  | .sc _, h => .plain h
  | .iptr _, h => .plain h
  | .slice _ _, h => .plain h
  | .junk, h => .plain h
  | .ptr _ _ _ _, h => by simp [AVal.clo, AVal.plain] at h
  | .osl _ _ _ _, h => by simp [AVal.clo, AVal.plain] at h
  | .fn _ _ _, h => by simp [AVal.clo, AVal.plain] at h
  | .iface _ _, h => by simp [AVal.clo, AVal.plain] at h
  | .usl _ _, h => by simp [AVal.clo, AVal.plain] at h
  | .uptr _, h => by simp [AVal.clo, AVal.plain] at h
theorem pkcs_clo (H : Heap) : ∀ (vs : List AVal), clos vs = true → PkCs H vs vs []
  | [], _ => .nil
  | v :: vs, h => by
    simp only [clos, Bool.and_eq_true] at h
    have := PkCs.cons (pkc_clo H v h.1) (pkcs_clo H vs h.2)
    simpa using this
end
theorem pkrs_clo (H : Heap) : ∀ (rs : List (List AVal)), rs.all clos = true → PkRs H rs rs []
  | [], _ => .nil
  | r :: rs, h => by
    simp only [List.all_cons, Bool.and_eq_true] at h
    have := PkRs.cons (pkcs_clo H r h.1) (pkrs_clo H rs h.2)
    simpa using this
mutual
theorem opn_clo (H : Heap) : ∀ (v : AVal) (id : Nat), v.clo = true → opnV H id v = v ∧ opnU H id v = []
  | .agg cs, id, h => by obtain ⟨h1, h2⟩ := opns_clo H cs id 0 h; exact ⟨by simp [opnV, h1], by simp [opnU, h2]⟩
  | .tup cs, id, h => by obtain ⟨h1, h2⟩ := opns_clo H cs id 0 h; exact ⟨by simp [opnV, h1], by simp [opnU, h2]⟩
  | .bool _, _, _ => ⟨rfl, rfl⟩
  | .int _ _, _, _ => ⟨rfl, rfl⟩
  | .str _, _, _ => ⟨rfl, rfl⟩
  | .sc _, _, _ => ⟨rfl, rfl⟩
  | .iptr _, _, _ => ⟨rfl, rfl⟩
  | .slice _ _, _, _ => ⟨rfl, rfl⟩
  | .junk, _, _ => ⟨rfl, rfl⟩
  | .ptr _ _ _ _, _, h => by simp [AVal.clo, AVal.plain] at h
  | .osl _ _ _ _, _, h => by simp [AVal.clo, AVal.plain] at h
  | .fn _ _ _, _, h => by simp [AVal.clo, AVal.plain] at h
  | .iface _ _, _, h => by simp [AVal.clo, AVal.plain] at h
  | .usl _ _, _, h => by simp [AVal.clo, AVal.plain] at h
  | .uptr _, _, h => by simp [AVal.clo, AVal.plain] at h
theorem opns_clo (H : Heap) : ∀ (vs : List AVal) (id k : Nat), clos vs = true → opnVs H id k vs = vs ∧ opnUs H id k vs = []
  | [], _, _, _ => ⟨rfl, rfl⟩
  | v :: vs, id, k, h => by
    simp only [clos, Bool.and_eq_true] at h
    obtain ⟨h1, h2⟩ := opn_clo H v (cid id k) h.1
    obtain ⟨h3, h4⟩ := opns_clo H vs id (k + 1) h.2
    exact ⟨by simp [opnVs, h1, h3], by simp [opnUs, h2, h4]⟩
end
theorem spec_empty {E : Env} {f : FuncId} {st : Nat} {ds : List AVal} {r : AVal} {ls : List AVal} (h1 : ∀ c, Am.Spec E f (.sc (.slice none 0 c) :: ds) r ls) (h2 : ∀ a c, Am.Spec E f (.sc (.slice (some a) 0 c) :: ds) r ls) : Am.Spec E f (.slice st [] :: ds) r ls := by
  intro S w xs U hex hG hst ⟨y, ys, U1, U2, hx, hu, ho, hos⟩ hUn hUb
  obtain ⟨⟨a, cap, rfl, hle, _⟩, hU1⟩ := ho
  subst hx
  have e : ∀ v, lentOf (.slice st [] :: ds) (v :: ys) = lentOf (.sc v :: ds) (v :: ys) := fun v => rfl
  rw [e]
  cases a with
  | none => exact h1 cap S w _ U hex hG hst ⟨_, ys, U1, U2, rfl, hu, ⟨rfl, hU1⟩, hos⟩ hUn hUb
  | some a => exact h2 a cap S w _ U hex hG hst ⟨_, ys, U1, U2, rfl, hu, ⟨rfl, hU1⟩, hos⟩ hUn hUb
theorem binV_nilEq (P : Program) (t : TypeId) (n m : Nat) : binV P .eql t (.sc (.slice none n m)) (.sc (.slice none 0 0)) = if (P.elemO t).isSome = true then some (.bool true) else binV P .eql t (.sc (.slice none n m)) (.sc (.slice none 0 0)) := by
  split
  · rename_i h
    obtain ⟨e, he⟩ := isSome_elemO h
    simp [binV, he]
  · rfl
theorem binV_someEq (P : Program) (t : TypeId) (a : Addr) (n m : Nat) : binV P .eql t (.sc (.slice (some a) n m)) (.sc (.slice none 0 0)) = if (P.elemO t).isSome = true then some (.bool false) else binV P .eql t (.sc (.slice (some a) n m)) (.sc (.slice none 0 0)) := by
  split
  · rename_i h
    obtain ⟨e, he⟩ := isSome_elemO h
    simp [binV, he]
  · rfl
theorem binV_consEq (P : Program) (t : TypeId) (st : Nat) (r : List AVal) (rs : List (List AVal)) : binV P .eql t (.slice st (r :: rs)) (.sc (.slice none 0 0)) = if (P.elemO t).isSome = true then some (.bool false) else binV P .eql t (.slice st (r :: rs)) (.sc (.slice none 0 0)) := by
  split
  · rename_i h
    obtain ⟨e, he⟩ := isSome_elemO h
    simp [binV, he]
  · rfl
def tupOf : List AVal → AVal
  | [v] => v
  | vs => .tup vs
theorem tupOf_one (v : AVal) : tupOf [v] = v := rfl
theorem tupOf_two (v w : AVal) (vs : List AVal) : tupOf (v :: w :: vs) = .tup (v :: w :: vs) := rfl
theorem boxable_agg (cs) : (AVal.agg cs).boxable = true := rfl
theorem boxable_str (l) : (AVal.str l).boxable = true := rfl
theorem boxable_int (k n) : (AVal.int k n).boxable = true := rfl
theorem boxable_bool (b) : (AVal.bool b).boxable = true := rfl
theorem boxable_ptr (o g i j) : (AVal.ptr o g i j).boxable = true := rfl
theorem boxable_iptr (cs) : (AVal.iptr cs).boxable = true := rfl
theorem boxable_slice (st es) : (AVal.slice st es).boxable = true := rfl
theorem boxable_osl (o g i n) : (AVal.osl o g i n).boxable = true := rfl
theorem boxable_fn (f a c) : (AVal.fn f a c).boxable = true := rfl
theorem boxable_nils : (AVal.sc (.slice none 0 0)).boxable = true := rfl
theorem boxable_nilp : (AVal.sc (.pointer none)).boxable = true := rfl
theorem cellsV_agg (cs) : (AVal.agg cs).cellsV = cs := rfl
theorem cellsV_str (l) : (AVal.str l).cellsV = [.str l] := rfl
theorem cellsV_int (k n) : (AVal.int k n).cellsV = [.int k n] := rfl
theorem cellsV_bool (b) : (AVal.bool b).cellsV = [.bool b] := rfl
theorem cellsV_ptr (o g i j) : (AVal.ptr o g i j).cellsV = [.ptr o g i j] := rfl
theorem cellsV_iptr (cs) : (AVal.iptr cs).cellsV = [.iptr cs] := rfl
theorem cellsV_slice (st es) : (AVal.slice st es).cellsV = [.slice st es] := rfl
theorem cellsV_osl (o g i n) : (AVal.osl o g i n).cellsV = [.osl o g i n] := rfl
theorem cellsV_fn (f a c) : (AVal.fn f a c).cellsV = [.fn f a c] := rfl
theorem cellsV_sc (v) : (AVal.sc v).cellsV = [.sc v] := rfl
theorem one_str (l) : (AVal.str l).one = true := rfl
theorem one_int (k n) : (AVal.int k n).one = true := rfl
theorem one_bool (b) : (AVal.bool b).one = true := rfl
theorem one_ptr (o g i j) : (AVal.ptr o g i j).one = true := rfl
theorem one_iptr (cs) : (AVal.iptr cs).one = true := rfl
theorem one_slice (st es) : (AVal.slice st es).one = true := rfl
theorem one_osl (o g i n) : (AVal.osl o g i n).one = true := rfl
theorem one_fn (f a c) : (AVal.fn f a c).one = true := rfl
theorem one_nils : (AVal.sc (.slice none 0 0)).one = true := rfl
theorem one_nilp : (AVal.sc (.pointer none)).one = true := rfl
theorem putCells_eq (r j cs) : putCells r j cs = r.take j ++ cs ++ r.drop (j + cs.length) := rfl
attribute [go_sem] boxable_agg boxable_str boxable_int boxable_bool boxable_ptr boxable_iptr boxable_slice boxable_osl boxable_fn boxable_nils boxable_nilp cellsV_agg cellsV_str cellsV_int cellsV_bool cellsV_ptr cellsV_iptr cellsV_slice cellsV_osl cellsV_fn cellsV_sc one_str one_int one_bool one_ptr one_iptr one_slice one_osl one_fn one_nils one_nilp putCells_eq List.all_cons List.all_nil Bool.and_true Bool.true_and Option.bind_some List.set_cons_zero List.set_cons_succ List.take_nil List.drop_nil List.replicate_zero and_self Nat.zero_add Nat.add_zero Nat.zero_le
theorem ones_map {α : Type} (f : α → List AVal) (l : List α) (h : ∀ x, (f x).all AVal.one = true) : ones (l.map f) = true := by simp [ones, h]
theorem ones_nil : ones [] = true := rfl
theorem ones_cons (r rs) : ones (r :: rs) = (r.all AVal.one && ones rs) := rfl
attribute [go_sem] ones_nil ones_cons
attribute [go_sem] tupOf_one tupOf_two implies_true false_implies true_implies newObj newObjX
end Go.Am
