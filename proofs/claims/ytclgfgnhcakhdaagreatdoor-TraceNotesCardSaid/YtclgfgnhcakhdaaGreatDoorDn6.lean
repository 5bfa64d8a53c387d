import Derived.Test.YtclgfgnhcakhdaaGreatDoorBr2
namespace Go.Am
set_option linter.unusedSectionVars false
set_option linter.unusedVariables false
def okRows (es : List (List AVal)) : Bool := decide (es.length ≤ 1073741824) && (es.all clos && ones es)
def cloneO (st : Nat) : List Nat → List AVal → Option Res := fun _ ds => match ds with
  | [.slice st' es] => gu (st' = st) (gu (okRows es = true) (some (.slice st es, [])))
  | _ => none
theorem okRows_map {α : Type} (f : α → List AVal) (h1 : ∀ x, clos (f x) = true) (h2 : ∀ x, (f x).all AVal.one = true) (l : List α) : okRows (l.map f) = decide (l.length ≤ 1073741824) := by
  simp [okRows, allclos_map f h1 l, ones_map f l h2]
theorem kIf_not {β : Type} (t : Bool) (a b : Option β) : @kIf _ (!t) ⟨(a, b)⟩ = @kIf _ t ⟨(b, a)⟩ := by cases t <;> rfl
theorem kIf_decT {β : Type} {p : Prop} [Decidable p] (h : p) (a b : Option β) : @kIf _ (decide p) ⟨(a, b)⟩ = a := by simp [kIf, h]
theorem kIf_decF {β : Type} {p : Prop} [Decidable p] (h : ¬ p) (a b : Option β) : @kIf _ (decide p) ⟨(a, b)⟩ = b := by simp [kIf, h]
theorem kB_ifT {α β : Type} {p : Prop} [Decidable p] (h : p) (x y : Option α) (K : α → Option β) : @kB _ _ (if p then x else y) ⟨K⟩ = @kB _ _ x ⟨K⟩ := by simp [h]
attribute [go_sem low] kIf_bool
attribute [go_sem high] kIf_not kIf_decT kIf_decF kB_ifT
attribute [go_sem] Nat.min_self List.drop_replicate Nat.sub_self List.length_replicate List.length_set List.length_append List.length_take List.length_drop kInd_of Bool.not_eq_eq_eq_not Bool.not_true Bool.not_false decide_eq_true_eq decide_eq_false_iff_not Bool.not_eq_true' Bool.and_eq_true Bool.or_eq_true List.take_length List.drop_length true_or or_true false_or or_false true_and and_true false_and and_false not_true_eq_false not_false_eq_true binV_nilEq binV_someEq binV_consEq
def ownOf (l : List (FuncId × (List Nat → List AVal → Option Res))) : Own := fun f => (l.find? fun p => p.1 == f).map (·.2)
theorem ownOf_ok {E : Env} {l : List (FuncId × (List Nat → List AVal → Option Res))} (h : ∀ p ∈ l, ∀ ex ds q, p.2 ex ds = some q → SpecX E ex p.1 ds q.1 q.2) : OwnOk E (ownOf l) := by
  intro f g ex ds q hf hg
  unfold ownOf at hf
  rw [Option.map_eq_some_iff] at hf
  obtain ⟨p, h1, rfl⟩ := hf
  have h2 := List.find?_some h1
  have h3 := List.mem_of_find?_eq_some h1
  simp only [beq_iff_eq] at h2
  subst h2
  exact h p h3 ex ds q hg
theorem specX_of_spec {E : Env} {ex : List Nat} {f : FuncId} {ds : List AVal} {r : AVal} {ls : List AVal} (h : Am.Spec E f ds r ls) : SpecX E ex f ds r ls := by
  intro S w xs U _ hG hst hor hn hb
  exact h S w xs U (fun k hk => by cases hk) hG hst hor hn hb
theorem Res_bool {a b : Bool} {ls : List AVal} (h : a = true ↔ b = true) : (some (AVal.bool a, ls) : Option Res) = some (.bool b, ls) := by
  have : a = b := by cases a <;> cases b <;> simp_all
  rw [this]
theorem Res_int {k : IntKind} {a b : Int} {ls : List AVal} (h : a = b) : (some (AVal.int k a, ls) : Option Res) = some (.int k b, ls) := by rw [h]
end Go.Am
namespace Go.Am
theorem map_take' {α β : Type} (f : α → β) (l : List α) (n : Nat) : (l.map f).take n = (l.take n).map f := List.map_take.symm
theorem map_drop' {α β : Type} (f : α → β) (l : List α) (n : Nat) : (l.map f).drop n = (l.drop n).map f := List.map_drop.symm
theorem map_append' {α β : Type} (f : α → β) (l m : List α) : l.map f ++ m.map f = (l ++ m).map f := List.map_append.symm
theorem take_len {α : Type} (l : List α) (n : Nat) (h : l.length ≤ n) : l.take n = l := List.take_of_length_le h
theorem drop_len {α : Type} (l : List α) (n : Nat) (h : l.length ≤ n) : l.drop n = [] := List.drop_of_length_le h
attribute [go_sem] List.contains_cons List.contains_nil List.mem_cons List.not_mem_nil Bool.or_false Bool.false_or Bool.or_true Bool.true_or Bool.and_true Bool.true_and Bool.and_false Bool.false_and
attribute [go_sem] Int.toNat_sub Int.cast_ofNat_Int
theorem cid_eq (a b : Nat) : cid a b = a * 1000 + b + 1 := rfl
attribute [go_sem] cid_eq List.getElem_map take_len drop_len Nat.min_eq_left Nat.min_eq_right Nat.sub_zero Nat.le_refl Int.le_refl List.append_nil List.nil_append map_take' map_drop' map_append'
def boolT (P : Program) (t : TypeId) : Bool := match P.underlying t with | some .bool => true | _ => false
def ptrT (P : Program) (t : TypeId) : Bool := match P.underlying t with | some (.pointer _) => true | _ => false
theorem binV_ptrEq (P : Program) (t : TypeId) (o g i j) : binV P .eql t (.ptr o g i j) (.sc (.pointer none)) = if ptrT P t = true then some (.bool (false)) else none := by
  unfold ptrT; simp only [binV]
  cases P.underlying t with
  | none => rfl
  | some d => cases d <;> first | rfl | (rfl)
theorem binV_iptrEq (P : Program) (t : TypeId) (cs) : binV P .eql t (.iptr cs) (.sc (.pointer none)) = if ptrT P t = true then some (.bool (false)) else none := by
  unfold ptrT; simp only [binV]
  cases P.underlying t with
  | none => rfl
  | some d => cases d <;> first | rfl | (rfl)
theorem binV_nilpEq (P : Program) (t : TypeId) : binV P .eql t (.sc (.pointer none)) (.sc (.pointer none)) = if ptrT P t = true then some (.bool (true)) else none := by
  unfold ptrT; simp only [binV]
  cases P.underlying t with
  | none => rfl
  | some d => cases d <;> first | rfl | (rfl)
attribute [go_sem] binV_ptrEq binV_iptrEq binV_nilpEq
end Go.Am
