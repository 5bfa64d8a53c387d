import Derived.Test.YtclgfgnhcakhdaaGreatDoorDn5
import Derived.ProofKit
import Derived.Below
import Derived.Carry
import Derived.OpenShut
namespace Go.Am
open Go.ChangeShapes Go.WideShapes Go.ChangeAt Go.RowKit
set_option linter.unusedSectionVars false
set_option linter.unusedVariables false
def TA (P : Program) : Nat → TypeId → List AVal → Prop
  | 0, _, _ => False
  | n + 1, t, as =>
    match P.underlying t with
    | some .bool => ∃ b, as = [.bool b]
    | some (.int k) => ∃ z, as = [.int k z] ∧ (Lit.int k z).wf = true
    | some .string => ∃ l : List UInt8, as = [.str l] ∧ l.length ≤ 9223372036854775807
    | some (.slice e) => ∃ es, as = [.slice (P.cellsOf e) es] ∧ es.length ≤ 9223372036854775807 ∧ ∀ r ∈ es, TA P n e r
    | some (.struct fs) => as.length = P.cellsOf t ∧ ∀ f ∈ fs.toList, TA P n f.type ((as.drop f.offset).take (P.cellsOf f.type))
    | some (.array m e) => as.length = P.cellsOf t ∧ ∀ i, i < m → TA P n e ((as.drop (i * P.cellsOf e)).take (P.cellsOf e))
    | _ => False
theorem mapM_lenB {α β : Type} {f : α → Option β} : ∀ {l : List α} {r : List β}, l.mapM f = some r → r.length = l.length
  | [], r, h => by simp at h; subst h; rfl
  | a :: l, r, h => by
    rw [List.mapM_cons] at h
    simp only [bind, Option.bind_eq_some_iff, pure, Option.some.injEq] at h
    obtain ⟨b, _, r', hr, rfl⟩ := h
    simp [mapM_lenB hr]
def tilesB (P : Program) : Nat → List Field → Nat → Bool
  | o, [], e => o == e
  | o, f :: fs, e => f.offset == o && tilesB P (o + P.cellsOf f.type) fs e
def plainT (P : Program) : Nat → TypeId → Bool
  | 0, _ => false
  | n + 1, t => match P.underlying t with
    | some .bool => true
    | some (.int _) => true
    | some .string => true
    | some (.slice e) => decide (0 < P.cellsOf e) && plainT P n e
    | some (.struct fs) => tilesB P 0 fs.toList (P.cellsOf t) && fs.toList.all fun f => plainT P n f.type
    | some (.array m e) => decide (m * P.cellsOf e = P.cellsOf t) && plainT P n e
    | _ => false
section
variable {S : Nat → Prop} {w : World}
theorem CRels.append : ∀ {as bs : List AVal} {xs ys : List Value}, CRels S w as xs → CRels S w bs ys → CRels S w (as ++ bs) (xs ++ ys)
  | [], _, _, _, h, k => by simp only [CRels] at h; subst h; exact k
  | a :: as, _, _, _, ⟨y, ys', hx, h1, h2⟩, k => by subst hx; exact ⟨y, _, rfl, h1, CRels.append h2 k⟩
theorem CRels.len : ∀ {as : List AVal} {xs : List Value}, CRels S w as xs → xs.length = as.length
  | [], _, h => by simp only [CRels] at h; simp [h]
  | a :: as, _, ⟨y, ys', hx, h1, h2⟩ => by subst hx; simp [CRels.len h2]
theorem CRels.at : ∀ {as : List AVal} {xs : List Value}, CRels S w as xs → ∀ (j : Nat) (v : AVal), as[j]? = some v → ∃ x, xs[j]? = some x ∧ CRel S w v x
  | [], _, _, j, v, hj => by simp at hj
  | a :: as, _, ⟨y, ys, hx, h1, h2⟩, j, v, hj => by
    subst hx
    cases j with
    | zero => simp only [List.getElem?_cons_zero, Option.some.injEq] at hj; subst hj; exact ⟨y, rfl, h1⟩
    | succ j => simpa using CRels.at h2 j v (by simpa using hj)
end
theorem list_of {α : Type} {p : Nat → α → Prop} : ∀ (n : Nat), (∀ i, i < n → ∃ x, p i x) → ∃ l : List α, l.length = n ∧ ∀ (i : Nat) (x : α), l[i]? = some x → p i x
  | 0, _ => ⟨[], rfl, fun i x h => by simp at h⟩
  | n + 1, h => by
    obtain ⟨l, hl, hp⟩ := list_of n (fun i hi => h i (by omega))
    obtain ⟨x, hx⟩ := h n (by omega)
    refine ⟨l ++ [x], by simp [hl], fun i y hy => ?_⟩
    rw [List.getElem?_append] at hy
    split at hy
    · exact hp i y hy
    · rename_i hi
      have : i - l.length = 0 := by
        have := (List.getElem?_eq_some_iff.1 hy).1; simp at this; omega
      rw [this] at hy
      simp only [List.getElem?_cons_zero, Option.some.injEq] at hy
      subst hy
      have : i = n := by omega
      subst this; exact hx
theorem cell_spot {w : World} {a : Addr} {x : Value} (h : w.cell? a = some x) : a.spot = none ∧ a.block < w.heap.size := by
  unfold World.cell? at h
  split at h
  · rename_i hb
    split at h
    · cases h
    · rename_i hs
      refine ⟨by simpa using hs, ?_⟩
      rcases Nat.lt_or_ge a.block w.heap.size with h' | h'
      · exact h'
      · simp [Array.getElem?_eq_none h'] at hb
  · cases h
theorem cells_at {w : World} {base : Nat} {a : Addr} {n : Nat} {cs : List Value} (h : w.cells? base a n = some cs) : cs.length = n ∧ ∀ j x, cs[j]? = some x → w.cell? (a.add j) = some x := by
  unfold World.cells? at h
  split at h
  · refine ⟨by simpa using mapM_lenB h, fun j x hj => ?_⟩
    have hlen := mapM_lenB h
    have key : ∀ (l : List Nat) (r : List Value), l.mapM (fun i => w.cell? (a.add i)) = some r → ∀ (j : Nat) (x : Value), r[j]? = some x → ∃ i, l[j]? = some i ∧ w.cell? (a.add i) = some x := by
      intro l
      induction l with
      | nil => intro r h j x hx; simp at h; subst h; simp at hx
      | cons i l ih =>
        intro r h j x hx
        rw [List.mapM_cons] at h
        simp only [Option.bind_eq_bind, Option.bind_eq_some_iff, Option.pure_def, Option.some.injEq] at h
        obtain ⟨y, h1, ys, h2, rfl⟩ := h
        cases j with
        | zero => simp only [List.getElem?_cons_zero, Option.some.injEq] at hx; subst hx; exact ⟨i, rfl, h1⟩
        | succ j => exact ih ys h2 j x (by simpa using hx)
    obtain ⟨i, h1, h2⟩ := key _ _ h j x hj
    rw [List.getElem?_range] at h1
    · simp only [Option.some.injEq] at h1; subst h1; exact h2
    · have := (List.getElem?_eq_some_iff.1 hj).1; simp at hlen; omega
  · cases h
section
variable {H : Type} {enc : TypeId × Value → H} {P : Program} {w : World} {base : Nat} {sp : Nat → Bool} {held : Bool}
theorem TA_struct_of {n : Nat} {cs : List Value} (G : Nat → TypeId → List AVal → Prop) (hG : ∀ t as xs, G n t as → CRels (fun b => b < w.heap.size) w as xs → xs.length = P.cellsOf t → as.length = P.cellsOf t) :
    ∀ (fs : List Field) (o e : Nat), tilesB P o fs e = true → cs.length = e → (∀ f ∈ fs, ∃ as, G n f.type as ∧ CRels (fun b => b < w.heap.size) w as ((cs.drop f.offset).take (P.cellsOf f.type)) ∧ ∀ a ∈ as, a.plain = true) →
    o ≤ e ∧ ∃ as, as.length = e - o ∧ CRels (fun b => b < w.heap.size) w as (cs.drop o) ∧ (∀ f ∈ fs, o ≤ f.offset ∧ G n f.type ((as.drop (f.offset - o)).take (P.cellsOf f.type))) ∧ ∀ a ∈ as, a.plain = true
  | [], o, e, ht, hl, _ => by
    simp only [tilesB, beq_iff_eq] at ht
    subst ht
    exact ⟨Nat.le_refl _, [], by simp, by rw [List.drop_of_length_le (by omega)]; rfl, (fun f hf => nomatch hf), (fun a ha => nomatch ha)⟩
  | f :: fs, o, e, ht, hl, hf => by
    simp only [tilesB, Bool.and_eq_true, beq_iff_eq] at ht
    obtain ⟨ho, ht⟩ := ht
    obtain ⟨h1, as2, h2, h3, h4, hp2⟩ := TA_struct_of G hG fs (o + P.cellsOf f.type) e ht hl (fun g hg => hf g (List.mem_cons_of_mem _ hg))
    obtain ⟨as1, h5, h6, hp1⟩ := hf f (List.mem_cons_self ..)
    rw [ho] at h6
    have hl1 := hG _ _ _ h5 h6 (by simp; omega)
    refine ⟨by omega, as1 ++ as2, by simp; omega, ?_, fun g hg => ?_, fun a ha => (List.mem_append.1 ha).elim (hp1 a) (hp2 a)⟩
    · have : cs.drop o = (cs.drop o).take (P.cellsOf f.type) ++ cs.drop (o + P.cellsOf f.type) := by
        rw [← List.drop_drop, List.take_append_drop]
      rw [this]
      exact h6.append h3
    · rcases List.mem_cons.1 hg with rfl | hg
      · refine ⟨by omega, ?_⟩
        rw [ho, Nat.sub_self, List.drop_zero, ← hl1, List.take_left']
        · exact h5
        · rfl
      · obtain ⟨g1, g2⟩ := h4 g hg
        refine ⟨by omega, ?_⟩
        rw [List.drop_append, List.drop_of_length_le (by omega), List.nil_append, show g.offset - o - as1.length = g.offset - (o + P.cellsOf f.type) by omega]
        exact g2
theorem trod_TA : ∀ (fuel m : Nat) (t : TypeId) (cs : List Value) (x : DataW H × List MemPlace), plainT P m t = true → DataW.trod enc P w base sp held fuel t cs = some x →
    ∃ as, TA P fuel t as ∧ CRels (fun b => b < w.heap.size) w as cs ∧ ∀ a ∈ as, a.plain = true
  | 0, _, _, _, _, _, h => by simp [DataW.trod] at h
  | _ + 1, 0, _, _, _, hp, _ => by simp [plainT] at hp
  | fuel + 1, m + 1, t, cs, x, hp, h => by
    unfold plainT at hp
    unfold TA
    split at hp
    · rename_i hu
      obtain ⟨b, rfl, _⟩ := DataW.trod_bool hu h
      exact ⟨_, ⟨b, rfl⟩, ⟨_, _, rfl, rfl, rfl⟩, by simp [AVal.plain]⟩
    · rename_i k hu
      obtain ⟨z, rfl, _, hw⟩ := DataW.trod_int hu h
      exact ⟨_, ⟨z, rfl, hw⟩, ⟨_, _, rfl, rfl, rfl⟩, by simp [AVal.plain]⟩
    · rename_i hu
      obtain ⟨s, rfl, _, hw⟩ := DataW.trod_string hu h
      refine ⟨_, ⟨s.data.toList, rfl, ?_⟩, ⟨_, _, rfl, ?_, rfl⟩, by simp [AVal.plain]⟩
      · have : s.data.toList.length = s.size := by rw [Array.length_toList]; rfl
        unfold maxLen at hw
        omega
      · show _ = _
        simp
    · rename_i e hu
      simp only [Bool.and_eq_true, decide_eq_true_eq] at hp
      obtain ⟨hpos, hpe⟩ := hp
      rcases DataW.trod_slice hu h with ⟨rfl, _⟩ | ⟨a, len, cap, elems, rest, n, hn, rfl, rfl, hb, hl, hm, hlen, hel, _, _⟩
      · exact ⟨_, ⟨[], rfl, by simp, fun r hr => by cases hr⟩, ⟨_, _, rfl, ⟨none, 0, rfl, Nat.le_refl _, fun hn => absurd rfl hn⟩, rfl⟩, by simp [AVal.plain]⟩
      · obtain rfl : n = fuel := by omega
        have each : ∀ i, i < len → ∃ as cs', TA P n e as ∧ CRels (fun b => b < w.heap.size) w as cs' ∧ w.cells? base (a.add (i * P.cellsOf e)) (P.cellsOf e) = some cs' := fun i hi => by
          have h1 := hel i hi
          have h2 : i < elems.length := by omega
          rw [List.getElem?_eq_getElem h2, Option.bind_eq_some_iff] at h1
          obtain ⟨cs', h3, h4⟩ := h1
          obtain ⟨as, h5, h6, _⟩ := trod_TA n m e cs' _ hpe h4
          exact ⟨as, cs', h5, h6, h3⟩
        obtain ⟨es, hes1, hes2⟩ := list_of (p := fun i as => ∃ cs', TA P n e as ∧ CRels (fun b => b < w.heap.size) w as cs' ∧ w.cells? base (a.add (i * P.cellsOf e)) (P.cellsOf e) = some cs') len each
        refine ⟨_, ⟨es, rfl, by unfold maxLen at hm; omega, fun r hr => ?_⟩, ⟨_, _, rfl, ⟨some a, cap, by rw [hes1], by omega, fun hne => ?_⟩, rfl⟩, by simp [AVal.plain]⟩
        · obtain ⟨i, hi, rfl⟩ := List.mem_iff_getElem.1 hr
          obtain ⟨cs', h1, _⟩ := hes2 i _ (List.getElem?_eq_getElem hi)
          exact h1
        · have hl0 : 0 < len := by rw [← hes1]; exact List.length_pos_iff.2 hne
          obtain ⟨_, cs0, _, _, hc0⟩ := each 0 hl0
          obtain ⟨g1, g2⟩ := cells_at hc0
          obtain ⟨x0, hx0⟩ : ∃ x0, cs0[0]? = some x0 := ⟨cs0[0]'(by omega), List.getElem?_eq_getElem (by omega)⟩
          have g3 := g2 0 x0 hx0
          rw [Nat.zero_mul] at g3
          have ha0 : (a.add 0).add 0 = a := by simp [Addr.add]
          rw [ha0] at g3
          obtain ⟨hs, hlt⟩ := cell_spot g3
          refine ⟨a.block, a.off, by cases a; simp_all, hlt, ?_⟩
          rw [CRows_iff]
          intro i r hi
          obtain ⟨cs', k1, k2, k3⟩ := hes2 i r hi
          obtain ⟨k4, k5⟩ := cells_at k3
          have k6 := k2.len
          refine ⟨by omega, ?_⟩
          rw [CCells_iff]
          intro j v hj
          obtain ⟨y, hy, hv⟩ := k2.at j v hj
          refine ⟨y, ?_, hv⟩
          rw [← k5 j y hy]
          congr 1
          cases a
          simp only at hs
          subst hs
          simp only [Addr.add]
          split <;> split <;> simp_all <;> omega
    · rename_i fs hu
      simp only [Bool.and_eq_true] at hp
      obtain ⟨htile, hpf⟩ := hp
      obtain ⟨xs, n, hn, rfl, hlen, hxs, hel⟩ := DataW.trod_struct hu h
      obtain rfl : n = fuel := by omega
      have each : ∀ f ∈ fs.toList, ∃ as, TA P n f.type as ∧ CRels (fun b => b < w.heap.size) w as ((cs.drop f.offset).take (P.cellsOf f.type)) ∧ ∀ a ∈ as, a.plain = true := fun f hf => by
        obtain ⟨i, hi, hfi⟩ := List.mem_iff_getElem.1 hf
        have h1 := hel i f (by rw [← Array.getElem?_toList, List.getElem?_eq_getElem hi, hfi])
        have h2 : i < xs.length := by simp at hi; omega
        rw [List.getElem?_eq_getElem h2] at h1
        exact trod_TA n m f.type _ _ (List.all_eq_true.1 hpf f hf) h1
      obtain ⟨_, as, q1, q2, q3, q4⟩ := TA_struct_of (n := n) (TA P) (fun t as xs _ hc hx => by rw [← hc.len]; exact hx) fs.toList 0 (P.cellsOf t) htile hlen each
      exact ⟨as, ⟨by omega, fun f hf => by have := (q3 f hf).2; simpa using this⟩, by simpa using q2, q4⟩
    · rename_i mm e hu
      simp only [Bool.and_eq_true, decide_eq_true_eq] at hp
      obtain ⟨hme, hpe⟩ := hp
      obtain ⟨xs, n, hn, rfl, hlen, hxs, hel⟩ := DataW.trod_array hu h
      obtain rfl : n = fuel := by omega
      have each : ∀ i, i < mm → ∃ as, TA P n e as ∧ CRels (fun b => b < w.heap.size) w as ((cs.drop (i * P.cellsOf e)).take (P.cellsOf e)) ∧ ∀ a ∈ as, a.plain = true := fun i hi => by
        have h1 := hel i hi
        have h2 : i < xs.length := by omega
        rw [List.getElem?_eq_getElem h2] at h1
        exact trod_TA n m e _ _ hpe h1
      have key : ∀ k, k ≤ mm → ∃ as, as.length = k * P.cellsOf e ∧ CRels (fun b => b < w.heap.size) w as (cs.take (k * P.cellsOf e)) ∧ (∀ i, i < k → TA P n e ((as.drop (i * P.cellsOf e)).take (P.cellsOf e))) ∧ ∀ a ∈ as, a.plain = true := by
        intro k
        induction k with
        | zero => intro _; exact ⟨[], by simp, by simp [CRels], fun i hi => by omega, fun a ha => by cases ha⟩
        | succ k ih =>
          intro hk
          obtain ⟨as, g1, g2, g3, gp⟩ := ih (by omega)
          obtain ⟨bs, g4, g5, gq⟩ := each k (by omega)
          have hle : (k + 1) * P.cellsOf e ≤ mm * P.cellsOf e := Nat.mul_le_mul_right _ hk
          rw [Nat.succ_mul] at hle
          have hb := g5.len
          simp only [List.length_take, List.length_drop] at hb
          have hb' : bs.length = P.cellsOf e := by omega
          refine ⟨as ++ bs, by rw [Nat.succ_mul]; simp [g1, hb'], ?_, fun i hi => ?_, fun a ha => (List.mem_append.1 ha).elim (gp a) (gq a)⟩
          · have : cs.take ((k + 1) * P.cellsOf e) = cs.take (k * P.cellsOf e) ++ (cs.drop (k * P.cellsOf e)).take (P.cellsOf e) := by
              rw [Nat.succ_mul, List.take_add]
            rw [this]
            exact g2.append g5
          · by_cases hik : i = k
            · subst hik
              rw [← g1, List.drop_left', List.take_of_length_le (by omega)]
              · exact g4
              · rfl
            · have hi' : i < k := by omega
              have : (i + 1) * P.cellsOf e ≤ k * P.cellsOf e := Nat.mul_le_mul_right _ hi'
              rw [Nat.succ_mul] at this
              rw [List.drop_append_of_le_length (by omega), List.take_append_of_le_length (by simp; omega)]
              exact g3 i hi'
      obtain ⟨as, g1, g2, g3, g4⟩ := key mm (Nat.le_refl _)
      rw [List.take_of_length_le (by omega)] at g2
      exact ⟨as, ⟨by omega, g3⟩, g2, g4⟩
    · cases hp
end
end Go.Am
