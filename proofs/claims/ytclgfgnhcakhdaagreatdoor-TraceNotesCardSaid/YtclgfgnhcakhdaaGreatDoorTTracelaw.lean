import Derived.Test.YtclgfgnhcakhdaaGreatDoorFacts
import Derived.Lib.LastIndexLaws
import Derived.Lib.IndexMore
import Derived.Test.YtclgfgnhcakhdaaGreatDoorTConcat
import Derived.Test.YtclgfgnhcakhdaaGreatDoorTBld
import Derived.Test.YtclgfgnhcakhdaaGreatDoorTJoin
import Derived.Lib.AppendIntMem
import Derived.Lib.SplitLaws
import Derived.Lib.ItoaLen
namespace Go.Proofs.YtclgfgnhcakhdaaGreatDoor
set_option maxHeartbeats 64000000
open Go.Am
set_option linter.unusedSimpArgs false
set_option linter.unusedVariables false
set_option maxRecDepth 100000
theorem occ_pre (s sub : List UInt8) (i : Nat) : Lib.occAt s sub i = true ↔ ∃ t, s.drop i = sub ++ t := by
  unfold Lib.occAt
  rw [List.isPrefixOf_iff_prefix]
  constructor
  · rintro ⟨t, h⟩; exact ⟨t, h.symm⟩
  · rintro ⟨t, h⟩; exact ⟨t, h.symm⟩
abbrev eqS : List UInt8 := [32, 61, 32]
theorem lastIndex_at (a b : List UInt8) (hb : ∀ c ∈ b, ¬ c = 61) : Lib.lastIndex (a ++ (eqS ++ b)) eqS = (a.length : Int) := by
  have hocc : Lib.occAt (a ++ (eqS ++ b)) eqS a.length = true := (occ_pre _ _ _).2 ⟨b, by simp⟩
  unfold Lib.lastIndex
  rw [if_pos (by simp; omega)]
  rcases Lib.lastOcc_spec (a ++ (eqS ++ b)) eqS ((a ++ (eqS ++ b)).length - eqS.length + 1) with ⟨_, h⟩ | ⟨i, hi, he, ho, hn⟩
  · rw [h a.length (by simp; omega)] at hocc; cases hocc
  · rw [he]
    rcases Nat.lt_trichotomy i a.length with h | h | h
    · rw [hn a.length h (by simp; omega)] at hocc; cases hocc
    · rw [h]
    · exfalso
      obtain ⟨t, ht⟩ := (occ_pre _ _ _).1 ho
      obtain ⟨m, rfl⟩ : ∃ m, i = a.length + (m + 1) := ⟨i - a.length - 1, by omega⟩
      rw [List.drop_append, List.drop_eq_nil_of_le (by omega), List.nil_append, show a.length + (m + 1) - a.length = m + 1 by omega] at ht
      match m, ht with
      | 0, ht => simp at ht
      | 1, ht =>
        have : (61 : UInt8) ∈ b := by
          have h1 : b = [61, 32] ++ t := by simpa using ht
          rw [h1]; simp
        exact hb 61 this rfl
      | m + 2, ht =>
        have : (61 : UInt8) ∈ b := by
          have h1 : b.drop m = eqS ++ t := by simpa using ht
          exact List.mem_of_mem_drop (by rw [h1]; simp)
        exact hb 61 this rfl
theorem index_one (c : UInt8) (b : List UInt8) : ∀ a : List UInt8, (∀ x ∈ a, ¬ x = c) → Lib.index (a ++ c :: b) [c] = (a.length : Int)
  | [], _ => by simp [Lib.index, List.isPrefixOf]
  | x :: a, h => by
    have ih := index_one c b a (fun y hy => h y (by simp [hy]))
    have hp : ([c] : List UInt8).isPrefixOf (x :: (a ++ c :: b)) = false := by simp [List.isPrefixOf, Ne.symm (h x (by simp))]
    rw [List.cons_append, Lib.index, hp, ih]
    have : ¬ ((a.length : Int) == -1) = true := fun e => by have := beq_iff_eq.1 e; omega
    simp [this]
theorem cut_at (a b : List UInt8) (h : ∀ x ∈ a, ¬ x = 32) : Lib.cut (a ++ 32 :: b) [32] = (a, b, true) := by
  unfold Lib.cut
  rw [index_one 32 b a h, if_pos (by omega)]
  simp
theorem last_split (s : List UInt8) (i : Nat) (h : Lib.lastIndex s eqS = (i : Int)) : s = s.take i ++ (eqS ++ s.drop (i + 3)) := by
  unfold Lib.lastIndex at h
  split at h
  · rcases Lib.lastOcc_spec s eqS (s.length - eqS.length + 1) with ⟨e, _⟩ | ⟨j, _, e, ho, _⟩
    · rw [e] at h; omega
    · rw [e] at h
      obtain rfl : j = i := by omega
      obtain ⟨t, ht⟩ := (occ_pre _ _ _).1 ho
      have h2 : s.drop (j + 3) = t := by
        rw [← List.drop_drop, ht]; rfl
      rw [h2, ← ht, List.take_append_drop]
  · omega
theorem cut_split (s a b : List UInt8) (h : Lib.cut s [32] = (a, b, true)) : s = a ++ 32 :: b ∧ ∀ x ∈ a, ¬ x = 32 := by
  unfold Lib.cut at h
  split at h
  · rename_i h0
    simp only [Prod.mk.injEq, and_true] at h
    obtain ⟨ha, hb⟩ := h
    have key : ∀ s : List UInt8, 0 ≤ Lib.index s [32] → s = s.take (Lib.index s [32]).toNat ++ 32 :: s.drop ((Lib.index s [32]).toNat + 1) ∧ ∀ x ∈ s.take (Lib.index s [32]).toNat, ¬ x = 32 := by
      intro s
      induction s with
      | nil => intro h; simp [Lib.index] at h
      | cons x s ih =>
        intro h
        by_cases hx : x = 32
        · subst hx
          simp [Lib.index, List.isPrefixOf]
        · have hp : ([32] : List UInt8).isPrefixOf (x :: s) = false := by simp [List.isPrefixOf, Ne.symm hx]
          rw [Lib.index, hp] at h ⊢
          simp only [Bool.false_eq_true, if_false] at h ⊢
          split at h
          · omega
          · rename_i hm
            rw [if_neg hm]
            have hge := Lib.index_ge s [32]
            have h1 : 0 ≤ Lib.index s [32] := by
              have : ¬ Lib.index s [32] = -1 := fun e => hm (beq_iff_eq.2 e)
              omega
            obtain ⟨i1, i2⟩ := ih h1
            rw [show (Lib.index s [32] + 1).toNat = (Lib.index s [32]).toNat + 1 by omega]
            refine ⟨?_, ?_⟩
            · simp only [List.take_succ_cons, List.drop_succ_cons, List.cons_append]
              rw [← i1]
            · intro y hy
              simp only [List.take_succ_cons, List.mem_cons] at hy
              rcases hy with rfl | hy
              · exact hx
              · exact i2 y hy
    have := key s h0
    rw [ha] at this
    simp only [List.length_singleton] at hb
    rw [hb] at this
    exact this
  · simp at h
section
variable (gN gS : List UInt8 → Bool)
def lineP (line : List UInt8) : Option (List UInt8 × List UInt8 × List UInt8) :=
  if 0 ≤ Lib.lastIndex line eqS then
    if (Lib.cut (line.drop ((Lib.lastIndex line eqS).toNat + 3)) [32]).2.2 = true ∧ gN (Lib.cut (line.drop ((Lib.lastIndex line eqS).toNat + 3)) [32]).1 = true ∧ gS (Lib.cut (line.drop ((Lib.lastIndex line eqS).toNat + 3)) [32]).2.1 = true then
      some (line.take (Lib.lastIndex line eqS).toNat, (Lib.cut (line.drop ((Lib.lastIndex line eqS).toNat + 3)) [32]).1, (Lib.cut (line.drop ((Lib.lastIndex line eqS).toNat + 3)) [32]).2.1)
    else none
  else none
def rightL (line a n s : List UInt8) : Prop := line = a ++ (eqS ++ (n ++ 32 :: s)) ∧ gN n = true ∧ gS s = true
theorem lineP_iff (hN : ∀ w, gN w = true → ∀ c ∈ w, ¬ c = 32 ∧ ¬ c = 61) (hS : ∀ w, gS w = true → w.length = 16 ∧ ∀ c ∈ w, ¬ c = 32 ∧ ¬ c = 61) (line a n s : List UInt8) : lineP gN gS line = some (a, n, s) ↔ rightL gN gS line a n s := by
  constructor
  · intro h
    unfold lineP at h
    split at h
    · rename_i h0
      obtain ⟨i, hi⟩ : ∃ i : Nat, Lib.lastIndex line eqS = (i : Int) := ⟨(Lib.lastIndex line eqS).toNat, by omega⟩
      have hs := last_split line i hi
      rw [hi] at h
      simp only [Int.toNat_natCast] at h
      split at h
      · rename_i hc
        obtain ⟨c1, c2, c3⟩ := hc
        simp only [Option.some.injEq, Prod.mk.injEq] at h
        obtain ⟨rfl, rfl, rfl⟩ := h
        have := (cut_split (line.drop (i + 3)) _ _ (Prod.ext rfl (Prod.ext rfl c1))).1
        exact ⟨by rw [← this]; exact hs, c2, c3⟩
      · cases h
    · cases h
  · rintro ⟨rfl, h1, h2⟩
    have e := lastIndex_at a (n ++ 32 :: s) (fun c hc => by
      rcases List.mem_append.1 hc with h | h
      · exact (hN n h1 c h).2
      · rcases List.mem_cons.1 h with rfl | h
        · decide
        · exact ((hS s h2).2 c h).2)
    unfold lineP
    rw [e, if_pos (by omega)]
    have ed : (a ++ (eqS ++ (n ++ 32 :: s))).drop (((a.length : Int)).toNat + 3) = n ++ 32 :: s := by
      rw [Int.toNat_natCast, ← List.drop_drop]
      simp
    rw [ed, cut_at n s (fun x hx => (hN n h1 x hx).1), if_pos ⟨rfl, h1, h2⟩]
    simp
end
def lastW (h : List UInt8) : List UInt8 := (h.reverse.takeWhile fun c => decide (¬ c = 32)).reverse
theorem takeWhile_stop (p : UInt8 → Bool) (b : UInt8) (t : List UInt8) (hb : p b = false) : ∀ a : List UInt8, (∀ x ∈ a, p x = true) → (a ++ b :: t).takeWhile p = a
  | [], _ => by simp [List.takeWhile, hb]
  | x :: a, h => by
    rw [List.cons_append, List.takeWhile_cons_of_pos (h x (by simp)), takeWhile_stop p b t hb a (fun y hy => h y (by simp [hy]))]
theorem lastW_at (x n : List UInt8) (hn : ∀ c ∈ n, ¬ c = 32) : lastW (x ++ 32 :: n) = n := by
  unfold lastW
  rw [List.reverse_append, List.reverse_cons, List.append_assoc, List.singleton_append, takeWhile_stop _ 32 _ (by decide) _ (fun c hc => decide_eq_true (hn c (by simpa using hc))), List.reverse_reverse]
theorem lastW_suf (h : List UInt8) : h = h.take (h.length - (lastW h).length) ++ lastW h := by
  have h1 := List.takeWhile_append_dropWhile (p := fun c => decide (¬ c = 32)) (l := h.reverse)
  have h2 : h = (h.reverse.dropWhile fun c => decide (¬ c = 32)).reverse ++ lastW h := by
    have := congrArg List.reverse h1
    rw [List.reverse_append, List.reverse_reverse] at this
    exact this.symm
  have h3 : h.length - (lastW h).length = ((h.reverse.dropWhile fun c => decide (¬ c = 32)).reverse).length := by
    have := congrArg List.length h2
    rw [List.length_append] at this
    omega
  rw [h3]
  generalize (h.reverse.dropWhile fun c => decide (¬ c = 32)).reverse = A at h2
  have h4 := congrArg (List.take A.length) h2
  rw [List.take_left] at h4
  rw [h4]
  exact h2
theorem at_len (x y : List UInt8) (c : UInt8) (m : Nat) (h : x.length = m) : (x ++ c :: y)[m]? = some c := by subst h; simp
section
variable (gN gS : List UInt8 → Bool)
def lineQ (line : List UInt8) : Option (List UInt8 × List UInt8 × List UInt8) :=
  if 17 ≤ line.length ∧ line[line.length - 17]? = some 32 ∧ gS (line.drop (line.length - 16)) = true ∧ gN (lastW (line.take (line.length - 17))) = true ∧ 3 ≤ line.length - 17 - (lastW (line.take (line.length - 17))).length ∧
      (line.take (line.length - 17 - (lastW (line.take (line.length - 17))).length)).drop (line.length - 17 - (lastW (line.take (line.length - 17))).length - 3) = eqS then
    some (line.take (line.length - 17 - (lastW (line.take (line.length - 17))).length - 3), lastW (line.take (line.length - 17)), line.drop (line.length - 16))
  else none
theorem lineQ_iff (hN : ∀ w, gN w = true → ∀ c ∈ w, ¬ c = 32 ∧ ¬ c = 61) (hS : ∀ w, gS w = true → w.length = 16 ∧ ∀ c ∈ w, ¬ c = 32 ∧ ¬ c = 61) (line a n s : List UInt8) : lineQ gN gS line = some (a, n, s) ↔ rightL gN gS line a n s := by
  constructor
  · intro h
    unfold lineQ at h
    split at h
    · rename_i hc
      obtain ⟨c1, c2, c3, c4, c5, c6⟩ := hc
      simp only [Option.some.injEq, Prod.mk.injEq] at h
      obtain ⟨rfl, rfl, rfl⟩ := h
      refine ⟨?_, c4, c3⟩
      have e1 : line = line.take (line.length - 17) ++ 32 :: line.drop (line.length - 16) := by
        conv => lhs; rw [← List.take_append_drop (line.length - 17) line]
        congr 1
        have hlt : line.length - 17 < line.length := by omega
        rw [List.drop_eq_getElem_cons hlt, show line.length - 17 + 1 = line.length - 16 by omega]
        rw [List.getElem?_eq_getElem hlt] at c2
        simp only [Option.some.injEq] at c2
        rw [c2]
      have e2 := lastW_suf (line.take (line.length - 17))
      have e3 : (line.take (line.length - 17)).length = line.length - 17 := by rw [List.length_take]; omega
      rw [e3, List.take_take, Nat.min_eq_left (by omega)] at e2
      have e4 := List.take_append_drop (line.length - 17 - (lastW (line.take (line.length - 17))).length - 3) (line.take (line.length - 17 - (lastW (line.take (line.length - 17))).length))
      rw [c6, List.take_take, Nat.min_eq_left (by omega)] at e4
      conv => lhs; rw [e1, e2, ← e4]
      simp
    · cases h
  · rintro ⟨rfl, h1, h2⟩
    obtain ⟨s1, s2⟩ := hS s h2
    have hlen : (a ++ (eqS ++ (n ++ 32 :: s))).length = a.length + 3 + n.length + 17 := by simp; omega
    have ht : (a ++ (eqS ++ (n ++ 32 :: s))).take (a.length + 3 + n.length) = (a ++ [32, 61]) ++ 32 :: n := by
      rw [show a ++ (eqS ++ (n ++ 32 :: s)) = (a ++ [32, 61] ++ 32 :: n) ++ 32 :: s by simp, List.take_left' (by simp; omega)]
    have hw : lastW ((a ++ (eqS ++ (n ++ 32 :: s))).take (a.length + 3 + n.length)) = n := by rw [ht, lastW_at _ _ (fun c hc => (hN n h1 c hc).1)]
    have hd : (a ++ (eqS ++ (n ++ 32 :: s))).drop (a.length + 3 + n.length + 1) = s := by
      rw [show a ++ (eqS ++ (n ++ 32 :: s)) = (a ++ [32, 61] ++ 32 :: n ++ [32]) ++ s by simp, List.drop_left' (by simp; omega)]
    have hg : (a ++ (eqS ++ (n ++ 32 :: s)))[a.length + 3 + n.length]? = some 32 := by
      rw [show a ++ (eqS ++ (n ++ 32 :: s)) = (a ++ [32, 61] ++ 32 :: n) ++ 32 :: s by simp]
      exact at_len _ _ _ _ (by simp; omega)
    unfold lineQ
    rw [hlen, show a.length + 3 + n.length + 17 - 17 = a.length + 3 + n.length by omega, show a.length + 3 + n.length + 17 - 16 = a.length + 3 + n.length + 1 by omega, hw, hd, hg, show a.length + 3 + n.length - n.length = a.length + 3 by omega, show a.length + 3 - 3 = a.length by omega]
    have hq : ((a ++ (eqS ++ (n ++ 32 :: s))).take (a.length + 3)).drop a.length = eqS := by
      rw [show a ++ (eqS ++ (n ++ 32 :: s)) = (a ++ eqS) ++ (n ++ 32 :: s) by simp, List.take_left' (by simp), List.drop_left' rfl]
    rw [if_pos ⟨by omega, rfl, h2, h1, by omega, hq⟩]
    simp
theorem lineP_Q (hN : ∀ w, gN w = true → ∀ c ∈ w, ¬ c = 32 ∧ ¬ c = 61) (hS : ∀ w, gS w = true → w.length = 16 ∧ ∀ c ∈ w, ¬ c = 32 ∧ ¬ c = 61) (line : List UInt8) : lineP gN gS line = lineQ gN gS line := by
  refine Option.ext fun ⟨a, n, s⟩ => ?_
  rw [lineP_iff gN gS hN hS, lineQ_iff gN gS hN hS]
end
end Go.Proofs.YtclgfgnhcakhdaaGreatDoor
namespace Go.Proofs.YtclgfgnhcakhdaaGreatDoor
set_option maxHeartbeats 64000000
open Go.Am
set_option linter.unusedSimpArgs false
set_option linter.unusedVariables false
set_option maxRecDepth 100000
theorem slice_of_own {S : Nat → Prop} {U : List Nat} {w w' : World} {v : Value} {e : TypeId} {l : List UInt8} (h : w'.ownsRow w.heap.size e 1 v l.length (Lib.byteCells l)) : ORel (After S U w [] w') w' (.slice 1 (l.map byteRow)) v [] := by
  refine ⟨?_, rfl⟩
  rcases h.2 with ⟨rfl, h0⟩ | ⟨g, cap, cur, rfl, hbg, hg, hnc, hcm, hcs, htake⟩
  · obtain rfl : l = [] := List.length_eq_zero_iff.1 h0
    exact ⟨none, 0, rfl, Nat.le_refl _, fun h => absurd rfl h⟩
  · have hlt : g < w'.heap.size := by
      rcases Nat.lt_or_ge g w'.heap.size with h' | h'
      · exact h'
      · simp [Array.getElem?_eq_none h'] at hg
    refine ⟨_, cap, by rw [List.length_map], by rw [List.length_map]; exact hnc, fun _ => ⟨g, 0, rfl, ⟨hlt, by simp, .inr (.inl hbg)⟩, ?_⟩⟩
    rw [CRows_iff]
    intro i r hr
    simp only [List.getElem?_map, Option.map_eq_some_iff] at hr
    obtain ⟨c, hi, rfl⟩ := hr
    obtain ⟨hil, rfl⟩ := List.getElem?_eq_some_iff.1 hi
    refine ⟨rfl, ⟨_, ?_, rfl⟩, trivial⟩
    simp only [World.cell?, hg, Option.isSome_none, Bool.false_eq_true, if_false]
    have := congrArg (·[i]?) htake
    simp only [Nat.mul_one, Lib.byteCells, List.getElem?_map, hi, Option.map_some] at this
    rw [List.getElem?_take, if_pos hil] at this
    rw [Nat.zero_add, Nat.mul_one, ← Array.getElem?_toList]
    exact this
def partRow (l : List UInt8) : List AVal := [.slice 1 (l.map byteRow)]
def unparts : List (List AVal) → Option (List (List UInt8))
  | [] => some []
  | [.slice 1 es] :: rs => (unbyte es).bind fun l => (unparts rs).bind fun ls => some (l :: ls)
  | _ => none
theorem unparts_spec : ∀ (rs : List (List AVal)) (ps : List (List UInt8)), unparts rs = some ps → rs = ps.map partRow
  | [], ps, h => by simp only [unparts, Option.some.injEq] at h; subst h; rfl
  | r :: rs, ps, h => by
    unfold unparts at h
    split at h
    · rename_i e; cases e
    · rename_i es rs' e
      simp only [List.cons.injEq] at e
      obtain ⟨rfl, rfl⟩ := e
      simp only [Option.bind_eq_some_iff, Option.some.injEq] at h
      obtain ⟨l, h1, ls, h2, rfl⟩ := h
      have := unbyte_spec _ _ h1
      subst this
      have := unparts_spec _ _ h2
      subst this
      rfl
    · cases h
def normRow : List AVal → List AVal
  | [.sc (.slice none 0 0)] => [.slice 1 []]
  | r => r
theorem normRow_cells {S : Nat → Prop} {w : World} {b off : Nat} {r : List AVal} (h : r.length = 1 ∧ CCells S w b off r) : (normRow r).length = 1 ∧ CCells S w b off (normRow r) := by
  unfold normRow
  split
  · obtain ⟨_, ⟨⟨x, h1, h2⟩, _⟩⟩ := h
    refine ⟨rfl, ⟨x, h1, ?_⟩, trivial⟩
    simp only [CRel] at h2
    subst h2
    exact ⟨none, 0, rfl, Nat.le_refl _, fun h => absurd rfl h⟩
  · exact h
theorem normRow_rows {S : Nat → Prop} {w : World} {b : Nat} : ∀ {rs : List (List AVal)} {off : Nat}, CRows S w b off 1 rs → CRows S w b off 1 (rs.map normRow)
  | [], _, _ => trivial
  | r :: rs, off, ⟨h1, h2, h3⟩ => ⟨(normRow_cells ⟨h1, h2⟩).1, (normRow_cells ⟨h1, h2⟩).2, normRow_rows h3⟩
theorem concat_spec (rs : List (List AVal)) (ps : List (List UInt8)) (hn : rs.map normRow = ps.map partRow) (h0 : ps ≠ []) (h1 : ps.length ≤ 1000000) (h2 : ps.flatten.length ≤ 1000000000000) : Am.Spec E 67 [.slice 1 rs] (.slice 1 (ps.flatten.map byteRow)) [] := by
  intro S w xs U _ hG hst hor hnd hb
  obtain ⟨y, ys, U1, U2, rfl, rfl, ⟨⟨a, cap, rfl, _, hc⟩, rfl⟩, ⟨rfl, rfl⟩⟩ := hor
  have hlen : rs.length = ps.length := by have := congrArg List.length hn; simpa using this
  obtain ⟨b, off, rfl, hS, hr⟩ := hc (fun e => h0 (List.length_eq_zero_iff.1 (by rw [← hlen, e]; rfl)))
  have hr := normRow_rows hr
  rw [hn] at hr
  rw [hlen]
  refine (concat_walk ps b off cap w (hst b hS) h1 h2 fun i hi => ?_).mono ?_
  · rw [CRows_iff] at hr
    obtain ⟨_, h2⟩ := hr i (partRow ps[i]) (by simp [hi])
    obtain ⟨⟨x, h3, h4⟩, _⟩ := h2
    obtain ⟨a', cap', rfl, _, hc'⟩ := h4
    refine ⟨a', cap', by rw [List.length_map] at h3; simpa using h3, fun hne => ?_⟩
    obtain ⟨b', off', rfl, hS', hr'⟩ := hc' (by simpa using hne)
    refine ⟨b', off', rfl, hst b' hS', fun j hj => ?_⟩
    rw [CRows_iff] at hr'
    obtain ⟨_, g2⟩ := hr' j (byteRow ps[i][j]) (by simp [hj])
    obtain ⟨⟨x, g3, g4⟩, _⟩ := g2
    simp only [CRel] at g4
    subst g4
    simpa using g3
  · rintro e w' ⟨v, rfl, hown, hbl⟩
    exact ⟨v, [], rfl, Keep.same hbl.os hbl.tape hbl.output hbl.size (fun k hk => hbl.block k hk), ⟨v, [], [], [], rfl, rfl, slice_of_own hown, rfl, rfl⟩, List.nodup_nil, fun b hb => by cases hb⟩
def concatO : List Nat → List AVal → Option Res := fun _ ds => match ds with
  | [.slice 1 es] => (unparts (es.map normRow)).bind fun ps => gu (ps ≠ [] ∧ ps.length ≤ 1000000 ∧ ps.flatten.length ≤ 1000000000000) (some (.slice 1 (ps.flatten.map byteRow), []))
  | _ => none
theorem concatO_ok : ∀ ex ds q, concatO ex ds = some q → SpecX E ex 67 ds q.1 q.2 := by
  intro ex ds q hq
  unfold concatO at hq
  split at hq
  · rename_i es
    rw [Option.bind_eq_some_iff] at hq
    obtain ⟨ps, h1, h2⟩ := hq
    simp only [gu_some, Option.some.injEq] at h2
    obtain ⟨⟨g1, g2, g3⟩, rfl⟩ := h2
    exact specX_of_spec (concat_spec es ps (unparts_spec _ _ h1) g1 g2 g3)
  · cases hq
def cloneUO (st : Nat) : List Nat → List AVal → Option Res := fun _ ds => match ds with
  | [.slice st' es] => gu (st' = st) (gu (okRows es = true) (some (.usl st es, [])))
  | _ => none
theorem cloneUO_ok {E : Env} {f : FuncId} {st : Nat} (h0 : Am.Spec E f [.slice st []] (.usl st []) []) (h : ∀ r rs, okRows (r :: rs) = true → Am.Spec E f [.slice st (r :: rs)] (.usl st (r :: rs)) []) :
    ∀ ex ds q, cloneUO st ex ds = some q → SpecX E ex f ds q.1 q.2 := by
  intro ex ds q hq
  unfold cloneUO at hq
  split at hq
  · rename_i st' es
    simp only [gu_some, Option.some.injEq] at hq
    obtain ⟨rfl, h1, rfl⟩ := hq
    refine specX_of_spec ?_
    cases es with
    | nil => exact h0
    | cons r rs => exact h r rs h1
  · cases hq
theorem cloneX_ok {E : Env} {f : FuncId} {st : Nat} (h0 : Am.Spec E f [.slice st []] (.usl st []) []) (h : ∀ r rs, okRows (r :: rs) = true → Am.Spec E f [.slice st (r :: rs)] (.usl st (r :: rs)) []) :
    ∀ ex ds q, cloneO st ex ds = some q → SpecX E ex f ds q.1 q.2 := by
  intro ex ds q hq
  unfold cloneO at hq
  split at hq
  · rename_i st' es
    simp only [gu_some, Option.some.injEq] at hq
    obtain ⟨rfl, h1, rfl⟩ := hq
    exact specX_close (cloneUO_ok h0 h ex [.slice st' es] (.usl st' es, []) (by simp [cloneUO, gu, h1]))
  · cases hq
def strRow (s : List UInt8) : List AVal := [.str s]
@[go_sem] theorem strRow_eq (s : List UInt8) : strRow s = [.str s] := rfl
attribute [go_sem] ite_self
theorem spec_strs {E : Env} {f : FuncId} {ds : List AVal} {xs : List Value} {r : AVal} {x : Value} (hn : noU ds = true) (hr : Const r x) (hd : ∀ (S : Nat → Prop) (w : World) (ys : List Value) (U : List Nat), ORels S w ds ys U → ys = xs)
    (h : ∀ w, Calls E.P f xs.toArray w fun e w' => e = .returned x ∧ w' = w) : Am.Spec E f ds r [] := by
  refine spec_below hn hr fun S w ys U hG hst hor hnd hb => ?_
  rw [hd S w ys U hor]
  refine (h w).mono ?_
  rintro e w' ⟨rfl, rfl⟩
  exact ⟨rfl, RowKit.Below.refl _ _⟩
theorem pairs_spec (l : List UInt8) (hl : l.length ≤ 1000000000000) : Am.Spec E 57 [.slice 1 (l.map byteRow)] (.str (pairsR l)) [] := by
  refine spec_below rfl (const_str _) fun S w xs U hG hst hor hnd hb => ?_
  obtain ⟨y, ys, U1, U2, rfl, rfl, ⟨⟨a, cap, rfl, _, hc⟩, rfl⟩, ⟨rfl, rfl⟩⟩ := hor
  rw [List.length_map]
  refine pairs_walk a cap l w hl fun hne => ?_
  obtain ⟨b, off, rfl, hS, hr⟩ := hc (by simpa using hne)
  refine ⟨b, off, rfl, hst b hS, fun i hi => ?_⟩
  rw [CRows_iff] at hr
  obtain ⟨_, h2⟩ := hr i (byteRow l[i]) (by simp [hi])
  obtain ⟨⟨x, h3, h4⟩, _⟩ := h2
  simp only [CRel] at h4
  subst h4
  simpa using h3
def pairsO : List Nat → List AVal → Option Res := fun _ ds => match ds with
  | [.slice st es] => gu (st = 1 ∧ es.length ≤ 1000000000000) ((unbyte es).bind fun l => some (.str (pairsR l), []))
  | _ => none
theorem pairsO_ok : ∀ ex ds q, pairsO ex ds = some q → SpecX E ex 57 ds q.1 q.2 := by
  intro ex ds q hq
  unfold pairsO at hq
  split at hq
  · rw [gu_some, Option.bind_eq_some_iff] at hq
    obtain ⟨⟨rfl, h1⟩, l, h2, h3⟩ := hq
    simp only [Option.some.injEq] at h3
    subst h3
    have := unbyte_spec _ _ h2
    subst this
    exact specX_of_spec (pairs_spec l (by simpa using h1))
  · cases hq
def itoaO : List Nat → List AVal → Option Res := fun _ ds => match ds with
  | [.int .i64 n] => gu (-9223372036854775808 ≤ n ∧ n ≤ 9223372036854775807) (some (.str (Lib.itoa n), []))
  | _ => none
theorem itoaO_ok : ∀ ex ds q, itoaO ex ds = some q → SpecX E ex 77 ds q.1 q.2 := by
  intro ex ds q hq
  unfold itoaO at hq
  split at hq
  · simp only [gu_some, Option.some.injEq] at hq
    obtain ⟨⟨h1, h2⟩, rfl⟩ := hq
    refine specX_of_spec (spec_below rfl (const_str _) fun S w xs U hG hst hor hnd hb => ?_)
    obtain ⟨y, ys, U1, U2, rfl, rfl, ⟨h3, rfl⟩, ⟨rfl, rfl⟩⟩ := hor
    simp only [CRel] at h3
    subst h3
    refine (Tryz.strconv_Itoa _ h1 h2 w (tabIs_of_glob (g := 2) (by kernel_rfl) (by kernel_rfl) hG)).mono ?_
    rintro e w' ⟨rfl, k, os, rfl⟩
    exact ⟨rfl, Lib.below_grow _ _ (Nat.le_refl _) _ _⟩
  · cases hq
def indexByteO : List Nat → List AVal → Option Res := fun _ ds => match ds with
  | [.str s, .int .u8 c] => gu (0 ≤ c ∧ c < 256) (some (.int .i64 (Lib.indexByte s c.toNat.toUInt8), []))
  | _ => none
theorem indexByteO_ok : ∀ ex ds q, indexByteO ex ds = some q → SpecX E ex 85 ds q.1 q.2 := by
  intro ex ds q hq
  unfold indexByteO at hq
  split at hq
  · rename_i s c
    simp only [gu_some, Option.some.injEq] at hq
    obtain ⟨⟨h1, h2⟩, rfl⟩ := hq
    refine specX_of_spec (spec_strs (xs := [.string ⟨s.toArray⟩, .int .u8 c]) rfl (const_int _ _) (fun S w ys U hor => ?_) (fun w => Tryz.strings_IndexByte ⟨s.toArray⟩ c w))
    obtain ⟨y, ys, U1, U2, rfl, rfl, ⟨h3, _⟩, ⟨z, zs, U3, U4, rfl, rfl, ⟨h4, _⟩, ⟨rfl, _⟩⟩⟩ := hor
    simp only [CRel] at h3 h4
    rw [h3, h4]
  · cases hq
def cutPrefixO : List Nat → List AVal → Option Res := fun _ ds => match ds with
  | [.str s, .str p] => some (.tup [.str (Lib.trimPrefix s p), .bool (Lib.hasPrefix s p)], [])
  | _ => none
theorem cutPrefixO_ok : ∀ ex ds q, cutPrefixO ex ds = some q → SpecX E ex 61 ds q.1 q.2 := by
  intro ex ds q hq
  unfold cutPrefixO at hq
  split at hq
  · rename_i s p
    simp only [Option.some.injEq] at hq
    subst hq
    refine specX_of_spec (spec_strs (xs := [.string ⟨s.toArray⟩, .string ⟨p.toArray⟩]) rfl (const_tup (xs := [.string ⟨(Lib.trimPrefix s p).toArray⟩, .bool (Lib.hasPrefix s p)]) (const_cons (const_str _) (const_cons (const_bool _) const_nil))) (fun S w ys U hor => ?_) (fun w => Tryz.strings_CutPrefix ⟨s.toArray⟩ ⟨p.toArray⟩ w))
    obtain ⟨y, ys, U1, U2, rfl, rfl, ⟨h3, _⟩, ⟨z, zs, U3, U4, rfl, rfl, ⟨h4, _⟩, ⟨rfl, _⟩⟩⟩ := hor
    simp only [CRel] at h3 h4
    rw [h3, h4]
  · cases hq
def unstr : List (List AVal) → Option (List (List UInt8))
  | [] => some []
  | r :: rs => match r with
    | [.str s] => (unstr rs).bind fun l => some (s :: l)
    | _ => none
theorem unstr_map (l : List (List UInt8)) : unstr (l.map strRow) = some l := by
  induction l with
  | nil => rfl
  | cons s l ih => simp only [List.map_cons, strRow, unstr] at ih ⊢; rw [ih]; rfl
theorem unstr_spec : ∀ (rs : List (List AVal)) (l : List (List UInt8)), unstr rs = some l → rs = l.map strRow
  | [], l, h => by simp only [unstr, Option.some.injEq] at h; subst h; rfl
  | r :: rs, l, h => by
    unfold unstr at h
    split at h
    · rename_i s
      simp only [Option.bind_eq_some_iff, Option.some.injEq] at h
      obtain ⟨l', h1, rfl⟩ := h
      rw [unstr_spec rs l' h1]; rfl
    · cases h
theorem join_spec (l : List (List UInt8)) (sep : List UInt8) (h1 : l.length ≤ 1000000) (h2 : (Lib.join l sep).length ≤ 140737488355328) : Am.Spec E 50 [.slice 1 (l.map strRow), .str sep] (.str (Lib.join l sep)) [] := by
  refine spec_below rfl (const_str _) fun S w xs U hG hst hor hnd hb => ?_
  obtain ⟨y, ys, U1, U2, rfl, rfl, ⟨⟨a, cap, rfl, hcap, hc⟩, rfl⟩, ⟨z, zs, U3, U4, rfl, rfl, ⟨h4, rfl⟩, ⟨rfl, rfl⟩⟩⟩ := hor
  simp only [CRel] at h4
  subst h4
  rw [List.length_map] at hcap ⊢
  cases l with
  | nil =>
    refine (join_none a cap ⟨sep.toArray⟩ w).mono ?_
    rintro e w' ⟨rfl, rfl⟩
    exact ⟨rfl, RowKit.Below.refl _ _⟩
  | cons s l =>
    obtain ⟨b, off, rfl, hS, hr⟩ := hc (by simp)
    have e : ((s :: l).map fun t => (⟨t.toArray⟩ : ByteArray)).map (·.data.toList) = s :: l := by
      rw [List.map_map]; simp [Function.comp_def]
    have hw := join_walk b off cap ((s :: l).map fun t => (⟨t.toArray⟩ : ByteArray)) ⟨sep.toArray⟩ w (fun j x hj => ?_) (hst b hS) (by simp at h1 ⊢; omega) (by simpa using hcap) (by rw [e]; exact h2)
    · rw [e, List.length_map] at hw
      exact hw
    · rw [CRows_iff] at hr
      rw [List.getElem?_map, Option.map_eq_some_iff] at hj
      obtain ⟨t, ht, rfl⟩ := hj
      obtain ⟨_, h2⟩ := hr j (strRow t) (by rw [List.getElem?_map, ht]; rfl)
      obtain ⟨⟨x, h3, h4⟩, _⟩ := h2
      simp only [CRel] at h4
      subst h4
      simpa using h3
def joinO : List Nat → List AVal → Option Res := fun _ ds => match ds with
  | [.slice st es, .str sep] => gu (st = 1) ((unstr es).bind fun l => gu (l.length ≤ 1000000 ∧ (Lib.join l sep).length ≤ 140737488355328) (some (.str (Lib.join l sep), [])))
  | _ => none
theorem joinO_ok : ∀ ex ds q, joinO ex ds = some q → SpecX E ex 50 ds q.1 q.2 := by
  intro ex ds q hq
  unfold joinO at hq
  split at hq
  · rw [gu_some, Option.bind_eq_some_iff] at hq
    obtain ⟨rfl, l, h2, h3⟩ := hq
    rw [gu_some] at h3
    obtain ⟨⟨h4, h5⟩, h3⟩ := h3
    simp only [Option.some.injEq] at h3
    subst h3
    have := unstr_spec _ _ h2
    subst this
    exact specX_of_spec (join_spec l _ h4 h5)
  · cases hq
def parts (c : UInt8) : List UInt8 → List (List UInt8)
  | [] => [[]]
  | x :: xs => if x = c then [] :: parts c xs else (x :: (parts c xs).headD []) :: (parts c xs).tail
theorem parts_ne (c : UInt8) (l : List UInt8) : parts c l ≠ [] := by
  cases l with
  | nil => simp [parts]
  | cons x l => unfold parts; split <;> simp
theorem parts_index (c : UInt8) : ∀ s : List UInt8, parts c s = if Lib.index s [c] = -1 then [s] else s.take (Lib.index s [c]).toNat :: parts c (s.drop ((Lib.index s [c]).toNat + 1))
  | [] => by simp [parts, Lib.index]
  | x :: s => by
    have ih := parts_index c s
    have hge := Lib.index_ge s [c]
    by_cases h : x = c
    · subst h
      rw [parts, if_pos rfl, Lib.index]
      simp [List.isPrefixOf]
    · have hp : ([c] : List UInt8).isPrefixOf (x :: s) = false := by simp [List.isPrefixOf, Ne.symm h]
      rw [parts, if_neg h, Lib.index, hp]
      simp only [Bool.false_eq_true, if_false]
      by_cases hm : Lib.index s [c] = -1
      · rw [if_pos hm] at ih
        simp [hm, ih]
      · rw [if_neg hm] at ih
        obtain ⟨j, hj⟩ : ∃ j : Nat, Lib.index s [c] = j := ⟨(Lib.index s [c]).toNat, by omega⟩
        rw [hj] at ih ⊢
        rw [ih]
        have e1 : ¬ ((j : Int) == -1) = true := fun e => by have := beq_iff_eq.1 e; omega
        rw [if_neg e1, if_neg (by omega), show ((j : Int) + 1).toNat = j + 1 by omega]
        simp
theorem splitK_parts (c : UInt8) : ∀ (k : Nat) (s : List UInt8), Lib.count s [c] = k → Lib.splitK [c] 0 k s = parts c s
  | 0, s, h => by
    rw [parts_index]
    by_cases hm : Lib.index s [c] = -1
    · rw [if_pos hm]; rfl
    · have hge := Lib.index_ge s [c]
      obtain ⟨j, hj⟩ : ∃ j : Nat, Lib.index s [c] = j := ⟨(Lib.index s [c]).toNat, by omega⟩
      rw [Lib.count_hit (by simp) hj] at h
      omega
  | k + 1, s, h => by
    rw [parts_index, Lib.splitK]
    by_cases hm : Lib.index s [c] = -1
    · rw [Lib.count_miss hm] at h; omega
    · have hge := Lib.index_ge s [c]
      obtain ⟨j, hj⟩ : ∃ j : Nat, Lib.index s [c] = j := ⟨(Lib.index s [c]).toNat, by omega⟩
      have h2 := Lib.count_hit (s := s) (sub := [c]) (by simp) hj
      simp only [List.length_cons, List.length_nil, Nat.zero_add] at h2
      rw [hj, if_neg (show ¬ ((j : Int) == -1) = true from fun e => by have := beq_iff_eq.1 e; omega), if_neg (show ¬ (j : Int) = -1 by omega)]
      simp only [Int.toNat_natCast, Nat.add_zero, List.length_cons, List.length_nil, Nat.zero_add]
      rw [splitK_parts c k _ (by omega)]
theorem splitB_parts (c : UInt8) (s : List UInt8) : (Lib.splitB ⟨#[c]⟩ 0 (Lib.countB ⟨s.toArray⟩ ⟨#[c]⟩) ⟨s.toArray⟩).map (·.data.toList) = parts c s := by
  rw [Lib.splitB_data]
  exact splitK_parts c _ s rfl
theorem parts_len (c : UInt8) (s : List UInt8) : (parts c s).length = Lib.countB ⟨s.toArray⟩ ⟨#[c]⟩ + 1 := by
  rw [← splitB_parts, List.length_map]
  exact Lib.splitB_all ⟨#[c]⟩ (Nat.le_refl 1) 0 _ _ rfl
theorem alloc_at (w : World) (o : Go.Obj) : (w.alloc o).heap[w.heap.size]? = some o := Array.getElem?_push_size
theorem alloc_lt (w : World) (o : Go.Obj) : w.heap.size < (w.alloc o).heap.size := by show _ < (w.heap.push o).size; rw [Array.size_push]; omega
theorem split_spec (s : List UInt8) (c : UInt8) (hl : s.length ≤ 1000000000) : Am.Spec E 63 [.str s, .str [c]] (.slice 1 ((parts c s).map strRow)) [] := by
  intro S w xs U _ hG hst hor hnd hb
  obtain ⟨y, ys, U1, U2, rfl, rfl, ⟨h3, rfl⟩, ⟨z, zs, U3, U4, rfl, rfl, ⟨h4, rfl⟩, ⟨rfl, rfl⟩⟩⟩ := hor
  simp only [CRel] at h3 h4
  subst h3 h4
  obtain ⟨_, _, arr, e0, fz, hh, hs, hj⟩ := hG 0 [.junk] (by kernel_rfl)
  obtain ⟨n, hn⟩ := hj rfl
  have hm : w.cell? ⟨0, 0, none⟩ = some (.int .i64 n) := by simp [World.cell?, hh, hn]
  refine (Tryz.strings_Split ⟨s.toArray⟩ ⟨[c].toArray⟩ n w (by show s.toArray.size < _; simp; omega) hm (Nat.le_refl 1)).mono ?_
  have hL := splitB_parts c s
  have hN := parts_len c s
  show ∀ e w', _ ∧ w' = w.alloc (.cells ((Lib.splitB ⟨#[c]⟩ 0 (Lib.countB ⟨s.toArray⟩ ⟨#[c]⟩) ⟨s.toArray⟩).map Value.string).toArray 9) → _
  generalize Lib.splitB ⟨#[c]⟩ 0 (Lib.countB ⟨s.toArray⟩ ⟨#[c]⟩) ⟨s.toArray⟩ = L at hL ⊢
  rintro e w' ⟨he, rfl⟩
  have hbl := (RowKit.Below.refl w.heap.size w).alloc (Nat.le_refl _) (.cells (L.map Value.string).toArray 9)
  have hg := alloc_at w (.cells (L.map Value.string).toArray 9)
  have hlt := alloc_lt w (.cells (L.map Value.string).toArray 9)
  refine ⟨_, [], he, Keep.same hbl.os hbl.tape hbl.output hbl.size (fun k hk => hbl.block k hk), ?_, List.nodup_nil, fun b hb => by cases hb⟩
  refine ⟨_, [], [], [], rfl, rfl, ⟨⟨_, _, by rw [List.length_map, hN], by rw [List.length_map, hN]; exact Nat.le_refl _, fun _ => ⟨_, 0, rfl, ⟨hlt, by simp, .inr (.inl (Nat.le_refl _))⟩, ?_⟩⟩, rfl⟩, rfl, rfl⟩
  rw [CRows_iff]
  intro i r hr
  rw [← hL, List.map_map, List.getElem?_map, Option.map_eq_some_iff] at hr
  obtain ⟨p, hi, rfl⟩ := hr
  refine ⟨rfl, ⟨.string p, ?_, rfl⟩, trivial⟩
  rw [Nat.zero_add, Nat.mul_one, Lib.cell_of_heap hg, List.getElem?_toArray, List.getElem?_map, hi]
  rfl
def splitO : List Nat → List AVal → Option Res := fun _ ds => match ds with
  | [.str s, .str [c]] => gu (s.length ≤ 1000000000) (some (.slice 1 ((parts c s).map strRow), []))
  | _ => none
theorem splitO_ok : ∀ ex ds q, splitO ex ds = some q → SpecX E ex 63 ds q.1 q.2 := by
  intro ex ds q hq
  unfold splitO at hq
  split at hq
  · rw [gu_some] at hq
    obtain ⟨h1, hq⟩ := hq
    simp only [Option.some.injEq] at hq
    subst hq
    exact specX_of_spec (split_spec _ _ h1)
  · cases hq
theorem glob_max {S : Nat → Prop} {w : World} (hG : GlobOk E.Γ S w) : ∃ n, w.cell? ⟨0, 0, none⟩ = some (.int .i64 n) := by
  obtain ⟨_, _, arr, e0, fz, hh, hs, hj⟩ := hG 0 [.junk] (by kernel_rfl)
  obtain ⟨n, hn⟩ := hj rfl
  exact ⟨n, by simp [World.cell?, hh, hn]⟩
def cutO : List Nat → List AVal → Option Res := fun _ ds => match ds with
  | [.str s, .str p] => gu (s.length ≤ 1000000000) (some (.tup [.str (Lib.cut s p).1, .str (Lib.cut s p).2.1, .bool (Lib.cut s p).2.2], []))
  | _ => none
theorem cutO_ok : ∀ ex ds q, cutO ex ds = some q → SpecX E ex 40 ds q.1 q.2 := by
  intro ex ds q hq
  unfold cutO at hq
  split at hq
  · rename_i s p
    rw [gu_some] at hq
    obtain ⟨h1, hq⟩ := hq
    simp only [Option.some.injEq] at hq
    subst hq
    refine specX_of_spec (spec_below rfl (const_tup (xs := [.string ⟨(Lib.cut s p).1.toArray⟩, .string ⟨(Lib.cut s p).2.1.toArray⟩, .bool (Lib.cut s p).2.2]) (const_cons (const_str _) (const_cons (const_str _) (const_cons (const_bool _) const_nil)))) fun S w xs U hG hst hor hnd hb => ?_)
    obtain ⟨y, ys, U1, U2, rfl, rfl, ⟨h3, rfl⟩, ⟨z, zs, U3, U4, rfl, rfl, ⟨h4, rfl⟩, ⟨rfl, rfl⟩⟩⟩ := hor
    simp only [CRel] at h3 h4
    subst h3 h4
    obtain ⟨n, hm⟩ := glob_max hG
    refine (Tryz.strings_Cut ⟨s.toArray⟩ ⟨p.toArray⟩ n w (by show s.toArray.size < _; simp; omega) hm).mono ?_
    rintro e w' ⟨rfl, k, rfl⟩
    exact ⟨rfl, ⟨rfl, rfl, rfl, Nat.le_refl _, fun _ _ => rfl⟩⟩
  · cases hq
def lastIndexO : List Nat → List AVal → Option Res := fun _ ds => match ds with
  | [.str s, .str p] => gu (s.length ≤ 1000000000) (some (.int .i64 (Lib.lastIndex s p), []))
  | _ => none
theorem lastIndexO_ok : ∀ ex ds q, lastIndexO ex ds = some q → SpecX E ex 39 ds q.1 q.2 := by
  intro ex ds q hq
  unfold lastIndexO at hq
  split at hq
  · rename_i s p
    rw [gu_some] at hq
    obtain ⟨h1, hq⟩ := hq
    simp only [Option.some.injEq] at hq
    subst hq
    refine specX_of_spec (spec_strs (xs := [.string ⟨s.toArray⟩, .string ⟨p.toArray⟩]) rfl (const_int _ _) (fun S w ys U hor => ?_) (fun w => Tryz.strings_LastIndex ⟨s.toArray⟩ ⟨p.toArray⟩ (by show s.toArray.size < _; simp; omega) w))
    obtain ⟨y, ys, U1, U2, rfl, rfl, ⟨h3, _⟩, ⟨z, zs, U3, U4, rfl, rfl, ⟨h4, _⟩, ⟨rfl, _⟩⟩⟩ := hor
    simp only [CRel] at h3 h4
    rw [h3, h4]
  · cases hq
theorem own_37_0 : Am.Spec E 37 [.slice 1 []] (.usl 1 []) [] := by
  refine spec_empty (fun c => ?_) (fun a c => ?_)
  · refine fnE_sound (X := C0.X) (M := C0.M) mixed (fun f g ex ds q h => by cases h) (q := (.usl 1 [], [])) ?_
    show fn C0 37 [] _ = _
    rw [fn_text Tryz.func37 rfl rfl Tryz.results37 fq37.1 rfl rfl (by kernel_rfl)]
    simp -implicitDefEqProofs -dsimp +contextual (maxSteps := 9999999) (disch := first | omega | simp only [go_sem] <;> omega | refine ib ?_; kernel_rfl) only [go_sem, seval, ↓reduceIte]
  · refine fnE_sound (X := C0.X) (M := C0.M) mixed (fun f g ex ds q h => by cases h) (q := (.usl 1 [], [])) ?_
    show fn C0 37 [] _ = _
    rw [fn_text Tryz.func37 rfl rfl Tryz.results37 fq37.1 rfl rfl (by kernel_rfl)]
    simp -implicitDefEqProofs -dsimp +contextual (maxSteps := 9999999) (disch := first | omega | simp only [go_sem] <;> omega | refine ib ?_; kernel_rfl) only [go_sem, seval, ↓reduceIte]
theorem own_37 (r : List AVal) (rs : List (List AVal)) (h : okRows (r :: rs) = true) : Am.Spec E 37 [.slice 1 (r :: rs)] (.usl 1 (r :: rs)) [] := by
  simp only [okRows, Bool.and_eq_true, decide_eq_true_eq, List.all_cons, ones_cons, List.length_cons] at h
  obtain ⟨h1, ⟨h2, h3⟩, h4, h5⟩ := h
  refine fnE_sound (X := C0.X) (M := C0.M) mixed (fun f g ex ds q h => by cases h) (q := (.usl 1 (r :: rs), [])) ?_
  show fn C0 37 [] _ = _
  rw [fn_text Tryz.func37 rfl rfl Tryz.results37 fq37.1 rfl rfl (by kernel_rfl)]
  simp -implicitDefEqProofs -dsimp +contextual (maxSteps := 9999999) (disch := first | omega | simp only [go_sem] <;> omega | refine ib ?_; kernel_rfl) only [go_sem, seval, ↓reduceIte, h2, h3, h4, h5]
def own : Own := ownOf [(57, pairsO), (77, itoaO), (85, indexByteO), (61, cutPrefixO), (50, joinO), (63, splitO), (67, concatO), (40, cutO), (39, lastIndexO), (37, (cloneO 1))]
noncomputable def C : Cf := ⟨E, M, own⟩
@[go_sem] theorem C_E : C.E = E := rfl
@[go_sem] theorem C_M : C.M = M := rfl
@[go_sem] theorem C_X : C.X = own := rfl
theorem own_ok : OwnOk C.E C.X := ownOf_ok fun p hp => by
  simp only [List.mem_cons, List.not_mem_nil, or_false] at hp
  rcases hp with rfl | rfl | rfl | rfl | rfl | rfl | rfl | rfl | rfl | rfl
  · exact pairsO_ok
  · exact itoaO_ok
  · exact indexByteO_ok
  · exact cutPrefixO_ok
  · exact joinO_ok
  · exact splitO_ok
  · exact concatO_ok
  · exact cutO_ok
  · exact lastIndexO_ok
  · exact cloneX_ok own_37_0 own_37
theorem ow_57 (ex ds) : fn C 57 ex ds = pairsO ex ds := fn_own rfl ex ds
theorem ow_77 (ex ds) : fn C 77 ex ds = itoaO ex ds := fn_own rfl ex ds
theorem ow_85 (ex ds) : fn C 85 ex ds = indexByteO ex ds := fn_own rfl ex ds
theorem ow_61 (ex ds) : fn C 61 ex ds = cutPrefixO ex ds := fn_own rfl ex ds
theorem ow_50 (ex ds) : fn C 50 ex ds = joinO ex ds := fn_own rfl ex ds
theorem ow_63 (ex ds) : fn C 63 ex ds = splitO ex ds := fn_own rfl ex ds
theorem ow_67 (ex ds) : fn C 67 ex ds = concatO ex ds := fn_own rfl ex ds
theorem ow_40 (ex ds) : fn C 40 ex ds = cutO ex ds := fn_own rfl ex ds
theorem ow_39 (ex ds) : fn C 39 ex ds = lastIndexO ex ds := fn_own rfl ex ds
theorem ow_37 (ex ds) : fn C 37 ex ds = (cloneO 1) ex ds := fn_own rfl ex ds
@[go_sem] theorem cl_37 (es : List (List AVal)) : fn C 37 [] [.slice 1 es] = gu (okRows es = true) (some (.slice 1 es, [])) := by
  rw [ow_37]
  simp [cloneO, gu]
@[go_sem] theorem e57 (l : List UInt8) (hl : l.length ≤ 1000000000000) : fn C 57 [] [.slice 1 (l.map byteRow)] = some (.str (pairsR l), []) := by
  rw [ow_57]; simp [pairsO, gu, unbyte_map, hl]
@[go_sem] theorem e77 (n : Int) (h : -9223372036854775808 ≤ n ∧ n ≤ 9223372036854775807) : fn C 77 [] [.int .i64 n] = some (.str (Lib.itoa n), []) := by
  rw [ow_77]; simp only [itoaO, gu, h, if_true, and_self]
@[go_sem] theorem e85 (s : List UInt8) (c : UInt8) : fn C 85 [] [.str s, .int .u8 (c.toNat : Int)] = some (.int .i64 (Lib.indexByte s c), []) := by
  have h := c.toNat_lt
  rw [ow_85]
  simp only [indexByteO, gu, Int.toNat_natCast]
  rw [if_pos (by omega)]
  simp
@[go_sem] theorem e61 (s p : List UInt8) : fn C 61 [] [.str s, .str p] = some (.tup [.str (Lib.trimPrefix s p), .bool (Lib.hasPrefix s p)], []) := by
  rw [ow_61]; rfl
theorem eJoin (l : List (List UInt8)) (sep : List UInt8) (h1 : l.length ≤ 1000000) (h2 : (Lib.join l sep).length ≤ 140737488355328) : fn C 50 [] [.slice 1 (l.map strRow), .str sep] = some (.str (Lib.join l sep), []) := by
  rw [ow_50]; simp [joinO, gu, unstr_map, h1, h2]
@[go_sem] theorem e63 (s : List UInt8) (c : UInt8) (h : s.length ≤ 1000000000) : fn C 63 [] [.str s, .str [c]] = some (.slice 1 ((parts c s).map strRow), []) := by
  rw [ow_63]; simp [splitO, gu, h]
@[go_sem] theorem e40 (s p : List UInt8) (h : s.length ≤ 1000000000) : fn C 40 [] [.str s, .str p] = some (.tup [.str (Lib.cut s p).1, .str (Lib.cut s p).2.1, .bool (Lib.cut s p).2.2], []) := by
  rw [ow_40]; simp [cutO, gu, h]
@[go_sem] theorem e39 (s p : List UInt8) (h : s.length ≤ 1000000000) : fn C 39 [] [.str s, .str p] = some (.int .i64 (Lib.lastIndex s p), []) := by
  rw [ow_39]; simp [lastIndexO, gu, h]
theorem unparts_two (a b : List UInt8) : unparts (List.map normRow [[.slice 1 (a.map byteRow)], [.slice 1 (b.map byteRow)]]) = some [a, b] := by
  simp [normRow, unparts, unbyte_map]
@[go_sem] theorem e67 (a b : List UInt8) (h : a.length + b.length ≤ 1000000000000) : fn C 67 [] [.slice 1 [[.slice 1 (a.map byteRow)], [.slice 1 (b.map byteRow)]]] = some (.slice 1 ((a ++ b).map byteRow), []) := by
  rw [ow_67]; simp only [concatO]; rw [unparts_two]; simp [gu, h]
def okB (b : UInt8) : Bool := decide (32 < b.toNat) && decide (b.toNat < 127)
def keyR (l : List UInt8) : Bool := decide (1 ≤ l.length) && decide (l.length ≤ 24) && l.all okB
@[go_sem] theorem e98 (l : List UInt8) : fn C 98 [] [.str l] = some (.bool (keyR l), []) := by
  rw [fn_text Tryz.func98 rfl rfl Tryz.results98 fq98.1 rfl rfl (by kernel_rfl)]
  simp -implicitDefEqProofs -dsimp +contextual (maxSteps := 9999999) (disch := first | omega | simp only [go_sem] <;> omega | refine ib ?_; kernel_rfl) only [go_sem, seval, ↓reduceIte]
  (repeat' (refine kD_intro (fun _ => ?_) (fun _ => ?_)))
  · exact Res_bool (by simp [keyR]; omega)
  · exact Res_bool (by simp [keyR]; omega)
  refine (kLoop_rec (fun i f H => f 0 = .str l ∧ f 3 = .int .i64 (i : Nat) ∧ H = Heap.nil ∧ i ≤ l.length) (fun i => l.length - i) (fun i => some (.bool ((l.drop i).all okB), [])) ?_ 0 _ _ ⟨rfl, rfl, rfl, by omega⟩).trans ?_
  · rintro i f _ ⟨h0, h3, rfl, hi⟩ ih
    by_cases hl : i < l.length
    · rw [List.drop_eq_getElem_cons hl]
      simp -implicitDefEqProofs -dsimp +contextual (maxSteps := 9999999) (disch := first | omega | simp only [go_sem] <;> omega | refine ib ?_; kernel_rfl) only [go_sem, seval, ↓reduceIte, h0, h3, hl]
      (repeat' (refine kD_intro (fun _ => ?_) (fun _ => ?_)))
      · exact Res_bool (by simp [okB] <;> omega)
      · exact Res_bool (by simp [okB] <;> omega)
      · have hb : okB l[i] = true := by simp [okB] <;> omega
        exact (ih (i + 1) _ _ (by exact ⟨h0, rfl, rfl, by omega⟩) (by omega)).trans (by simp [hb])
    · simp -implicitDefEqProofs -dsimp +contextual (maxSteps := 9999999) (disch := first | omega | simp only [go_sem] <;> omega | refine ib ?_; kernel_rfl) only [go_sem, seval, ↓reduceIte, h0, h3, hl] <;>
      exact Res_bool (by simp [show i = l.length by omega])
  · exact Res_bool (by simp [keyR]; omega)
@[go_sem] theorem e91 (l : List UInt8) (hl : l.length ≤ 9223372036854775807) : fn C 91 [] [.str l] = some (.bool (keyR l), []) := by
  rw [fn_text Tryz.func91 rfl rfl Tryz.results91 fq91.1 rfl rfl (by kernel_rfl)]
  simp -implicitDefEqProofs -dsimp +contextual (maxSteps := 9999999) (disch := first | omega | simp only [go_sem] <;> omega | refine ib ?_; kernel_rfl) only [go_sem, seval, ↓reduceIte]
  refine (kLoop_rec (fun i f H => f 0 = .str l ∧ f 5 = .int .i64 l.length ∧ f 6 = .int .i64 (i : Nat) ∧ H = Heap.nil ∧ i ≤ l.length) (fun i => l.length - i) (fun i => some (.bool (decide (1 ≤ l.length) && decide (l.length ≤ 24) && (l.drop i).all okB), [])) ?_ 0 _ _ ⟨rfl, rfl, rfl, rfl, by omega⟩).trans rfl
  rintro i f _ ⟨h0, h5, h6, rfl, hi⟩ ih
  by_cases hl : i < l.length
  · rw [List.drop_eq_getElem_cons hl]
    simp -implicitDefEqProofs -dsimp +contextual (maxSteps := 9999999) (disch := first | omega | simp only [go_sem] <;> omega | refine ib ?_; kernel_rfl) only [go_sem, seval, ↓reduceIte, h0, h5, h6, hl]
    (repeat' (refine kD_intro (fun _ => ?_) (fun _ => ?_)))
    · exact Res_bool (by simp [okB] <;> omega)
    · exact Res_bool (by simp [okB] <;> omega)
    · have hb : okB l[i] = true := by simp [okB] <;> omega
      exact (ih (i + 1) _ _ (by exact ⟨h0, h5, rfl, rfl, by omega⟩) (by omega)).trans (by simp [hb])
  · simp -implicitDefEqProofs -dsimp +contextual (maxSteps := 9999999) (disch := first | omega | simp only [go_sem] <;> omega | refine ib ?_; kernel_rfl) only [go_sem, seval, ↓reduceIte, h0, h5, h6, hl]
    obtain rfl : i = l.length := by omega
    cases l with
    | nil => simp -implicitDefEqProofs -dsimp +contextual (maxSteps := 9999999) (disch := first | omega | simp only [go_sem] <;> omega | refine ib ?_; kernel_rfl) only [go_sem, seval, ↓reduceIte]
    | cons b l => simp -implicitDefEqProofs -dsimp +contextual (maxSteps := 9999999) (disch := first | omega | simp only [go_sem] <;> omega | refine ib ?_; kernel_rfl) only [go_sem, seval, ↓reduceIte] <;> exact Res_bool (by simp <;> omega)
def beN (s n : Nat) : List UInt8 := (List.range s).map fun i => UInt8.ofNat (n / 2 ^ (8 * (s - 1 - i)))
@[go_sem] theorem beN_len (s n : Nat) : (beN s n).length = s := by simp [beN]
theorem u64_shl8 (P : Program) (t : TypeId) (k : IntKind) (a : Nat) (ha : a < 72057594037927936) : binV P .shl t (.int .u64 (a : Int)) (.int k 8) = some (.int .u64 ((a * 256 : Nat) : Int)) := by
  have e : binV P .shl t (.int .u64 (a : Int)) (.int k 8) = some (.int .u64 (IntKind.u64.wrap ((a : Int) * 2 ^ 8))) := rfl
  rw [e]
  exact congrArg (fun x => some (AVal.int .u64 x)) (by rw [IntKind.wrap_u64]; omega)
theorem or_low8 (a b : Nat) (hb : b < 256) : a * 256 ||| b = a * 256 + b := by
  have := Nat.two_pow_add_eq_or_of_lt (i := 8) (b := b) (by simpa using hb) a
  rw [show 2 ^ 8 * a = a * 256 by omega] at this
  exact this.symm
theorem u64_or8 (P : Program) (t : TypeId) (a b : Nat) (ha : a * 256 < 18446744073709551616) (hb : b < 256) : binV P .or t (.int .u64 ((a * 256 : Nat) : Int)) (.int .u64 (b : Int)) = some (.int .u64 ((a * 256 + b : Nat) : Int)) := by
  have e : binV P .or t (.int .u64 ((a * 256 : Nat) : Int)) (.int .u64 (b : Int)) = some (.int .u64 (IntKind.u64.wrap ((BitVec.ofInt 64 ((a * 256 : Nat) : Int) ||| BitVec.ofInt 64 (b : Int)).toNat : Int))) := rfl
  rw [e, BitVec.ofInt_natCast, BitVec.ofInt_natCast, BitVec.toNat_or, BitVec.toNat_ofNat, BitVec.toNat_ofNat, Nat.mod_eq_of_lt (show a * 256 < 2 ^ 64 by omega), Nat.mod_eq_of_lt (show b < 2 ^ 64 by omega), or_low8 a b hb]
  exact congrArg (fun x => some (AVal.int .u64 x)) (by rw [IntKind.wrap_u64]; omega)
def beV (l : List UInt8) : Nat := l.foldl (fun n c => n * 256 + c.toNat) 0
theorem beV_take (l : List UInt8) (i : Nat) (h : i < l.length) : beV (l.take (i + 1)) = beV (l.take i) * 256 + l[i].toNat := by
  rw [List.take_succ_eq_append_getElem h, beV, List.foldl_append]; rfl
theorem beV_lt (l : List UInt8) : beV l < 256 ^ l.length := by
  have : ∀ (l : List UInt8) (a : Nat), l.foldl (fun n c => n * 256 + c.toNat) a < (a + 1) * 256 ^ l.length := by
    intro l
    induction l with
    | nil => intro a; simp
    | cons x l ih =>
      intro a
      have h := u8_lt x
      refine Nat.lt_of_lt_of_le (ih _) ?_
      rw [List.length_cons, Nat.pow_succ, Nat.mul_comm (256 ^ l.length), ← Nat.mul_assoc]
      exact Nat.mul_le_mul_right _ (by simp only; omega)
  simpa [beV] using this l 0
@[go_sem] theorem rep_byte (n : Nat) : List.replicate n [AVal.int .u8 0] = (List.replicate n (0 : UInt8)).map byteRow := by rw [List.map_replicate]; rfl
theorem itoa_le (n : Int) (h1 : -9223372036854775808 ≤ n) (h2 : n ≤ 9223372036854775807) : (Lib.itoa n).length ≤ 21 := Lib.itoa_length_le n h1 h2
theorem take_eq_step {α : Type} {a b : List α} {i : Nat} (ha : i < a.length) (hb : i < b.length) (ht : a.take i = b.take i) (he : a[i] = b[i]) : a.take (i + 1) = b.take (i + 1) := by
  rw [List.take_succ_eq_append_getElem ha, List.take_succ_eq_append_getElem hb, ht, he]
theorem take_eq_end {α : Type} {a b : List α} (hl : a.length = b.length) (ht : a.take a.length = b.take a.length) : a = b := by
  rwa [List.take_length, hl, List.take_length] at ht
theorem take_ne {α : Type} {a b : List α} {i : Nat} (ha : i < a.length) (hb : i < b.length) (he : ¬ a[i] = b[i]) : ¬ a = b := fun e => he (by subst e; rfl)
def hexS : List UInt8 := [48, 49, 50, 51, 52, 53, 54, 55, 56, 57, 97, 98, 99, 100, 101, 102]
@[go_sem] theorem hexS_fold : ([48, 49, 50, 51, 52, 53, 54, 55, 56, 57, 97, 98, 99, 100, 101, 102] : List UInt8) = hexS := rfl
@[go_sem] theorem hexS_len : hexS.length = 16 := rfl
@[go_sem] theorem hexS_get (d : Nat) (h : d < hexS.length) : hexS[d] = hexd d := by
  have : ∀ n : Fin 16, hexS[n.val]'(n.isLt) = hexd n.val := by decide
  exact this ⟨d, h⟩
@[go_sem] theorem hexS_cut (d : Nat) (h : d < 16) : (hexS.drop d).take (d + 1 - d) = [hexd d] := by
  have : ∀ n : Fin 16, (hexS.drop n.val).take (n.val + 1 - n.val) = [hexd n.val] := by decide
  exact this ⟨d, h⟩
def hexR (n : Nat) : List UInt8 := pairsR (beN 8 n)
@[go_sem] theorem e76 (n : Nat) (hn : n ≤ 18446744073709551615) : fn C 76 [] [.int .u64 (n : Int)] = some (.str (hexR n), []) := by
  rw [fn_text Tryz.func76 rfl rfl Tryz.results76 fq76.1 rfl rfl (by kernel_rfl)]
  have hp := e57 (beN 8 n) (by rw [beN_len]; decide)
  have e : (beN 8 n).map byteRow = [[.int .u8 ((UInt8.ofNat (n / 72057594037927936)).toNat : Int)], [.int .u8 ((UInt8.ofNat (n / 281474976710656)).toNat : Int)], [.int .u8 ((UInt8.ofNat (n / 1099511627776)).toNat : Int)], [.int .u8 ((UInt8.ofNat (n / 4294967296)).toNat : Int)], [.int .u8 ((UInt8.ofNat (n / 16777216)).toNat : Int)], [.int .u8 ((UInt8.ofNat (n / 65536)).toNat : Int)], [.int .u8 ((UInt8.ofNat (n / 256)).toNat : Int)], [.int .u8 ((UInt8.ofNat (n / 1)).toNat : Int)]] := rfl
  rw [e] at hp
  simp -implicitDefEqProofs -dsimp +contextual (maxSteps := 9999999) (disch := first | omega | simp only [go_sem] <;> omega | refine ib ?_; kernel_rfl) only [go_sem, seval, ↓reduceIte, kLoop_eq, u8_wrap, hp]
  rfl
theorem byte_hi (m : Nat) : (UInt8.ofNat m).toNat / 16 = m / 16 % 16 := by simp [UInt8.toNat_ofNat']; omega
theorem byte_lo (m : Nat) : (UInt8.ofNat m).toNat % 16 = m % 16 := by simp [UInt8.toNat_ofNat']
@[go_sem] theorem e47 (n : Nat) (hn : n ≤ 18446744073709551615) : fn C 47 [] [.int .u64 (n : Int)] = some (.str (hexR n), []) := by
  rw [fn_text Tryz.func47 rfl rfl Tryz.results47 fq47.1 rfl rfl (by kernel_rfl)]
  simp -implicitDefEqProofs -dsimp +contextual (maxSteps := 9999999) (disch := first | omega | simp only [go_sem] <;> omega | refine ib ?_; kernel_rfl) only [go_sem, seval, ↓reduceIte, kLoop_eq, Nat.div_div_eq_div_mul]
  simp only [hexR, pairsR, beN, show List.range 8 = [0, 1, 2, 3, 4, 5, 6, 7] from rfl, List.map_cons, List.map_nil, List.flatMap_cons, List.flatMap_nil, List.cons_append, List.nil_append, byte_hi, byte_lo, Nat.div_div_eq_div_mul, Nat.reducePow, Nat.reduceMul, Nat.reduceSub, Nat.div_one]
def digV (c : UInt8) : Nat := if 48 ≤ c.toNat ∧ c.toNat ≤ 57 then c.toNat - 48 else if 97 ≤ c.toNat ∧ c.toNat ≤ 102 then c.toNat - 87 else 16
theorem digV_le (c : UInt8) : digV c ≤ 16 := by simp only [digV]; split <;> (try split) <;> omega
theorem hexd_dig (c : UInt8) (i : Nat) (hi : i < 16) : (hexd i).toNat = c.toNat ↔ digV c = i := by
  have : ∀ (n : Fin 256) (k : Fin 16), (hexd k.val).toNat = (UInt8.ofNat n.val).toNat ↔ digV (UInt8.ofNat n.val) = k.val := by decide +kernel
  have h := this ⟨c.toNat, c.toNat_lt⟩ ⟨i, hi⟩
  simpa using h
@[go_sem] theorem e66 (c : UInt8) : fn C 66 [] [.int .u8 (c.toNat : Int)] = some (.int .i64 (digV c : Int), []) := by
  rw [fn_text Tryz.func66 rfl rfl Tryz.results66 fq66.1 rfl rfl (by kernel_rfl)]
  simp -implicitDefEqProofs -dsimp +contextual (maxSteps := 9999999) (disch := first | omega | simp only [go_sem] <;> omega | refine ib ?_; kernel_rfl) only [go_sem, seval, ↓reduceIte]
  have hle := digV_le c
  refine (kLoop_rec (fun (i : Nat) f H => f 0 = .int .u8 (c.toNat : Int) ∧ f 3 = .int .i64 (i : Int) ∧ H = Heap.nil ∧ i ≤ digV c) (fun i => 16 - i) (fun _ => some (.int .i64 (digV c : Int), [])) ?_ 0 _ _ ⟨rfl, rfl, rfl, by omega⟩)
  rintro i f _ ⟨f0, f3, rfl, hi⟩ ih
  by_cases hl : i < 16
  · have hd := hexd_dig c i hl
    simp -implicitDefEqProofs -dsimp +contextual (maxSteps := 9999999) (disch := first | omega | simp only [go_sem] <;> omega | refine ib ?_; kernel_rfl) only [go_sem, seval, ↓reduceIte, f0, f3, hl]
    (repeat' (refine kD_intro (fun _ => ?_) (fun _ => ?_)))
    · rename_i h; rw [hd.1 h]
    · rename_i h
      have : digV c ≠ i := fun e => h (hd.2 e)
      exact ih (i + 1) _ _ ⟨f0, rfl, rfl, by omega⟩ (by omega)
  · simp -implicitDefEqProofs -dsimp +contextual (maxSteps := 9999999) (disch := first | omega | simp only [go_sem] <;> omega | refine ib ?_; kernel_rfl) only [go_sem, seval, ↓reduceIte, f0, f3, hl]
    exact Res_int (by omega)
theorem idx_dig (c : UInt8) : Lib.indexByte hexS c = if digV c < 16 then (digV c : Int) else -1 := by
  have : ∀ n : Fin 256, Lib.indexByte hexS (UInt8.ofNat n.val) = if digV (UInt8.ofNat n.val) < 16 then (digV (UInt8.ofNat n.val) : Int) else -1 := by decide +kernel
  have h := this ⟨c.toNat, c.toNat_lt⟩
  simpa using h
theorem i64_or4 (P : Program) (t : TypeId) (a b : Nat) (ha : a < 16) (hb : b < 16) : binV P .or t (.int .i64 ((a * 16 : Nat) : Int)) (.int .i64 (b : Int)) = some (.int .i64 ((16 * a + b : Nat) : Int)) := by
  have h : ∀ a b : Fin 16, IntKind.i64.wrap ((BitVec.ofInt 64 ((a.val * 16 : Nat) : Int) ||| BitVec.ofInt 64 (b.val : Int)).toNat : Int) = ((16 * a.val + b.val : Nat) : Int) := by decide +kernel
  have e : binV P .or t (.int .i64 ((a * 16 : Nat) : Int)) (.int .i64 (b : Int)) = some (.int .i64 (IntKind.i64.wrap ((BitVec.ofInt 64 ((a * 16 : Nat) : Int) ||| BitVec.ofInt 64 (b : Int)).toNat : Int))) := rfl
  rw [e]
  exact congrArg (fun x => some (AVal.int .i64 x)) (h ⟨a, ha⟩ ⟨b, hb⟩)
theorem i64_shl4 (P : Program) (t : TypeId) (k : IntKind) (a : Nat) (ha : a < 16) : binV P .shl t (.int .i64 (a : Int)) (.int k 4) = some (.int .i64 ((a * 16 : Nat) : Int)) := by
  have e : binV P .shl t (.int .i64 (a : Int)) (.int k 4) = some (.int .i64 (IntKind.i64.wrap ((a : Int) * 2 ^ 4))) := rfl
  rw [e]
  exact congrArg (fun x => some (AVal.int .i64 x)) (by rw [IntKind.wrap_i64]; omega)
def unpR : List UInt8 → Option (List UInt8)
  | a :: b :: r => if digV a < 16 ∧ digV b < 16 then (unpR r).map fun l => UInt8.ofNat (16 * digV a + digV b) :: l else none
  | _ => some []
theorem unpR_drop (l : List UInt8) (i : Nat) (h : i + 1 < l.length) : unpR (l.drop i) = if digV l[i] < 16 ∧ digV l[i + 1] < 16 then (unpR (l.drop (i + 2))).map fun m => UInt8.ofNat (16 * digV l[i] + digV l[i + 1]) :: m else none := by
  rw [List.drop_eq_getElem_cons (by omega), List.drop_eq_getElem_cons (show i + 1 < l.length by omega), unpR]
theorem unpR_end (l : List UInt8) (i : Nat) (h : ¬ i + 1 < l.length) : unpR (l.drop i) = some [] := by
  have : (l.drop i).length ≤ 1 := by simp; omega
  match l.drop i, this with
  | [], _ => rfl
  | [_], _ => rfl
def unpK (l : List UInt8) (acc : List UInt8) : Option (List UInt8) → AVal
  | some m => .tup [.slice 1 ((acc ++ m).map byteRow), .bool (decide (l.length % 2 = 0))]
  | none => .tup [.slice 1 [], .bool false]
@[go_sem] theorem e62 (l : List UInt8) (hl : l.length ≤ 1000000000000) : fn C 62 [] [.str l] = some (unpK l [] (unpR l), []) := by
  rw [fn_text Tryz.func62 rfl rfl Tryz.results62 fq62.1 rfl rfl (by kernel_rfl)]
  simp -implicitDefEqProofs -dsimp +contextual (maxSteps := 9999999) (disch := first | omega | simp only [go_sem] <;> omega | refine ib ?_; kernel_rfl) only [go_sem, seval, ↓reduceIte]
  refine (kLoop_rec2 (fun (i : Nat) (acc : List UInt8) f H => f 0 = .str l ∧ ((i = 0 ∧ acc = [] ∧ f 4 = .sc (.slice none 0 0) ∧ H 137 = ⟨0, .dead, 0, [], false⟩) ∨ (i ≠ 0 ∧ f 4 = .osl 137 i 0 acc.length ∧ H 137 = ⟨i, .live, 1, acc.map byteRow, false⟩)) ∧ f 5 = .int .i64 ((2 * i : Nat) : Int) ∧ (H 136).gen = i ∧ acc.length = i ∧ 2 * i ≤ l.length) (fun i _ => l.length - 2 * i) (fun i acc => some (unpK l acc (unpR (l.drop (2 * i))), [])) ?_ 0 [] _ _ ⟨rfl, .inl ⟨rfl, rfl, rfl, rfl⟩, rfl, rfl, rfl, by omega⟩).trans rfl
  rintro i acc f H ⟨f0, hc, f5, g136, ha, hi⟩ ih
  by_cases h2 : 2 * i + 1 < l.length
  · rw [unpR_drop l (2 * i) h2]
    have i1 := idx_dig l[2 * i]
    have i2 := idx_dig l[2 * i + 1]
    by_cases d1 : digV l[2 * i] < 16
    · by_cases d2 : digV l[2 * i + 1] < 16
      · rw [if_pos d1] at i1
        rw [if_pos d2] at i2
        rw [if_pos ⟨d1, d2⟩]
        have fin : some (unpK l (acc ++ [UInt8.ofNat (16 * digV l[2 * i] + digV l[2 * i + 1])]) (unpR (l.drop (2 * (i + 1)))), ([] : List AVal)) = some (unpK l acc ((unpR (l.drop (2 * i + 2))).map fun m => UInt8.ofNat (16 * digV l[2 * i] + digV l[2 * i + 1]) :: m), []) := by
          rw [show 2 * (i + 1) = 2 * i + 2 by omega]
          cases unpR (l.drop (2 * i + 2)) <;> simp [unpK]
        rcases hc with ⟨rfl, rfl, f4, H137⟩ | ⟨h0, f4, H137⟩
        · simp -implicitDefEqProofs -dsimp +contextual (maxSteps := 9999999) (disch := first | omega | simp only [go_sem] <;> omega | refine ib ?_; kernel_rfl) only [go_sem, seval, ↓reduceIte, f0, f4, f5, H137, g136, h2, i1, i2, d1, d2, i64_or4, i64_shl4, u8_wrap, Nat.not_lt_zero]
          refine Eq.trans (ih (0 + 1) ([] ++ [UInt8.ofNat (16 * digV l[0] + digV l[1])]) _ _ (by exact ⟨f0, .inr ⟨by omega, rfl, rfl⟩, rfl, rfl, rfl, by omega⟩) (by omega)) fin
        · simp -implicitDefEqProofs -dsimp +contextual (maxSteps := 9999999) (disch := first | omega | simp only [go_sem] <;> omega | refine ib ?_; kernel_rfl) only [go_sem, seval, ↓reduceIte, f0, f4, f5, H137, g136, h2, i1, i2, d1, d2, i64_or4, i64_shl4, u8_wrap, ha, Nat.not_lt_zero]
          refine Eq.trans (ih (i + 1) (acc ++ [UInt8.ofNat (16 * digV l[2 * i] + digV l[2 * i + 1])]) _ _ (by exact ⟨f0, .inr ⟨by omega, by simp [ha, upd, restr], rfl⟩, rfl, rfl, by simp [ha], by omega⟩) (by omega)) fin
      · rw [if_pos d1] at i1
        rw [if_neg d2] at i2
        rw [if_neg (fun h => d2 h.2)]
        simp -implicitDefEqProofs -dsimp +contextual (maxSteps := 9999999) (disch := first | omega | simp only [go_sem] <;> omega | refine ib ?_; kernel_rfl) only [go_sem, seval, ↓reduceIte, f0, f5, g136, h2, i1, i2, d1, d2, Nat.not_lt_zero]
        rfl
    · rw [if_neg d1] at i1
      rw [if_neg (fun h => d1 h.1)]
      by_cases d2 : digV l[2 * i + 1] < 16
      · rw [if_pos d2] at i2
        simp -implicitDefEqProofs -dsimp +contextual (maxSteps := 9999999) (disch := first | omega | simp only [go_sem] <;> omega | refine ib ?_; kernel_rfl) only [go_sem, seval, ↓reduceIte, f0, f5, g136, h2, i1, i2, d1, d2, Nat.not_lt_zero]
        rfl
      · rw [if_neg d2] at i2
        simp -implicitDefEqProofs -dsimp +contextual (maxSteps := 9999999) (disch := first | omega | simp only [go_sem] <;> omega | refine ib ?_; kernel_rfl) only [go_sem, seval, ↓reduceIte, f0, f5, g136, h2, i1, i2, d1, d2, Nat.not_lt_zero]
        rfl
  · rw [unpR_end l (2 * i) h2]
    rcases hc with ⟨rfl, rfl, f4, H137⟩ | ⟨h0, f4, H137⟩
    · simp -implicitDefEqProofs -dsimp +contextual (maxSteps := 9999999) (disch := first | omega | simp only [go_sem] <;> omega | refine ib ?_; kernel_rfl) only [go_sem, seval, ↓reduceIte, f0, f4, f5, h2]
      simp [unpK]
    · simp -implicitDefEqProofs -dsimp +contextual (maxSteps := 9999999) (disch := first | omega | simp only [go_sem] <;> omega | refine ib ?_; kernel_rfl) only [go_sem, seval, ↓reduceIte, f0, f4, f5, H137, h2, ha]
      simp [unpK]
def hexV (l : List UInt8) : Nat := l.foldl (fun n c => n * 16 + digV c) 0
def digOk (c : UInt8) : Bool := decide (digV c < 16)
theorem hexV_take (l : List UInt8) (i : Nat) (h : i < l.length) : hexV (l.take (i + 1)) = hexV (l.take i) * 16 + digV l[i] := by
  rw [List.take_succ_eq_append_getElem h, hexV, List.foldl_append]; rfl
theorem hexV_lt (l : List UInt8) (h : l.all digOk = true) : hexV l < 16 ^ l.length := by
  have : ∀ (l : List UInt8) (a : Nat), l.all digOk = true → l.foldl (fun n c => n * 16 + digV c) a < (a + 1) * 16 ^ l.length := by
    intro l
    induction l with
    | nil => intro a _; simp
    | cons x l ih =>
      intro a h
      simp only [List.all_cons, Bool.and_eq_true, digOk, decide_eq_true_eq] at h
      refine Nat.lt_of_lt_of_le (ih _ h.2) ?_
      rw [List.length_cons, Nat.pow_succ, Nat.mul_comm (16 ^ l.length), ← Nat.mul_assoc]
      exact Nat.mul_le_mul_right _ (by simp only; omega)
  simpa [hexV] using this l 0 h
theorem unp_cases : ∀ (n : Nat) (l : List UInt8), l.length ≤ n → l.length % 2 = 0 → (l.all digOk = true ∧ ∃ m, unpR l = some m ∧ m.length * 2 = l.length ∧ ∀ a, m.foldl (fun n c => n * 256 + c.toNat) a = l.foldl (fun n c => n * 16 + digV c) a) ∨ (l.all digOk = false ∧ unpR l = none)
  | _, [], _, _ => .inl ⟨rfl, [], rfl, rfl, fun _ => rfl⟩
  | _, [_], _, h => by simp at h
  | 0, _ :: _ :: _, h, _ => by simp at h
  | n + 1, a :: b :: l, h, h2 => by
    simp only [List.length_cons] at h h2
    have hall : (a :: b :: l).all digOk = (digOk a && (digOk b && l.all digOk)) := rfl
    rw [hall, unpR]
    by_cases ha : digV a < 16
    · have da : digOk a = true := by simp [digOk, ha]
      by_cases hb : digV b < 16
      · have db : digOk b = true := by simp [digOk, hb]
        rw [if_pos ⟨ha, hb⟩, da, db]
        rcases unp_cases n l (by omega) (by omega) with ⟨h3, m, h4, h5, h6⟩ | ⟨h3, h4⟩
        · left
          refine ⟨by rw [h3]; rfl, _, by rw [h4]; rfl, by simp only [List.length_cons]; omega, fun x => ?_⟩
          simp only [List.foldl_cons]
          rw [h6]
          congr 1
          have : (UInt8.ofNat (16 * digV a + digV b)).toNat = 16 * digV a + digV b := by simp [UInt8.toNat_ofNat']; omega
          rw [this]; omega
        · right
          exact ⟨by rw [h3]; rfl, by rw [h4]; rfl⟩
      · right
        have db : digOk b = false := by simp [digOk]; omega
        exact ⟨by rw [db]; simp, by rw [if_neg (fun h => hb h.2)]⟩
    · right
      have da : digOk a = false := by simp [digOk]; omega
      exact ⟨by rw [da]; simp, by rw [if_neg (fun h => ha h.1)]⟩
theorem unp_odd : ∀ (n : Nat) (l : List UInt8), l.length ≤ n → l.length % 2 = 1 → ∀ acc, ∃ m : List UInt8, unpK l acc (unpR l) = .tup [.slice 1 (m.map byteRow), .bool false] ∧ m.length ≤ acc.length + l.length := by
  intro n l _ h acc
  cases hu : unpR l with
  | none => exact ⟨[], rfl, by simp⟩
  | some m => 
    have : ∀ (n : Nat) (l m : List UInt8), l.length ≤ n → unpR l = some m → m.length ≤ l.length := by
      intro n
      induction n with
      | zero => intro l m h hm; cases l <;> simp_all [unpR]
      | succ n ih =>
        intro l m h hm
        match l, h, hm with
        | [], _, hm => simp only [unpR, Option.some.injEq] at hm; subst hm; simp
        | [_], _, hm => simp only [unpR, Option.some.injEq] at hm; subst hm; simp
        | a :: b :: l, h, hm =>
          simp only [unpR] at hm
          split at hm
          · rw [Option.map_eq_some_iff] at hm
            obtain ⟨m', h1, rfl⟩ := hm
            have := ih l m' (by simp at h; omega) h1
            simp; omega
          · cases hm
    have hl := this _ l m (Nat.le_refl _) hu
    exact ⟨acc ++ m, by simp [unpK, h], by simp; omega⟩
def readHexR (l : List UInt8) : AVal := if l.length = 16 ∧ l.all digOk = true then .tup [.int .u64 (hexV l : Int), .bool true] else .tup [.int .u64 0, .bool false]
@[go_sem] theorem e42 (l : List UInt8) (hl : l.length ≤ 1000000000000) : fn C 42 [] [.str l] = some (readHexR l, []) := by
  rw [fn_text Tryz.func42 rfl rfl Tryz.results42 fq42.1 rfl rfl (by kernel_rfl)]
  by_cases h2 : l.length % 2 = 0
  · rcases unp_cases _ l (Nat.le_refl _) h2 with ⟨h3, m, h4, h5, h6⟩ | ⟨h3, h4⟩
    · by_cases h16 : l.length = 16
      · have hu : unpK l [] (unpR l) = .tup [.slice 1 (m.map byteRow), .bool true] := by rw [h4]; simp [unpK, h2]
        have hm : m.length = 8 := by omega
        simp -implicitDefEqProofs -dsimp +contextual (maxSteps := 9999999) (disch := first | omega | simp only [go_sem] <;> omega | refine ib ?_; kernel_rfl) only [go_sem, seval, ↓reduceIte, hu, h16, hm]
        have hv : hexV l = beV m := (h6 0).symm
        rw [readHexR, if_pos ⟨h16, h3⟩, hv]
        refine (kLoop_rec (fun (i : Nat) f H => f 6 = .int .u64 (beV (m.take i) : Int) ∧ f 21 = .slice 1 (m.map byteRow) ∧ f 22 = .int .i64 8 ∧ f 23 = .int .i64 (i : Int) ∧ i ≤ 8) (fun i => 8 - i) (fun _ => some (.tup [.int .u64 (beV m : Int), .bool true], [])) ?_ 0 _ _ ⟨rfl, rfl, rfl, rfl, by omega⟩)
        rintro i f H ⟨f6, f21, f22, f23, hi⟩ ih
        by_cases hl : i < 8
        · have hb := beV_lt (m.take i)
          have h7 : beV (m.take i) < 72057594037927936 := Nat.lt_of_lt_of_le hb (by
            rw [List.length_take, Nat.min_eq_left (by omega)]
            exact Nat.le_trans (Nat.pow_le_pow_right (by decide) (show i ≤ 7 by omega)) (by decide))
          have hc := u8_lt (m[i]'(by omega))
          have ht := beV_take m i (by omega)
          simp -implicitDefEqProofs -dsimp +contextual (maxSteps := 9999999) (disch := first | omega | simp only [go_sem] <;> omega | refine ib ?_; kernel_rfl) only [go_sem, seval, ↓reduceIte, f6, f21, f22, f23, hl, hm, u64_shl8, u64_or8, UInt8.toNat_toUInt64]
          rw [← ht]
          exact ih (i + 1) _ _ ⟨rfl, f21, f22, rfl, by omega⟩ (by omega)
        · obtain rfl : i = 8 := by omega
          rw [List.take_of_length_le (by omega)] at f6
          simp -implicitDefEqProofs -dsimp +contextual (maxSteps := 9999999) (disch := first | omega | simp only [go_sem] <;> omega | refine ib ?_; kernel_rfl) only [go_sem, seval, ↓reduceIte, f6, f21, f22, f23, hl, hm]
      · have hu : unpK l [] (unpR l) = .tup [.slice 1 (m.map byteRow), .bool true] := by rw [h4]; simp [unpK, h2]
        simp -implicitDefEqProofs -dsimp +contextual (maxSteps := 9999999) (disch := first | omega | simp only [go_sem] <;> omega | refine ib ?_; kernel_rfl) only [go_sem, seval, ↓reduceIte, hu, h16]
        rw [readHexR, if_neg (fun h => h16 h.1)]
    · have hu : unpK l [] (unpR l) = .tup [.slice 1 [], .bool false] := by rw [h4]; rfl
      simp -implicitDefEqProofs -dsimp +contextual (maxSteps := 9999999) (disch := first | omega | simp only [go_sem] <;> omega | refine ib ?_; kernel_rfl) only [go_sem, seval, ↓reduceIte, hu]
      rw [readHexR, if_neg (by simp [h3])]
  · obtain ⟨m, hu, _⟩ := unp_odd _ l (Nat.le_refl _) (by omega) []
    simp -implicitDefEqProofs -dsimp +contextual (maxSteps := 9999999) (disch := first | omega | simp only [go_sem] <;> omega | refine ib ?_; kernel_rfl) only [go_sem, seval, ↓reduceIte, hu]
    rw [readHexR, if_neg (by omega)]
@[go_sem] theorem e44 (l : List UInt8) (hl : l.length ≤ 1000000000000) : fn C 44 [] [.str l] = some (readHexR l, []) := by
  rw [fn_text Tryz.func44 rfl rfl Tryz.results44 fq44.1 rfl rfl (by kernel_rfl)]
  by_cases h16 : l.length = 16
  · simp -implicitDefEqProofs -dsimp +contextual (maxSteps := 9999999) (disch := first | omega | simp only [go_sem] <;> omega | refine ib ?_; kernel_rfl) only [go_sem, seval, ↓reduceIte, h16]
    refine (kLoop_rec (fun (i : Nat) f H => f 0 = .str l ∧ f 4 = .int .u64 (hexV (l.take i) : Int) ∧ f 5 = .int .i64 (i : Int) ∧ i ≤ 16 ∧ (l.take i).all digOk = true) (fun i => 16 - i) (fun i => some (readHexR l, [])) ?_ 0 _ _ ⟨rfl, rfl, rfl, by omega, rfl⟩)
    rintro i f H ⟨f0, f4, f5, hi, ha⟩ ih
    by_cases hl : i < 16
    · have hb := hexV_lt (l.take i) ha
      have h7 : hexV (l.take i) < 1152921504606846976 := Nat.lt_of_lt_of_le hb (by
        rw [List.length_take, Nat.min_eq_left (by omega)]
        exact Nat.le_trans (Nat.pow_le_pow_right (by decide) (show i ≤ 15 by omega)) (by decide))
      have ht := hexV_take l i (by omega)
      have hle := digV_le (l[i]'(by omega))
      by_cases hd : digV (l[i]'(by omega)) = 16
      · simp -implicitDefEqProofs -dsimp +contextual (maxSteps := 9999999) (disch := first | omega | simp only [go_sem] <;> omega | refine ib ?_; kernel_rfl) only [go_sem, seval, ↓reduceIte, f0, f4, f5, hl, h16, hd]
        rw [readHexR, if_neg]
        rintro ⟨_, h⟩
        have := List.all_eq_true.1 h l[i] (List.getElem_mem (by omega))
        simp only [digOk, decide_eq_true_eq] at this
        omega
      · simp -implicitDefEqProofs -dsimp +contextual (maxSteps := 9999999) (disch := first | omega | simp only [go_sem] <;> omega | refine ib ?_; kernel_rfl) only [go_sem, seval, ↓reduceIte, f0, f4, f5, hl, h16, hd]
        rw [← ht]
        refine ih (i + 1) _ _ ⟨f0, rfl, rfl, by omega, ?_⟩ (by omega)
        rw [List.take_succ_eq_append_getElem (by omega), List.all_append, ha]
        simp [digOk]; omega
    · obtain rfl : i = 16 := by omega
      rw [List.take_of_length_le (by omega)] at f4 ha
      simp -implicitDefEqProofs -dsimp +contextual (maxSteps := 9999999) (disch := first | omega | simp only [go_sem] <;> omega | refine ib ?_; kernel_rfl) only [go_sem, seval, ↓reduceIte, f0, f4, f5, hl, h16]
      rw [readHexR, if_pos ⟨h16, ha⟩]
  · simp -implicitDefEqProofs -dsimp +contextual (maxSteps := 9999999) (disch := first | omega | simp only [go_sem] <;> omega | refine ib ?_; kernel_rfl) only [go_sem, seval, ↓reduceIte, h16]
    rw [readHexR, if_neg (fun h => h16 h.1)]
def readBytesR (l : List UInt8) : AVal :=
  if l = [45] then .tup [.slice 1 [], .bool true]
  else if l.length = 0 ∨ l.length % 2 = 1 ∨ 8192 < l.length then .tup [.slice 1 [], .bool false]
  else match unpR l with
    | some m => .tup [.slice 1 (m.map byteRow), .bool true]
    | none => .tup [.slice 1 [], .bool false]
@[go_sem] theorem e117 (l : List UInt8) (hl : l.length ≤ 1000000000000) : fn C 117 [] [.str l] = some (readBytesR l, []) := by
  rw [fn_text Tryz.func117 rfl rfl Tryz.results117 fq117.1 rfl rfl (by kernel_rfl)]
  by_cases h1 : l = [45]
  · simp -implicitDefEqProofs -dsimp +contextual (maxSteps := 9999999) (disch := first | omega | simp only [go_sem] <;> omega | refine ib ?_; kernel_rfl) only [go_sem, seval, ↓reduceIte, h1]
    rfl
  · rw [readBytesR, if_neg h1]
    by_cases h0 : l = []
    · subst h0
      simp -implicitDefEqProofs -dsimp +contextual (maxSteps := 9999999) (disch := first | omega | simp only [go_sem] <;> omega | refine ib ?_; kernel_rfl) only [go_sem, seval, ↓reduceIte]
    · have h0' : l.length ≠ 0 := by simpa using h0
      by_cases h8 : 8192 < l.length
      · simp -implicitDefEqProofs -dsimp +contextual (maxSteps := 9999999) (disch := first | omega | simp only [go_sem] <;> omega | refine ib ?_; kernel_rfl) only [go_sem, seval, ↓reduceIte, h1, h0, h8]
      · by_cases h2 : l.length % 2 = 0
        · rcases unp_cases _ l (Nat.le_refl _) h2 with ⟨h3, m, h4, h5, h6⟩ | ⟨h3, h4⟩
          · have hu : unpK l [] (unpR l) = .tup [.slice 1 (m.map byteRow), .bool true] := by rw [h4]; simp [unpK, h2]
            rw [if_neg (by omega), h4]
            simp -implicitDefEqProofs -dsimp +contextual (maxSteps := 9999999) (disch := first | omega | simp only [go_sem] <;> omega | refine ib ?_; kernel_rfl) only [go_sem, seval, ↓reduceIte, h1, h0, h8, hu]
          · have hu : unpK l [] (unpR l) = .tup [.slice 1 [], .bool false] := by rw [h4]; rfl
            rw [if_neg (by omega), h4]
            simp -implicitDefEqProofs -dsimp +contextual (maxSteps := 9999999) (disch := first | omega | simp only [go_sem] <;> omega | refine ib ?_; kernel_rfl) only [go_sem, seval, ↓reduceIte, h1, h0, h8, hu]
        · obtain ⟨m, hu, _⟩ := unp_odd _ l (Nat.le_refl _) (by omega) []
          simp -implicitDefEqProofs -dsimp +contextual (maxSteps := 9999999) (disch := first | omega | simp only [go_sem] <;> omega | refine ib ?_; kernel_rfl) only [go_sem, seval, ↓reduceIte, h1, h0, h8, hu, show l.length % 2 = 1 by omega]
theorem digw (a b : Nat) (ha : a ≤ 16) (hb : b ≤ 16) : IntKind.u8.wrap (IntKind.i64.wrap (IntKind.i64.wrap ((16 * a : Nat) : Int) + (b : Int))) = ((UInt8.ofNat (16 * a + b)).toNat : Int) := by
  rw [IntKind.wrap_u8, IntKind.wrap_i64, IntKind.wrap_i64]
  simp only [UInt8.toNat_ofNat']
  omega
def rbK (acc : List UInt8) : Option (List UInt8) → AVal
  | some m => .tup [.slice 1 ((acc ++ m).map byteRow), .bool true]
  | none => .tup [.slice 1 [], .bool false]
@[go_sem] theorem e99 (l : List UInt8) (hl : l.length ≤ 1000000000000) : fn C 99 [] [.str l] = some (readBytesR l, []) := by
  rw [fn_text Tryz.func99 rfl rfl Tryz.results99 fq99.1 rfl rfl (by kernel_rfl)]
  by_cases h1 : l = [45]
  · simp -implicitDefEqProofs -dsimp +contextual (maxSteps := 9999999) (disch := first | omega | simp only [go_sem] <;> omega | refine ib ?_; kernel_rfl) only [go_sem, seval, ↓reduceIte, h1]
    rfl
  · rw [readBytesR, if_neg h1]
    by_cases h0 : l.length = 0
    · obtain rfl : l = [] := by simpa using h0
      simp -implicitDefEqProofs -dsimp +contextual (maxSteps := 9999999) (disch := first | omega | simp only [go_sem] <;> omega | refine ib ?_; kernel_rfl) only [go_sem, seval, ↓reduceIte]
    · by_cases h2 : l.length % 2 = 1
      · simp -implicitDefEqProofs -dsimp +contextual (maxSteps := 9999999) (disch := first | omega | simp only [go_sem] <;> omega | refine ib ?_; kernel_rfl) only [go_sem, seval, ↓reduceIte, h1, h0, h2]
      · by_cases h8 : 8192 < l.length
        · simp -implicitDefEqProofs -dsimp +contextual (maxSteps := 9999999) (disch := first | omega | simp only [go_sem] <;> omega | refine ib ?_; kernel_rfl) only [go_sem, seval, ↓reduceIte, h1, h0, h2, h8]
        · simp -implicitDefEqProofs -dsimp +contextual (maxSteps := 9999999) (disch := first | omega | simp only [go_sem] <;> omega | refine ib ?_; kernel_rfl) only [go_sem, seval, ↓reduceIte, h1, h0, h2, h8]
          refine (kLoop_rec2 (fun (i : Nat) (acc : List UInt8) f H => f 0 = .str l ∧ ((i = 0 ∧ acc = [] ∧ f 4 = .sc (.slice none 0 0) ∧ H 155 = ⟨0, .dead, 0, [], false⟩) ∨ (i ≠ 0 ∧ f 4 = .osl 155 i 0 acc.length ∧ H 155 = ⟨i, .live, 1, acc.map byteRow, false⟩)) ∧ f 5 = .int .i64 ((2 * i : Nat) : Int) ∧ (H 154).gen = i ∧ acc.length = i ∧ 2 * i ≤ l.length) (fun i _ => l.length - 2 * i) (fun i acc => some (rbK acc (unpR (l.drop (2 * i))), [])) ?_ 0 [] _ _ ⟨rfl, .inl ⟨rfl, rfl, rfl, rfl⟩, rfl, rfl, rfl, by omega⟩).trans (by simp [rbK])
          rintro i acc f H ⟨f0, hc, f5, g, ha, hi⟩ ih
          by_cases h2 : 2 * i < l.length
          · have h3 : 2 * i + 1 < l.length := by omega
            have hd1 := digV_le l[2 * i]
            have hd2 := digV_le l[2 * i + 1]
            rw [unpR_drop l (2 * i) h3]
            by_cases d1 : digV l[2 * i] = 16
            · rw [if_neg (by omega)]
              simp -implicitDefEqProofs -dsimp +contextual (maxSteps := 9999999) (disch := first | omega | simp only [go_sem] <;> omega | refine ib ?_; kernel_rfl) only [go_sem, seval, ↓reduceIte, f0, f5, g, h2, h3, d1]
              rfl
            · by_cases d2 : digV l[2 * i + 1] = 16
              · rw [if_neg (by omega)]
                simp -implicitDefEqProofs -dsimp +contextual (maxSteps := 9999999) (disch := first | omega | simp only [go_sem] <;> omega | refine ib ?_; kernel_rfl) only [go_sem, seval, ↓reduceIte, f0, f5, g, h2, h3, d1, d2]
                rfl
              · rw [if_pos (by omega)]
                have fin : some (rbK (acc ++ [UInt8.ofNat (16 * digV l[2 * i] + digV l[2 * i + 1])]) (unpR (l.drop (2 * (i + 1)))), ([] : List AVal)) = some (rbK acc ((unpR (l.drop (2 * i + 2))).map fun m => UInt8.ofNat (16 * digV l[2 * i] + digV l[2 * i + 1]) :: m), []) := by
                  rw [show 2 * (i + 1) = 2 * i + 2 by omega]
                  cases unpR (l.drop (2 * i + 2)) <;> simp [rbK]
                rcases hc with ⟨rfl, rfl, f4, H137⟩ | ⟨h0, f4, H137⟩
                · simp -implicitDefEqProofs -dsimp +contextual (maxSteps := 9999999) (disch := first | omega | simp only [go_sem] <;> omega | refine ib ?_; kernel_rfl) only [go_sem, seval, ↓reduceIte, f0, f4, f5, H137, g, h2, h3, d1, d2, digw, u8_wrap]
                  refine Eq.trans (ih (0 + 1) ([] ++ [UInt8.ofNat (16 * digV l[0] + digV l[1])]) _ _ (by exact ⟨f0, .inr ⟨by omega, rfl, rfl⟩, rfl, rfl, rfl, by omega⟩) (by omega)) fin
                · simp -implicitDefEqProofs -dsimp +contextual (maxSteps := 9999999) (disch := first | omega | simp only [go_sem] <;> omega | refine ib ?_; kernel_rfl) only [go_sem, seval, ↓reduceIte, f0, f4, f5, H137, g, h2, h3, d1, d2, digw, u8_wrap, ha]
                  refine Eq.trans (ih (i + 1) (acc ++ [UInt8.ofNat (16 * digV l[2 * i] + digV l[2 * i + 1])]) _ _ (by exact ⟨f0, .inr ⟨by omega, by simp [ha, upd, restr], rfl⟩, rfl, rfl, by simp [ha], by omega⟩) (by omega)) fin
          · rw [unpR_end l (2 * i) (by omega)]
            rcases hc with ⟨rfl, rfl, f4, H137⟩ | ⟨h0, f4, H137⟩
            · simp -implicitDefEqProofs -dsimp +contextual (maxSteps := 9999999) (disch := first | omega | simp only [go_sem] <;> omega | refine ib ?_; kernel_rfl) only [go_sem, seval, ↓reduceIte, f0, f4, f5, h2]
              simp [rbK]
            · simp -implicitDefEqProofs -dsimp +contextual (maxSteps := 9999999) (disch := first | omega | simp only [go_sem] <;> omega | refine ib ?_; kernel_rfl) only [go_sem, seval, ↓reduceIte, f0, f4, f5, H137, h2, ha]
              simp [rbK]
def fillTo (l : List UInt8) (m : Nat) : List UInt8 := l.take m ++ List.replicate (l.length - m) 0
theorem fillTo_len (l : List UInt8) (m : Nat) (h : m ≤ l.length) : (fillTo l m).length = l.length := by simp [fillTo]; omega
theorem fillTo_zero (l : List UInt8) : fillTo l 0 = List.replicate l.length 0 := by simp [fillTo]
theorem fillTo_all (l : List UInt8) (m : Nat) (h : l.length ≤ m) : fillTo l m = l := by simp [fillTo, List.take_of_length_le h, show l.length - m = 0 by omega]
theorem fillTo_set (l : List UInt8) (m : Nat) (h : m < l.length) : (fillTo l m).set m l[m] = fillTo l (m + 1) := by
  unfold fillTo
  rw [List.set_append_right _ _ (by simp; omega), show l.length - m = (l.length - (m + 1)) + 1 by omega, List.replicate_succ, List.length_take, Nat.min_eq_left (by omega), Nat.sub_self, List.set_cons_zero, List.take_succ_eq_append_getElem h, List.append_assoc]
  rfl
def bytesR (l : List UInt8) : List UInt8 := if l = [] then [45] else pairsR l
@[go_sem] theorem e38 (l : List UInt8) (hl : l.length ≤ 1000000000000) : fn C 38 [] [.slice 1 (l.map byteRow)] = some (.str (bytesR l), []) := by
  rw [fn_text Tryz.func38 rfl rfl Tryz.results38 fq38.1 rfl rfl (by kernel_rfl)]
  by_cases h : l = []
  · subst h
    simp -implicitDefEqProofs -dsimp +contextual (maxSteps := 9999999) (disch := first | omega | simp only [go_sem] <;> omega | refine ib ?_; kernel_rfl) only [go_sem, seval, ↓reduceIte]
    rfl
  · have h0 : ¬ l.length = 0 := by simpa using h
    simp -implicitDefEqProofs -dsimp +contextual (maxSteps := 9999999) (disch := first | omega | simp only [go_sem] <;> omega | refine ib ?_; kernel_rfl) only [go_sem, seval, ↓reduceIte, h0]
    rw [bytesR, if_neg h]
theorem pairsR_get (l : List UInt8) (i : Nat) (h : i < l.length) : (pairsR l)[2 * i]'(by rw [pairsR_len]; omega) = hexd (l[i].toNat / 16) ∧ (pairsR l)[2 * i + 1]'(by rw [pairsR_len]; omega) = hexd (l[i].toNat % 16) := by
  have e : pairsR l = pairsR (l.take i) ++ ([hexd (l[i].toNat / 16), hexd (l[i].toNat % 16)] ++ pairsR (l.drop (i + 1))) := by
    rw [← List.append_assoc, ← pairsR_take l i h]
    unfold pairsR
    rw [← List.flatMap_append, List.take_append_drop]
  have hl : (pairsR (l.take i)).length = 2 * i := by rw [pairsR_len, List.length_take]; omega
  constructor
  · rw [List.getElem_of_eq e, List.getElem_append_right (by omega)]; simp [hl]
  · rw [List.getElem_of_eq e, List.getElem_append_right (by omega)]; simp [hl]
@[go_sem] theorem e15 (l : List UInt8) (hl : l.length ≤ 1000000000000) : fn C 15 [] [.slice 1 (l.map byteRow)] = some (.str (bytesR l), []) := by
  rw [fn_text Tryz.func15 rfl rfl Tryz.results15 fq15.1 rfl rfl (by kernel_rfl)]
  by_cases h : l = []
  · subst h
    simp -implicitDefEqProofs -dsimp +contextual (maxSteps := 9999999) (disch := first | omega | simp only [go_sem] <;> omega | refine ib ?_; kernel_rfl) only [go_sem, seval, ↓reduceIte]
    rfl
  · have h0 : ¬ l.length = 0 := by simpa using h
    simp -implicitDefEqProofs -dsimp +contextual (maxSteps := 9999999) (disch := first | omega | simp only [go_sem] <;> omega | refine ib ?_; kernel_rfl) only [go_sem, seval, ↓reduceIte, h0]
    rw [bytesR, if_neg h]
    obtain ⟨A, hA⟩ : ∃ A, A = pairsR l := ⟨_, rfl⟩
    have hlen : A.length = 2 * l.length := by rw [hA, pairsR_len]
    have hg : ∀ i (h : i < l.length), A[2 * i]'(by omega) = hexd (l[i].toNat / 16) ∧ A[2 * i + 1]'(by omega) = hexd (l[i].toNat % 16) := by subst hA; exact pairsR_get l
    rw [← hA]
    have z1 := fillTo_zero A
    rw [hlen] at z1
    refine kLoop_rec (fun (i : Nat) f H => f 0 = .slice 1 (l.map byteRow) ∧ f 3 = .osl 111 1 0 (2 * l.length) ∧ f 4 = .int .i64 (i : Int) ∧ H 111 = ⟨1, .live, 1, (fillTo A (2 * i)).map byteRow, true⟩ ∧ i ≤ l.length) (fun i => l.length - i) (fun _ => some (.str A, [])) ?_ 0 _ _ ?_
    · rintro i f H ⟨f0, f3, f4, H111, hi⟩ ih
      have hf := fillTo_len A (2 * i) (by omega)
      have hf2 := fillTo_len A (2 * i + 1)
      by_cases hl : i < l.length
      · have hc := u8_lt (l[i]'(by omega))
        obtain ⟨g1, g2⟩ := hg i hl
        simp -implicitDefEqProofs -dsimp +contextual (maxSteps := 9999999) (disch := first | omega | simp only [go_sem] <;> omega | refine ib ?_; kernel_rfl) only [go_sem, seval, ↓reduceIte, f0, f3, f4, H111, hl, hf, hlen, h0]
        rw [← g1, fillTo_set _ _ (by omega), ← g2, fillTo_set _ _ (by omega), show 2 * i + 1 + 1 = 2 * (i + 1) by omega]
        exact ih (i + 1) _ _ ⟨f0, f3, rfl, rfl, by omega⟩ (by omega)
      · obtain rfl : i = l.length := by omega
        rw [fillTo_all _ _ (by omega)] at H111
        simp -implicitDefEqProofs -dsimp +contextual (maxSteps := 9999999) (disch := first | omega | simp only [go_sem] <;> omega | refine ib ?_; kernel_rfl) only [go_sem, seval, ↓reduceIte, f0, f3, f4, H111, hl, hf, hlen, h0]
    · refine ⟨rfl, rfl, rfl, ?_, by omega⟩
      rw [show 2 * 0 = 0 from rfl, z1]
      rfl
end Go.Proofs.YtclgfgnhcakhdaaGreatDoor
namespace Go.Proofs.YtclgfgnhcakhdaaGreatDoor
set_option maxHeartbeats 64000000
open Go.Am
set_option linter.unusedSimpArgs false
set_option linter.unusedVariables false
set_option maxRecDepth 100000
open Lib
def decB (c : UInt8) : Bool := decide (48 ≤ c.toNat) && decide (c.toNat ≤ 57)
def decV (l : List UInt8) : Nat := l.foldl (fun n c => n * 10 + (c.toNat - 48)) 0
theorem decV_app (l : List UInt8) (c : UInt8) : decV (l ++ [c]) = decV l * 10 + (c.toNat - 48) := by simp [decV, List.foldl_append]
theorem decV_take (l : List UInt8) (i : Nat) (h : i < l.length) : decV (l.take (i + 1)) = decV (l.take i) * 10 + (l[i].toNat - 48) := by
  rw [List.take_succ_eq_append_getElem h, decV_app]
theorem decV_cons (l : List UInt8) (h : l.all decB = true) : ∀ a, l.foldl (fun n c => n * 10 + (c.toNat - 48)) a = a * 10 ^ l.length + decV l := by
  induction l with
  | nil => intro a; simp [decV]
  | cons c l ih =>
    intro a
    have h2 : l.all decB = true := by simp only [List.all_cons, Bool.and_eq_true] at h; exact h.2
    simp only [List.foldl_cons, decV, List.length_cons]
    rw [ih h2, ih h2]
    rw [Nat.pow_succ, Nat.add_mul, Nat.add_mul, Nat.zero_mul, Nat.zero_add, Nat.mul_assoc a 10, Nat.mul_comm 10, Nat.add_assoc]
theorem decV_lt : ∀ (n : Nat) (l : List UInt8), l.length = n → l.all decB = true → decV l < 10 ^ n
  | 0, [], _, _ => by simp [decV]
  | n + 1, c :: l, h, ha => by
    simp only [List.all_cons, Bool.and_eq_true, decB, decide_eq_true_eq] at ha
    have ih := decV_lt n l (by simpa using h) ha.2
    have e : decV (c :: l) = (c.toNat - 48) * 10 ^ l.length + decV l := by
      rw [← decV_cons l ha.2]; simp [decV]
    rw [e, show l.length = n by simpa using h, Nat.pow_succ]
    have : (c.toNat - 48) * 10 ^ n ≤ 9 * 10 ^ n := Nat.mul_le_mul_right _ (by omega)
    omega
def plainD (l : List UInt8) : Bool := decide (l ≠ []) && l.all decB && !(decide (1 < l.length) && decide (l.head? = some 48))
theorem dec_of (u : Nat) : plainD (decDigits u) = true ∧ decV (decDigits u) = u ∧ (0 < u → (decDigits u).head? ≠ some 48) := by
  induction u using Nat.strongRecOn with
  | ind u ih =>
    rw [decDigits]
    split
    · rename_i h
      have : ∀ n : Fin 10, plainD [UInt8.ofNat (48 + n.val)] = true ∧ decV [UInt8.ofNat (48 + n.val)] = n.val ∧ (0 < n.val → [UInt8.ofNat (48 + n.val)].head? ≠ some 48) := by decide
      exact this ⟨u, h⟩
    · rename_i h
      obtain ⟨h1, h2, h3⟩ := ih (u / 10) (by omega)
      have h3 := h3 (by omega)
      have hd : ∀ n : Fin 10, (UInt8.ofNat (48 + n.val)).toNat = 48 + n.val := by decide
      have hd := hd ⟨u % 10, by omega⟩
      simp only at hd
      have hh : (decDigits (u / 10) ++ [UInt8.ofNat (48 + u % 10)]).head? = (decDigits (u / 10)).head? := by
        simp only [plainD, Bool.and_eq_true, decide_eq_true_eq] at h1
        cases hq : decDigits (u / 10) with
        | nil => exact absurd hq h1.1.1
        | cons a l => rfl
      refine ⟨?_, ?_, fun _ => by rw [hh]; exact h3⟩
      · simp only [plainD, Bool.and_eq_true, decide_eq_true_eq] at h1
        simp only [plainD, hh, List.all_append, h1.1.2, h3, decide_false, Bool.and_false, Bool.not_false, Bool.and_true, Bool.true_and]
        simp [decB, hd]; omega
      · rw [decV_app, h2, hd]; omega
theorem of_dec : ∀ (n : Nat) (l : List UInt8), l.length = n → plainD l = true → decDigits (decV l) = l := by
  intro n
  induction n with
  | zero => intro l h hp; obtain rfl : l = [] := by simpa using h
            simp [plainD] at hp
  | succ n ih =>
    intro l h hp
    have hne : l ≠ [] := by intro e; simp [e] at h
    obtain ⟨m, c, rfl⟩ : ∃ m c, l = m ++ [c] := ⟨l.dropLast, l.getLast hne, (List.dropLast_concat_getLast hne).symm⟩
    simp only [plainD, Bool.and_eq_true, List.all_append, List.all_cons, List.all_nil, Bool.and_true, decB, decide_eq_true_eq] at hp
    obtain ⟨⟨_, hm, hc1, hc2⟩, h48⟩ := hp
    have hcc : c = UInt8.ofNat (48 + (c.toNat - 48)) := by
      apply UInt8.toNat_inj.1
      have := u8_lt c
      simp [UInt8.toNat_ofNat']; omega
    rw [decV_app]
    cases m with
    | nil =>
      rw [decDigits, dif_pos (by simp [decV]; omega)]
      simp only [decV, List.foldl_nil, Nat.zero_mul, Nat.zero_add, List.nil_append]
      rw [← hcc]
    | cons a m =>
      have h48' : a ≠ 48 := by
        intro e
        simp [e] at h48
      have ham : decB a = true ∧ m.all decB = true := by simpa only [List.all_cons, Bool.and_eq_true] using hm
      have hpm : plainD (a :: m) = true := by
        have e1 : decB a = true := ham.1
        have e2 : m.all decB = true := ham.2
        unfold plainD
        rw [List.all_cons, e1, e2]
        simp [h48']
      have hpos : 0 < decV (a :: m) := by
        have e : decV (a :: m) = (a.toNat - 48) * 10 ^ m.length + decV m := by
          rw [← decV_cons m ham.2]; simp [decV]
        have ha := ham.1
        simp only [decB, Bool.and_eq_true, decide_eq_true_eq] at ha
        have hne : a.toNat ≠ 48 := fun e => h48' (UInt8.toNat_inj.1 e)
        rw [e]
        have : 0 < (a.toNat - 48) * 10 ^ m.length := Nat.mul_pos (by omega) (Nat.pow_pos (by decide))
        omega
      rw [decDigits, dif_neg (by omega), show (decV (a :: m) * 10 + (c.toNat - 48)) / 10 = decV (a :: m) by omega, show (decV (a :: m) * 10 + (c.toNat - 48)) % 10 = c.toNat - 48 by omega, ih (a :: m) (by simpa using h) hpm, ← hcc]
def signV (g : Bool) (n : Nat) : Int := if g = true then -(n : Int) else (n : Int)
def readNumR (g : Bool) (d : List UInt8) : Option Int :=
  if d.length ≤ 10 ∧ plainD d = true ∧ decV d ≤ 1073741824 ∧ ¬(g = true ∧ decV d = 0) then some (signV g (decV d)) else none
def textN (g : Bool) (d : List UInt8) : List UInt8 := if g = true then 45 :: d else d
theorem head45 (u : Nat) (t : List UInt8) : decDigits u ≠ 45 :: t := fun e => by
  have := (dec_of u).1
  rw [e] at this
  simp [plainD, decB] at this
theorem itoa_back (g : Bool) (d : List UInt8) (hd : g = false → d.head? ≠ some 45) : itoa (signV g (decV d)) = textN g d ↔ plainD d = true ∧ ¬(g = true ∧ decV d = 0) := by
  cases g with
  | false =>
    simp only [signV, textN, Bool.false_eq_true, if_false, false_and, not_false_eq_true, and_true]
    rw [show itoa ((decV d : Nat) : Int) = decDigits (decV d) by unfold itoa; rw [if_neg (by omega)]; simp]
    exact ⟨fun e => by have := (dec_of (decV d)).1; rwa [e] at this, fun h => of_dec _ d rfl h⟩
  | true =>
    simp only [signV, textN, if_true, true_and]
    by_cases h0 : decV d = 0
    · rw [h0, show itoa (-((0 : Nat) : Int)) = decDigits 0 from rfl]
      exact ⟨fun e => absurd e (head45 0 d), fun h => absurd rfl h.2⟩
    · rw [show itoa (-((decV d : Nat) : Int)) = 45 :: decDigits (decV d) by unfold itoa; rw [if_pos (by omega)]; simp]
      exact ⟨fun e => ⟨by have := (dec_of (decV d)).1; rw [List.cons.injEq] at e; rwa [e.2] at this, h0⟩, fun h => by rw [of_dec _ d rfl h.1]⟩
theorem read_itoa (k : Int) : ∃ g d, itoa k = textN g d ∧ (g = false → d.head? ≠ some 45) ∧ readNumR g d = if -1073741824 ≤ k ∧ k ≤ 1073741824 then some k else none := by
  have len : ∀ u : Nat, u ≤ 1073741824 → (decDigits u).length ≤ 10 := by
    intro u h
    have h1 := (dec_of u)
    rcases Nat.lt_or_ge 10 (decDigits u).length with hl | hl
    · exfalso
      have hp := h1.1
      obtain ⟨a, m, hq⟩ : ∃ a m, decDigits u = a :: m := by
        cases hq : decDigits u with
        | nil => rw [hq] at hl; simp at hl
        | cons a m => exact ⟨a, m, rfl⟩
      have hv := h1.2.1
      rw [hq] at hv hp hl
      have hne := h1.2.2
      rw [hq] at hne
      simp only [plainD, List.all_cons, Bool.and_eq_true, decide_eq_true_eq, decB] at hp
      have e : decV (a :: m) = (a.toNat - 48) * 10 ^ m.length + decV m := by
        rw [← decV_cons m hp.1.2.2]; simp [decV]
      have h48 : a ≠ 48 := by
        intro ea
        have := hp.2
        simp [ea] at this
        simp [this] at hl
      have hne : a.toNat ≠ 48 := fun e => h48 (UInt8.toNat_inj.1 e)
      have h10 : 10 ^ 10 ≤ 10 ^ m.length := Nat.pow_le_pow_right (by decide) (by simp at hl; omega)
      have : 1 * 10 ^ m.length ≤ (a.toNat - 48) * 10 ^ m.length := Nat.mul_le_mul_right _ (by omega)
      omega
    · exact hl
  by_cases h : k < 0
  · refine ⟨true, decDigits k.natAbs, by unfold itoa; rw [if_pos h]; rfl, (fun h => by cases h), ?_⟩
    obtain ⟨h1, h2, h3⟩ := dec_of k.natAbs
    unfold readNumR
    rw [h2, h1]
    by_cases hk : -1073741824 ≤ k
    · rw [if_pos ⟨len _ (by omega), rfl, by omega, by omega⟩, if_pos ⟨hk, by omega⟩]
      simp only [signV, if_true]
      congr 1; omega
    · rw [if_neg (by omega), if_neg (by omega)]
  · refine ⟨false, decDigits k.toNat, by unfold itoa; rw [if_neg h]; rfl, (fun _ => by
      intro e
      cases hq : decDigits k.toNat with
      | nil => rw [hq] at e; cases e
      | cons a m => rw [hq] at e; simp at e; exact head45 k.toNat m (by rw [hq, e])), ?_⟩
    obtain ⟨h1, h2, h3⟩ := dec_of k.toNat
    unfold readNumR
    rw [h2, h1]
    by_cases hk : k ≤ 1073741824
    · rw [if_pos ⟨len _ (by omega), rfl, by omega, by simp⟩, if_pos ⟨by omega, hk⟩]
      simp only [signV, Bool.false_eq_true, if_false]
      congr 1; omega
    · rw [if_neg (by omega), if_neg (by omega)]
@[go_sem] theorem e54 (n : Int) (h1 : -9223372036854775808 ≤ n) (h2 : n ≤ 9223372036854775807) : fn C 54 [] [.int .i64 n] = some (.str (itoa n), []) := by
  rw [fn_text Tryz.func54 rfl rfl Tryz.results54 fq54.1 rfl rfl (by kernel_rfl)]
  simp -implicitDefEqProofs -dsimp +contextual (maxSteps := 9999999) (disch := first | omega | simp only [go_sem] <;> omega | refine ib ?_; kernel_rfl) only [go_sem, seval, ↓reduceIte, h1, h2]
def d10S : List UInt8 := [48, 49, 50, 51, 52, 53, 54, 55, 56, 57]
@[go_sem] theorem d10S_fold : ([48, 49, 50, 51, 52, 53, 54, 55, 56, 57] : List UInt8) = d10S := rfl
@[go_sem] theorem d10S_len : d10S.length = 10 := rfl
@[go_sem] theorem d10S_cut (d : Nat) (h : d < 10) : (d10S.drop d).take (d + 1 - d) = decDigits d := by
  have : ∀ n : Fin 10, (d10S.drop n.val).take (n.val + 1 - n.val) = [UInt8.ofNat (48 + n.val)] := by decide
  rw [decDigits_one h]
  exact this ⟨d, h⟩
theorem dec_len (n : Nat) (h : n ≤ 9223372036854775808) : (decDigits n).length ≤ 21 := by
  have := itoa_length_le (-(n : Int)) (by omega) (by omega)
  by_cases h0 : n = 0
  · subst h0; rw [decDigits_one (by decide)]; decide
  · rw [itoa, if_pos (by omega)] at this
    simp at this; omega
theorem dec_step (n : Nat) (h : 10 ≤ n) : decDigits (n / 10) ++ decDigits (n % 10) = decDigits n := by
  rw [decDigits_one (show n % 10 < 10 by omega)]
  conv => rhs; rw [decDigits, dif_neg (by omega)]
theorem refNum_nat (n : Nat) (hn : n ≤ 9223372036854775807) : fn C 35 [] [.int .i64 (n : Int)] = some (.str (decDigits n), []) := by
  induction n using Nat.strongRecOn with
  | ind n ih =>
    rw [fn_text Tryz.func35 rfl rfl Tryz.results35 fq35.1 rfl rfl (by kernel_rfl)]
    by_cases h : 9 < n
    · have h1 := ih (n / 10) (by omega) (by omega)
      have h2 := ih (n % 10) (by omega) (by omega)
      have l1 := dec_len (n / 10) (by omega)
      have l2 := dec_len (n % 10) (by omega)
      simp -implicitDefEqProofs -dsimp +contextual (maxSteps := 9999999) (disch := first | omega | simp only [go_sem] <;> omega | refine ib ?_; kernel_rfl) only [go_sem, seval, ↓reduceIte, h, h1, h2, Nat.not_lt_zero]
      rw [dec_step n (by omega)]
    · simp -implicitDefEqProofs -dsimp +contextual (maxSteps := 9999999) (disch := first | omega | simp only [go_sem] <;> omega | refine ib ?_; kernel_rfl) only [go_sem, seval, ↓reduceIte, h, Nat.not_lt_zero]
theorem refNum_neg (n : Nat) (h1 : 1 ≤ n) (hn : n ≤ 9223372036854775808) : fn C 35 [] [.int .i64 (-(n : Int))] = some (.str (45 :: decDigits n), []) := by
  induction n using Nat.strongRecOn with
  | ind n ih =>
    rw [fn_text Tryz.func35 rfl rfl Tryz.results35 fq35.1 rfl rfl (by kernel_rfl)]
    by_cases h : n < 10
    · have h1 := refNum_nat n (by omega)
      have l1 := dec_len n (by omega)
      have hz : -(n : Int) < 0 := by omega
      have hz2 : -10 < -(n : Int) := by omega
      simp -implicitDefEqProofs -dsimp +contextual (maxSteps := 9999999) (disch := first | omega | simp only [go_sem] <;> omega | refine ib ?_; kernel_rfl) only [go_sem, seval, ↓reduceIte, h, h1, hz, hz2, Int.sub_neg, Int.zero_add]
    · have h2 := ih (n / 10) (by omega) (by omega) (by omega)
      have h3 := refNum_nat (n % 10) (by omega)
      have l1 := dec_len (n / 10) (by omega)
      have l2 := dec_len (n % 10) (by omega)
      have hz : -(n : Int) < 0 := by omega
      have hz2 : ¬ -10 < -(n : Int) := by omega
      have e1 : IntKind.i64.wrap ((-(n : Int)).tdiv 10) = -((n / 10 : Nat) : Int) := by
        rw [IntKind.wrap_i64, Int.neg_tdiv, show (n : Int).tdiv 10 = ((n / 10 : Nat) : Int) from rfl]; omega
      have e2 : (-(n : Int)).tmod 10 = -((n % 10 : Nat) : Int) := by
        rw [Int.neg_tmod, show (n : Int).tmod 10 = ((n % 10 : Nat) : Int) from rfl]
      simp -implicitDefEqProofs -dsimp +contextual (maxSteps := 9999999) (disch := first | omega | simp only [go_sem] <;> omega | refine ib ?_; kernel_rfl) only [go_sem, seval, ↓reduceIte, h, h2, h3, hz, hz2, e1, e2, Int.sub_neg, Int.zero_add]
      rw [dec_step n (by omega)]
@[go_sem] theorem e35 (n : Int) (h1 : -9223372036854775808 ≤ n) (h2 : n ≤ 9223372036854775807) : fn C 35 [] [.int .i64 n] = some (.str (itoa n), []) := by
  by_cases h : n < 0
  · have := refNum_neg n.natAbs (by omega) (by omega)
    rw [show -((n.natAbs : Nat) : Int) = n by omega] at this
    rw [this, itoa, if_pos h]
  · have := refNum_nat n.toNat (by omega)
    rw [show ((n.toNat : Nat) : Int) = n by omega] at this
    rw [this, itoa, if_neg h]
def rnV : Option Int → AVal
  | some v => .tup [.int .i64 v, .bool true]
  | none => .tup [.int .i64 0, .bool false]
def signOf (l : List UInt8) : Bool := decide (l.head? = some 45)
def digsOf (l : List UInt8) : List UInt8 := if l.head? = some 45 then l.tail else l
theorem text_of (l : List UInt8) : textN (signOf l) (digsOf l) = l := by
  cases l with
  | nil => rfl
  | cons a l =>
    by_cases h : a = 45
    · subst h; rfl
    · simp [signOf, digsOf, textN, h]
theorem head_of (l : List UInt8) (h : signOf l = false) : (digsOf l).head? ≠ some 45 := by
  simp only [signOf, decide_eq_false_iff_not] at h
  rw [digsOf, if_neg h]; exact h
theorem dig_dec (c : UInt8) : decB c = decide (digV c ≤ 9) := by
  have : ∀ n : Fin 256, decB (UInt8.ofNat n.val) = decide (digV (UInt8.ofNat n.val) ≤ 9) := by decide +kernel
  simpa using this ⟨c.toNat, c.toNat_lt⟩
theorem dig_val (c : UInt8) (h : decB c = true) : c.toNat - 48 = digV c := by
  simp only [decB, Bool.and_eq_true, decide_eq_true_eq] at h
  simp only [digV]; rw [if_pos ⟨h.1, h.2⟩]
theorem cut_trim (l : List UInt8) : trimPrefix l [45] = digsOf l ∧ hasPrefix l [45] = signOf l := by
  cases l with
  | nil => exact ⟨rfl, rfl⟩
  | cons a l =>
    by_cases h : a = 45
    · subst h; exact ⟨rfl, rfl⟩
    · have h' : ¬ (45 : UInt8) = a := fun e => h e.symm
      have hp : hasPrefix (a :: l) [45] = false := by simp [hasPrefix, List.isPrefixOf, h']
      exact ⟨by rw [trimPrefix, hp]; simp [digsOf, h], by rw [hp]; simp [signOf, h]⟩
theorem all_split {p : UInt8 → Bool} (l : List UInt8) (i : Nat) (h : i < l.length) (hp : p l[i] = false) : l.all p = false := by
  rw [List.all_eq_false]; exact ⟨l[i], List.getElem_mem h, by simp [hp]⟩
theorem readNum_bad (g : Bool) (d : List UInt8) (h : d.all decB = false) : readNumR g d = none := by
  rw [readNumR, if_neg]
  rintro ⟨_, h2, _⟩
  simp [plainD, h] at h2
theorem decV_small (d : List UInt8) (h : d.length ≤ 10) (ha : d.all decB = true) : decV d < 10000000000 :=
  Nat.lt_of_lt_of_le (decV_lt _ d rfl ha) (Nat.le_trans (Nat.pow_le_pow_right (by decide) h) (by decide))
@[go_sem] theorem e41 (l : List UInt8) (hl : l.length ≤ 1000000000000) : fn C 41 [] [.str l] = some (rnV (readNumR (signOf l) (digsOf l)), []) := by
  rw [fn_text Tryz.func41 rfl rfl Tryz.results41 fq41.1 rfl rfl (by kernel_rfl)]
  obtain ⟨c1, c2⟩ := cut_trim l
  have hb := itoa_back (signOf l) (digsOf l) (head_of l)
  rw [text_of] at hb
  generalize hd : digsOf l = d at *
  generalize hg : signOf l = g at *
  by_cases h10 : 10 < d.length
  · rw [readNumR, if_neg (by omega)]
    simp -implicitDefEqProofs -dsimp +contextual (maxSteps := 9999999) (disch := first | omega | simp only [go_sem] <;> omega | refine ib ?_; kernel_rfl) only [go_sem, seval, ↓reduceIte, c1, c2, h10]
    rfl
  · have hlen : d.length ≤ 10 := by omega
    simp -implicitDefEqProofs -dsimp +contextual (maxSteps := 9999999) (disch := first | omega | simp only [go_sem] <;> omega | refine ib ?_; kernel_rfl) only [go_sem, seval, ↓reduceIte, c1, c2, h10]
    refine (kLoop_rec (fun (i : Nat) f H => f 0 = .str l ∧ f 4 = .str d ∧ f 5 = .bool g ∧ f 6 = .int .i64 (decV (d.take i) : Int) ∧ f 17 = .int .i64 (d.length : Int) ∧ f 18 = .int .i64 (i : Int) ∧ i ≤ d.length ∧ (d.take i).all decB = true) (fun i => d.length - i) (fun _ => some (rnV (readNumR g d), [])) ?_ 0 _ _ ⟨rfl, rfl, rfl, rfl, rfl, rfl, by omega, rfl⟩)
    rintro i f H ⟨f0, f4, f5, f6, f17, f18, hi, ha⟩ ih
    have hsm := decV_small (d.take i) (by simp; omega) ha
    by_cases hl : i < d.length
    · have hc := u8_lt d[i]
      by_cases h48 : d[i].toNat < 48
      · rw [readNum_bad g d (all_split d i hl (by simp [decB]; omega))]
        simp -implicitDefEqProofs -dsimp +contextual (maxSteps := 9999999) (disch := first | omega | simp only [go_sem] <;> omega | refine ib ?_; kernel_rfl) only [go_sem, seval, ↓reduceIte, f0, f4, f5, f6, f17, f18, hl, h48]
        rfl
      · by_cases h57 : 57 < d[i].toNat
        · rw [readNum_bad g d (all_split d i hl (by simp [decB]; omega))]
          simp -implicitDefEqProofs -dsimp +contextual (maxSteps := 9999999) (disch := first | omega | simp only [go_sem] <;> omega | refine ib ?_; kernel_rfl) only [go_sem, seval, ↓reduceIte, f0, f4, f5, f6, f17, f18, hl, h48, h57]
          rfl
        · have ht := decV_take d i hl
          simp -implicitDefEqProofs -dsimp +contextual (maxSteps := 9999999) (disch := first | omega | simp only [go_sem] <;> omega | refine ib ?_; kernel_rfl) only [go_sem, seval, ↓reduceIte, f0, f4, f5, f6, f17, f18, hl, h48, h57]
          rw [Nat.mul_comm 10, ← ht]
          refine ih (i + 1) _ _ ⟨f0, f4, f5, rfl, f17, rfl, by omega, ?_⟩ (by omega)
          rw [List.take_succ_eq_append_getElem hl, List.all_append, ha]
          simp [decB]; omega
    · obtain rfl : i = d.length := by omega
      rw [List.take_of_length_le (Nat.le_refl _)] at f6 ha hsm
      cases g with
      | false =>
        have hb' : itoa ((decV d : Nat) : Int) = l ↔ plainD d = true := by simpa [signV] using hb
        have n1 : ¬ ((decV d : Nat) : Int) < -1073741824 := by omega
        by_cases hbig : 1073741824 < decV d
        · rw [readNumR, if_neg (by omega)]
          simp -implicitDefEqProofs -dsimp +contextual (maxSteps := 9999999) (disch := first | omega | simp only [go_sem] <;> omega | refine ib ?_; kernel_rfl) only [go_sem, seval, ↓reduceIte, f0, f4, f5, f6, f17, f18, hl, hbig]
          rfl
        · by_cases he : itoa ((decV d : Nat) : Int) = l
          · rw [readNumR, if_pos ⟨hlen, hb'.1 he, by omega, by simp⟩]
            simp -implicitDefEqProofs -dsimp +contextual (maxSteps := 9999999) (disch := first | omega | simp only [go_sem] <;> omega | refine ib ?_; kernel_rfl) only [go_sem, seval, ↓reduceIte, f0, f4, f5, f6, f17, f18, hl, hbig, n1, he]
            rfl
          · rw [readNumR, if_neg (fun h => he (hb'.2 h.2.1))]
            simp -implicitDefEqProofs -dsimp +contextual (maxSteps := 9999999) (disch := first | omega | simp only [go_sem] <;> omega | refine ib ?_; kernel_rfl) only [go_sem, seval, ↓reduceIte, f0, f4, f5, f6, f17, f18, hl, hbig, n1, he]
            rfl
      | true =>
        have hb' : itoa (-((decV d : Nat) : Int)) = l ↔ plainD d = true ∧ ¬ decV d = 0 := by simpa [signV] using hb
        have n1 : ¬ 1073741824 < -((decV d : Nat) : Int) := by omega
        by_cases hbig : 1073741824 < decV d
        · rw [readNumR, if_neg (by omega)]
          have n2 : -((decV d : Nat) : Int) < -1073741824 := by omega
          simp -implicitDefEqProofs -dsimp +contextual (maxSteps := 9999999) (disch := first | omega | simp only [go_sem] <;> omega | refine ib ?_; kernel_rfl) only [go_sem, seval, ↓reduceIte, f0, f4, f5, f6, f17, f18, hl, n1, n2, Int.zero_sub]
          rfl
        · have n2 : ¬ -((decV d : Nat) : Int) < -1073741824 := by omega
          by_cases he : itoa (-((decV d : Nat) : Int)) = l
          · rw [readNumR, if_pos ⟨hlen, (hb'.1 he).1, by omega, fun h => (hb'.1 he).2 h.2⟩]
            simp -implicitDefEqProofs -dsimp +contextual (maxSteps := 9999999) (disch := first | omega | simp only [go_sem] <;> omega | refine ib ?_; kernel_rfl) only [go_sem, seval, ↓reduceIte, f0, f4, f5, f6, f17, f18, hl, n1, n2, he, Int.zero_sub]
            rfl
          · rw [readNumR, if_neg (fun h => he (hb'.2 ⟨h.2.1, fun e => h.2.2.2 ⟨rfl, e⟩⟩))]
            simp -implicitDefEqProofs -dsimp +contextual (maxSteps := 9999999) (disch := first | omega | simp only [go_sem] <;> omega | refine ib ?_; kernel_rfl) only [go_sem, seval, ↓reduceIte, f0, f4, f5, f6, f17, f18, hl, n1, n2, he, Int.zero_sub]
            rfl
@[go_sem] theorem e45 (l : List UInt8) (hl : l.length ≤ 1000000000000) : fn C 45 [] [.str l] = some (rnV (readNumR (signOf l) (digsOf l)), []) := by
  rw [fn_text Tryz.func45 rfl rfl Tryz.results45 fq45.1 rfl rfl (by kernel_rfl)]
  by_cases h0 : l = []
  · subst h0
    simp -implicitDefEqProofs -dsimp +contextual (maxSteps := 9999999) (disch := first | omega | simp only [go_sem] <;> omega | refine ib ?_; kernel_rfl) only [go_sem, seval, ↓reduceIte]
    rfl
  · have hpos : 0 < l.length := List.length_pos_iff.2 h0
    by_cases h45 : l[0] = 45
    · have hs : signOf l = true := by cases l with | nil => exact absurd rfl h0 | cons a l => simp at h45; simp [signOf, h45]
      have hdd : l.drop 1 = digsOf l := by cases l with | nil => exact absurd rfl h0 | cons a l => simp at h45; simp [digsOf, h45]
      have h45 : l[0].toNat = 45 := by rw [h45]; rfl
      rw [hs]
      generalize digsOf l = d at *
      have ho : d.length = l.length - 1 := by rw [← hdd]; simp
      have hget : ∀ i (h : i < l.length) (h2 : 1 ≤ i), l[i] = d[i - 1]'(by omega) := by
        intro i h h2
        subst hdd
        rw [List.getElem_drop]
        congr 1; omega
      by_cases hz : l.length - 1 < 1
      · rw [readNumR, if_neg (by rintro ⟨_, h2, _⟩; rw [show d = [] from List.length_eq_zero_iff.1 (by omega)] at h2; simp [plainD] at h2)]
        try simp only [Nat.sub_zero] at hz
        simp -implicitDefEqProofs -dsimp +contextual (maxSteps := 9999999) (disch := first | omega | simp only [go_sem] <;> omega | refine ib ?_; kernel_rfl) only [go_sem, seval, ↓reduceIte, h45, hpos, hz]
        rfl
      · by_cases h10 : 10 < l.length - 1
        · rw [readNumR, if_neg (by omega)]
          try simp only [Nat.sub_zero] at hz h10
          simp -implicitDefEqProofs -dsimp +contextual (maxSteps := 9999999) (disch := first | omega | simp only [go_sem] <;> omega | refine ib ?_; kernel_rfl) only [go_sem, seval, ↓reduceIte, h45, hpos, hz, h10]
          rfl
        · try simp only [Nat.sub_zero] at hz h10
          simp -implicitDefEqProofs -dsimp +contextual (maxSteps := 9999999) (disch := first | omega | simp only [go_sem] <;> omega | refine ib ?_; kernel_rfl) only [go_sem, seval, ↓reduceIte, h45, hpos, hz, h10]
          refine (kLoop_rec (fun (i : Nat) f H => f 0 = .str l ∧ f 4 = .int .i64 1 ∧ f 5 = .int .i64 (decV (d.take (i - 1)) : Int) ∧ f 6 = .int .i64 (i : Int) ∧ 1 ≤ i ∧ i ≤ l.length ∧ (d.take (i - 1)).all decB = true) (fun i => l.length - i) (fun _ => some (rnV (readNumR true d), [])) ?_ 1 _ _ ⟨rfl, rfl, rfl, rfl, by omega, by omega, rfl⟩)
          rintro i f H ⟨f0, f4, f5, f6, hi1, hi, ha⟩ ih
          have hsm := decV_small (d.take (i - 1)) (by simp; omega) ha
          by_cases hl : i < l.length
          · have hg := hget i hl hi1
            have hv := digV_le l[i]
            have hdec := dig_dec l[i]
            have hsm2 := hsm
            try simp only [Nat.sub_zero] at hsm2
            by_cases h9 : 9 < digV l[i]
            · rw [readNum_bad true d (all_split d (i - 1) (by omega) (by rw [← hg, hdec]; simp; omega))]
              simp -implicitDefEqProofs -dsimp +contextual (maxSteps := 9999999) (disch := first | omega | simp only [go_sem] <;> omega | refine ib ?_; kernel_rfl) only [go_sem, seval, ↓reduceIte, f0, f4, f5, f6, hl, h9]
              rfl
            · have hdt : decB l[i] = true := by rw [hdec]; simp; omega
              have ht := decV_take d (i - 1) (by omega)
              rw [← hg, dig_val _ hdt] at ht
              try simp only [Nat.sub_zero] at ht
              simp -implicitDefEqProofs -dsimp +contextual (maxSteps := 9999999) (disch := first | omega | simp only [go_sem] <;> omega | refine ib ?_; kernel_rfl) only [go_sem, seval, ↓reduceIte, f0, f4, f5, f6, hl, h9]
              rw [← ht]
              try rw [show i - 1 + 1 = i + 1 - 1 by omega]
              refine ih (i + 1) _ _ ⟨f0, f4, rfl, rfl, by omega, by omega, ?_⟩ (by omega)
              rw [show i + 1 - 1 = i - 1 + 1 by omega, List.take_succ_eq_append_getElem (by omega), List.all_append, ha, ← hg]
              simp [hdt]
          · obtain rfl : i = l.length := by omega
            rw [← ho, List.take_of_length_le (Nat.le_refl _)] at f5 ha hsm
            have hne : d ≠ [] := fun e => by rw [e] at ho; simp at ho; omega
            have hp : plainD d = !(decide (1 < d.length) && decide (d.head? = some 48)) := by simp [plainD, hne, ha]
            by_cases hbig : 1073741824 < decV d
            · rw [readNumR, if_neg (by omega)]
              simp -implicitDefEqProofs -dsimp +contextual (maxSteps := 9999999) (disch := first | omega | simp only [go_sem] <;> omega | refine ib ?_; kernel_rfl) only [go_sem, seval, ↓reduceIte, f0, f4, f5, f6, hl, hbig]
              rfl
            · by_cases h1 : 1 < l.length - 1
              · have hz := hget 1 (by omega) (Nat.le_refl _)
                have hd0 : d.head? = some l[1] := by rw [List.head?_eq_getElem?, List.getElem?_eq_getElem (by omega), hz]
                try simp only [Nat.sub_zero] at h1
                by_cases h48 : l[1].toNat = 48
                · have h48' : l[1] = 48 := UInt8.toNat_inj.1 h48
                  rw [readNumR, if_neg (by rintro ⟨_, h2, _⟩; rw [hp, hd0, h48'] at h2; simp at h2; omega)]
                  simp -implicitDefEqProofs -dsimp +contextual (maxSteps := 9999999) (disch := first | omega | simp only [go_sem] <;> omega | refine ib ?_; kernel_rfl) only [go_sem, seval, ↓reduceIte, f0, f4, f5, f6, hl, hbig, h1, h48]
                  rfl
                · have h48' : ¬ l[1] = 48 := fun e => h48 (by rw [e]; rfl)
                  have hp1 : plainD d = true := by rw [hp, hd0]; simp [h48']
                  by_cases hz0 : decV d = 0
                  · rw [readNumR, if_neg (fun h => h.2.2.2 ⟨rfl, hz0⟩)]
                    simp -implicitDefEqProofs -dsimp +contextual (maxSteps := 9999999) (disch := first | omega | simp only [go_sem] <;> omega | refine ib ?_; kernel_rfl) only [go_sem, seval, ↓reduceIte, f0, f4, f5, f6, hl, hbig, h1, h48, hz0]
                    rfl
                  · rw [readNumR, if_pos ⟨by omega, hp1, by omega, fun h => hz0 h.2⟩]
                    simp -implicitDefEqProofs -dsimp +contextual (maxSteps := 9999999) (disch := first | omega | simp only [go_sem] <;> omega | refine ib ?_; kernel_rfl) only [go_sem, seval, ↓reduceIte, f0, f4, f5, f6, hl, hbig, h1, h48, hz0, Int.zero_sub]
                    rfl
              · have hp1 : plainD d = true := by rw [hp]; simp; omega
                try simp only [Nat.sub_zero] at h1
                by_cases hz0 : decV d = 0
                · rw [readNumR, if_neg (fun h => h.2.2.2 ⟨rfl, hz0⟩)]
                  simp -implicitDefEqProofs -dsimp +contextual (maxSteps := 9999999) (disch := first | omega | simp only [go_sem] <;> omega | refine ib ?_; kernel_rfl) only [go_sem, seval, ↓reduceIte, f0, f4, f5, f6, hl, hbig, h1, hz0]
                  rfl
                · rw [readNumR, if_pos ⟨by omega, hp1, by omega, fun h => hz0 h.2⟩]
                  simp -implicitDefEqProofs -dsimp +contextual (maxSteps := 9999999) (disch := first | omega | simp only [go_sem] <;> omega | refine ib ?_; kernel_rfl) only [go_sem, seval, ↓reduceIte, f0, f4, f5, f6, hl, hbig, h1, hz0, Int.zero_sub]
                  rfl
    · have hs : signOf l = false := by cases l with | nil => exact absurd rfl h0 | cons a l => simp at h45; simp [signOf, h45]
      have hdd : l.drop 0 = digsOf l := by cases l with | nil => exact absurd rfl h0 | cons a l => simp at h45; simp [digsOf, h45]
      have h45 : ¬ l[0].toNat = 45 := fun e => h45 (UInt8.toNat_inj.1 e)
      rw [hs]
      generalize digsOf l = d at *
      have ho : d.length = l.length - 0 := by rw [← hdd]; simp
      have hget : ∀ i (h : i < l.length) (h2 : 0 ≤ i), l[i] = d[i - 0]'(by omega) := by
        intro i h h2
        subst hdd
        rw [List.getElem_drop]
        congr 1; omega
      by_cases hz : l.length - 0 < 1
      · rw [readNumR, if_neg (by rintro ⟨_, h2, _⟩; rw [show d = [] from List.length_eq_zero_iff.1 (by omega)] at h2; simp [plainD] at h2)]
        try simp only [Nat.sub_zero] at hz
        simp -implicitDefEqProofs -dsimp +contextual (maxSteps := 9999999) (disch := first | omega | simp only [go_sem] <;> omega | refine ib ?_; kernel_rfl) only [go_sem, seval, ↓reduceIte, h45, hpos, hz]
        rfl
      · by_cases h10 : 10 < l.length - 0
        · rw [readNumR, if_neg (by omega)]
          try simp only [Nat.sub_zero] at hz h10
          simp -implicitDefEqProofs -dsimp +contextual (maxSteps := 9999999) (disch := first | omega | simp only [go_sem] <;> omega | refine ib ?_; kernel_rfl) only [go_sem, seval, ↓reduceIte, h45, hpos, hz, h10]
          rfl
        · try simp only [Nat.sub_zero] at hz h10
          simp -implicitDefEqProofs -dsimp +contextual (maxSteps := 9999999) (disch := first | omega | simp only [go_sem] <;> omega | refine ib ?_; kernel_rfl) only [go_sem, seval, ↓reduceIte, h45, hpos, hz, h10]
          refine (kLoop_rec (fun (i : Nat) f H => f 0 = .str l ∧ f 4 = .int .i64 0 ∧ f 5 = .int .i64 (decV (d.take (i - 0)) : Int) ∧ f 6 = .int .i64 (i : Int) ∧ 0 ≤ i ∧ i ≤ l.length ∧ (d.take (i - 0)).all decB = true) (fun i => l.length - i) (fun _ => some (rnV (readNumR false d), [])) ?_ 0 _ _ ⟨rfl, rfl, rfl, rfl, by omega, by omega, rfl⟩)
          rintro i f H ⟨f0, f4, f5, f6, hi1, hi, ha⟩ ih
          have hsm := decV_small (d.take (i - 0)) (by simp; omega) ha
          by_cases hl : i < l.length
          · have hg := hget i hl hi1
            have hv := digV_le l[i]
            have hdec := dig_dec l[i]
            have hsm2 := hsm
            try simp only [Nat.sub_zero] at hsm2
            by_cases h9 : 9 < digV l[i]
            · rw [readNum_bad false d (all_split d (i - 0) (by omega) (by rw [← hg, hdec]; simp; omega))]
              simp -implicitDefEqProofs -dsimp +contextual (maxSteps := 9999999) (disch := first | omega | simp only [go_sem] <;> omega | refine ib ?_; kernel_rfl) only [go_sem, seval, ↓reduceIte, f0, f4, f5, f6, hl, h9]
              rfl
            · have hdt : decB l[i] = true := by rw [hdec]; simp; omega
              have ht := decV_take d (i - 0) (by omega)
              rw [← hg, dig_val _ hdt] at ht
              try simp only [Nat.sub_zero] at ht
              simp -implicitDefEqProofs -dsimp +contextual (maxSteps := 9999999) (disch := first | omega | simp only [go_sem] <;> omega | refine ib ?_; kernel_rfl) only [go_sem, seval, ↓reduceIte, f0, f4, f5, f6, hl, h9]
              rw [← ht]
              try rw [show i - 0 + 1 = i + 1 - 0 by omega]
              refine ih (i + 1) _ _ ⟨f0, f4, rfl, rfl, by omega, by omega, ?_⟩ (by omega)
              rw [show i + 1 - 0 = i - 0 + 1 by omega, List.take_succ_eq_append_getElem (by omega), List.all_append, ha, ← hg]
              simp [hdt]
          · obtain rfl : i = l.length := by omega
            rw [← ho, List.take_of_length_le (Nat.le_refl _)] at f5 ha hsm
            have hne : d ≠ [] := fun e => by rw [e] at ho; simp at ho; omega
            have hp : plainD d = !(decide (1 < d.length) && decide (d.head? = some 48)) := by simp [plainD, hne, ha]
            by_cases hbig : 1073741824 < decV d
            · rw [readNumR, if_neg (by omega)]
              simp -implicitDefEqProofs -dsimp +contextual (maxSteps := 9999999) (disch := first | omega | simp only [go_sem] <;> omega | refine ib ?_; kernel_rfl) only [go_sem, seval, ↓reduceIte, f0, f4, f5, f6, hl, hbig]
              rfl
            · by_cases h1 : 1 < l.length - 0
              · have hz := hget 0 (by omega) (Nat.le_refl _)
                have hd0 : d.head? = some l[0] := by rw [List.head?_eq_getElem?, List.getElem?_eq_getElem (by omega), hz]
                try simp only [Nat.sub_zero] at h1
                by_cases h48 : l[0].toNat = 48
                · have h48' : l[0] = 48 := UInt8.toNat_inj.1 h48
                  rw [readNumR, if_neg (by rintro ⟨_, h2, _⟩; rw [hp, hd0, h48'] at h2; simp at h2; omega)]
                  simp -implicitDefEqProofs -dsimp +contextual (maxSteps := 9999999) (disch := first | omega | simp only [go_sem] <;> omega | refine ib ?_; kernel_rfl) only [go_sem, seval, ↓reduceIte, f0, f4, f5, f6, hl, hbig, h1, h48]
                  rfl
                · have h48' : ¬ l[0] = 48 := fun e => h48 (by rw [e]; rfl)
                  have hp1 : plainD d = true := by rw [hp, hd0]; simp [h48']
                  rw [readNumR, if_pos ⟨by omega, hp1, by omega, by simp⟩]
                  simp -implicitDefEqProofs -dsimp +contextual (maxSteps := 9999999) (disch := first | omega | simp only [go_sem] <;> omega | refine ib ?_; kernel_rfl) only [go_sem, seval, ↓reduceIte, f0, f4, f5, f6, hl, hbig, h1, h48]
                  rfl
              · have hp1 : plainD d = true := by rw [hp]; simp; omega
                try simp only [Nat.sub_zero] at h1
                rw [readNumR, if_pos ⟨by omega, hp1, by omega, by simp⟩]
                simp -implicitDefEqProofs -dsimp +contextual (maxSteps := 9999999) (disch := first | omega | simp only [go_sem] <;> omega | refine ib ?_; kernel_rfl) only [go_sem, seval, ↓reduceIte, f0, f4, f5, f6, hl, hbig, h1]
                rfl
end Go.Proofs.YtclgfgnhcakhdaaGreatDoor
namespace Go.Proofs.YtclgfgnhcakhdaaGreatDoor
set_option maxHeartbeats 64000000
open Go.Am
set_option linter.unusedSimpArgs false
set_option linter.unusedVariables false
set_option maxRecDepth 100000
def azS : List UInt8 := [97, 98, 99, 100, 101, 102, 103, 104, 105, 106, 107, 108, 109, 110, 111, 112, 113, 114, 115, 116, 117, 118, 119, 120, 121, 122]
def anS : List UInt8 := [97, 98, 99, 100, 101, 102, 103, 104, 105, 106, 107, 108, 109, 110, 111, 112, 113, 114, 115, 116, 117, 118, 119, 120, 121, 122, 48, 49, 50, 51, 52, 53, 54, 55, 56, 57, 45]
@[go_sem] theorem azS_fold : ([97, 98, 99, 100, 101, 102, 103, 104, 105, 106, 107, 108, 109, 110, 111, 112, 113, 114, 115, 116, 117, 118, 119, 120, 121, 122] : List UInt8) = azS := rfl
@[go_sem] theorem anS_fold : ([97, 98, 99, 100, 101, 102, 103, 104, 105, 106, 107, 108, 109, 110, 111, 112, 113, 114, 115, 116, 117, 118, 119, 120, 121, 122, 48, 49, 50, 51, 52, 53, 54, 55, 56, 57, 45] : List UInt8) = anS := rfl
@[go_sem] theorem azS_len : azS.length = 26 := rfl
@[go_sem] theorem anS_len : anS.length = 37 := rfl
def smallB (c : UInt8) : Bool := decide (97 ≤ c.toNat) && decide (c.toNat ≤ 122)
def nameB (c : UInt8) : Bool := smallB c || (decide (48 ≤ c.toNat) && decide (c.toNat ≤ 57)) || decide (c.toNat = 45)
def inB (c : UInt8) (s : List UInt8) : Bool := s.any fun x => decide (x.toNat = c.toNat)
theorem in_az (c : UInt8) : inB c azS = smallB c := by
  have : ∀ n : Fin 256, inB (UInt8.ofNat n.val) azS = smallB (UInt8.ofNat n.val) := by decide +kernel
  simpa using this ⟨c.toNat, c.toNat_lt⟩
theorem in_an (c : UInt8) : inB c anS = nameB c := by
  have : ∀ n : Fin 256, inB (UInt8.ofNat n.val) anS = nameB (UInt8.ofNat n.val) := by decide +kernel
  simpa using this ⟨c.toNat, c.toNat_lt⟩
def nameR (l : List UInt8) : Bool := decide (1 ≤ l.length) && decide (l.length ≤ 16) && smallB (l.getD 0 0) && l.all nameB
@[go_sem] theorem e116 (c : UInt8) : fn C 116 [] [.int .u8 (c.toNat : Int)] = some (.bool (smallB c), []) := by
  rw [fn_text Tryz.func116 rfl rfl Tryz.results116 fq116.1 rfl rfl (by kernel_rfl)]
  by_cases h1 : 97 ≤ c.toNat
  · simp -implicitDefEqProofs -dsimp +contextual (maxSteps := 9999999) (disch := first | omega | simp only [go_sem] <;> omega | refine ib ?_; kernel_rfl) only [go_sem, seval, ↓reduceIte, h1]
    simp [smallB, h1]
  · simp -implicitDefEqProofs -dsimp +contextual (maxSteps := 9999999) (disch := first | omega | simp only [go_sem] <;> omega | refine ib ?_; kernel_rfl) only [go_sem, seval, ↓reduceIte, h1]
    simp [smallB, h1]
theorem inB_take (c : UInt8) (s : List UInt8) (i : Nat) (h : i < s.length) : inB c (s.take (i + 1)) = (inB c (s.take i) || decide (s[i].toNat = c.toNat)) := by
  rw [List.take_succ_eq_append_getElem h, inB, List.any_append]; simp [inB]
theorem inB_hit (c : UInt8) (s : List UInt8) (i : Nat) (h : i < s.length) (e : s[i].toNat = c.toNat) : inB c s = true := by
  rw [inB, List.any_eq_true]; exact ⟨s[i], List.getElem_mem h, by simp [e]⟩
@[go_sem] theorem e119 (c : UInt8) (s : List UInt8) (hs : s.length ≤ 1000000000000) : fn C 119 [] [.int .u8 (c.toNat : Int), .str s] = some (.bool (inB c s), []) := by
  rw [fn_text Tryz.func119 rfl rfl Tryz.results119 fq119.1 rfl rfl (by kernel_rfl)]
  simp -implicitDefEqProofs -dsimp +contextual (maxSteps := 9999999) (disch := first | omega | simp only [go_sem] <;> omega | refine ib ?_; kernel_rfl) only [go_sem, seval, ↓reduceIte]
  refine (kLoop_rec (fun (i : Nat) f H => f 0 = .int .u8 (c.toNat : Int) ∧ f 1 = .str s ∧ f 5 = .int .i64 (i : Int) ∧ i ≤ s.length ∧ inB c (s.take i) = false) (fun i => s.length - i) (fun _ => some (.bool (inB c s), [])) ?_ 0 _ _ ⟨rfl, rfl, rfl, by omega, rfl⟩)
  rintro i f H ⟨f0, f1, f5, hi, ha⟩ ih
  by_cases hl : i < s.length
  · by_cases he : s[i].toNat = c.toNat
    · rw [inB_hit c s i hl he]
      simp -implicitDefEqProofs -dsimp +contextual (maxSteps := 9999999) (disch := first | omega | simp only [go_sem] <;> omega | refine ib ?_; kernel_rfl) only [go_sem, seval, ↓reduceIte, f0, f1, f5, hl, he]
    · simp -implicitDefEqProofs -dsimp +contextual (maxSteps := 9999999) (disch := first | omega | simp only [go_sem] <;> omega | refine ib ?_; kernel_rfl) only [go_sem, seval, ↓reduceIte, f0, f1, f5, hl, he]
      exact ih (i + 1) _ _ ⟨f0, f1, rfl, by omega, by rw [inB_take c s i hl, ha]; simp [he]⟩ (by omega)
  · rw [List.take_of_length_le (by omega)] at ha
    rw [ha]
    simp -implicitDefEqProofs -dsimp +contextual (maxSteps := 9999999) (disch := first | omega | simp only [go_sem] <;> omega | refine ib ?_; kernel_rfl) only [go_sem, seval, ↓reduceIte, f0, f1, f5, hl]
theorem nameR_bad (l : List UInt8) (i : Nat) (h : i < l.length) (hb : nameB l[i] = false) : nameR l = false := by
  have : l.all nameB = false := by rw [List.all_eq_false]; exact ⟨l[i], List.getElem_mem h, by simp [hb]⟩
  simp [nameR, this]
theorem allU_take {p : UInt8 → Bool} (l : List UInt8) (i : Nat) (h : i < l.length) : (l.take (i + 1)).all p = ((l.take i).all p && p l[i]) := by
  rw [List.take_succ_eq_append_getElem h, List.all_append]; simp
@[go_sem] theorem e97 (l : List UInt8) (hl : l.length ≤ 1000000000000) : fn C 97 [] [.str l] = some (.bool (nameR l), []) := by
  rw [fn_text Tryz.func97 rfl rfl Tryz.results97 fq97.1 rfl rfl (by kernel_rfl)]
  by_cases h0 : l.length < 1
  · obtain rfl : l = [] := List.length_eq_zero_iff.1 (by omega)
    simp -implicitDefEqProofs -dsimp +contextual (maxSteps := 9999999) (disch := first | omega | simp only [go_sem] <;> omega | refine ib ?_; kernel_rfl) only [go_sem, seval, ↓reduceIte]
    rfl
  · by_cases h16 : 16 < l.length
    · simp -implicitDefEqProofs -dsimp +contextual (maxSteps := 9999999) (disch := first | omega | simp only [go_sem] <;> omega | refine ib ?_; kernel_rfl) only [go_sem, seval, ↓reduceIte, h0, h16]
      simp [nameR]; omega
    · by_cases hs : smallB l[0] = true
      · simp -implicitDefEqProofs -dsimp +contextual (maxSteps := 9999999) (disch := first | omega | simp only [go_sem] <;> omega | refine ib ?_; kernel_rfl) only [go_sem, seval, ↓reduceIte, h0, h16, in_az, in_an, hs]
        refine (kLoop_rec (fun (i : Nat) f H => f 0 = .str l ∧ f 3 = .int .i64 (i : Int) ∧ i ≤ l.length ∧ (l.take i).all nameB = true) (fun i => l.length - i) (fun _ => some (.bool (nameR l), [])) ?_ 0 _ _ ⟨rfl, rfl, by omega, rfl⟩)
        rintro i f H ⟨f0, f3, hi, ha⟩ ih
        by_cases hl : i < l.length
        · by_cases hn : nameB l[i] = true
          · simp -implicitDefEqProofs -dsimp +contextual (maxSteps := 9999999) (disch := first | omega | simp only [go_sem] <;> omega | refine ib ?_; kernel_rfl) only [go_sem, seval, ↓reduceIte, f0, f3, hl, in_az, in_an, hn]
            exact ih (i + 1) _ _ ⟨f0, rfl, by omega, by rw [allU_take l i hl, ha, hn]; rfl⟩ (by omega)
          · simp only [Bool.not_eq_true] at hn
            rw [nameR_bad l i hl hn]
            simp -implicitDefEqProofs -dsimp +contextual (maxSteps := 9999999) (disch := first | omega | simp only [go_sem] <;> omega | refine ib ?_; kernel_rfl) only [go_sem, seval, ↓reduceIte, f0, f3, hl, in_az, in_an, hn]
        · rw [List.take_of_length_le (by omega)] at ha
          simp -implicitDefEqProofs -dsimp +contextual (maxSteps := 9999999) (disch := first | omega | simp only [go_sem] <;> omega | refine ib ?_; kernel_rfl) only [go_sem, seval, ↓reduceIte, f0, f3, hl]
          have hg : l.getD 0 0 = l[0] := by rw [List.getD_eq_getElem?_getD, List.getElem?_eq_getElem (by omega)]; rfl
          simp only [nameR, hg, hs, ha, Bool.and_true]
          simp; omega
      · simp only [Bool.not_eq_true] at hs
        have hg : l.getD 0 0 = l[0] := by rw [List.getD_eq_getElem?_getD, List.getElem?_eq_getElem (by omega)]; rfl
        simp -implicitDefEqProofs -dsimp +contextual (maxSteps := 9999999) (disch := first | omega | simp only [go_sem] <;> omega | refine ib ?_; kernel_rfl) only [go_sem, seval, ↓reduceIte, h0, h16, in_az, in_an, hs]
        simp only [nameR, hg, hs, Bool.and_false, Bool.false_and]
@[go_sem] theorem e90 (l : List UInt8) (hl : l.length ≤ 1000000000000) : fn C 90 [] [.str l] = some (.bool (nameR l), []) := by
  rw [fn_text Tryz.func90 rfl rfl Tryz.results90 fq90.1 rfl rfl (by kernel_rfl)]
  by_cases h0 : l = []
  · subst h0
    simp -implicitDefEqProofs -dsimp +contextual (maxSteps := 9999999) (disch := first | omega | simp only [go_sem] <;> omega | refine ib ?_; kernel_rfl) only [go_sem, seval, ↓reduceIte]
    rfl
  · have hpos : 0 < l.length := List.length_pos_iff.2 h0
    by_cases h16 : 16 < l.length
    · simp -implicitDefEqProofs -dsimp +contextual (maxSteps := 9999999) (disch := first | omega | simp only [go_sem] <;> omega | refine ib ?_; kernel_rfl) only [go_sem, seval, ↓reduceIte, h0, h16]
      simp [nameR]; omega
    · have hg : l.getD 0 0 = l[0] := by rw [List.getD_eq_getElem?_getD, List.getElem?_eq_getElem (by omega)]; rfl
      by_cases hs : smallB l[0] = true
      · simp -implicitDefEqProofs -dsimp +contextual (maxSteps := 9999999) (disch := first | omega | simp only [go_sem] <;> omega | refine ib ?_; kernel_rfl) only [go_sem, seval, ↓reduceIte, h0, h16, hs, hpos]
        refine (kLoop_rec (fun (i : Nat) f H => f 0 = .str l ∧ f 19 = .int .i64 (l.length : Int) ∧ f 20 = .int .i64 (i : Int) ∧ i ≤ l.length ∧ (l.take i).all nameB = true) (fun i => l.length - i) (fun _ => some (.bool (nameR l), [])) ?_ 0 _ _ ⟨rfl, rfl, rfl, by omega, rfl⟩)
        rintro i f H ⟨f0, f19, f20, hi, ha⟩ ih
        by_cases hl : i < l.length
        · have hc := u8_lt l[i]
          by_cases hsm : smallB l[i] = true
          · have hn : nameB l[i] = true := by simp [nameB, hsm]
            simp -implicitDefEqProofs -dsimp +contextual (maxSteps := 9999999) (disch := first | omega | simp only [go_sem] <;> omega | refine ib ?_; kernel_rfl) only [go_sem, seval, ↓reduceIte, f0, f19, f20, hl, hsm]
            exact ih (i + 1) _ _ ⟨f0, f19, rfl, by omega, by rw [allU_take l i hl, ha, hn]; rfl⟩ (by omega)
          · simp only [Bool.not_eq_true] at hsm
            by_cases h48 : 48 ≤ l[i].toNat
            · by_cases h57 : l[i].toNat ≤ 57
              · have hn : nameB l[i] = true := by simp [nameB, h48, h57]
                simp -implicitDefEqProofs -dsimp +contextual (maxSteps := 9999999) (disch := first | omega | simp only [go_sem] <;> omega | refine ib ?_; kernel_rfl) only [go_sem, seval, ↓reduceIte, f0, f19, f20, hl, hsm, h48, h57]
                exact ih (i + 1) _ _ ⟨f0, f19, rfl, by omega, by rw [allU_take l i hl, ha, hn]; rfl⟩ (by omega)
              · have hn : nameB l[i] = false := by simp [nameB, hsm]; omega
                rw [nameR_bad l i hl hn]
                simp -implicitDefEqProofs -dsimp +contextual (maxSteps := 9999999) (disch := first | omega | simp only [go_sem] <;> omega | refine ib ?_; kernel_rfl) only [go_sem, seval, ↓reduceIte, f0, f19, f20, hl, hsm, h48, h57]
            · by_cases h45 : l[i].toNat = 45
              · have hn : nameB l[i] = true := by simp [nameB, h45]
                have hs45 : fn C 116 [] [.int .u8 45] = some (.bool false, []) := e116 45
                simp -implicitDefEqProofs -dsimp +contextual (maxSteps := 9999999) (disch := first | omega | simp only [go_sem] <;> omega | refine ib ?_; kernel_rfl) only [go_sem, seval, ↓reduceIte, f0, f19, f20, hl, hsm, h48, h45, hs45]
                exact ih (i + 1) _ _ ⟨f0, f19, rfl, by omega, by rw [allU_take l i hl, ha, hn]; rfl⟩ (by omega)
              · have hn : nameB l[i] = false := by simp [nameB, hsm]; omega
                rw [nameR_bad l i hl hn]
                simp -implicitDefEqProofs -dsimp +contextual (maxSteps := 9999999) (disch := first | omega | simp only [go_sem] <;> omega | refine ib ?_; kernel_rfl) only [go_sem, seval, ↓reduceIte, f0, f19, f20, hl, hsm, h48, h45]
        · rw [List.take_of_length_le (by omega)] at ha
          simp -implicitDefEqProofs -dsimp +contextual (maxSteps := 9999999) (disch := first | omega | simp only [go_sem] <;> omega | refine ib ?_; kernel_rfl) only [go_sem, seval, ↓reduceIte, f0, f19, f20, hl]
          simp only [nameR, hg, hs, ha, Bool.and_true]
          simp; omega
      · simp only [Bool.not_eq_true] at hs
        simp -implicitDefEqProofs -dsimp +contextual (maxSteps := 9999999) (disch := first | omega | simp only [go_sem] <;> omega | refine ib ?_; kernel_rfl) only [go_sem, seval, ↓reduceIte, h0, h16, hs, hpos]
        simp only [nameR, hg, hs, Bool.and_false, Bool.false_and]
end Go.Proofs.YtclgfgnhcakhdaaGreatDoor
