import Derived.Test.YtfifgnffipdmeaaDoorTLabel5
namespace Go.Proofs.YtfifgnffipdmeaaDoor
open Go.Am
set_option linter.unusedSimpArgs false
set_option linter.unusedVariables false
set_option maxRecDepth 100000
open Lib
/-! Layer 10: numbers in decimal digits: the plain law. -/
def decB (c : UInt8) : Bool := decide (48 ≤ c.toNat) && decide (c.toNat ≤ 57)
def decV (l : List UInt8) : Nat := l.foldl (fun n c => n * 10 + (c.toNat - 48)) 0
theorem decV_app (l : List UInt8) (c : UInt8) : decV (l ++ [c]) = decV l * 10 + (c.toNat - 48) := by simp [decV, List.foldl_append]
theorem decV_take (l : List UInt8) (i : Nat) (h : i < l.length) : decV (l.take (i + 1)) = decV (l.take i) * 10 + (l[i].toNat - 48) := by
  rw [List.take_succ_eq_append_getElem h, decV_app]
theorem decV_cons (l : List UInt8) (h : l.all decB = true) : ∀ a, l.foldl (fun n c => n * 10 + (c.toNat - 48)) a = a * 10 ^ l.length + decV l := by
  induction l with
  | nil => intro a; simp [decV]
  | cons c l ih =>
    intro a
    have h2 : l.all decB = true := by simp only [List.all_cons, Bool.and_eq_true] at h; exact h.2
    simp only [List.foldl_cons, decV, List.length_cons]
    rw [ih h2, ih h2]
    rw [Nat.pow_succ, Nat.add_mul, Nat.add_mul, Nat.zero_mul, Nat.zero_add, Nat.mul_assoc a 10, Nat.mul_comm 10, Nat.add_assoc]
theorem decV_lt : ∀ (n : Nat) (l : List UInt8), l.length = n → l.all decB = true → decV l < 10 ^ n
  | 0, [], _, _ => by simp [decV]
  | n + 1, c :: l, h, ha => by
    simp only [List.all_cons, Bool.and_eq_true, decB, decide_eq_true_eq] at ha
    have ih := decV_lt n l (by simpa using h) ha.2
    have e : decV (c :: l) = (c.toNat - 48) * 10 ^ l.length + decV l := by
      rw [← decV_cons l ha.2]; simp [decV]
    rw [e, show l.length = n by simpa using h, Nat.pow_succ]
    have : (c.toNat - 48) * 10 ^ n ≤ 9 * 10 ^ n := Nat.mul_le_mul_right _ (by omega)
    omega
/-- Digits without a needless 0 ahead. -/
def plainD (l : List UInt8) : Bool := decide (l ≠ []) && l.all decB && !(decide (1 < l.length) && decide (l.head? = some 48))
theorem dec_of (u : Nat) : plainD (decDigits u) = true ∧ decV (decDigits u) = u ∧ (0 < u → (decDigits u).head? ≠ some 48) := by
  induction u using Nat.strongRecOn with
  | ind u ih =>
    rw [decDigits]
    split
    · rename_i h
      have : ∀ n : Fin 10, plainD [UInt8.ofNat (48 + n.val)] = true ∧ decV [UInt8.ofNat (48 + n.val)] = n.val ∧ (0 < n.val → [UInt8.ofNat (48 + n.val)].head? ≠ some 48) := by decide
      exact this ⟨u, h⟩
    · rename_i h
      obtain ⟨h1, h2, h3⟩ := ih (u / 10) (by omega)
      have h3 := h3 (by omega)
      have hd : ∀ n : Fin 10, (UInt8.ofNat (48 + n.val)).toNat = 48 + n.val := by decide
      have hd := hd ⟨u % 10, by omega⟩
      simp only at hd
      have hh : (decDigits (u / 10) ++ [UInt8.ofNat (48 + u % 10)]).head? = (decDigits (u / 10)).head? := by
        simp only [plainD, Bool.and_eq_true, decide_eq_true_eq] at h1
        cases hq : decDigits (u / 10) with
        | nil => exact absurd hq h1.1.1
        | cons a l => rfl
      refine ⟨?_, ?_, fun _ => by rw [hh]; exact h3⟩
      · simp only [plainD, Bool.and_eq_true, decide_eq_true_eq] at h1
        simp only [plainD, hh, List.all_append, h1.1.2, h3, decide_false, Bool.and_false, Bool.not_false, Bool.and_true, Bool.true_and]
        simp [decB, hd]; omega
      · rw [decV_app, h2, hd]; omega
theorem of_dec : ∀ (n : Nat) (l : List UInt8), l.length = n → plainD l = true → decDigits (decV l) = l := by
  intro n
  induction n with
  | zero => intro l h hp; obtain rfl : l = [] := by simpa using h
            simp [plainD] at hp
  | succ n ih =>
    intro l h hp
    have hne : l ≠ [] := by intro e; simp [e] at h
    obtain ⟨m, c, rfl⟩ : ∃ m c, l = m ++ [c] := ⟨l.dropLast, l.getLast hne, (List.dropLast_concat_getLast hne).symm⟩
    simp only [plainD, Bool.and_eq_true, List.all_append, List.all_cons, List.all_nil, Bool.and_true, decB, decide_eq_true_eq] at hp
    obtain ⟨⟨_, hm, hc1, hc2⟩, h48⟩ := hp
    have hcc : c = UInt8.ofNat (48 + (c.toNat - 48)) := by
      apply UInt8.toNat_inj.1
      have := u8_lt c
      simp [UInt8.toNat_ofNat']; omega
    rw [decV_app]
    cases m with
    | nil =>
      rw [decDigits, dif_pos (by simp [decV]; omega)]
      simp only [decV, List.foldl_nil, Nat.zero_mul, Nat.zero_add, List.nil_append]
      rw [← hcc]
    | cons a m =>
      have h48' : a ≠ 48 := by
        intro e
        simp [e] at h48
      have ham : decB a = true ∧ m.all decB = true := by simpa only [List.all_cons, Bool.and_eq_true] using hm
      have hpm : plainD (a :: m) = true := by
        have e1 : decB a = true := ham.1
        have e2 : m.all decB = true := ham.2
        unfold plainD
        rw [List.all_cons, e1, e2]
        simp [h48']
      have hpos : 0 < decV (a :: m) := by
        have e : decV (a :: m) = (a.toNat - 48) * 10 ^ m.length + decV m := by
          rw [← decV_cons m ham.2]; simp [decV]
        have ha := ham.1
        simp only [decB, Bool.and_eq_true, decide_eq_true_eq] at ha
        have hne : a.toNat ≠ 48 := fun e => h48' (UInt8.toNat_inj.1 e)
        rw [e]
        have : 0 < (a.toNat - 48) * 10 ^ m.length := Nat.mul_pos (by omega) (Nat.pow_pos (by decide))
        omega
      rw [decDigits, dif_neg (by omega), show (decV (a :: m) * 10 + (c.toNat - 48)) / 10 = decV (a :: m) by omega, show (decV (a :: m) * 10 + (c.toNat - 48)) % 10 = c.toNat - 48 by omega, ih (a :: m) (by simpa using h) hpm, ← hcc]

/-- What a number's text says. -/
def signV (g : Bool) (n : Nat) : Int := if g = true then -(n : Int) else (n : Int)
def readNumR (g : Bool) (d : List UInt8) : Option Int :=
  if d.length ≤ 10 ∧ plainD d = true ∧ decV d ≤ 1073741824 ∧ ¬(g = true ∧ decV d = 0) then some (signV g (decV d)) else none
def textN (g : Bool) (d : List UInt8) : List UInt8 := if g = true then 45 :: d else d
theorem head45 (u : Nat) (t : List UInt8) : decDigits u ≠ 45 :: t := fun e => by
  have := (dec_of u).1
  rw [e] at this
  simp [plainD, decB] at this
/-- A text is its number's own just so. -/
theorem itoa_back (g : Bool) (d : List UInt8) (hd : g = false → d.head? ≠ some 45) : itoa (signV g (decV d)) = textN g d ↔ plainD d = true ∧ ¬(g = true ∧ decV d = 0) := by
  cases g with
  | false =>
    simp only [signV, textN, Bool.false_eq_true, if_false, false_and, not_false_eq_true, and_true]
    rw [show itoa ((decV d : Nat) : Int) = decDigits (decV d) by unfold itoa; rw [if_neg (by omega)]; simp]
    exact ⟨fun e => by have := (dec_of (decV d)).1; rwa [e] at this, fun h => of_dec _ d rfl h⟩
  | true =>
    simp only [signV, textN, if_true, true_and]
    by_cases h0 : decV d = 0
    · rw [h0, show itoa (-((0 : Nat) : Int)) = decDigits 0 from rfl]
      exact ⟨fun e => absurd e (head45 0 d), fun h => absurd rfl h.2⟩
    · rw [show itoa (-((decV d : Nat) : Int)) = 45 :: decDigits (decV d) by unfold itoa; rw [if_pos (by omega)]; simp]
      exact ⟨fun e => ⟨by have := (dec_of (decV d)).1; rw [List.cons.injEq] at e; rwa [e.2] at this, h0⟩, fun h => by rw [of_dec _ d rfl h.1]⟩
/-- A number's text is read back. -/
theorem read_itoa (k : Int) : ∃ g d, itoa k = textN g d ∧ (g = false → d.head? ≠ some 45) ∧ readNumR g d = if -1073741824 ≤ k ∧ k ≤ 1073741824 then some k else none := by
  have len : ∀ u : Nat, u ≤ 1073741824 → (decDigits u).length ≤ 10 := by
    intro u h
    have h1 := (dec_of u)
    rcases Nat.lt_or_ge 10 (decDigits u).length with hl | hl
    · exfalso
      have hp := h1.1
      obtain ⟨a, m, hq⟩ : ∃ a m, decDigits u = a :: m := by
        cases hq : decDigits u with
        | nil => rw [hq] at hl; simp at hl
        | cons a m => exact ⟨a, m, rfl⟩
      have hv := h1.2.1
      rw [hq] at hv hp hl
      have hne := h1.2.2
      rw [hq] at hne
      simp only [plainD, List.all_cons, Bool.and_eq_true, decide_eq_true_eq, decB] at hp
      have e : decV (a :: m) = (a.toNat - 48) * 10 ^ m.length + decV m := by
        rw [← decV_cons m hp.1.2.2]; simp [decV]
      have h48 : a ≠ 48 := by
        intro ea
        have := hp.2
        simp [ea] at this
        simp [this] at hl
      have hne : a.toNat ≠ 48 := fun e => h48 (UInt8.toNat_inj.1 e)
      have h10 : 10 ^ 10 ≤ 10 ^ m.length := Nat.pow_le_pow_right (by decide) (by simp at hl; omega)
      have : 1 * 10 ^ m.length ≤ (a.toNat - 48) * 10 ^ m.length := Nat.mul_le_mul_right _ (by omega)
      omega
    · exact hl
  by_cases h : k < 0
  · refine ⟨true, decDigits k.natAbs, by unfold itoa; rw [if_pos h]; rfl, (fun h => by cases h), ?_⟩
    obtain ⟨h1, h2, h3⟩ := dec_of k.natAbs
    unfold readNumR
    rw [h2, h1]
    by_cases hk : -1073741824 ≤ k
    · rw [if_pos ⟨len _ (by omega), rfl, by omega, by omega⟩, if_pos ⟨hk, by omega⟩]
      simp only [signV, if_true]
      congr 1; omega
    · rw [if_neg (by omega), if_neg (by omega)]
  · refine ⟨false, decDigits k.toNat, by unfold itoa; rw [if_neg h]; rfl, (fun _ => by
      intro e
      cases hq : decDigits k.toNat with
      | nil => rw [hq] at e; cases e
      | cons a m => rw [hq] at e; simp at e; exact head45 k.toNat m (by rw [hq, e])), ?_⟩
    obtain ⟨h1, h2, h3⟩ := dec_of k.toNat
    unfold readNumR
    rw [h2, h1]
    by_cases hk : k ≤ 1073741824
    · rw [if_pos ⟨len _ (by omega), rfl, by omega, by simp⟩, if_pos ⟨by omega, hk⟩]
      simp only [signV, Bool.false_eq_true, if_false]
      congr 1; omega
    · rw [if_neg (by omega), if_neg (by omega)]

@[go_sem] theorem e10 (n : Int) (h1 : -9223372036854775808 ≤ n) (h2 : n ≤ 9223372036854775807) : fn C 10 [] [.int .i64 n] = some (.str (itoa n), []) := by
  rw [fn_text Tryd.func10 rfl rfl Tryd.results10 locM10 rfl rfl (by kernel_rfl)]
  simp -implicitDefEqProofs -dsimp +contextual (maxSteps := 5000000) (disch := first | omega | (simp only [go_sem] <;> omega) | (show indepB _ _ = true; refine id ?_; kernel_rfl)) only [go_sem, ↓reduceIte, Nat.reduceEqDiff, Nat.reduceBEq, Nat.reduceAdd, Nat.reduceSub, Nat.reduceLeDiff, Nat.reduceLT, Nat.reduceMul, Int.reduceNeg, Int.reduceLT, Int.reduceLE, Int.reduceAdd, Int.reduceSub, Int.reduceToNat, Int.reduceMul, Int.reduceMod, Int.reduceTMod, Int.reduceTDiv, Int.reduceEq, Nat.reducePow, Nat.reduceDiv, Nat.reduceShiftRight, Nat.reduceMod, List.reduceReplicate, h1, h2]

end Go.Proofs.YtfifgnffipdmeaaDoor
