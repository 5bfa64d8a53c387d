import Derived.Test.YtbnlbdhepbbaoaaDoorTScript10
namespace Go.Proofs.YtbnlbdhepbbaoaaDoor
open Go.Am
set_option linter.unusedSimpArgs false
set_option linter.unusedVariables false
set_option maxRecDepth 100000
/-! Layer 43: what is printed is parsed as it was. -/
def noNl (l : List UInt8) : Bool := l.all fun c => decide (¬ c = 10)
theorem noNl_mem {l : List UInt8} (h : noNl l = true) : ∀ c ∈ l, ¬ c = 10 := by
  simpa [noNl] using h
theorem noNl_of {l : List UInt8} {p : UInt8 → Bool} (h : l.all p = true) (h10 : p 10 = false) : noNl l = true := by
  simp only [noNl, List.all_eq_true, decide_eq_true_eq] at h ⊢
  intro c hc e
  rw [e] at hc
  rw [h 10 hc] at h10
  cases h10
theorem num_noNl (w : List UInt8) (m : Int) (h : (numR w m).2 = 0) : noNl w = true := by
  unfold numR at h
  split at h
  · rename_i n hn
    unfold readNumR at hn
    split at hn
    · rename_i hd
      have h1 : (digsOf w).all decB = true := by have := hd.2.1; simp only [plainD, Bool.and_eq_true] at this; exact this.1.2
      have h2 := noNl_of h1 rfl
      rw [← text_of w]
      unfold textN
      split
      · simp only [noNl, List.all_cons] at h2 ⊢
        rw [h2]; rfl
      · exact h2
    · cases hn
  · simp at h
theorem hex_noNl (w : List UInt8) (h : (hexN w).2 = 0) : noNl w = true := by
  unfold hexN at h
  split at h
  · rename_i hc
    exact noNl_of hc.2 rfl
  · simp at h
theorem name_noNl (w : List UInt8) (h : (textR (nameR w) w).2 = 0) : noNl w = true := by
  cases hn : nameR w
  · rw [hn] at h; simp [textR] at h
  · simp only [nameR, Bool.and_eq_true] at hn
    exact noNl_of hn.2 rfl
theorem key_noNl (w : List UInt8) (h : (textR (keyR w) w).2 = 0) : noNl w = true := by
  cases hn : keyR w
  · rw [hn] at h; simp [textR] at h
  · simp only [keyR, Bool.and_eq_true] at hn
    exact noNl_of hn.2 rfl
theorem raw_noNl (w : List UInt8) (m : Nat) (h : (rawR w m).2 = 0) : noNl w = true := by
  unfold rawR at h
  split at h
  · rename_i b hb
    unfold bytesOf at hb
    split at hb
    · rename_i hw; rw [hw]; rfl
    · split at hb
      · cases hb
      · rename_i hc
        rcases unp_cases _ w (Nat.le_refl _) (by omega) with ⟨h1, _⟩ | ⟨_, h2⟩
        · exact noNl_of h1 rfl
        · rw [h2] at hb; cases hb
  · simp at h
theorem step_noNl (c : Nat) (w : List UInt8) (s : St) (hc : okL c) (h49 : c ≠ 49) (h : (stepR c w s).2 = 0) : noNl w = true := by
  have hc' : c = 110 ∨ c = 111 ∨ c = 112 ∨ c = 102 ∨ c = 117 ∨ c = 97 ∨ c = 98 ∨ c = 105 ∨ c = 109 ∨ c = 107 ∨ c = 115 ∨ c = 118 ∨ c = 114 := by unfold okL at hc; omega
  rcases hc' with rfl | rfl | rfl | rfl | rfl | rfl | rfl | rfl | rfl | rfl | rfl | rfl | rfl
  · exact num_noNl w 7 (by rw [show stepR 110 w s = _ from S110 w s] at h; exact h)
  · exact num_noNl w 7 (by rw [show stepR 111 w s = _ from S111 w s] at h; exact h)
  · exact num_noNl w 255 (by rw [show stepR 112 w s = _ from S112 w s] at h; exact h)
  · exact num_noNl w 1073741824 (by rw [show stepR 102 w s = _ from S102 w s] at h; exact h)
  · exact num_noNl w 1073741824 (by rw [show stepR 117 w s = _ from S117 w s] at h; exact h)
  · exact num_noNl w 2047 (by rw [show stepR 97 w s = _ from S97 w s] at h; exact h)
  · exact num_noNl w 255 (by rw [show stepR 98 w s = _ from S98 w s] at h; exact h)
  · exact hex_noNl w (by rw [stepR_105] at h; exact h)
  · exact name_noNl w (by rw [stepR_109] at h; exact h)
  · exact key_noNl w (by rw [stepR_107] at h; exact h)
  · exact name_noNl w (by rw [stepR_115] at h; exact h)
  · exact raw_noNl w 32 (by rw [stepR_118] at h; exact h)
  · exact raw_noNl w 2048 (by rw [stepR_114] at h; exact h)
theorem readAll_noNl : ∀ (L : List UInt8) (r : List (List UInt8)) (s : St), (∀ c ∈ L, okL c.toNat) → L.length = r.length → (∀ i (h : i < r.length), L[i]? = some 49 → noNl r[i] = true) → (readAll L r s).2 = 0 → ∀ p ∈ r, noNl p = true
  | [], [], _, _, _, _, _, p, hp => by cases hp
  | c :: L, w :: r, s, hL, hlen, h9, h, p, hp => by
    rw [show readAll (c :: L) (w :: r) s = if (stepR c.toNat w s).2 = 0 then readAll L r (stepR c.toNat w s).1 else stepR c.toNat w s from rfl] at h
    by_cases h0 : (stepR c.toNat w s).2 = 0
    · rw [if_pos h0] at h
      rcases List.mem_cons.1 hp with rfl | hp
      · by_cases e : c = 49
        · exact h9 0 (by simp) (by rw [e]; rfl)
        · exact step_noNl c.toNat p s (hL c (by simp)) (fun x => e (UInt8.toNat_inj.1 x)) h0
      · exact readAll_noNl L r _ (fun c hc => hL c (by simp [hc])) (by simpa using hlen) (fun i hi hq => h9 (i + 1) (by simp; omega) (by simpa using hq)) h p hp
    · rw [if_neg h0] at h
      exact absurd h h0
theorem parts_chars (sep : UInt8) : ∀ (l : List UInt8) (c : UInt8), c ∈ l → c = sep ∨ ∃ p ∈ parts sep l, c ∈ p
  | x :: l, c, h => by
    have ih := parts_chars sep l c
    obtain ⟨a, t, hp⟩ : ∃ a t, parts sep l = a :: t := by
      cases hq : parts sep l with
      | nil => exact absurd hq (parts_ne sep l)
      | cons a t => exact ⟨a, t, rfl⟩
    rw [hp] at ih
    unfold parts
    rw [hp]
    split
    · rename_i hx
      rcases List.mem_cons.1 h with rfl | h
      · exact .inl hx
      · rcases ih h with h | ⟨p, h1, h2⟩
        · exact .inl h
        · exact .inr ⟨p, by simp [h1], h2⟩
    · simp only [List.headD_cons, List.tail_cons]
      rcases List.mem_cons.1 h with rfl | h
      · exact .inr ⟨_, List.mem_cons_self .., List.mem_cons_self ..⟩
      · rcases ih h with h | ⟨p, h1, h2⟩
        · exact .inl h
        · rcases List.mem_cons.1 h1 with rfl | h1
          · exact .inr ⟨_, List.mem_cons_self .., List.mem_cons_of_mem _ h2⟩
          · exact .inr ⟨p, by simp [h1], h2⟩
theorem wordR_noNl (k : Nat) (h1 : 1 ≤ k) (h2 : k ≤ 19) : noNl (wordR k) = true ∧ wordR k ≠ [] ∧ (wordR k).head? ≠ some 35 := by
  have : ∀ k : Fin 20, 1 ≤ k.val → noNl (wordR k.val) = true ∧ wordR k.val ≠ [] ∧ (wordR k.val).head? ≠ some 35 := by decide
  exact this ⟨k, by omega⟩ h1

end Go.Proofs.YtbnlbdhepbbaoaaDoor
namespace Go.Proofs.YtbnlbdhepbbaoaaDoor
open Go.Am
set_option linter.unusedSimpArgs false
set_option linter.unusedVariables false
set_option maxRecDepth 100000
/-! Layer 43: a line that is read; what is printed. -/
theorem join_parts (c : UInt8) : ∀ l : List UInt8, Lib.join (parts c l) [c] = l
  | [] => rfl
  | x :: l => by
    have ih := join_parts c l
    obtain ⟨a, t, hp⟩ : ∃ a t, parts c l = a :: t := by
      cases hq : parts c l with
      | nil => exact absurd hq (parts_ne c l)
      | cons a t => exact ⟨a, t, rfl⟩
    rw [hp, Lib.join_cons] at ih
    unfold parts
    rw [hp]
    split
    · rename_i hx
      rw [Lib.join_cons, Lib.joinTail, List.map_cons, List.flatten_cons, ← Lib.joinTail, hx]
      simp only [List.nil_append, List.cons_append]
      rw [ih]
    · simp only [List.headD_cons, List.tail_cons]
      rw [Lib.join_cons, List.cons_append, ih]
theorem read_tail (k : Nat) (r : List (List UInt8)) (s : St) (h1 : 1 ≤ k) (h2 : k ≤ 19) (hlen : (lettersP k r.length).length = r.length) (h9 : k = 1 → r.length = 3 → r.getD 2 [] = [97, 108, 111, 110, 101]) (h : readAll (lettersP k r.length) r { stZ with kind := (k : Int) } = (s, 0)) :
    s.kind = (k : Int) ∧ toldR s = r := by
  have hk : k = 1 ∨ k = 2 ∨ k = 3 ∨ k = 4 ∨ k = 5 ∨ k = 6 ∨ k = 7 ∨ k = 8 ∨ k = 9 ∨ k = 10 ∨ k = 11 ∨ k = 12 ∨ k = 13 ∨ k = 14 ∨ k = 15 ∨ k = 16 ∨ k = 17 ∨ k = 18 ∨ k = 19 := by omega
  rcases hk with rfl | rfl | rfl | rfl | rfl | rfl | rfl | rfl | rfl | rfl | rfl | rfl | rfl | rfl | rfl | rfl | rfl | rfl | rfl
  · by_cases h3 : r.length ≤ 2
    · rw [show lettersP 1 r.length = [110, 109] by simp [lettersP, h3]] at h hlen
      match r, hlen with
      | [x, y], _ => exact told_1 x y s h
    · rw [show lettersP 1 r.length = [110, 109, 49] by simp [lettersP, h3]] at h hlen
      match r, hlen with
      | [x, y, z], _ =>
        have hz : z = [97, 108, 111, 110, 101] := by simpa using h9 rfl rfl
        subst hz
        exact told_1a x y s h
  · rw [show lettersP 2 r.length = [110, 111] from rfl] at h hlen
    match r, hlen with
    | [x, y], _ => exact told_2 x y s h
  · rw [show lettersP 3 r.length = [110] from rfl] at h hlen
    match r, hlen with
    | [x], _ => exact told_3 x s h
  · rw [show lettersP 4 r.length = [110] from rfl] at h hlen
    match r, hlen with
    | [x], _ => exact told_4 x s h
  · rw [show lettersP 5 r.length = [110] from rfl] at h hlen
    match r, hlen with
    | [x], _ => exact told_5 x s h
  · rw [show lettersP 6 r.length = [110] from rfl] at h hlen
    match r, hlen with
    | [x], _ => exact told_6 x s h
  · rw [show lettersP 7 r.length = [110, 107, 118] from rfl] at h hlen
    match r, hlen with
    | [x, y, z], _ => exact told_7 x y z s h
  · rw [show lettersP 8 r.length = [110, 107] from rfl] at h hlen
    match r, hlen with
    | [x, y], _ => exact told_8 x y s h
  · rw [show lettersP 9 r.length = [110, 107] from rfl] at h hlen
    match r, hlen with
    | [x, y], _ => exact told_9 x y s h
  · rw [show lettersP 10 r.length = [] from rfl] at h hlen
    match r, hlen with
    | [], _ => exact told_10 s h
  · rw [show lettersP 11 r.length = [112] from rfl] at h hlen
    match r, hlen with
    | [x], _ => exact told_11 x s h
  · rw [show lettersP 12 r.length = [112] from rfl] at h hlen
    match r, hlen with
    | [x], _ => exact told_12 x s h
  · rw [show lettersP 13 r.length = [112] from rfl] at h hlen
    match r, hlen with
    | [x], _ => exact told_13 x s h
  · rw [show lettersP 14 r.length = [109, 115, 114] from rfl] at h hlen
    match r, hlen with
    | [x, y, z], _ => exact told_14 x y z s h
  · rw [show lettersP 15 r.length = [112, 97, 98] from rfl] at h hlen
    match r, hlen with
    | [x, y, z], _ => exact told_15 x y z s h
  · rw [show lettersP 16 r.length = [105] from rfl] at h hlen
    match r, hlen with
    | [x], _ => exact told_16 x s h
  · rw [show lettersP 17 r.length = [109, 105, 102, 117] from rfl] at h hlen
    match r, hlen with
    | [x, y, z, u], _ => exact told_17 x y z u s h
  · by_cases h3 : r.length = 0
    · rw [show lettersP 18 r.length = [] by simp [lettersP, h3]] at h hlen
      match r, hlen with
      | [], _ => exact told_18 s h
    · rw [show lettersP 18 r.length = [109] by simp [lettersP, h3]] at h hlen
      match r, hlen with
      | [x], _ => exact told_18a x s h
  · rw [show lettersP 19 r.length = [110] from rfl] at h hlen
    match r, hlen with
    | [x], _ => exact told_19 x s h
theorem read_shape (line : List UInt8) (s : St) (h : readR line = (s, 0)) : ∃ k r, 1 ≤ k ∧ k ≤ 19 ∧ parts 32 line = wordR k :: r ∧ s.kind = (k : Int) ∧ toldR s = r ∧ ∀ p ∈ r, noNl p = true := by
  unfold readR at h
  split at h
  · rename_i hc
    obtain ⟨c1, c2, c3⟩ := hc
    cases hp : parts 32 line with
    | nil => exact absurd hp (parts_ne 32 line)
    | cons w r =>
      rw [hp] at h c1 c2 c3
      simp only [List.headD_cons, List.length_cons, Nat.add_sub_cancel, List.tail_cons] at h c1 c2 c3
      obtain ⟨q1, q2, q3, q4⟩ := formQ_kind w
      generalize kindF w = k at *
      have hw := q3 c1
      have ha : readAll (lettersP k r.length) r { stZ with kind := (k : Int) } = (s, 0) := by
        unfold finR at h
        split at h
        · exact h
        · rename_i h0
          exact absurd (congrArg Prod.snd h) h0
      have h9 : k = 1 → r.length = 3 → r.getD 2 [] = [97, 108, 111, 110, 101] := fun e1 e2 => Classical.byContradiction fun e3 => c3 ⟨e1, by omega, by simpa using e3⟩
      obtain ⟨t1, t2⟩ := read_tail k r s q1 c1 c2 h9 ha
      refine ⟨k, r, q1, c1, by rw [hw], t1, t2, ?_⟩
      refine readAll_noNl _ r _ (lettersP_ok k r.length) c2 (fun i hi hq => ?_) (by rw [ha])
      have hL : ∀ k : Fin 20, ∀ m : Fin 5, ∀ i : Fin 5, (lettersP k.val m.val)[i.val]? = some 49 → k.val = 1 ∧ m.val ≥ 3 ∧ i.val = 2 := by decide
      have hl4 := lettersP_len k r.length
      obtain ⟨g1, g2, g3⟩ := hL ⟨k, by omega⟩ ⟨r.length, by omega⟩ ⟨i, by omega⟩ hq
      simp only at g1 g2 g3
      subst g1
      have g4 : r.length = 3 := by
        have : ∀ m : Fin 5, (lettersP 1 m.val).length ≤ 3 := by decide
        have := this ⟨r.length, by omega⟩
        simp only at this
        omega
      have g5 := h9 rfl g4
      subst g3
      rw [List.getD_eq_getElem?_getD, List.getElem?_eq_getElem hi] at g5
      simp only [Option.getD_some] at g5
      rw [g5]; rfl
  · cases congrArg Prod.snd h
theorem back_lineW (line : List UInt8) (s : St) (h : readR line = (s, 0)) : lineW s = line := by
  obtain ⟨k, r, k1, k2, hp, hk, ht, _⟩ := read_shape line s h
  have hw : wordK s.kind = wordR k := by rw [wordK, if_pos (by omega), hk]; rfl
  rw [lineW, hw, ht, ← hp]
  exact join_parts 32 line
theorem back_line (line : List UInt8) (s : St) (h : readR line = (s, 0)) : lineR s = (line, 0) := by
  rw [lineR, back_lineW line s h, if_pos h]
theorem read_noNl (line : List UInt8) (s : St) (h : readR line = (s, 0)) : noNl line = true ∧ line ≠ [] ∧ line.head? ≠ some 35 := by
  obtain ⟨k, r, k1, k2, hp, _, _, hr⟩ := read_shape line s h
  obtain ⟨w1, w2, w3⟩ := wordR_noNl k k1 k2
  have hj := join_parts 32 line
  rw [hp, Lib.join_cons] at hj
  obtain ⟨c, t, hw⟩ : ∃ c t, wordR k = c :: t := by
    cases hq : wordR k with
    | nil => exact absurd hq w2
    | cons c t => exact ⟨c, t, rfl⟩
  refine ⟨?_, ?_, ?_⟩
  · simp only [noNl, List.all_eq_true, decide_eq_true_eq]
    intro x hx e
    rcases parts_chars 32 line x hx with h1 | ⟨p, h1, h2⟩
    · rw [h1] at e; cases e
    · rw [hp] at h1
      rcases List.mem_cons.1 h1 with rfl | h1
      · exact noNl_mem w1 x h2 e
      · exact noNl_mem (hr p h1) x h2 e
  · rw [← hj, hw]; simp
  · rw [← hj, hw]
    rw [hw] at w3
    exact w3
theorem line_ok (s : St) (h : (lineR s).2 = 0) : readR (lineR s).1 = (s, 0) := by
  unfold lineR at h ⊢
  split at h
  · rename_i hc
    rw [if_pos hc]; exact hc
  · simp at h
theorem parse_lines : ∀ (l : List St) (row : Nat) (out : List St), (∀ s ∈ l, (lineR s).2 = 0) → out.length + l.length ≤ 199 → parseAll ((l.map fun s => (lineR s).1) ++ [[]]) row out = (out ++ l, 0, 0)
  | [], row, out, _, _ => by simp [parseAll]
  | s :: l, row, out, h, hl => by
    have h0 := line_ok s (h s (by simp))
    obtain ⟨_, n2, n3⟩ := read_noNl _ s h0
    rw [List.map_cons, List.cons_append, parseAll, if_neg (fun x => x.elim n2 n3), if_neg (by simp only [List.length_cons] at hl; omega), h0, if_pos rfl, parse_lines l (row + 1) (out ++ [s]) (fun x hx => h x (by simp [hx])) (by simp only [List.length_append, List.length_cons, List.length_nil] at hl ⊢; omega)]
    simp
theorem print_text : ∀ (l : List St) (acc : List UInt8), (∀ s ∈ l, (lineR s).2 = 0) → printAll l acc = (acc ++ (l.map fun s => (lineR s).1 ++ [10]).flatten, 0)
  | [], acc, _ => by simp [printAll]
  | s :: l, acc, h => by
    rw [printAll, if_pos (h s (by simp)), print_text l _ (fun x hx => h x (by simp [hx]))]
    simp
theorem print_good : ∀ (l : List St) (acc : List UInt8), (printAll l acc).2 = 0 → ∀ s ∈ l, (lineR s).2 = 0
  | [], _, _, s, hs => by cases hs
  | a :: l, acc, h, s, hs => by
    rw [printAll] at h
    split at h
    · rename_i ha
      rcases List.mem_cons.1 hs with rfl | hs
      · exact ha
      · exact print_good l _ h s hs
    · simp at h
theorem parts_text : ∀ (l : List St), (∀ s ∈ l, (lineR s).2 = 0) → parts 10 (l.map fun s => (lineR s).1 ++ [10]).flatten = (l.map fun s => (lineR s).1) ++ [[]]
  | [], _ => rfl
  | s :: l, h => by
    have h0 := line_ok s (h s (by simp))
    have n1 := (read_noNl _ s h0).1
    rw [List.map_cons, List.flatten_cons, List.append_assoc, List.singleton_append, parts_at 10 _ _ (noNl_mem n1), parts_text l (fun x hx => h x (by simp [hx]))]
    rfl
theorem back_parse (l : List St) (h : (printAll l []).2 = 0) (hl : l.length ≤ 80) : parseR (printAll l []).1 = if 20000 < (printAll l []).1.length then ([], 0, 3) else (l, 0, 0) := by
  have hg := print_good l [] h
  unfold parseR
  rw [print_text l [] hg]
  simp only [List.nil_append]
  rw [parts_text l hg, parse_lines l 1 [] hg (by simp; omega)]
  rfl

end Go.Proofs.YtbnlbdhepbbaoaaDoor
namespace Go.Proofs.YtbnlbdhepbbaoaaDoor
open Go.Am
set_option linter.unusedSimpArgs false
set_option linter.unusedVariables false
set_option maxRecDepth 100000
/-! Layer 43: ScriptBack. -/
theorem printAll_le : ∀ (l : List St) (acc : List UInt8), (∀ s ∈ l, s.ok) → (printAll l acc).1.length ≤ acc.length + l.length * 900001
  | [], acc, _ => by simp [printAll]
  | s :: l, acc, h => by
    rw [printAll]
    split
    · have ih := printAll_le l (acc ++ (lineR s).1 ++ [10]) (fun x hx => h x (by simp [hx]))
      have := lineR_le s (h s (by simp))
      simp only [List.length_append, List.length_cons, List.length_nil] at ih ⊢
      omega
    · simp
theorem readR_bad (line : List UInt8) (h : ¬ (readR line).2 = 0) : (readR line).1 = stZ := by
  unfold readR at h ⊢
  split
  · rename_i hc
    rw [if_pos hc] at h
    unfold finR at h ⊢
    split
    · rename_i h0
      rw [if_pos h0] at h
      exact absurd h0 h
    · rfl
  · rfl
set_option maxHeartbeats 16000000 in
theorem e6 (l : List St) (line : List UInt8) (hl : l.length ≤ 9223372036854775807) (hll : line.length ≤ 9223372036854775807) (hn : ∀ s ∈ l, s.num) (hf : ∀ s ∈ l, s.fit) : fn C2 6 [] [.slice 10 (l.map St.cs), .str line] = some (.bool true, []) := by
  have sh := e11 l hl hf
  cases hs : shortR l with
  | false =>
    rw [hs] at sh
    rw [fn_text Tryd.func6 rfl rfl Tryd.results6 fq6.1 rfl rfl (by kernel_rfl)]
    simp -implicitDefEqProofs -dsimp +contextual (maxSteps := 9999999) (disch := first | omega | simp only [go_sem] <;> omega | refine ib ?_; kernel_rfl) only [go_sem, seval, ↓reduceIte, sh]
  | true =>
    rw [hs] at sh
    by_cases h5 : 5000 < line.length
    · rw [fn_text Tryd.func6 rfl rfl Tryd.results6 fq6.1 rfl rfl (by kernel_rfl)]
      simp -implicitDefEqProofs -dsimp +contextual (maxSteps := 9999999) (disch := first | omega | simp only [go_sem] <;> omega | refine ib ?_; kernel_rfl) only [go_sem, seval, ↓reduceIte, sh, h5]
    · simp only [shortR, Bool.and_eq_true, decide_eq_true_eq] at hs
      have ok : ∀ s ∈ l, s.ok := fun s hm => (hn s hm).ok (short_mem hs.2 s hm)
      have p3 := c2_Print l (by omega) ok
      have ple := printAll_le l [] ok
      simp only [List.length_nil, Nat.zero_add] at ple
      have ple2 : (printAll l []).1.length ≤ 100000000 := Nat.le_trans ple (Nat.le_trans (Nat.mul_le_mul_right 900001 hs.1) (by decide))
      have p1 := e15 (printAll l []).1 (by omega)
      have m := e19 l l (by omega) (by omega) (fun s h => by have := (ok s h).g3; omega) (fun s h => by have := (ok s h).g3; omega)
      rw [decide_eq_true rfl] at m
      have r1 := e8 line (by omega)
      have ro := readR_ok line
      have bl := back_line line (readR line).1
      have bz := readR_bad line
      have bp := back_parse l
      have mz := e10 stZ stZ (by decide) (by decide)
      rw [decide_eq_true rfl] at mz
      simp only [stZ, List.map_nil, Int.cast_ofNat_Int] at mz
      rw [stV] at r1
      rw [pV] at p1
      have hb2 : (readR line).2 = 0 → lineR (readR line).1 = (line, 0) := fun e => bl (by rw [← e])
      clear bl
      generalize readR line = q at *
      have l1 := e12 q.1 ro
      -- how the line ends
      by_cases e0 : (printAll l []).2 = 0
      · have bp := bp e0 hs.1
        by_cases h20 : 20000 < (printAll l []).1.length
        · rw [if_pos h20] at bp
          rw [bp] at p1
          generalize printAll l [] = p at *
          simp only [List.map_nil] at p1
          by_cases z : q.2 = 0
          · rw [hb2 z] at l1
            rw [fn_text Tryd.func6 rfl rfl Tryd.results6 fq6.1 rfl rfl (by kernel_rfl)]
            simp -implicitDefEqProofs -dsimp +contextual (maxSteps := 9999999) (disch := first | omega | simp only [go_sem] <;> omega | refine ib ?_; kernel_rfl) only [go_sem, seval, ↓reduceIte, sh, h5, p3, p1, e0, h20, show ¬ p.1.length ≤ 20000 by omega, r1, l1, z]
          · have hz := bz z
            obtain ⟨q1, q2⟩ := q
            simp only at hz z r1
            subst hz
            simp only [stZ, List.map_nil, Int.cast_ofNat_Int] at r1
            rw [fn_text Tryd.func6 rfl rfl Tryd.results6 fq6.1 rfl rfl (by kernel_rfl)]
            simp -implicitDefEqProofs -dsimp +contextual (maxSteps := 9999999) (disch := first | omega | simp only [go_sem] <;> omega | refine ib ?_; kernel_rfl) only [go_sem, seval, ↓reduceIte, sh, h5, p3, p1, e0, h20, show ¬ p.1.length ≤ 20000 by omega, r1, z, mz]
        · rw [if_neg h20] at bp
          rw [bp] at p1
          generalize printAll l [] = p at *
          by_cases z : q.2 = 0
          · rw [hb2 z] at l1
            rw [fn_text Tryd.func6 rfl rfl Tryd.results6 fq6.1 rfl rfl (by kernel_rfl)]
            simp -implicitDefEqProofs -dsimp +contextual (maxSteps := 9999999) (disch := first | omega | simp only [go_sem] <;> omega | refine ib ?_; kernel_rfl) only [go_sem, seval, ↓reduceIte, sh, h5, p3, p1, e0, h20, m, r1, l1, z]
          · have hz := bz z
            obtain ⟨q1, q2⟩ := q
            simp only at hz z r1
            subst hz
            simp only [stZ, List.map_nil, Int.cast_ofNat_Int] at r1
            rw [fn_text Tryd.func6 rfl rfl Tryd.results6 fq6.1 rfl rfl (by kernel_rfl)]
            simp -implicitDefEqProofs -dsimp +contextual (maxSteps := 9999999) (disch := first | omega | simp only [go_sem] <;> omega | refine ib ?_; kernel_rfl) only [go_sem, seval, ↓reduceIte, sh, h5, p3, p1, e0, h20, m, r1, z, mz]
      · generalize printAll l [] = p at *
        by_cases z : q.2 = 0
        · rw [hb2 z] at l1
          rw [fn_text Tryd.func6 rfl rfl Tryd.results6 fq6.1 rfl rfl (by kernel_rfl)]
          simp -implicitDefEqProofs -dsimp +contextual (maxSteps := 9999999) (disch := first | omega | simp only [go_sem] <;> omega | refine ib ?_; kernel_rfl) only [go_sem, seval, ↓reduceIte, sh, h5, p3, e0, r1, l1, z]
        · have hz := bz z
          obtain ⟨q1, q2⟩ := q
          simp only at hz z r1
          subst hz
          simp only [stZ, List.map_nil, Int.cast_ofNat_Int] at r1
          rw [fn_text Tryd.func6 rfl rfl Tryd.results6 fq6.1 rfl rfl (by kernel_rfl)]
          simp -implicitDefEqProofs -dsimp +contextual (maxSteps := 9999999) (disch := first | omega | simp only [go_sem] <;> omega | refine ib ?_; kernel_rfl) only [go_sem, seval, ↓reduceIte, sh, h5, p3, e0, r1, z, mz]

end Go.Proofs.YtbnlbdhepbbaoaaDoor
