import Derived.Test.YtclgfgnhcakhdaaGreatDoorTTracelaw
namespace Go.Proofs.YtclgfgnhcakhdaaGreatDoor
set_option maxHeartbeats 64000000
open Go.Am
set_option linter.unusedSimpArgs false
set_option linter.unusedVariables false
set_option maxRecDepth 100000
theorem wordR_inj (i k : Nat) (h1 : 1 ≤ i) (h2 : i < k) (h3 : k ≤ 19) : ¬ wordR i = wordR k := by
  have : ∀ (k : Fin 20) (i : Fin 20), 1 ≤ i.val → i.val < k.val → ¬ wordR i.val = wordR k.val := by decide
  exact this ⟨k, by omega⟩ ⟨i, by omega⟩ h1 h2
def lettersP (k many : Nat) : List UInt8 :=
  if k = 1 then (if many ≤ 2 then [110, 109] else [110, 109, 49]) else if k = 2 then [110, 111] else if k = 3 then [110] else if k = 4 then [110] else if k = 5 then [110] else if k = 6 then [110] else if k = 7 then [110, 107, 118] else if k = 8 then [110, 107] else if k = 9 then [110, 107]
  else if k = 10 then [] else if k = 11 then [112] else if k = 12 then [112] else if k = 13 then [112] else if k = 14 then [109, 115, 114] else if k = 15 then [112, 97, 98] else if k = 16 then [105] else if k = 17 then [109, 105, 102, 117] else if k = 18 then (if many = 0 then [] else [109]) else if k = 19 then [110] else []
def formV (k many : Nat) : AVal := .tup [.int .i64 (k : Int), .str (lettersP k many), .bool (decide (k ≤ 19) && decide ((lettersP k many).length = many))]
def formQ (first : List UInt8) (k : Nat) : Prop := (k ≤ 19 → first = wordR k) ∧ ∀ i, 1 ≤ i → i < k → ¬ wordR i = first
theorem formEnd (k : Nat) (h : 1 ≤ k ∧ k ≤ 20) : k = 1 ∨ k = 2 ∨ k = 3 ∨ k = 4 ∨ k = 5 ∨ k = 6 ∨ k = 7 ∨ k = 8 ∨ k = 9 ∨ k = 10 ∨ k = 11 ∨ k = 12 ∨ k = 13 ∨ k = 14 ∨ k = 15 ∨ k = 16 ∨ k = 17 ∨ k = 18 ∨ k = 19 ∨ k = 20 := by omega
theorem formAt (first : List UInt8) (many k : Nat) (hm : many ≤ 1000000) (hk : 1 ≤ k ∧ k ≤ 20) (hq : formQ first k) : fn C 64 [] [.str first, .int .i64 (many : Int)] = some (formV k many, []) := by
  obtain ⟨q1, q2⟩ := hq
  rw [fn_text Tryz.func64 rfl rfl Tryz.results64 fq64.1 rfl rfl (by kernel_rfl)]
  simp -implicitDefEqProofs -dsimp +contextual (maxSteps := 9999999) (disch := first | omega | simp only [go_sem] <;> omega | refine ib ?_; kernel_rfl) only [go_sem, seval, ↓reduceIte]
  refine kLoop_rec (fun (i : Nat) f H => f 0 = .str first ∧ f 1 = .int .i64 (many : Int) ∧ f 4 = .int .i64 (i : Int) ∧ f 5 = .str [] ∧ f 6 = .bool false ∧ H = Heap.nil ∧ 1 ≤ i ∧ i ≤ k) (fun i => k - i) (fun _ => some (formV k many, [])) ?_ 1 _ _ ⟨rfl, rfl, rfl, rfl, rfl, rfl, by omega, by omega⟩
  rintro i f _ ⟨f0, f1, f4, f5, f6, rfl, hi1, hi⟩ ih
  by_cases hl : i < k
  · have w1 := wordIn i hi1 (by omega)
    simp -implicitDefEqProofs -dsimp +contextual (maxSteps := 9999999) (disch := first | omega | simp only [go_sem] <;> omega | refine ib ?_; kernel_rfl) only [go_sem, seval, ↓reduceIte, f0, f1, f4, f5, f6, w1, q2 i hi1 hl, show i ≤ 19 by omega]
    exact ih (i + 1) _ _ (by exact ⟨f0, f1, rfl, f5, f6, rfl, by omega, by omega⟩) (by omega)
  · obtain rfl : i = k := by omega
    clear ih q2 hl hi hi1
    rcases formEnd i hk with h | h | h | h | h | h | h | h | h | h | h | h | h | h | h | h | h | h | h | h
    · subst h
      have w1 := wordIn 1 (by omega) (by omega)
      simp only [Int.cast_ofNat_Int] at w1 f4
      obtain rfl := q1 (by omega)
      simp -implicitDefEqProofs -dsimp +contextual (maxSteps := 9999999) (disch := first | omega | simp only [go_sem] <;> omega | refine ib ?_; kernel_rfl) only [go_sem, seval, ↓reduceIte, f0, f1, f4, f5, f6, w1, formV]
      by_cases h2 : many ≤ 2
      · rw [show (if (3 : Int) < (if many < 2 then (2 : Int) else (many : Int)) then (3 : Int) else if many < 2 then (2 : Int) else (many : Int)) = 2 by split <;> (try split at *) <;> omega]
        simp [lettersP, h2]
      · rw [show (if (3 : Int) < (if many < 2 then (2 : Int) else (many : Int)) then (3 : Int) else if many < 2 then (2 : Int) else (many : Int)) = 3 by split <;> (try split at *) <;> omega]
        simp [lettersP, h2]
    · subst h
      have w1 := wordIn 2 (by omega) (by omega)
      simp only [Int.cast_ofNat_Int] at w1 f4
      obtain rfl := q1 (by omega)
      simp -implicitDefEqProofs -dsimp +contextual (maxSteps := 9999999) (disch := first | omega | simp only [go_sem] <;> omega | refine ib ?_; kernel_rfl) only [go_sem, seval, ↓reduceIte, f0, f1, f4, f5, f6, w1, formV]
      try simp [lettersP]
    · subst h
      have w1 := wordIn 3 (by omega) (by omega)
      simp only [Int.cast_ofNat_Int] at w1 f4
      obtain rfl := q1 (by omega)
      simp -implicitDefEqProofs -dsimp +contextual (maxSteps := 9999999) (disch := first | omega | simp only [go_sem] <;> omega | refine ib ?_; kernel_rfl) only [go_sem, seval, ↓reduceIte, f0, f1, f4, f5, f6, w1, formV]
      try simp [lettersP]
    · subst h
      have w1 := wordIn 4 (by omega) (by omega)
      simp only [Int.cast_ofNat_Int] at w1 f4
      obtain rfl := q1 (by omega)
      simp -implicitDefEqProofs -dsimp +contextual (maxSteps := 9999999) (disch := first | omega | simp only [go_sem] <;> omega | refine ib ?_; kernel_rfl) only [go_sem, seval, ↓reduceIte, f0, f1, f4, f5, f6, w1, formV]
      try simp [lettersP]
    · subst h
      have w1 := wordIn 5 (by omega) (by omega)
      simp only [Int.cast_ofNat_Int] at w1 f4
      obtain rfl := q1 (by omega)
      simp -implicitDefEqProofs -dsimp +contextual (maxSteps := 9999999) (disch := first | omega | simp only [go_sem] <;> omega | refine ib ?_; kernel_rfl) only [go_sem, seval, ↓reduceIte, f0, f1, f4, f5, f6, w1, formV]
      try simp [lettersP]
    · subst h
      have w1 := wordIn 6 (by omega) (by omega)
      simp only [Int.cast_ofNat_Int] at w1 f4
      obtain rfl := q1 (by omega)
      simp -implicitDefEqProofs -dsimp +contextual (maxSteps := 9999999) (disch := first | omega | simp only [go_sem] <;> omega | refine ib ?_; kernel_rfl) only [go_sem, seval, ↓reduceIte, f0, f1, f4, f5, f6, w1, formV]
      try simp [lettersP]
    · subst h
      have w1 := wordIn 7 (by omega) (by omega)
      simp only [Int.cast_ofNat_Int] at w1 f4
      obtain rfl := q1 (by omega)
      simp -implicitDefEqProofs -dsimp +contextual (maxSteps := 9999999) (disch := first | omega | simp only [go_sem] <;> omega | refine ib ?_; kernel_rfl) only [go_sem, seval, ↓reduceIte, f0, f1, f4, f5, f6, w1, formV]
      try simp [lettersP]
    · subst h
      have w1 := wordIn 8 (by omega) (by omega)
      simp only [Int.cast_ofNat_Int] at w1 f4
      obtain rfl := q1 (by omega)
      simp -implicitDefEqProofs -dsimp +contextual (maxSteps := 9999999) (disch := first | omega | simp only [go_sem] <;> omega | refine ib ?_; kernel_rfl) only [go_sem, seval, ↓reduceIte, f0, f1, f4, f5, f6, w1, formV]
      try simp [lettersP]
    · subst h
      have w1 := wordIn 9 (by omega) (by omega)
      simp only [Int.cast_ofNat_Int] at w1 f4
      obtain rfl := q1 (by omega)
      simp -implicitDefEqProofs -dsimp +contextual (maxSteps := 9999999) (disch := first | omega | simp only [go_sem] <;> omega | refine ib ?_; kernel_rfl) only [go_sem, seval, ↓reduceIte, f0, f1, f4, f5, f6, w1, formV]
      try simp [lettersP]
    · subst h
      have w1 := wordIn 10 (by omega) (by omega)
      simp only [Int.cast_ofNat_Int] at w1 f4
      obtain rfl := q1 (by omega)
      simp -implicitDefEqProofs -dsimp +contextual (maxSteps := 9999999) (disch := first | omega | simp only [go_sem] <;> omega | refine ib ?_; kernel_rfl) only [go_sem, seval, ↓reduceIte, f0, f1, f4, f5, f6, w1, formV]
      try simp [lettersP]
    · subst h
      have w1 := wordIn 11 (by omega) (by omega)
      simp only [Int.cast_ofNat_Int] at w1 f4
      obtain rfl := q1 (by omega)
      simp -implicitDefEqProofs -dsimp +contextual (maxSteps := 9999999) (disch := first | omega | simp only [go_sem] <;> omega | refine ib ?_; kernel_rfl) only [go_sem, seval, ↓reduceIte, f0, f1, f4, f5, f6, w1, formV]
      try simp [lettersP]
    · subst h
      have w1 := wordIn 12 (by omega) (by omega)
      simp only [Int.cast_ofNat_Int] at w1 f4
      obtain rfl := q1 (by omega)
      simp -implicitDefEqProofs -dsimp +contextual (maxSteps := 9999999) (disch := first | omega | simp only [go_sem] <;> omega | refine ib ?_; kernel_rfl) only [go_sem, seval, ↓reduceIte, f0, f1, f4, f5, f6, w1, formV]
      try simp [lettersP]
    · subst h
      have w1 := wordIn 13 (by omega) (by omega)
      simp only [Int.cast_ofNat_Int] at w1 f4
      obtain rfl := q1 (by omega)
      simp -implicitDefEqProofs -dsimp +contextual (maxSteps := 9999999) (disch := first | omega | simp only [go_sem] <;> omega | refine ib ?_; kernel_rfl) only [go_sem, seval, ↓reduceIte, f0, f1, f4, f5, f6, w1, formV]
      try simp [lettersP]
    · subst h
      have w1 := wordIn 14 (by omega) (by omega)
      simp only [Int.cast_ofNat_Int] at w1 f4
      obtain rfl := q1 (by omega)
      simp -implicitDefEqProofs -dsimp +contextual (maxSteps := 9999999) (disch := first | omega | simp only [go_sem] <;> omega | refine ib ?_; kernel_rfl) only [go_sem, seval, ↓reduceIte, f0, f1, f4, f5, f6, w1, formV]
      try simp [lettersP]
    · subst h
      have w1 := wordIn 15 (by omega) (by omega)
      simp only [Int.cast_ofNat_Int] at w1 f4
      obtain rfl := q1 (by omega)
      simp -implicitDefEqProofs -dsimp +contextual (maxSteps := 9999999) (disch := first | omega | simp only [go_sem] <;> omega | refine ib ?_; kernel_rfl) only [go_sem, seval, ↓reduceIte, f0, f1, f4, f5, f6, w1, formV]
      try simp [lettersP]
    · subst h
      have w1 := wordIn 16 (by omega) (by omega)
      simp only [Int.cast_ofNat_Int] at w1 f4
      obtain rfl := q1 (by omega)
      simp -implicitDefEqProofs -dsimp +contextual (maxSteps := 9999999) (disch := first | omega | simp only [go_sem] <;> omega | refine ib ?_; kernel_rfl) only [go_sem, seval, ↓reduceIte, f0, f1, f4, f5, f6, w1, formV]
      try simp [lettersP]
    · subst h
      have w1 := wordIn 17 (by omega) (by omega)
      simp only [Int.cast_ofNat_Int] at w1 f4
      obtain rfl := q1 (by omega)
      simp -implicitDefEqProofs -dsimp +contextual (maxSteps := 9999999) (disch := first | omega | simp only [go_sem] <;> omega | refine ib ?_; kernel_rfl) only [go_sem, seval, ↓reduceIte, f0, f1, f4, f5, f6, w1, formV]
      try simp [lettersP]
    · subst h
      have w1 := wordIn 18 (by omega) (by omega)
      simp only [Int.cast_ofNat_Int] at w1 f4
      obtain rfl := q1 (by omega)
      simp -implicitDefEqProofs -dsimp +contextual (maxSteps := 9999999) (disch := first | omega | simp only [go_sem] <;> omega | refine ib ?_; kernel_rfl) only [go_sem, seval, ↓reduceIte, f0, f1, f4, f5, f6, w1, formV]
      by_cases h0 : many = 0
      · subst h0
        simp [lettersP]
      · rw [show (if 1 < many then (1 : Int) else (many : Int)) = 1 by split <;> omega]
        simp [lettersP, h0]
    · subst h
      have w1 := wordIn 19 (by omega) (by omega)
      simp only [Int.cast_ofNat_Int] at w1 f4
      obtain rfl := q1 (by omega)
      simp -implicitDefEqProofs -dsimp +contextual (maxSteps := 9999999) (disch := first | omega | simp only [go_sem] <;> omega | refine ib ?_; kernel_rfl) only [go_sem, seval, ↓reduceIte, f0, f1, f4, f5, f6, w1, formV]
      try simp [lettersP]
    · subst h
      simp only [Int.cast_ofNat_Int] at f4
      simp -implicitDefEqProofs -dsimp +contextual (maxSteps := 9999999) (disch := first | omega | simp only [go_sem] <;> omega | refine ib ?_; kernel_rfl) only [go_sem, seval, ↓reduceIte, f0, f1, f4, f5, f6, formV]
      try simp [lettersP]
def readAll : List UInt8 → List (List UInt8) → St → St × Int
  | [], _, s => (s, 0)
  | c :: L, r, s => if (stepR c.toNat (nextR r) s).2 = 0 then readAll L r.tail (stepR c.toNat (nextR r) s).1 else stepR c.toNat (nextR r) s
def kindF (first : List UInt8) : Nat := ((List.range 20).find? fun k => decide (1 ≤ k) && decide (wordR k = first)).getD 20
theorem formQ_kind (first : List UInt8) : 1 ≤ kindF first ∧ kindF first ≤ 20 ∧ formQ first (kindF first) := by
  unfold kindF
  cases h : (List.range 20).find? fun k => decide (1 ≤ k) && decide (wordR k = first) with
  | none =>
    rw [List.find?_eq_none] at h
    simp only [Option.getD_none]
    refine ⟨by omega, by omega, fun h => by omega, fun i h1 h2 e => ?_⟩
    have := h i (by simp; omega)
    simp [e] at this; omega
  | some k =>
    have h1 := List.find?_some h
    have h2 := List.mem_of_find?_eq_some h
    simp at h1 h2
    simp only [Option.getD_some]
    refine ⟨by omega, by omega, fun _ => h1.2.symm, fun i h3 h4 e => ?_⟩
    exact wordR_inj i k h3 h4 (by omega) (e.trans h1.2.symm)
def okLs (L : List UInt8) : Bool := decide (L.length ≤ 4) && L.all fun c => decide (c.toNat = 110 ∨ c.toNat = 111 ∨ c.toNat = 112 ∨ c.toNat = 102 ∨ c.toNat = 117 ∨ c.toNat = 97 ∨ c.toNat = 98 ∨ c.toNat = 105 ∨ c.toNat = 109 ∨ c.toNat = 107 ∨ c.toNat = 115 ∨ c.toNat = 118 ∨ c.toNat = 114 ∨ c.toNat = 49)
theorem okLs_ite {p : Prop} [Decidable p] {a b : List UInt8} (ha : okLs a = true) (hb : okLs b = true) : okLs (if p then a else b) = true := by split <;> assumption
theorem lettersP_okLs (k m : Nat) : okLs (lettersP k m) = true := by
  unfold lettersP
  repeat' (first | decide | refine okLs_ite ?_ ?_)
theorem lettersP_len (k m : Nat) : (lettersP k m).length ≤ 4 := by
  have h := lettersP_okLs k m
  simp only [okLs, Bool.and_eq_true, decide_eq_true_eq] at h
  exact h.1
theorem lettersP_ok (k m : Nat) : ∀ c ∈ lettersP k m, okL c.toNat := by
  have h := lettersP_okLs k m
  simp only [okLs, Bool.and_eq_true, decide_eq_true_eq, List.all_eq_true] at h
  exact h.2
theorem parts_mem (c : UInt8) : ∀ (l p : List UInt8), p ∈ parts c l → p.length ≤ l.length
  | [], p, h => by simp [parts] at h; subst h; simp
  | x :: l, p, h => by
    have ih := parts_mem c l
    unfold parts at h
    split at h
    · rcases List.mem_cons.1 h with rfl | h
      · simp
      · have := ih p h; simp; omega
    · cases hp : parts c l with
      | nil => exact absurd hp (parts_ne c l)
      | cons a t =>
        rw [hp] at h ih
        simp only [List.headD_cons, List.tail_cons] at h
        rcases List.mem_cons.1 h with rfl | h
        · have := ih a (by simp); simp; omega
        · have := ih p (by simp [h]); simp; omega
theorem parts_count (c : UInt8) : ∀ (l : List UInt8), (parts c l).length ≤ l.length + 1
  | [] => by simp [parts]
  | x :: l => by
    have ih := parts_count c l
    unfold parts
    split
    · simp; omega
    · cases hp : parts c l with
      | nil => exact absurd hp (parts_ne c l)
      | cons a t => rw [hp] at ih; simp at ih ⊢; omega
def okW (r : List (List UInt8)) : Prop := r.length ≤ 1000000 ∧ ∀ p ∈ r, p.length ≤ 1000000
theorem okW.next {r : List (List UInt8)} (h : okW r) : (nextR r).length ≤ 1000000 := by
  cases r with
  | nil => simp [nextR]
  | cons a r => exact h.2 a (by simp)
theorem okW.tail {r : List (List UInt8)} (h : okW r) : okW r.tail := ⟨by have := h.1; simp; omega, fun p hp => h.2 p (List.mem_of_mem_tail hp)⟩
def finR (q : St × Int) : St × Int := if q.2 = 0 then q else (stZ, q.2)
def readR (line : List UInt8) : St × Int :=
  if kindF ((parts 32 line).headD []) ≤ 19 ∧ (lettersP (kindF ((parts 32 line).headD [])) ((parts 32 line).length - 1)).length = (parts 32 line).length - 1 ∧ ¬(kindF ((parts 32 line).headD []) = 1 ∧ (parts 32 line).length = 4 ∧ (parts 32 line).getD 3 [] ≠ [97, 108, 111, 110, 101]) then
    finR (readAll (lettersP (kindF ((parts 32 line).headD [])) ((parts 32 line).length - 1)) (parts 32 line).tail { stZ with kind := (kindF ((parts 32 line).headD []) : Int) })
  else (stZ, 50)
def stV (q : St × Int) : AVal := .tup [.agg [.int .i64 q.1.kind, .int .i64 q.1.node, .int .i64 q.1.other, .int .i64 q.1.n, .int .i64 q.1.fr, .int .i64 q.1.un, .int .u64 (q.1.id : Int), .str q.1.key, .str q.1.val, .slice 1 (q.1.bs.map byteRow)], .int .i64 q.2]
theorem bcR_ok (c : Nat) (w : List UInt8) {b : AVal} (h : BsC b) : BsC (bcR c b w) := by
  unfold bcR; split
  · exact .sl _
  · exact h
def BsOk (b : AVal) (bs : List UInt8) : Prop := b = .slice 1 (bs.map byteRow) ∨ (b = .sc (.slice none 0 0) ∧ bs = [])
theorem ite_bs {p : Prop} [Decidable p] {x y : St × Int} {v : List UInt8} (hx : x.1.bs = v) (hy : y.1.bs = v) : (if p then x else y).1.bs = v := by split <;> assumption
theorem stepR_bs (c : Nat) (w : List UInt8) (s : St) : (stepR c w s).1.bs = if c = 114 then (rawR w 2048).1 else s.bs := by
  by_cases h : c = 114
  · subst h
    rw [stepR_114, if_pos rfl]
  · rw [if_neg h]
    unfold stepR
    simp only [h, if_false]
    repeat' (first | rfl | refine ite_bs ?_ ?_)
theorem BsOk_step {s : St} (c : Nat) (w : List UInt8) {b : AVal} (h : BsOk b s.bs) : BsOk (bcR c b w) (stepR c w s).1.bs := by
  rw [stepR_bs]
  unfold bcR; split
  · exact .inl rfl
  · exact h
theorem finR_step {s : St} (c : UInt8) (L : List UInt8) (r : List (List UInt8)) (h : (stepR c.toNat (nextR r) s).2 = 0) : readAll (c :: L) r s = readAll L r.tail (stepR c.toNat (nextR r) s).1 := by rw [readAll, if_pos h]
theorem finR_stop {s : St} (c : UInt8) (L : List UInt8) (r : List (List UInt8)) (h : ¬ (stepR c.toNat (nextR r) s).2 = 0) : finR (readAll (c :: L) r s) = (stZ, (stepR c.toNat (nextR r) s).2) := by rw [readAll, if_neg h, finR, if_neg h]
theorem e43 (line : List UInt8) (hl : line.length ≤ 900000) : fn C 43 [] [.str line] = some (stV (readR line), []) := by
  have hw : okW (parts 32 line) := ⟨by have := parts_count 32 line; omega, fun p hp => by have := parts_mem 32 line p hp; omega⟩
  have sp := e63 line 32 (by omega)
  unfold readR
  cases hp : parts 32 line with
  | nil => exact absurd hp (parts_ne 32 line)
  | cons w r =>
    rw [hp] at hw sp
    have hr := hw.tail
    have h1 := hw.1
    simp only [List.tail_cons, List.length_cons, List.headD_cons, Nat.add_sub_cancel] at hr h1 ⊢
    have hf := formQ_kind w
    have fo := formAt w r.length (kindF w) (by omega) ⟨hf.1, hf.2.1⟩ hf.2.2
    rw [formV] at fo
    have hle := lettersP_len (kindF w) r.length
    have hok := lettersP_ok (kindF w) r.length
    generalize lettersP (kindF w) r.length = L at *
    generalize kindF w = k at *
    by_cases c1 : k ≤ 19 ∧ L.length = r.length
    · obtain ⟨c1, c2⟩ := c1
      by_cases c3 : k = 1 ∧ r.length = 3 ∧ ¬ r.getD 2 [] = [97, 108, 111, 110, 101]
      · obtain ⟨rfl, c4, c5⟩ := c3
        match r, c4 with
        | [x, y, z], _ =>
          simp only [List.getD_cons_succ, List.getD_cons_zero] at c5
          rw [if_neg (fun h => h.2.2 ⟨rfl, rfl, c5⟩)]
          simp only [List.length_cons, List.length_nil, Nat.zero_add, Nat.reduceAdd, Int.cast_ofNat_Int] at fo c2
          rw [show (decide (1 ≤ 19) && decide (L.length = 3)) = true by simp [c2]] at fo
          rw [fn_text Tryz.func43 rfl rfl Tryz.results43 fq43.1 rfl rfl (by kernel_rfl)]
          simp -implicitDefEqProofs -dsimp +contextual (maxSteps := 9999999) (disch := first | omega | simp only [go_sem] <;> omega | refine ib ?_; kernel_rfl) only [go_sem, seval, ↓reduceIte, sp, fo, c5]
          simp [stV, stZ]
      · rw [if_pos ⟨c1, c2, fun h => c3 ⟨h.1, by omega, by simpa using h.2.2⟩⟩]
        rw [show (decide (k ≤ 19) && decide (L.length = r.length)) = true by simp [c1, c2]] at fo
        have hx : k = 1 → r.length = 3 → r.getD 2 [] = [97, 108, 111, 110, 101] := fun a b => Classical.byContradiction fun e => c3 ⟨a, b, e⟩
        have hcase : (k = 1 ∧ ∃ x y, r = [x, y, [97, 108, 111, 110, 101]]) ∨ (k = 1 ∧ ¬ r.length = 3) ∨ ¬ k = 1 := by
          by_cases e1 : k = 1
          · by_cases e2 : r.length = 3
            · have := hx e1 e2
              match r, e2 with
              | [x, y, z], _ => simp at this; subst this; exact .inl ⟨e1, x, y, rfl⟩
            · exact .inr (.inl ⟨e1, e2⟩)
          · exact .inr (.inr e1)
        clear hx c3 hf
        rcases hcase with ⟨rfl, x, y, rfl⟩ | ⟨rfl, e2⟩ | e1
        all_goals rw [fn_text Tryz.func43 rfl rfl Tryz.results43 fq43.1 rfl rfl (by kernel_rfl)]
        · simp only [List.length_cons, List.length_nil, Nat.zero_add, Nat.reduceAdd, Int.cast_ofNat_Int] at fo c2
          simp -implicitDefEqProofs -dsimp +contextual (maxSteps := 9999999) (disch := first | omega | simp only [go_sem] <;> omega | refine ib ?_; kernel_rfl) only [go_sem, seval, ↓reduceIte, sp, fo, c2]
          refine kLoop_rec (fun (a : Nat × List (List UInt8) × St × AVal) f H => a.1 ≤ L.length ∧ okW a.2.1 ∧ BsOk a.2.2.2 a.2.2.1.bs ∧ BsC a.2.2.2 ∧ f 2 = .ptr 102 1 0 0 ∧ f 6 = .str L ∧ f 8 = .ptr 146 1 0 0 ∧ f 48 = .int .i64 (L.length : Int) ∧ f 49 = .int .i64 (a.1 : Int) ∧
            H 102 = ⟨1, .live, 10, [[.int .i64 0, .int .i64 0, .int .i64 0, .int .i64 0, .int .i64 0, .int .i64 0, .int .u64 0, .str [], .str [], .sc (.slice none 0 0)]], false⟩ ∧
            H 146 = ⟨1, .live, 12, [[.slice 1 (a.2.1.map strRow), .int .i64 a.2.2.1.kind, .int .i64 a.2.2.1.node, .int .i64 a.2.2.1.other, .int .i64 a.2.2.1.n, .int .i64 a.2.2.1.fr, .int .i64 a.2.2.1.un, .int .u64 (a.2.2.1.id : Int), .str a.2.2.1.key, .str a.2.2.1.val, a.2.2.2, .int .i64 0]], false⟩)
            (fun a => L.length - a.1) (fun a => some (stV (finR (readAll (L.drop a.1) a.2.1 a.2.2.1)), [])) ?_ (0, [x, y, [97, 108, 111, 110, 101]], ⟨1, 0, 0, 0, 0, 0, 0, [], [], []⟩, .sc (.slice none 0 0)) _ _ (by exact ⟨Nat.zero_le _, hr, .inr ⟨rfl, rfl⟩, .nil, rfl, rfl, rfl, by simp [upd, c2], rfl, by simp [Heap.set], by simp [Heap.set, strRow]⟩)
          rintro ⟨i, r', s', b⟩ f H ⟨hi, hw', hB, hb, f2, f6, f8, f48, f49, H1, H2⟩ ih
          simp only at hi hw' hB hb f49 H2 ih
          by_cases hlt : i < L.length
          · have hc := wordsRead r' s' b hb L[i].toNat hw'.1 hw'.next (hok _ (List.getElem_mem hlt))
            have hb2 := bcR_ok L[i].toNat (nextR r') hb
            have hB2 := BsOk_step L[i].toNat (nextR r') hB
            have ih' := ih (i + 1, r'.tail, (stepR L[i].toNat (nextR r') s').1, bcR L[i].toNat b (nextR r'))
            simp only at ih'
            clear ih
            rw [List.drop_eq_getElem_cons hlt]
            by_cases z : (stepR L[i].toNat (nextR r') s').2 = 0
            · rw [finR_step _ _ _ z]
              rw [z] at hc
              generalize stepR L[i].toNat (nextR r') s' = q at *
              generalize bcR L[i].toNat b (nextR r') = b2 at *
              cases hb
              all_goals
                cases hb2
                all_goals
                  simp -implicitDefEqProofs -dsimp +contextual (maxSteps := 9999999) (disch := first | omega | simp only [go_sem] <;> omega | refine ib ?_; kernel_rfl) only [go_sem, seval, ↓reduceIte, f2, f6, f8, f48, f49, H1, H2, hlt, hc]
                  exact ih' _ _ (by exact ⟨hlt, hw'.tail, hB2, by first | exact .nil | exact .sl _, f2, f6, f8, f48, rfl, H1, rfl⟩) (by omega)
            · rw [finR_stop _ _ _ z]
              generalize stepR L[i].toNat (nextR r') s' = q at *
              generalize bcR L[i].toNat b (nextR r') = b2 at *
              cases hb
              all_goals
                cases hb2
                all_goals
                  simp -implicitDefEqProofs -dsimp +contextual (maxSteps := 9999999) (disch := first | omega | simp only [go_sem] <;> omega | refine ib ?_; kernel_rfl) only [go_sem, seval, ↓reduceIte, f2, f6, f8, f48, f49, H1, H2, hlt, hc, z]
                  simp [stV, stZ]
          · obtain rfl : i = L.length := by omega
            clear ih
            rw [List.drop_length, readAll, finR, if_pos rfl]
            rcases hB with rfl | ⟨rfl, hB⟩
            · simp -implicitDefEqProofs -dsimp +contextual (maxSteps := 9999999) (disch := first | omega | simp only [go_sem] <;> omega | refine ib ?_; kernel_rfl) only [go_sem, seval, ↓reduceIte, f2, f6, f8, f48, f49, H1, H2]
              simp [stV]
            · simp -implicitDefEqProofs -dsimp +contextual (maxSteps := 9999999) (disch := first | omega | simp only [go_sem] <;> omega | refine ib ?_; kernel_rfl) only [go_sem, seval, ↓reduceIte, f2, f6, f8, f48, f49, H1, H2]
              simp [stV, hB]
        · simp only [Int.cast_ofNat_Int] at fo
          simp -implicitDefEqProofs -dsimp +contextual (maxSteps := 9999999) (disch := first | omega | simp only [go_sem] <;> omega | refine ib ?_; kernel_rfl) only [go_sem, seval, ↓reduceIte, sp, fo, c2, e2]
          refine kLoop_rec (fun (a : Nat × List (List UInt8) × St × AVal) f H => a.1 ≤ L.length ∧ okW a.2.1 ∧ BsOk a.2.2.2 a.2.2.1.bs ∧ BsC a.2.2.2 ∧ f 2 = .ptr 102 1 0 0 ∧ f 6 = .str L ∧ f 8 = .ptr 146 1 0 0 ∧ f 48 = .int .i64 (L.length : Int) ∧ f 49 = .int .i64 (a.1 : Int) ∧
            H 102 = ⟨1, .live, 10, [[.int .i64 0, .int .i64 0, .int .i64 0, .int .i64 0, .int .i64 0, .int .i64 0, .int .u64 0, .str [], .str [], .sc (.slice none 0 0)]], false⟩ ∧
            H 146 = ⟨1, .live, 12, [[.slice 1 (a.2.1.map strRow), .int .i64 a.2.2.1.kind, .int .i64 a.2.2.1.node, .int .i64 a.2.2.1.other, .int .i64 a.2.2.1.n, .int .i64 a.2.2.1.fr, .int .i64 a.2.2.1.un, .int .u64 (a.2.2.1.id : Int), .str a.2.2.1.key, .str a.2.2.1.val, a.2.2.2, .int .i64 0]], false⟩)
            (fun a => L.length - a.1) (fun a => some (stV (finR (readAll (L.drop a.1) a.2.1 a.2.2.1)), [])) ?_ (0, r, ⟨1, 0, 0, 0, 0, 0, 0, [], [], []⟩, .sc (.slice none 0 0)) _ _ (by exact ⟨Nat.zero_le _, hr, .inr ⟨rfl, rfl⟩, .nil, rfl, rfl, rfl, by simp [upd, c2], rfl, by simp [Heap.set], by simp [Heap.set, strRow]⟩)
          rintro ⟨i, r', s', b⟩ f H ⟨hi, hw', hB, hb, f2, f6, f8, f48, f49, H1, H2⟩ ih
          simp only at hi hw' hB hb f49 H2 ih
          by_cases hlt : i < L.length
          · have hc := wordsRead r' s' b hb L[i].toNat hw'.1 hw'.next (hok _ (List.getElem_mem hlt))
            have hb2 := bcR_ok L[i].toNat (nextR r') hb
            have hB2 := BsOk_step L[i].toNat (nextR r') hB
            have ih' := ih (i + 1, r'.tail, (stepR L[i].toNat (nextR r') s').1, bcR L[i].toNat b (nextR r'))
            simp only at ih'
            clear ih
            rw [List.drop_eq_getElem_cons hlt]
            by_cases z : (stepR L[i].toNat (nextR r') s').2 = 0
            · rw [finR_step _ _ _ z]
              rw [z] at hc
              generalize stepR L[i].toNat (nextR r') s' = q at *
              generalize bcR L[i].toNat b (nextR r') = b2 at *
              cases hb
              all_goals
                cases hb2
                all_goals
                  simp -implicitDefEqProofs -dsimp +contextual (maxSteps := 9999999) (disch := first | omega | simp only [go_sem] <;> omega | refine ib ?_; kernel_rfl) only [go_sem, seval, ↓reduceIte, f2, f6, f8, f48, f49, H1, H2, hlt, hc]
                  exact ih' _ _ (by exact ⟨hlt, hw'.tail, hB2, by first | exact .nil | exact .sl _, f2, f6, f8, f48, rfl, H1, rfl⟩) (by omega)
            · rw [finR_stop _ _ _ z]
              generalize stepR L[i].toNat (nextR r') s' = q at *
              generalize bcR L[i].toNat b (nextR r') = b2 at *
              cases hb
              all_goals
                cases hb2
                all_goals
                  simp -implicitDefEqProofs -dsimp +contextual (maxSteps := 9999999) (disch := first | omega | simp only [go_sem] <;> omega | refine ib ?_; kernel_rfl) only [go_sem, seval, ↓reduceIte, f2, f6, f8, f48, f49, H1, H2, hlt, hc, z]
                  simp [stV, stZ]
          · obtain rfl : i = L.length := by omega
            clear ih
            rw [List.drop_length, readAll, finR, if_pos rfl]
            rcases hB with rfl | ⟨rfl, hB⟩
            · simp -implicitDefEqProofs -dsimp +contextual (maxSteps := 9999999) (disch := first | omega | simp only [go_sem] <;> omega | refine ib ?_; kernel_rfl) only [go_sem, seval, ↓reduceIte, f2, f6, f8, f48, f49, H1, H2]
              simp [stV]
            · simp -implicitDefEqProofs -dsimp +contextual (maxSteps := 9999999) (disch := first | omega | simp only [go_sem] <;> omega | refine ib ?_; kernel_rfl) only [go_sem, seval, ↓reduceIte, f2, f6, f8, f48, f49, H1, H2]
              simp [stV, hB]
        · simp -implicitDefEqProofs -dsimp +contextual (maxSteps := 9999999) (disch := first | omega | simp only [go_sem] <;> omega | refine ib ?_; kernel_rfl) only [go_sem, seval, ↓reduceIte, sp, fo, c1, c2, e1]
          refine kLoop_rec (fun (a : Nat × List (List UInt8) × St × AVal) f H => a.1 ≤ L.length ∧ okW a.2.1 ∧ BsOk a.2.2.2 a.2.2.1.bs ∧ BsC a.2.2.2 ∧ f 2 = .ptr 102 1 0 0 ∧ f 6 = .str L ∧ f 8 = .ptr 146 1 0 0 ∧ f 48 = .int .i64 (L.length : Int) ∧ f 49 = .int .i64 (a.1 : Int) ∧
            H 102 = ⟨1, .live, 10, [[.int .i64 0, .int .i64 0, .int .i64 0, .int .i64 0, .int .i64 0, .int .i64 0, .int .u64 0, .str [], .str [], .sc (.slice none 0 0)]], false⟩ ∧
            H 146 = ⟨1, .live, 12, [[.slice 1 (a.2.1.map strRow), .int .i64 a.2.2.1.kind, .int .i64 a.2.2.1.node, .int .i64 a.2.2.1.other, .int .i64 a.2.2.1.n, .int .i64 a.2.2.1.fr, .int .i64 a.2.2.1.un, .int .u64 (a.2.2.1.id : Int), .str a.2.2.1.key, .str a.2.2.1.val, a.2.2.2, .int .i64 0]], false⟩)
            (fun a => L.length - a.1) (fun a => some (stV (finR (readAll (L.drop a.1) a.2.1 a.2.2.1)), [])) ?_ (0, r, ⟨(k : Int), 0, 0, 0, 0, 0, 0, [], [], []⟩, .sc (.slice none 0 0)) _ _ (by exact ⟨Nat.zero_le _, hr, .inr ⟨rfl, rfl⟩, .nil, rfl, rfl, rfl, by simp [upd, c2], rfl, by simp [Heap.set], by simp [Heap.set, strRow]⟩)
          rintro ⟨i, r', s', b⟩ f H ⟨hi, hw', hB, hb, f2, f6, f8, f48, f49, H1, H2⟩ ih
          simp only at hi hw' hB hb f49 H2 ih
          by_cases hlt : i < L.length
          · have hc := wordsRead r' s' b hb L[i].toNat hw'.1 hw'.next (hok _ (List.getElem_mem hlt))
            have hb2 := bcR_ok L[i].toNat (nextR r') hb
            have hB2 := BsOk_step L[i].toNat (nextR r') hB
            have ih' := ih (i + 1, r'.tail, (stepR L[i].toNat (nextR r') s').1, bcR L[i].toNat b (nextR r'))
            simp only at ih'
            clear ih
            rw [List.drop_eq_getElem_cons hlt]
            by_cases z : (stepR L[i].toNat (nextR r') s').2 = 0
            · rw [finR_step _ _ _ z]
              rw [z] at hc
              generalize stepR L[i].toNat (nextR r') s' = q at *
              generalize bcR L[i].toNat b (nextR r') = b2 at *
              cases hb
              all_goals
                cases hb2
                all_goals
                  simp -implicitDefEqProofs -dsimp +contextual (maxSteps := 9999999) (disch := first | omega | simp only [go_sem] <;> omega | refine ib ?_; kernel_rfl) only [go_sem, seval, ↓reduceIte, f2, f6, f8, f48, f49, H1, H2, hlt, hc]
                  exact ih' _ _ (by exact ⟨hlt, hw'.tail, hB2, by first | exact .nil | exact .sl _, f2, f6, f8, f48, rfl, H1, rfl⟩) (by omega)
            · rw [finR_stop _ _ _ z]
              generalize stepR L[i].toNat (nextR r') s' = q at *
              generalize bcR L[i].toNat b (nextR r') = b2 at *
              cases hb
              all_goals
                cases hb2
                all_goals
                  simp -implicitDefEqProofs -dsimp +contextual (maxSteps := 9999999) (disch := first | omega | simp only [go_sem] <;> omega | refine ib ?_; kernel_rfl) only [go_sem, seval, ↓reduceIte, f2, f6, f8, f48, f49, H1, H2, hlt, hc, z]
                  simp [stV, stZ]
          · obtain rfl : i = L.length := by omega
            clear ih
            rw [List.drop_length, readAll, finR, if_pos rfl]
            rcases hB with rfl | ⟨rfl, hB⟩
            · simp -implicitDefEqProofs -dsimp +contextual (maxSteps := 9999999) (disch := first | omega | simp only [go_sem] <;> omega | refine ib ?_; kernel_rfl) only [go_sem, seval, ↓reduceIte, f2, f6, f8, f48, f49, H1, H2]
              simp [stV]
            · simp -implicitDefEqProofs -dsimp +contextual (maxSteps := 9999999) (disch := first | omega | simp only [go_sem] <;> omega | refine ib ?_; kernel_rfl) only [go_sem, seval, ↓reduceIte, f2, f6, f8, f48, f49, H1, H2]
              simp [stV, hB]
    · rw [if_neg (fun h => c1 ⟨h.1, h.2.1⟩)]
      rw [show (decide (k ≤ 19) && decide (L.length = r.length)) = false by simp only [Bool.and_eq_false_iff, decide_eq_false_iff_not]; omega] at fo
      rw [fn_text Tryz.func43 rfl rfl Tryz.results43 fq43.1 rfl rfl (by kernel_rfl)]
      simp -implicitDefEqProofs -dsimp +contextual (maxSteps := 9999999) (disch := first | omega | simp only [go_sem] <;> omega | refine ib ?_; kernel_rfl) only [go_sem, seval, ↓reduceIte, sp, fo]
      simp [stV, stZ]
structure St.ok (s : St) : Prop where
  k1 : -9223372036854775808 ≤ s.kind
  k2 : s.kind ≤ 9223372036854775807
  a1 : -9223372036854775808 ≤ s.node
  a2 : s.node ≤ 9223372036854775807
  b1 : -9223372036854775808 ≤ s.other
  b2 : s.other ≤ 9223372036854775807
  c1 : -9223372036854775808 ≤ s.n
  c2 : s.n ≤ 9223372036854775807
  d1 : -9223372036854775808 ≤ s.fr
  d2 : s.fr ≤ 9223372036854775807
  e1 : -9223372036854775808 ≤ s.un
  e2 : s.un ≤ 9223372036854775807
  f2 : s.id ≤ 18446744073709551615
  g1 : s.key.length ≤ 100000
  g2 : s.val.length ≤ 100000
  g3 : s.bs.length ≤ 100000
def toldR (s : St) : List (List UInt8) :=
  if s.kind = 17 then [s.key, hexR s.id, Lib.itoa s.fr, Lib.itoa s.un]
  else if s.kind = 1 then (if s.n = 1 then [Lib.itoa s.node, s.key, [97, 108, 111, 110, 101]] else [Lib.itoa s.node, s.key])
  else if s.kind = 2 then [Lib.itoa s.node, Lib.itoa s.other]
  else if s.kind = 3 ∨ s.kind = 4 ∨ s.kind = 5 ∨ s.kind = 6 ∨ s.kind = 19 then [Lib.itoa s.node]
  else if s.kind = 7 then [Lib.itoa s.node, s.key, bytesR s.val]
  else if s.kind = 8 ∨ s.kind = 9 then [Lib.itoa s.node, s.key]
  else if s.kind = 11 ∨ s.kind = 12 ∨ s.kind = 13 then [Lib.itoa s.n]
  else if s.kind = 14 then [s.key, s.val, bytesR s.bs]
  else if s.kind = 15 then [Lib.itoa s.n, Lib.itoa s.fr, Lib.itoa s.un]
  else if s.kind = 16 then [hexR s.id]
  else if s.kind = 18 ∧ s.key ≠ [] then [s.key] else []
def wordK (k : Int) : List UInt8 := if 1 ≤ k ∧ k ≤ 19 then wordR k.toNat else []
def lineW (s : St) : List UInt8 := Lib.join (wordK s.kind :: toldR s) [32]
def lineR (s : St) : List UInt8 × Int := if readR (lineW s) = (s, 0) then (lineW s, 0) else ([], 2)
@[go_sem] theorem e51 (k : Int) (h1 : -9223372036854775808 ≤ k) (h2 : k ≤ 9223372036854775807) : fn C 51 [] [.int .i64 k] = some (.str (wordK k), []) := by
  by_cases h : 1 ≤ k ∧ k ≤ 19
  · obtain ⟨n, rfl⟩ := Int.eq_ofNat_of_zero_le (show 0 ≤ k by omega)
    rw [wordIn n (by omega) (by omega), wordK, if_pos h]
    rfl
  · rw [wordOut k (by omega), wordK, if_neg h]
theorem e52 (s : St) (h : s.ok) : fn C 52 [] [.agg [.int .i64 s.kind, .int .i64 s.node, .int .i64 s.other, .int .i64 s.n, .int .i64 s.fr, .int .i64 s.un, .int .u64 (s.id : Int), .str s.key, .str s.val, .slice 1 (s.bs.map byteRow)]] = some (.slice 1 ((toldR s).map strRow), []) := by
  have := h.f2; have := h.a1; have := h.a2; have := h.b1; have := h.b2; have := h.c1; have := h.c2; have := h.d1; have := h.d2; have := h.e1; have := h.e2; have := h.g1; have := h.g2; have := h.g3
  by_cases h1 : s.kind = 1
  · by_cases g : s.n = 1
    · rw [show toldR s = [Lib.itoa s.node, s.key, [97, 108, 111, 110, 101]] by simp [toldR, h1, g]]
      rw [fn_text Tryz.func52 rfl rfl Tryz.results52 fq52.1 rfl rfl (by kernel_rfl)]
      simp -implicitDefEqProofs -dsimp +contextual (maxSteps := 9999999) (disch := first | omega | simp only [go_sem] <;> omega | refine ib ?_; kernel_rfl) only [go_sem, seval, ↓reduceIte, h1, g]
    · rw [show toldR s = [Lib.itoa s.node, s.key] by simp [toldR, h1, g]]
      rw [fn_text Tryz.func52 rfl rfl Tryz.results52 fq52.1 rfl rfl (by kernel_rfl)]
      simp -implicitDefEqProofs -dsimp +contextual (maxSteps := 9999999) (disch := first | omega | simp only [go_sem] <;> omega | refine ib ?_; kernel_rfl) only [go_sem, seval, ↓reduceIte, h1, g]
  by_cases h18 : s.kind = 18
  · by_cases g : s.key = []
    · rw [show toldR s = [] by simp [toldR, h18, g]]
      rw [fn_text Tryz.func52 rfl rfl Tryz.results52 fq52.1 rfl rfl (by kernel_rfl)]
      simp -implicitDefEqProofs -dsimp +contextual (maxSteps := 9999999) (disch := first | omega | simp only [go_sem] <;> omega | refine ib ?_; kernel_rfl) only [go_sem, seval, ↓reduceIte, h18, g]
    · rw [show toldR s = [s.key] by simp [toldR, h18, g]]
      rw [fn_text Tryz.func52 rfl rfl Tryz.results52 fq52.1 rfl rfl (by kernel_rfl)]
      simp -implicitDefEqProofs -dsimp +contextual (maxSteps := 9999999) (disch := first | omega | simp only [go_sem] <;> omega | refine ib ?_; kernel_rfl) only [go_sem, seval, ↓reduceIte, h18, g]
  by_cases h2 : s.kind = 2
  · rw [show toldR s = [Lib.itoa s.node, Lib.itoa s.other] by simp [toldR, h2]]
    rw [fn_text Tryz.func52 rfl rfl Tryz.results52 fq52.1 rfl rfl (by kernel_rfl)]
    simp -implicitDefEqProofs -dsimp +contextual (maxSteps := 9999999) (disch := first | omega | simp only [go_sem] <;> omega | refine ib ?_; kernel_rfl) only [go_sem, seval, ↓reduceIte, h2]
  by_cases h3 : s.kind = 3
  · rw [show toldR s = [Lib.itoa s.node] by simp [toldR, h3]]
    rw [fn_text Tryz.func52 rfl rfl Tryz.results52 fq52.1 rfl rfl (by kernel_rfl)]
    simp -implicitDefEqProofs -dsimp +contextual (maxSteps := 9999999) (disch := first | omega | simp only [go_sem] <;> omega | refine ib ?_; kernel_rfl) only [go_sem, seval, ↓reduceIte, h3]
  by_cases h4 : s.kind = 4
  · rw [show toldR s = [Lib.itoa s.node] by simp [toldR, h4]]
    rw [fn_text Tryz.func52 rfl rfl Tryz.results52 fq52.1 rfl rfl (by kernel_rfl)]
    simp -implicitDefEqProofs -dsimp +contextual (maxSteps := 9999999) (disch := first | omega | simp only [go_sem] <;> omega | refine ib ?_; kernel_rfl) only [go_sem, seval, ↓reduceIte, h4]
  by_cases h5 : s.kind = 5
  · rw [show toldR s = [Lib.itoa s.node] by simp [toldR, h5]]
    rw [fn_text Tryz.func52 rfl rfl Tryz.results52 fq52.1 rfl rfl (by kernel_rfl)]
    simp -implicitDefEqProofs -dsimp +contextual (maxSteps := 9999999) (disch := first | omega | simp only [go_sem] <;> omega | refine ib ?_; kernel_rfl) only [go_sem, seval, ↓reduceIte, h5]
  by_cases h6 : s.kind = 6
  · rw [show toldR s = [Lib.itoa s.node] by simp [toldR, h6]]
    rw [fn_text Tryz.func52 rfl rfl Tryz.results52 fq52.1 rfl rfl (by kernel_rfl)]
    simp -implicitDefEqProofs -dsimp +contextual (maxSteps := 9999999) (disch := first | omega | simp only [go_sem] <;> omega | refine ib ?_; kernel_rfl) only [go_sem, seval, ↓reduceIte, h6]
  by_cases h7 : s.kind = 7
  · rw [show toldR s = [Lib.itoa s.node, s.key, bytesR s.val] by simp [toldR, h7]]
    rw [fn_text Tryz.func52 rfl rfl Tryz.results52 fq52.1 rfl rfl (by kernel_rfl)]
    simp -implicitDefEqProofs -dsimp +contextual (maxSteps := 9999999) (disch := first | omega | simp only [go_sem] <;> omega | refine ib ?_; kernel_rfl) only [go_sem, seval, ↓reduceIte, h7]
  by_cases h8 : s.kind = 8
  · rw [show toldR s = [Lib.itoa s.node, s.key] by simp [toldR, h8]]
    rw [fn_text Tryz.func52 rfl rfl Tryz.results52 fq52.1 rfl rfl (by kernel_rfl)]
    simp -implicitDefEqProofs -dsimp +contextual (maxSteps := 9999999) (disch := first | omega | simp only [go_sem] <;> omega | refine ib ?_; kernel_rfl) only [go_sem, seval, ↓reduceIte, h8]
  by_cases h9 : s.kind = 9
  · rw [show toldR s = [Lib.itoa s.node, s.key] by simp [toldR, h9]]
    rw [fn_text Tryz.func52 rfl rfl Tryz.results52 fq52.1 rfl rfl (by kernel_rfl)]
    simp -implicitDefEqProofs -dsimp +contextual (maxSteps := 9999999) (disch := first | omega | simp only [go_sem] <;> omega | refine ib ?_; kernel_rfl) only [go_sem, seval, ↓reduceIte, h9]
  by_cases h11 : s.kind = 11
  · rw [show toldR s = [Lib.itoa s.n] by simp [toldR, h11]]
    rw [fn_text Tryz.func52 rfl rfl Tryz.results52 fq52.1 rfl rfl (by kernel_rfl)]
    simp -implicitDefEqProofs -dsimp +contextual (maxSteps := 9999999) (disch := first | omega | simp only [go_sem] <;> omega | refine ib ?_; kernel_rfl) only [go_sem, seval, ↓reduceIte, h11]
  by_cases h12 : s.kind = 12
  · rw [show toldR s = [Lib.itoa s.n] by simp [toldR, h12]]
    rw [fn_text Tryz.func52 rfl rfl Tryz.results52 fq52.1 rfl rfl (by kernel_rfl)]
    simp -implicitDefEqProofs -dsimp +contextual (maxSteps := 9999999) (disch := first | omega | simp only [go_sem] <;> omega | refine ib ?_; kernel_rfl) only [go_sem, seval, ↓reduceIte, h12]
  by_cases h13 : s.kind = 13
  · rw [show toldR s = [Lib.itoa s.n] by simp [toldR, h13]]
    rw [fn_text Tryz.func52 rfl rfl Tryz.results52 fq52.1 rfl rfl (by kernel_rfl)]
    simp -implicitDefEqProofs -dsimp +contextual (maxSteps := 9999999) (disch := first | omega | simp only [go_sem] <;> omega | refine ib ?_; kernel_rfl) only [go_sem, seval, ↓reduceIte, h13]
  by_cases h14 : s.kind = 14
  · rw [show toldR s = [s.key, s.val, bytesR s.bs] by simp [toldR, h14]]
    rw [fn_text Tryz.func52 rfl rfl Tryz.results52 fq52.1 rfl rfl (by kernel_rfl)]
    simp -implicitDefEqProofs -dsimp +contextual (maxSteps := 9999999) (disch := first | omega | simp only [go_sem] <;> omega | refine ib ?_; kernel_rfl) only [go_sem, seval, ↓reduceIte, h14]
  by_cases h15 : s.kind = 15
  · rw [show toldR s = [Lib.itoa s.n, Lib.itoa s.fr, Lib.itoa s.un] by simp [toldR, h15]]
    rw [fn_text Tryz.func52 rfl rfl Tryz.results52 fq52.1 rfl rfl (by kernel_rfl)]
    simp -implicitDefEqProofs -dsimp +contextual (maxSteps := 9999999) (disch := first | omega | simp only [go_sem] <;> omega | refine ib ?_; kernel_rfl) only [go_sem, seval, ↓reduceIte, h15]
  by_cases h16 : s.kind = 16
  · rw [show toldR s = [hexR s.id] by simp [toldR, h16]]
    rw [fn_text Tryz.func52 rfl rfl Tryz.results52 fq52.1 rfl rfl (by kernel_rfl)]
    simp -implicitDefEqProofs -dsimp +contextual (maxSteps := 9999999) (disch := first | omega | simp only [go_sem] <;> omega | refine ib ?_; kernel_rfl) only [go_sem, seval, ↓reduceIte, h16]
  by_cases h17 : s.kind = 17
  · rw [show toldR s = [s.key, hexR s.id, Lib.itoa s.fr, Lib.itoa s.un] by simp [toldR, h17]]
    rw [fn_text Tryz.func52 rfl rfl Tryz.results52 fq52.1 rfl rfl (by kernel_rfl)]
    simp -implicitDefEqProofs -dsimp +contextual (maxSteps := 9999999) (disch := first | omega | simp only [go_sem] <;> omega | refine ib ?_; kernel_rfl) only [go_sem, seval, ↓reduceIte, h17]
  by_cases h19 : s.kind = 19
  · rw [show toldR s = [Lib.itoa s.node] by simp [toldR, h19]]
    rw [fn_text Tryz.func52 rfl rfl Tryz.results52 fq52.1 rfl rfl (by kernel_rfl)]
    simp -implicitDefEqProofs -dsimp +contextual (maxSteps := 9999999) (disch := first | omega | simp only [go_sem] <;> omega | refine ib ?_; kernel_rfl) only [go_sem, seval, ↓reduceIte, h19]
  rw [show toldR s = [] by simp [toldR, h1, h2, h3, h4, h5, h6, h7, h8, h9, h11, h12, h13, h14, h15, h16, h17, h18, h19]]
  rw [fn_text Tryz.func52 rfl rfl Tryz.results52 fq52.1 rfl rfl (by kernel_rfl)]
  simp -implicitDefEqProofs -dsimp +contextual (maxSteps := 9999999) (disch := first | omega | simp only [go_sem] <;> omega | refine ib ?_; kernel_rfl) only [go_sem, seval, ↓reduceIte, h1, h2, h3, h4, h5, h6, h7, h8, h9, h11, h12, h13, h14, h15, h16, h17, h18, h19]
@[go_sem] theorem e53 (a b : St) (h1 : a.bs.length ≤ 1000000) (h2 : b.bs.length ≤ 1000000) : fn C 53 [] [.agg [.int .i64 a.kind, .int .i64 a.node, .int .i64 a.other, .int .i64 a.n, .int .i64 a.fr, .int .i64 a.un, .int .u64 (a.id : Int), .str a.key, .str a.val, .slice 1 (a.bs.map byteRow)], .agg [.int .i64 b.kind, .int .i64 b.node, .int .i64 b.other, .int .i64 b.n, .int .i64 b.fr, .int .i64 b.un, .int .u64 (b.id : Int), .str b.key, .str b.val, .slice 1 (b.bs.map byteRow)]] = some (.bool (decide (a = b)), []) := by
  by_cases h0 : a.kind = b.kind
  rotate_left
  · rw [show decide (a = b) = false from decide_eq_false (fun e => h0 (by rw [e]))]
    rw [fn_text Tryz.func53 rfl rfl Tryz.results53 fq53.1 rfl rfl (by kernel_rfl)]
    simp -implicitDefEqProofs -dsimp +contextual (maxSteps := 9999999) (disch := first | omega | simp only [go_sem] <;> omega | refine ib ?_; kernel_rfl) only [go_sem, seval, ↓reduceIte, h0]
  by_cases h1 : a.node = b.node
  rotate_left
  · rw [show decide (a = b) = false from decide_eq_false (fun e => h1 (by rw [e]))]
    rw [fn_text Tryz.func53 rfl rfl Tryz.results53 fq53.1 rfl rfl (by kernel_rfl)]
    simp -implicitDefEqProofs -dsimp +contextual (maxSteps := 9999999) (disch := first | omega | simp only [go_sem] <;> omega | refine ib ?_; kernel_rfl) only [go_sem, seval, ↓reduceIte, h0, h1]
  by_cases h2 : a.other = b.other
  rotate_left
  · rw [show decide (a = b) = false from decide_eq_false (fun e => h2 (by rw [e]))]
    rw [fn_text Tryz.func53 rfl rfl Tryz.results53 fq53.1 rfl rfl (by kernel_rfl)]
    simp -implicitDefEqProofs -dsimp +contextual (maxSteps := 9999999) (disch := first | omega | simp only [go_sem] <;> omega | refine ib ?_; kernel_rfl) only [go_sem, seval, ↓reduceIte, h0, h1, h2]
  by_cases h3 : a.n = b.n
  rotate_left
  · rw [show decide (a = b) = false from decide_eq_false (fun e => h3 (by rw [e]))]
    rw [fn_text Tryz.func53 rfl rfl Tryz.results53 fq53.1 rfl rfl (by kernel_rfl)]
    simp -implicitDefEqProofs -dsimp +contextual (maxSteps := 9999999) (disch := first | omega | simp only [go_sem] <;> omega | refine ib ?_; kernel_rfl) only [go_sem, seval, ↓reduceIte, h0, h1, h2, h3]
  by_cases h4 : a.fr = b.fr
  rotate_left
  · rw [show decide (a = b) = false from decide_eq_false (fun e => h4 (by rw [e]))]
    rw [fn_text Tryz.func53 rfl rfl Tryz.results53 fq53.1 rfl rfl (by kernel_rfl)]
    simp -implicitDefEqProofs -dsimp +contextual (maxSteps := 9999999) (disch := first | omega | simp only [go_sem] <;> omega | refine ib ?_; kernel_rfl) only [go_sem, seval, ↓reduceIte, h0, h1, h2, h3, h4]
  by_cases h5 : a.un = b.un
  rotate_left
  · rw [show decide (a = b) = false from decide_eq_false (fun e => h5 (by rw [e]))]
    rw [fn_text Tryz.func53 rfl rfl Tryz.results53 fq53.1 rfl rfl (by kernel_rfl)]
    simp -implicitDefEqProofs -dsimp +contextual (maxSteps := 9999999) (disch := first | omega | simp only [go_sem] <;> omega | refine ib ?_; kernel_rfl) only [go_sem, seval, ↓reduceIte, h0, h1, h2, h3, h4, h5]
  by_cases h6 : a.id = b.id
  rotate_left
  · rw [show decide (a = b) = false from decide_eq_false (fun e => h6 (by rw [e]))]
    rw [fn_text Tryz.func53 rfl rfl Tryz.results53 fq53.1 rfl rfl (by kernel_rfl)]
    simp -implicitDefEqProofs -dsimp +contextual (maxSteps := 9999999) (disch := first | omega | simp only [go_sem] <;> omega | refine ib ?_; kernel_rfl) only [go_sem, seval, ↓reduceIte, h0, h1, h2, h3, h4, h5, h6]
  by_cases h7 : a.key = b.key
  rotate_left
  · rw [show decide (a = b) = false from decide_eq_false (fun e => h7 (by rw [e]))]
    rw [fn_text Tryz.func53 rfl rfl Tryz.results53 fq53.1 rfl rfl (by kernel_rfl)]
    simp -implicitDefEqProofs -dsimp +contextual (maxSteps := 9999999) (disch := first | omega | simp only [go_sem] <;> omega | refine ib ?_; kernel_rfl) only [go_sem, seval, ↓reduceIte, h0, h1, h2, h3, h4, h5, h6, h7]
  by_cases h8 : a.val = b.val
  rotate_left
  · rw [show decide (a = b) = false from decide_eq_false (fun e => h8 (by rw [e]))]
    rw [fn_text Tryz.func53 rfl rfl Tryz.results53 fq53.1 rfl rfl (by kernel_rfl)]
    simp -implicitDefEqProofs -dsimp +contextual (maxSteps := 9999999) (disch := first | omega | simp only [go_sem] <;> omega | refine ib ?_; kernel_rfl) only [go_sem, seval, ↓reduceIte, h0, h1, h2, h3, h4, h5, h6, h7, h8]
  by_cases h9 : a.bs = b.bs
  rotate_left
  · rw [show decide (a = b) = false from decide_eq_false (fun e => h9 (by rw [e]))]
    rw [fn_text Tryz.func53 rfl rfl Tryz.results53 fq53.1 rfl rfl (by kernel_rfl)]
    simp -implicitDefEqProofs -dsimp +contextual (maxSteps := 9999999) (disch := first | omega | simp only [go_sem] <;> omega | refine ib ?_; kernel_rfl) only [go_sem, seval, ↓reduceIte, h0, h1, h2, h3, h4, h5, h6, h7, h8, h9]
  rw [show decide (a = b) = true from decide_eq_true (by cases a; cases b; simp only [St.mk.injEq]; exact ⟨h0, h1, h2, h3, h4, h5, h6, h7, h8, h9⟩)]
  rw [fn_text Tryz.func53 rfl rfl Tryz.results53 fq53.1 rfl rfl (by kernel_rfl)]
  simp -implicitDefEqProofs -dsimp +contextual (maxSteps := 9999999) (disch := first | omega | simp only [go_sem] <;> omega | refine ib ?_; kernel_rfl) only [go_sem, seval, ↓reduceIte, h0, h1, h2, h3, h4, h5, h6, h7, h8, h9]
@[go_sem] theorem e30 (a b : St) (h1 : a.bs.length ≤ 1000000) (h2 : b.bs.length ≤ 1000000) : fn C 30 [] [.agg [.int .i64 a.kind, .int .i64 a.node, .int .i64 a.other, .int .i64 a.n, .int .i64 a.fr, .int .i64 a.un, .int .u64 (a.id : Int), .str a.key, .str a.val, .slice 1 (a.bs.map byteRow)], .agg [.int .i64 b.kind, .int .i64 b.node, .int .i64 b.other, .int .i64 b.n, .int .i64 b.fr, .int .i64 b.un, .int .u64 (b.id : Int), .str b.key, .str b.val, .slice 1 (b.bs.map byteRow)]] = some (.bool (decide (a = b)), []) := by
  by_cases h0 : a.kind = b.kind
  rotate_left
  · rw [show decide (a = b) = false from decide_eq_false (fun e => h0 (by rw [e]))]
    rw [fn_text Tryz.func30 rfl rfl Tryz.results30 fq30.1 rfl rfl (by kernel_rfl)]
    simp -implicitDefEqProofs -dsimp +contextual (maxSteps := 9999999) (disch := first | omega | simp only [go_sem] <;> omega | refine ib ?_; kernel_rfl) only [go_sem, seval, ↓reduceIte, h0]
  by_cases h1 : a.node = b.node
  rotate_left
  · rw [show decide (a = b) = false from decide_eq_false (fun e => h1 (by rw [e]))]
    rw [fn_text Tryz.func30 rfl rfl Tryz.results30 fq30.1 rfl rfl (by kernel_rfl)]
    simp -implicitDefEqProofs -dsimp +contextual (maxSteps := 9999999) (disch := first | omega | simp only [go_sem] <;> omega | refine ib ?_; kernel_rfl) only [go_sem, seval, ↓reduceIte, h0, h1]
  by_cases h2 : a.other = b.other
  rotate_left
  · rw [show decide (a = b) = false from decide_eq_false (fun e => h2 (by rw [e]))]
    rw [fn_text Tryz.func30 rfl rfl Tryz.results30 fq30.1 rfl rfl (by kernel_rfl)]
    simp -implicitDefEqProofs -dsimp +contextual (maxSteps := 9999999) (disch := first | omega | simp only [go_sem] <;> omega | refine ib ?_; kernel_rfl) only [go_sem, seval, ↓reduceIte, h0, h1, h2]
  by_cases h3 : a.n = b.n
  rotate_left
  · rw [show decide (a = b) = false from decide_eq_false (fun e => h3 (by rw [e]))]
    rw [fn_text Tryz.func30 rfl rfl Tryz.results30 fq30.1 rfl rfl (by kernel_rfl)]
    simp -implicitDefEqProofs -dsimp +contextual (maxSteps := 9999999) (disch := first | omega | simp only [go_sem] <;> omega | refine ib ?_; kernel_rfl) only [go_sem, seval, ↓reduceIte, h0, h1, h2, h3]
  by_cases h4 : a.fr = b.fr
  rotate_left
  · rw [show decide (a = b) = false from decide_eq_false (fun e => h4 (by rw [e]))]
    rw [fn_text Tryz.func30 rfl rfl Tryz.results30 fq30.1 rfl rfl (by kernel_rfl)]
    simp -implicitDefEqProofs -dsimp +contextual (maxSteps := 9999999) (disch := first | omega | simp only [go_sem] <;> omega | refine ib ?_; kernel_rfl) only [go_sem, seval, ↓reduceIte, h0, h1, h2, h3, h4]
  by_cases h5 : a.un = b.un
  rotate_left
  · rw [show decide (a = b) = false from decide_eq_false (fun e => h5 (by rw [e]))]
    rw [fn_text Tryz.func30 rfl rfl Tryz.results30 fq30.1 rfl rfl (by kernel_rfl)]
    simp -implicitDefEqProofs -dsimp +contextual (maxSteps := 9999999) (disch := first | omega | simp only [go_sem] <;> omega | refine ib ?_; kernel_rfl) only [go_sem, seval, ↓reduceIte, h0, h1, h2, h3, h4, h5]
  by_cases h6 : a.id = b.id
  rotate_left
  · rw [show decide (a = b) = false from decide_eq_false (fun e => h6 (by rw [e]))]
    rw [fn_text Tryz.func30 rfl rfl Tryz.results30 fq30.1 rfl rfl (by kernel_rfl)]
    simp -implicitDefEqProofs -dsimp +contextual (maxSteps := 9999999) (disch := first | omega | simp only [go_sem] <;> omega | refine ib ?_; kernel_rfl) only [go_sem, seval, ↓reduceIte, h0, h1, h2, h3, h4, h5, h6]
  by_cases h7 : a.key = b.key
  rotate_left
  · rw [show decide (a = b) = false from decide_eq_false (fun e => h7 (by rw [e]))]
    rw [fn_text Tryz.func30 rfl rfl Tryz.results30 fq30.1 rfl rfl (by kernel_rfl)]
    simp -implicitDefEqProofs -dsimp +contextual (maxSteps := 9999999) (disch := first | omega | simp only [go_sem] <;> omega | refine ib ?_; kernel_rfl) only [go_sem, seval, ↓reduceIte, h0, h1, h2, h3, h4, h5, h6, h7]
  by_cases h8 : a.val = b.val
  rotate_left
  · rw [show decide (a = b) = false from decide_eq_false (fun e => h8 (by rw [e]))]
    rw [fn_text Tryz.func30 rfl rfl Tryz.results30 fq30.1 rfl rfl (by kernel_rfl)]
    simp -implicitDefEqProofs -dsimp +contextual (maxSteps := 9999999) (disch := first | omega | simp only [go_sem] <;> omega | refine ib ?_; kernel_rfl) only [go_sem, seval, ↓reduceIte, h0, h1, h2, h3, h4, h5, h6, h7, h8]
  by_cases h9 : a.bs = b.bs
  rotate_left
  · rw [show decide (a = b) = false from decide_eq_false (fun e => h9 (by rw [e]))]
    rw [fn_text Tryz.func30 rfl rfl Tryz.results30 fq30.1 rfl rfl (by kernel_rfl)]
    simp -implicitDefEqProofs -dsimp +contextual (maxSteps := 9999999) (disch := first | omega | simp only [go_sem] <;> omega | refine ib ?_; kernel_rfl) only [go_sem, seval, ↓reduceIte, h0, h1, h2, h3, h4, h5, h6, h7, h8, h9]
  rw [show decide (a = b) = true from decide_eq_true (by cases a; cases b; simp only [St.mk.injEq]; exact ⟨h0, h1, h2, h3, h4, h5, h6, h7, h8, h9⟩)]
  rw [fn_text Tryz.func30 rfl rfl Tryz.results30 fq30.1 rfl rfl (by kernel_rfl)]
  simp -implicitDefEqProofs -dsimp +contextual (maxSteps := 9999999) (disch := first | omega | simp only [go_sem] <;> omega | refine ib ?_; kernel_rfl) only [go_sem, seval, ↓reduceIte, h0, h1, h2, h3, h4, h5, h6, h7, h8, h9]
theorem numR_r (w : List UInt8) (m : Int) (hm : 0 ≤ m) : 0 ≤ (numR w m).1 ∧ (numR w m).1 ≤ m := by
  unfold numR
  split
  · split
    · exact ⟨Int.le_refl _, hm⟩
    · simp only; omega
  · exact ⟨Int.le_refl _, hm⟩
theorem hexN_r (w : List UInt8) : (hexN w).1 ≤ 18446744073709551615 := by
  unfold hexN
  split
  · rename_i h
    have := hexV_lt w h.2
    rw [h.1] at this
    simp only; omega
  · simp
theorem textR_r (ok : Bool) (w : List UInt8) (h : ok = true → w.length ≤ 24) : (textR ok w).1.length ≤ 24 := by
  unfold textR; split
  · exact h ‹_›
  · simp
theorem nameR_r (w : List UInt8) (h : nameR w = true) : w.length ≤ 24 := by
  simp only [nameR, Bool.and_eq_true, decide_eq_true_eq] at h; omega
theorem keyR_r (w : List UInt8) (h : keyR w = true) : w.length ≤ 24 := by
  simp only [keyR, Bool.and_eq_true, decide_eq_true_eq] at h; omega
theorem rawR_r (w : List UInt8) (m : Nat) : (rawR w m).1.length ≤ m := by
  unfold rawR
  split
  · split
    · simp
    · simp only; omega
  · simp
theorem ite_ok {p : Prop} [Decidable p] {x y : St × Int} (hx : x.1.ok) (hy : y.1.ok) : (if p then x else y).1.ok := by split <;> assumption
theorem stepR_ok (c : Nat) (w : List UInt8) {s : St} (h : s.ok) : (stepR c w s).1.ok := by
  have n1 := numR_r w 7 (by omega); have n2 := numR_r w 255 (by omega); have n3 := numR_r w 1073741824 (by omega); have n4 := numR_r w 2047 (by omega)
  have t1 := textR_r (nameR w) w (nameR_r w); have t2 := textR_r (keyR w) w (keyR_r w)
  have r1 := rawR_r w 32; have r2 := rawR_r w 2048; have hx := hexN_r w
  unfold stepR
  refine ite_ok { h with a1 := ?_, a2 := ?_ } (ite_ok { h with b1 := ?_, b2 := ?_ } (ite_ok { h with c1 := ?_, c2 := ?_ } (ite_ok { h with d1 := ?_, d2 := ?_ } (ite_ok { h with e1 := ?_, e2 := ?_ } (ite_ok { h with d1 := ?_, d2 := ?_ } (ite_ok { h with e1 := ?_, e2 := ?_ }
    (ite_ok { h with f2 := ?_ } (ite_ok { h with g1 := ?_ } (ite_ok { h with g1 := ?_ } (ite_ok { h with g2 := ?_ } (ite_ok { h with g2 := ?_ } (ite_ok { h with g3 := ?_ } { h with c1 := ?_, c2 := ?_ }))))))))))))
  all_goals (simp only; omega)
theorem readAll_ok : ∀ (L : List UInt8) (r : List (List UInt8)) {s : St}, s.ok → (readAll L r s).1.ok
  | [], _, _, h => h
  | c :: L, r, s, h => by
    unfold readAll
    exact ite_ok (readAll_ok L _ (stepR_ok _ _ h)) (stepR_ok _ _ h)
theorem stZ_ok : stZ.ok := by constructor <;> simp [stZ]
theorem finR_ok {q : St × Int} (h : q.1.ok) : (finR q).1.ok := by
  unfold finR; exact ite_ok h stZ_ok
theorem readR_ok (line : List UInt8) : (readR line).1.ok := by
  unfold readR
  refine ite_ok (finR_ok (readAll_ok _ _ { stZ_ok with k1 := ?_, k2 := ?_ })) stZ_ok
  all_goals (have := (formQ_kind ((parts 32 line).headD [])); simp only; omega)
def smL : Nat → List (List UInt8) → Prop
  | _, [] => True
  | 0, _ :: _ => False
  | n + 1, w :: L => w.length ≤ 200001 ∧ smL n L
theorem smL_len : ∀ (n : Nat) (L : List (List UInt8)), smL n L → L.length ≤ n ∧ Lib.lens L ≤ n * 200001
  | _, [], _ => by simp [Lib.lens]
  | n + 1, w :: L, h => by
    have := smL_len n L h.2
    have h1 := h.1
    simp only [Lib.lens, List.map_cons, List.sum_cons, List.length_cons] at this ⊢
    omega
theorem smL_ite {p : Prop} [Decidable p] {n : Nat} {a b : List (List UInt8)} (ha : smL n a) (hb : smL n b) : smL n (if p then a else b) := by split <;> assumption
theorem itoa_sm (n : Int) (h1 : -9223372036854775808 ≤ n) (h2 : n ≤ 9223372036854775807) : (Lib.itoa n).length ≤ 200001 := by have := itoa_le n h1 h2; omega
theorem hexR_sm (n : Nat) : (hexR n).length ≤ 200001 := by rw [hexR, pairsR_len, beN_len]; omega
theorem bytesR_sm (b : List UInt8) (h : b.length ≤ 100000) : (bytesR b).length ≤ 200001 := by
  unfold bytesR; split
  · simp
  · rw [pairsR_len]; omega
theorem told_sm (s : St) (h : s.ok) : smL 4 (toldR s) := by
  have n1 := itoa_sm s.node h.a1 h.a2; have n2 := itoa_sm s.other h.b1 h.b2; have n3 := itoa_sm s.n h.c1 h.c2; have n4 := itoa_sm s.fr h.d1 h.d2; have n5 := itoa_sm s.un h.e1 h.e2
  have n6 := hexR_sm s.id; have n7 := bytesR_sm s.val h.g2; have n8 := bytesR_sm s.bs h.g3
  have g1 := h.g1; have g2 := h.g2
  unfold toldR
  refine smL_ite ⟨by omega, n6, n4, n5, trivial⟩ (smL_ite (smL_ite ⟨n1, by omega, by decide, trivial⟩ ⟨n1, by omega, trivial⟩) (smL_ite ⟨n1, n2, trivial⟩ (smL_ite ⟨n1, trivial⟩ (smL_ite ⟨n1, by omega, n7, trivial⟩ (smL_ite ⟨n1, by omega, trivial⟩
    (smL_ite ⟨n3, trivial⟩ (smL_ite ⟨by omega, by omega, n8, trivial⟩ (smL_ite ⟨n3, n4, n5, trivial⟩ (smL_ite ⟨n6, trivial⟩ (smL_ite ⟨by omega, trivial⟩ trivial))))))))))
theorem wordR_le (k : Nat) (h : k ≤ 19) : (wordR k).length ≤ 7 := by
  have : ∀ k : Fin 20, (wordR k.val).length ≤ 7 := by decide
  exact this ⟨k, by omega⟩
theorem wordK_le (k : Int) : (wordK k).length ≤ 7 := by
  unfold wordK; split
  · exact wordR_le _ (by omega)
  · simp
theorem lineW_le (s : St) (h : s.ok) : (lineW s).length ≤ 900000 ∧ (toldR s).length ≤ 4 := by
  have h1 := smL_len 4 _ (told_sm s h)
  have h2 := wordK_le s.kind
  unfold lineW
  rw [Lib.join_length]
  simp only [Lib.lens, List.map_cons, List.sum_cons, List.length_cons, List.length_nil] at h1 ⊢
  omega
@[go_sem] theorem ones_strs (l : List (List UInt8)) : ones (l.map strRow) = true := by
  induction l with
  | nil => rfl
  | cons a l ih => rw [List.map_cons, ones_cons, ih]; rfl
@[go_sem] theorem clos_strs (l : List (List UInt8)) : (l.map strRow).all clos = true := by
  simp only [List.all_map, List.all_eq_true]
  intro a _
  rfl
@[go_sem] theorem e31 (s : St) (h : s.ok) : fn C 31 [] [.agg [.int .i64 s.kind, .int .i64 s.node, .int .i64 s.other, .int .i64 s.n, .int .i64 s.fr, .int .i64 s.un, .int .u64 (s.id : Int), .str s.key, .str s.val, .slice 1 (s.bs.map byteRow)]] = some (.tup [.str (lineR s).1, .int .i64 (lineR s).2], []) := by
  have l1 := lineW_le s h
  have j := eJoin (wordK s.kind :: toldR s) [32] (by simp; omega) (by have := l1.1; unfold lineW at this; omega)
  rw [show Lib.join (wordK s.kind :: toldR s) [32] = lineW s from rfl, List.map_cons, strRow_eq (wordK s.kind)] at j
  have rd := e43 (lineW s) l1.1
  have ok := readR_ok (lineW s)
  have t := e52 s h
  have g1 := h.k1; have g2 := h.k2; have g3 := h.g3; have g4 := ok.g3
  have m := e53 (readR (lineW s)).1 s (by omega) (by omega)
  rw [stV] at rd
  unfold lineR
  generalize lineW s = W at *
  generalize hq : readR W = q at *
  obtain ⟨b, e⟩ := q
  simp only at *
  by_cases c1 : e = 0
  · by_cases c2 : b = s
    · rw [if_pos (by rw [c1, c2])]
      rw [fn_text Tryz.func31 rfl rfl Tryz.results31 fq31.1 rfl rfl (by kernel_rfl)]
      simp -implicitDefEqProofs -dsimp +contextual (maxSteps := 9999999) (disch := first | omega | simp only [go_sem] <;> omega | refine ib ?_; kernel_rfl) only [go_sem, seval, ↓reduceIte, j, rd, t, m, c1, c2]
    · rw [if_neg (fun x => c2 (by simpa using congrArg Prod.fst x))]
      rw [fn_text Tryz.func31 rfl rfl Tryz.results31 fq31.1 rfl rfl (by kernel_rfl)]
      simp -implicitDefEqProofs -dsimp +contextual (maxSteps := 9999999) (disch := first | omega | simp only [go_sem] <;> omega | refine ib ?_; kernel_rfl) only [go_sem, seval, ↓reduceIte, j, rd, t, m, c1, c2]
  · rw [if_neg (fun x => c1 (by simpa using congrArg Prod.snd x))]
    rw [fn_text Tryz.func31 rfl rfl Tryz.results31 fq31.1 rfl rfl (by kernel_rfl)]
    simp -implicitDefEqProofs -dsimp +contextual (maxSteps := 9999999) (disch := first | omega | simp only [go_sem] <;> omega | refine ib ?_; kernel_rfl) only [go_sem, seval, ↓reduceIte, j, rd, t, c1]
@[go_sem] theorem e24 (s : St) (h : s.ok) : fn C 24 [] [.agg [.int .i64 s.kind, .int .i64 s.node, .int .i64 s.other, .int .i64 s.n, .int .i64 s.fr, .int .i64 s.un, .int .u64 (s.id : Int), .str s.key, .str s.val, .slice 1 (s.bs.map byteRow)]] = some (.bool (decide ((lineR s).2 = 0)), []) := by
  rw [fn_text Tryz.func24 rfl rfl Tryz.results24 fq24.1 rfl rfl (by kernel_rfl)]
  simp -implicitDefEqProofs -dsimp +contextual (maxSteps := 9999999) (disch := first | omega | simp only [go_sem] <;> omega | refine ib ?_; kernel_rfl) only [go_sem, seval, ↓reduceIte, h]
@[go_sem] theorem unbyte_nil : unbyte [] = some [] := rfl
@[go_sem] theorem namesL_len : namesL.length = 20 := rfl
theorem parts_snoc (c x : UInt8) : ∀ (l : List UInt8), parts c (l ++ [x]) = if x = c then parts c l ++ [[]] else (parts c l).dropLast ++ [(parts c l).getLastD [] ++ [x]]
  | [] => by
    by_cases h : x = c
    · simp [parts, h]
    · simp [parts, h]
  | y :: l => by
    have ih := parts_snoc c x l
    have hne := parts_ne c l
    rw [List.cons_append, parts, ih]
    conv => rhs; rw [parts]
    obtain ⟨a, t, hp⟩ : ∃ a t, parts c l = a :: t := by
      cases h : parts c l with
      | nil => exact absurd h hne
      | cons a t => exact ⟨a, t, rfl⟩
    rw [hp]
    by_cases hx : x = c
    · by_cases hy : y = c
      · simp [hx, hy]
      · simp [hx, hy]
    · by_cases hy : y = c
      · simp only [hx, hy, if_true, if_false]
        rfl
      · simp only [hx, hy, if_false]
        cases t with
        | nil => rfl
        | cons b t => rfl
structure WLast (l : List UInt8) (i : Nat) (t : List (List UInt8)) (z : List UInt8) : Prop where
  eq : parts 32 (l.take i) = t ++ [z]
theorem WLast.more {l : List UInt8} {i : Nat} {t : List (List UInt8)} {z : List UInt8} (h : WLast l i t z) (hi : i < l.length) (e : ¬ l[i].toNat = 32) : WLast l (i + 1) t (z ++ [l[i]]) := ⟨by
  have : ¬ l[i] = 32 := fun x => e (by rw [x]; rfl)
  rw [List.take_succ_eq_append_getElem hi, parts_snoc, if_neg this, h.eq]
  simp⟩
theorem WLast.len {l : List UInt8} {i : Nat} {t : List (List UInt8)} {z : List UInt8} (h : WLast l i t z) (hi : i ≤ l.length) : t.length ≤ l.length ∧ z.length ≤ l.length := by
  have h1 := parts_count 32 (l.take i)
  have h2 := parts_mem 32 (l.take i) z (by rw [h.eq]; simp)
  rw [h.eq] at h1
  simp at h1 h2; omega
@[go_sem] theorem St_clos (l : List St) : (l.map St.cs).all clos = true := allclos_map _ (fun _ => rfl) l
def AccS (f : Nat → AVal) (H : Heap) (t o : Nat) (r : List St) : Prop := ∃ g, f t = .osl o g 0 r.length ∧ H o = ⟨g, .live, 10, r.map St.cs, false⟩
theorem min9 (a : Nat) : (if 9000 < a then (9000 : Int) else (a : Int)) = ((min a 9000 : Nat) : Int) := by split <;> omega
def sumT (s : St) : Nat := min s.key.length 9000 + min s.val.length 9000 + min s.bs.length 9000
def sumS (l : List St) : Nat := (l.map sumT).sum
def shortR (l : List St) : Bool := decide (l.length ≤ 80) && decide (sumS l ≤ 8000)
theorem sumS_cons (s : St) (l : List St) : sumS (s :: l) = sumT s + sumS l := by simp [sumS]
theorem st_row (l : List St) (i : Nat) (h : i < l.length) : (l.map St.cs)[i]? = some l[i].cs := by
  rw [List.getElem?_map, List.getElem?_eq_getElem h]; rfl
structure St.fit (s : St) : Prop where
  g1 : s.key.length ≤ 9223372036854775807
  g2 : s.val.length ≤ 9223372036854775807
  g3 : s.bs.length ≤ 9223372036854775807
@[go_sem] theorem e6 (l : List St) (hl : l.length ≤ 9223372036854775807) (hf : ∀ s ∈ l, s.fit) : fn C 6 [] [.slice 10 (l.map St.cs)] = some (.bool (shortR l), []) := by
  by_cases h : 80 < l.length
  · rw [show shortR l = false by simp only [shortR, Bool.and_eq_false_iff, decide_eq_false_iff_not]; omega]
    rw [fn_text Tryz.func6 rfl rfl Tryz.results6 fq6.1 rfl rfl (by kernel_rfl)]
    simp -implicitDefEqProofs -dsimp +contextual (maxSteps := 9999999) (disch := first | omega | simp only [go_sem] <;> omega | refine ib ?_; kernel_rfl) only [go_sem, seval, ↓reduceIte, h]
  · rw [show shortR l = decide (sumS l ≤ 8000) by simp only [shortR]; rw [decide_eq_true (by omega), Bool.true_and]]
    rw [fn_text Tryz.func6 rfl rfl Tryz.results6 fq6.1 rfl rfl (by kernel_rfl)]
    simp -implicitDefEqProofs -dsimp +contextual (maxSteps := 9999999) (disch := first | omega | simp only [go_sem] <;> omega | refine ib ?_; kernel_rfl) only [go_sem, seval, ↓reduceIte, h]
    refine (kLoop_rec (fun (a : Nat × Nat) f H => a.1 ≤ l.length ∧ a.2 ≤ 8000 ∧ f 0 = .slice 10 (l.map St.cs) ∧ f 3 = .int .i64 (a.2 : Int) ∧ f 4 = .int .i64 (a.1 : Int))
      (fun a => l.length - a.1) (fun a => some (.bool (decide (a.2 + sumS (l.drop a.1) ≤ 8000)), [])) ?_ (0, 0) _ _ (by exact ⟨Nat.zero_le _, Nat.zero_le _, rfl, rfl, rfl⟩)).trans (by simp)
    rintro ⟨i, n⟩ f H ⟨hi, hn, f0, f3, f4⟩ ih
    simp only at hi hn f3 f4 ih
    by_cases hlt : i < l.length
    · have row := st_row l i hlt
      have fi := hf _ (List.getElem_mem hlt)
      obtain ⟨g1, g2, g3⟩ := fi
      have ih' := ih (i + 1, n + sumT l[i])
      simp only at ih'
      clear ih
      rw [List.drop_eq_getElem_cons hlt, sumS_cons]
      generalize List.drop (i + 1) l = rest at *
      have st : sumT l[i] ≤ 27000 := by unfold sumT; omega
      rw [St.cs_eq] at row
      by_cases z : 8000 < n + sumT l[i]
      · rw [show decide (n + (sumT l[i] + sumS rest) ≤ 8000) = false from decide_eq_false (by omega)]
        have z' : 8000 < n + (min l[i].key.length 9000 + min l[i].val.length 9000 + min l[i].bs.length 9000) := z
        simp -implicitDefEqProofs -dsimp +contextual (maxSteps := 9999999) (disch := first | omega | simp only [go_sem] <;> omega | refine ib ?_; kernel_rfl) only [go_sem, seval, ↓reduceIte, f0, f3, f4, hlt, row, min9, z']
      · rw [show n + (sumT l[i] + sumS rest) = n + sumT l[i] + sumS rest by omega]
        have z' : ¬ 8000 < n + (min l[i].key.length 9000 + min l[i].val.length 9000 + min l[i].bs.length 9000) := z
        generalize hR : decide (n + sumT l[i] + sumS rest ≤ 8000) = RZ at *
        simp -implicitDefEqProofs -dsimp +contextual (maxSteps := 9999999) (disch := first | omega | simp only [go_sem] <;> omega | refine ib ?_; kernel_rfl) only [go_sem, seval, ↓reduceIte, f0, f3, f4, hlt, row, min9, z']
        refine ih' _ _ (by exact ⟨hlt, by omega, f0, by first | rfl | exact congrArg (AVal.int .i64) (by unfold sumT; omega) | (unfold sumT; rfl), rfl⟩) (by omega)
    · obtain rfl : i = l.length := by omega
      clear ih
      rw [List.drop_length]
      rw [show decide (n + sumS [] ≤ 8000) = true from decide_eq_true (by simp [sumS]; omega)]
      simp -implicitDefEqProofs -dsimp +contextual (maxSteps := 9999999) (disch := first | omega | simp only [go_sem] <;> omega | refine ib ?_; kernel_rfl) only [go_sem, seval, ↓reduceIte, f0, f3, f4]
theorem short_mem : ∀ {l : List St}, sumS l ≤ 8000 → ∀ s ∈ l, sumT s ≤ 8000
  | [], _, s, h => by cases h
  | a :: l, hl, s, h => by
    rw [sumS_cons] at hl
    rcases List.mem_cons.1 h with rfl | h
    · omega
    · exact short_mem (by omega) s h
theorem sumT_le {s : St} (h : sumT s ≤ 8000) : s.key.length ≤ 8000 ∧ s.val.length ≤ 8000 ∧ s.bs.length ≤ 8000 := by unfold sumT at h; omega
structure St.num (s : St) : Prop where
  k : -9223372036854775808 ≤ s.kind ∧ s.kind ≤ 9223372036854775807
  a : -9223372036854775808 ≤ s.node ∧ s.node ≤ 9223372036854775807
  b : -9223372036854775808 ≤ s.other ∧ s.other ≤ 9223372036854775807
  c : -9223372036854775808 ≤ s.n ∧ s.n ≤ 9223372036854775807
  d : -9223372036854775808 ≤ s.fr ∧ s.fr ≤ 9223372036854775807
  e : -9223372036854775808 ≤ s.un ∧ s.un ≤ 9223372036854775807
  f : s.id ≤ 18446744073709551615
theorem St.num.ok {s : St} (h : s.num) (t : sumT s ≤ 8000) : s.ok := by
  have := sumT_le t
  exact ⟨h.k.1, h.k.2, h.a.1, h.a.2, h.b.1, h.b.2, h.c.1, h.c.2, h.d.1, h.d.2, h.e.1, h.e.2, h.f, by omega, by omega, by omega⟩
@[go_sem] theorem e21 (a b : List St) (ha : a.length ≤ 1000000) (hb : b.length ≤ 1000000) (h1 : ∀ s ∈ a, s.bs.length ≤ 1000000) (h2 : ∀ s ∈ b, s.bs.length ≤ 1000000) : fn C 21 [] [.slice 10 (a.map St.cs), .slice 10 (b.map St.cs)] = some (.bool (decide (a = b)), []) := by
  by_cases hl : a.length = b.length
  · rw [fn_text Tryz.func21 rfl rfl Tryz.results21 fq21.1 rfl rfl (by kernel_rfl)]
    simp -implicitDefEqProofs -dsimp +contextual (maxSteps := 9999999) (disch := first | omega | simp only [go_sem] <;> omega | refine ib ?_; kernel_rfl) only [go_sem, seval, ↓reduceIte, hl]
    refine kLoop_rec (fun (i : Nat) f H => i ≤ a.length ∧ a.take i = b.take i ∧ f 0 = .slice 10 (a.map St.cs) ∧ f 1 = .slice 10 (b.map St.cs) ∧ f 5 = .int .i64 (i : Int))
      (fun i => a.length - i) (fun _ => some (.bool (decide (a = b)), [])) ?_ 0 _ _ (by exact ⟨Nat.zero_le _, rfl, rfl, rfl, rfl⟩)
    rintro i f H ⟨hi, ht, f0, f1, f5⟩ ih
    by_cases hlt : i < a.length
    · have hlb : i < b.length := by omega
      have r1 := st_row a i hlt
      have r2 := st_row b i hlb
      have m := e30 a[i] b[i] (h1 _ (List.getElem_mem hlt)) (h2 _ (List.getElem_mem hlb))
      rw [St.cs_eq] at r1 r2
      by_cases e : a[i] = b[i]
      · have ht' := take_eq_step hlt hlb ht e
        rw [decide_eq_true e] at m
        generalize decide (a = b) = RZ at *
        simp -implicitDefEqProofs -dsimp +contextual (maxSteps := 9999999) (disch := first | omega | simp only [go_sem] <;> omega | refine ib ?_; kernel_rfl) only [go_sem, seval, ↓reduceIte, f0, f1, f5, hlt, hlb, r1, r2, m]
        exact ih (i + 1) _ _ (by exact ⟨hlt, ht', f0, f1, rfl⟩) (by omega)
      · rw [decide_eq_false e] at m
        rw [decide_eq_false (take_ne hlt hlb e)]
        simp -implicitDefEqProofs -dsimp +contextual (maxSteps := 9999999) (disch := first | omega | simp only [go_sem] <;> omega | refine ib ?_; kernel_rfl) only [go_sem, seval, ↓reduceIte, f0, f1, f5, hlt, hlb, r1, r2, m]
    · obtain rfl : i = a.length := by omega
      rw [decide_eq_true (take_eq_end hl ht)]
      simp -implicitDefEqProofs -dsimp +contextual (maxSteps := 9999999) (disch := first | omega | simp only [go_sem] <;> omega | refine ib ?_; kernel_rfl) only [go_sem, seval, ↓reduceIte, f0, f1, f5]
  · rw [decide_eq_false (fun e => hl (by rw [e]))]
    rw [fn_text Tryz.func21 rfl rfl Tryz.results21 fq21.1 rfl rfl (by kernel_rfl)]
    simp -implicitDefEqProofs -dsimp +contextual (maxSteps := 9999999) (disch := first | omega | simp only [go_sem] <;> omega | refine ib ?_; kernel_rfl) only [go_sem, seval, ↓reduceIte, hl]
def rotl (x : UInt32) (m : Nat) : UInt32 := W32.shl x m ||| W32.shr x (32 - m)
theorem and31 (n : Int) (h : 0 ≤ n) (h2 : n ≤ 18446744073709551615) (P : Program) (t : TypeId) : binV P .and t (.int .u64 n) (.int .u64 31) = some (.int .u64 (n % 32)) := by
  obtain ⟨m, rfl⟩ := Int.eq_ofNat_of_zero_le h
  have e : binV P .and t (.int .u64 (m : Int)) (.int .u64 31) = some (.int .u64 (IntKind.u64.wrap (((BitVec.ofInt 64 (m : Int)) &&& (BitVec.ofInt 64 ((31 : Nat) : Int))).toNat : Int))) := rfl
  rw [e, BitVec.ofInt_natCast, BitVec.ofInt_natCast, BitVec.toNat_and, BitVec.toNat_ofNat, BitVec.toNat_ofNat, Nat.mod_eq_of_lt (show m < 2 ^ 64 by omega), show (31 : Nat) % 2 ^ 64 = 2 ^ 5 - 1 by decide, Nat.and_two_pow_sub_one_eq_mod, IntKind.wrap_u64]
  congr 2; omega
@[go_sem] theorem e118 (x : UInt32) (n : Int) (h1 : -1000 ≤ n) (h2 : n ≤ 1000) : fn C 118 [] [.int .u32 (x.toNat : Int), .int .i64 n] = some (.int .u32 ((rotl x (n % 32).toNat).toNat : Int), []) := by
  have hw : IntKind.u64.wrap n % 32 = n % 32 := by rw [IntKind.wrap_u64]; omega
  have hw1 : 0 ≤ IntKind.u64.wrap n := by rw [IntKind.wrap_u64]; omega
  have hw2 : IntKind.u64.wrap n ≤ 18446744073709551615 := by rw [IntKind.wrap_u64]; omega
  obtain ⟨m, hm⟩ := Int.eq_ofNat_of_zero_le (show 0 ≤ n % 32 by omega)
  have a31 := fun P t => and31 (IntKind.u64.wrap n) hw1 hw2 P t
  rw [hw, hm] at a31
  have hm32 : m < 32 := by omega
  have e32 : (32 : Int) - (m : Int) = ((32 - m : Nat) : Int) := by omega
  rw [fn_text Tryz.func118 rfl rfl Tryz.results118 fq118.1 rfl rfl (by kernel_rfl)]
  simp -implicitDefEqProofs -dsimp +contextual (maxSteps := 5000000) (disch := first | omega | simp only [go_sem] <;> omega | refine ib ?_; kernel_rfl) only [go_sem, Nat.reduceBEq, Int.reduceNeg, Int.reduceLT, Int.reduceLE, Int.reduceAdd, Int.reduceSub, Int.reduceToNat, Int.reduceMul, Int.reduceMod, Int.reduceTMod, Int.reduceTDiv, Int.reduceEq, Nat.reducePow, Nat.reduceDiv, Nat.reduceShiftRight, Nat.reduceMod, List.reduceReplicate, ↓reduceIte, Nat.reduceEqDiff, Nat.reduceAdd, Nat.reduceSub, Nat.reduceLeDiff, Nat.reduceLT, Nat.reduceMul, a31, hm, e32]
  rfl
def rr (x : UInt32) (k : Nat) : UInt32 := rotl x (32 - k)
def sg0 (x : UInt32) : UInt32 := rr x 7 ^^^ rr x 18 ^^^ W32.shr x 3
def sg1 (x : UInt32) : UInt32 := rr x 17 ^^^ rr x 19 ^^^ W32.shr x 10
def wRow (x : UInt32) : List AVal := [.int .u32 (x.toNat : Int)]
@[go_sem] theorem e96 (x : UInt32) (k : Nat) (h1 : 1 ≤ k) (h2 : k ≤ 31) : fn C 96 [] [.int .u32 (x.toNat : Int), .int .i64 (k : Int)] = some (.int .u32 ((rr x k).toNat : Int), []) := by
  have e := e118 x (-(k : Int)) (by omega) (by omega)
  rw [show ((-(k : Int)) % 32).toNat = 32 - k by omega] at e
  rw [fn_text Tryz.func96 rfl rfl Tryz.results96 fq96.1 rfl rfl (by kernel_rfl)]
  simp -implicitDefEqProofs -dsimp +contextual (maxSteps := 5000000) (disch := first | omega | simp only [go_sem] <;> omega | refine ib ?_; kernel_rfl) only [go_sem, Nat.reduceBEq, Int.reduceNeg, Int.reduceLT, Int.reduceLE, Int.reduceAdd, Int.reduceSub, Int.reduceToNat, Int.reduceMul, Int.reduceMod, Int.reduceTMod, Int.reduceTDiv, Int.reduceEq, Nat.reducePow, Nat.reduceDiv, Nat.reduceShiftRight, Nat.reduceMod, List.reduceReplicate, ↓reduceIte, Nat.reduceEqDiff, Nat.reduceAdd, Nat.reduceSub, Nat.reduceLeDiff, Nat.reduceLT, Nat.reduceMul, e, Int.zero_sub]
  rfl
@[go_sem] theorem e_dright_lit (x : UInt32) (k : Nat) (h1 : 1 ≤ OfNat.ofNat k) (h2 : OfNat.ofNat k ≤ 31) : fn C 96 [] [.int .u32 (x.toNat : Int), .int .i64 (no_index (OfNat.ofNat k : Int))] = some (.int .u32 ((rr x (OfNat.ofNat k)).toNat : Int), []) := e96 x (OfNat.ofNat k) h1 h2
def be4 (a b c d : UInt8) : UInt32 := ((W32.shl a.toUInt32 24 ||| W32.shl b.toUInt32 16) ||| W32.shl c.toUInt32 8) ||| d.toUInt32
end Go.Proofs.YtclgfgnhcakhdaaGreatDoor
namespace Go.Proofs.YtclgfgnhcakhdaaGreatDoor
set_option maxHeartbeats 64000000
open Go.Am
set_option linter.unusedSimpArgs false
set_option linter.unusedVariables false
set_option maxRecDepth 100000
def wd (blk : List UInt8) (i : Nat) : UInt32 := be4 (blk.getD (4 * i) 0) (blk.getD (4 * i + 1) 0) (blk.getD (4 * i + 2) 0) (blk.getD (4 * i + 3) 0)
def wds (blk : List UInt8) (n : Nat) : List UInt32 := (List.range n).map (wd blk)
@[go_sem] theorem wds_len (blk : List UInt8) (n : Nat) : (wds blk n).length = n := by simp [wds]
theorem wds_succ (blk : List UInt8) (n : Nat) : wds blk (n + 1) = wds blk n ++ [wd blk n] := by simp [wds, List.range_succ]
def nxt (l : List UInt32) : UInt32 := l.getD (l.length - 16) 0 + l.getD (l.length - 7) 0 + sg0 (l.getD (l.length - 15) 0) + sg1 (l.getD (l.length - 2) 0)
def extW : Nat → List UInt32 → List UInt32
  | 0, l => l
  | n + 1, l => extW n (l ++ [nxt l])
theorem extW_len : ∀ (n : Nat) (l : List UInt32), (extW n l).length = l.length + n
  | 0, _ => rfl
  | n + 1, l => by rw [extW, extW_len]; simp; omega
def wsOf (blk : List UInt8) : List UInt32 := extW 48 (wds blk 16)
@[go_sem] theorem wsOf_len (blk : List UInt8) : (wsOf blk).length = 64 := by rw [wsOf, extW_len, wds_len]
def pad64 (l : List UInt32) : List UInt32 := l ++ List.replicate (64 - l.length) 0
theorem pad64_len (l : List UInt32) (h : l.length ≤ 64) : (pad64 l).length = 64 := by simp [pad64]; omega
theorem pad64_set (l : List UInt32) (x : UInt32) (h : l.length < 64) : (pad64 l).set l.length x = pad64 (l ++ [x]) := by
  unfold pad64
  rw [List.set_append_right _ _ (Nat.le_refl _), Nat.sub_self, show 64 - l.length = (64 - (l.length + 1)) + 1 by omega, List.replicate_succ, List.set_cons_zero, List.length_append]
  simp
theorem pad64_get (l : List UInt32) (i : Nat) (h : i < l.length) (h2 : i < (pad64 l).length) : (pad64 l)[i] = l[i] := by
  simp only [pad64]; rw [List.getElem_append_left h]
theorem pad64_all (l : List UInt32) (h : l.length = 64) : pad64 l = l := by simp [pad64, h]
theorem getD_of {α : Type} (l : List α) (i : Nat) (d : α) (h : i < l.length) : l.getD i d = l[i] := by
  rw [List.getD_eq_getElem?_getD, List.getElem?_eq_getElem h]; rfl
def Z64w : List AVal := (List.replicate 64 (0 : UInt32)).map w32
@[go_sem] theorem Z64w_len : Z64w.length = 64 := rfl
@[go_sem] theorem Z64w_drop : Z64w.drop 64 = [] := rfl
theorem pad0 (blk : List UInt8) : (pad64 (wds blk 0)).map w32 = Z64w := rfl
attribute [local irreducible] extW wds pad64 nxt wd
@[go_sem] theorem e95 (blk : List UInt8) (h : blk.length = 64) : fn C 95 [] [.agg (blk.map w8)] = some (.agg ((wsOf blk).map w32), []) := by
  rw [fn_text Tryz.func95 rfl rfl Tryz.results95 fq95.1 rfl rfl (okArgs_of (by kernel_rfl) (by kernel_rfl) (by simp only [go_sem]) rfl)]
  simp -implicitDefEqProofs -dsimp +contextual (maxSteps := 5000000) (disch := first | omega | simp only [go_sem] <;> omega | refine ib ?_; kernel_rfl) only [go_sem, Nat.reduceBEq, Int.reduceNeg, Int.reduceLT, Int.reduceLE, Int.reduceAdd, Int.reduceSub, Int.reduceToNat, Int.reduceMul, Int.reduceMod, Int.reduceTMod, Int.reduceTDiv, Int.reduceEq, Nat.reducePow, Nat.reduceDiv, Nat.reduceShiftRight, Nat.reduceMod, List.reduceReplicate, ↓reduceIte, Nat.reduceEqDiff, Nat.reduceAdd, Nat.reduceSub, Nat.reduceLeDiff, Nat.reduceLT, Nat.reduceMul, h]
  refine (kLoop_rec (fun (i : Nat) f H => f 1 = .ptr 101 1 0 0 ∧ f 2 = .ptr 102 1 0 0 ∧ f 3 = .ptr 103 1 0 0 ∧ f 8 = .int .i64 (i : Int) ∧ H 101 = ⟨1, .live, 64, [blk.map w8], false⟩ ∧ H 102 = ⟨1, .live, 64, [Z64w], false⟩ ∧ H 103 = ⟨1, .live, 64, [(pad64 (wds blk i)).map w32], false⟩ ∧ i ≤ 16) (fun i => 16 - i) (fun _ => some (.agg ((wsOf blk).map w32), [])) ?_ 0 _ _ ⟨rfl, rfl, rfl, rfl, rfl, rfl, by rw [pad0]; rfl, by omega⟩)
  rintro i f H ⟨f1, f2, f3, f8, H1, H2, H3, hi⟩ ih
  have hp := pad64_len (wds blk i) (by rw [wds_len]; omega)
  by_cases hl : i < 16
  · simp -implicitDefEqProofs -dsimp +contextual (maxSteps := 5000000) (disch := first | omega | simp only [go_sem] <;> omega | refine ib ?_; kernel_rfl) only [go_sem, Nat.reduceBEq, Int.reduceNeg, Int.reduceLT, Int.reduceLE, Int.reduceAdd, Int.reduceSub, Int.reduceToNat, Int.reduceMul, Int.reduceMod, Int.reduceTMod, Int.reduceTDiv, Int.reduceEq, Nat.reducePow, Nat.reduceDiv, Nat.reduceShiftRight, Nat.reduceMod, List.reduceReplicate, ↓reduceIte, Nat.reduceEqDiff, Nat.reduceAdd, Nat.reduceSub, Nat.reduceLeDiff, Nat.reduceLT, Nat.reduceMul, f1, f2, f3, f8, H1, H3, hl, h, hp]
    have hw : ((W32.shl blk[4 * i].toUInt32 24 ||| W32.shl blk[4 * i + 1].toUInt32 16) ||| W32.shl blk[4 * i + 2].toUInt32 8) ||| blk[4 * i + 3].toUInt32 = wd blk i := by
      rw [wd, getD_of _ _ _ (by omega), getD_of _ _ _ (by omega), getD_of _ _ _ (by omega), getD_of _ _ _ (by omega)]; rfl
    have hs := pad64_set (wds blk i) (wd blk i) (by rw [wds_len]; omega)
    rw [wds_len, ← wds_succ] at hs
    rw [hw, hs]
    exact ih (i + 1) _ _ ⟨f1, f2, f3, rfl, H1, H2, rfl, by omega⟩ (by omega)
  · obtain rfl : i = 16 := by omega
    simp -implicitDefEqProofs -dsimp +contextual (maxSteps := 5000000) (disch := first | omega | simp only [go_sem] <;> omega | refine ib ?_; kernel_rfl) only [go_sem, Nat.reduceBEq, Int.reduceNeg, Int.reduceLT, Int.reduceLE, Int.reduceAdd, Int.reduceSub, Int.reduceToNat, Int.reduceMul, Int.reduceMod, Int.reduceTMod, Int.reduceTDiv, Int.reduceEq, Nat.reducePow, Nat.reduceDiv, Nat.reduceShiftRight, Nat.reduceMod, List.reduceReplicate, ↓reduceIte, Nat.reduceEqDiff, Nat.reduceAdd, Nat.reduceSub, Nat.reduceLeDiff, Nat.reduceLT, Nat.reduceMul, f1, f2, f3, f8, H1, H3, hl, h, hp]
    rw [wsOf, show (48 : Nat) = 64 - 16 from rfl]
    refine (kLoop_rec2 (fun (t : Nat) (l : List UInt32) f H => f 1 = .ptr 101 1 0 0 ∧ f 2 = .ptr 102 1 0 0 ∧ f 3 = .ptr 103 1 0 0 ∧ f 5 = .int .i64 (t : Int) ∧ H 102 = ⟨1, .live, 64, [Z64w], false⟩ ∧ H 103 = ⟨1, .live, 64, [(pad64 l).map w32], false⟩ ∧ l.length = t ∧ 16 ≤ t ∧ t ≤ 64) (fun t _ => 64 - t) (fun t l => some (.agg ((extW (64 - t) l).map w32), [])) ?_ 16 (wds blk 16) _ _ ⟨f1, f2, f3, rfl, H2, H3, wds_len _ _, by omega, by omega⟩)
    rintro t l f H ⟨f1, f2, f3, f5, H2, H3, hlen, ht, ht2⟩ ih
    have hp := pad64_len l (by omega)
    by_cases hlt : t < 64
    · have g1 := pad64_get l (t - 15) (by omega) (by omega)
      have g2 := pad64_get l (t - 2) (by omega) (by omega)
      have g3 := pad64_get l (t - 16) (by omega) (by omega)
      have g4 := pad64_get l (t - 7) (by omega) (by omega)
      simp -implicitDefEqProofs -dsimp +contextual (maxSteps := 5000000) (disch := first | omega | simp only [go_sem] <;> omega | refine ib ?_; kernel_rfl) only [go_sem, Nat.reduceBEq, Int.reduceNeg, Int.reduceLT, Int.reduceLE, Int.reduceAdd, Int.reduceSub, Int.reduceToNat, Int.reduceMul, Int.reduceMod, Int.reduceTMod, Int.reduceTDiv, Int.reduceEq, Nat.reducePow, Nat.reduceDiv, Nat.reduceShiftRight, Nat.reduceMod, List.reduceReplicate, ↓reduceIte, Nat.reduceEqDiff, Nat.reduceAdd, Nat.reduceSub, Nat.reduceLeDiff, Nat.reduceLT, Nat.reduceMul, f1, f2, f3, f5, H2, H3, hlt, hp, g1, g2, g3, g4]
      have hn : l[t - 16] + l[t - 7] + (rr l[t - 15] 7 ^^^ rr l[t - 15] 18 ^^^ W32.shr l[t - 15] 3) + (rr l[t - 2] 17 ^^^ rr l[t - 2] 19 ^^^ W32.shr l[t - 2] 10) = nxt l := by
        subst hlen
        rw [nxt, getD_of _ _ _ (by omega), getD_of _ _ _ (by omega), getD_of _ _ _ (by omega), getD_of _ _ _ (by omega)]; rfl
      have hs := pad64_set l (nxt l) (by omega)
      rw [hlen] at hs
      rw [hn, hs, show 64 - t = (64 - (t + 1)) + 1 by omega, extW]
      exact ih (t + 1) (l ++ [nxt l]) _ _ ⟨f1, f2, f3, rfl, H2, rfl, by simp [hlen], by omega, by omega⟩ (by omega)
    · simp -implicitDefEqProofs -dsimp +contextual (maxSteps := 5000000) (disch := first | omega | simp only [go_sem] <;> omega | refine ib ?_; kernel_rfl) only [go_sem, Nat.reduceBEq, Int.reduceNeg, Int.reduceLT, Int.reduceLE, Int.reduceAdd, Int.reduceSub, Int.reduceToNat, Int.reduceMul, Int.reduceMod, Int.reduceTMod, Int.reduceTDiv, Int.reduceEq, Nat.reducePow, Nat.reduceDiv, Nat.reduceShiftRight, Nat.reduceMod, List.reduceReplicate, ↓reduceIte, Nat.reduceEqDiff, Nat.reduceAdd, Nat.reduceSub, Nat.reduceLeDiff, Nat.reduceLT, Nat.reduceMul, f1, f2, f3, f5, H2, H3, hlt, hp]
      obtain rfl : t = 64 := by omega
      rw [pad64_all l hlen, show 64 - 64 = 0 from rfl, extW]
end Go.Proofs.YtclgfgnhcakhdaaGreatDoor
namespace Go.Proofs.YtclgfgnhcakhdaaGreatDoor
set_option maxHeartbeats 64000000
open Go.Am
set_option linter.unusedSimpArgs false
set_option linter.unusedVariables false
set_option maxRecDepth 100000
structure S8 where
  a : UInt32
  b : UInt32
  c : UInt32
  d : UInt32
  e : UInt32
  f : UInt32
  g : UInt32
  h : UInt32
def S8.l (s : S8) : List UInt32 := [s.a, s.b, s.c, s.d, s.e, s.f, s.g, s.h]
def chx (s : S8) (k w : UInt32) : UInt32 := s.h + (rr s.e 6 ^^^ rr s.e 11 ^^^ rr s.e 25) + ((s.e &&& s.f) ^^^ (~~~s.e &&& s.g)) + k + w
def chy (s : S8) : UInt32 := (rr s.a 2 ^^^ rr s.a 13 ^^^ rr s.a 22) + ((s.a &&& s.b) ^^^ (s.a &&& s.c) ^^^ (s.b &&& s.c))
def sstep (s : S8) (k w : UInt32) : S8 := ⟨chx s k w + chy s, s.a, s.b, s.c, s.d + chx s k w, s.e, s.f, s.g⟩
def rnd (ks ws : List UInt32) (s : S8) : S8 := (ks.zip ws).foldl (fun s p => sstep s p.1 p.2) s
def S8.add (s t : S8) : S8 := ⟨s.a + t.a, s.b + t.b, s.c + t.c, s.d + t.d, s.e + t.e, s.f + t.f, s.g + t.g, s.h + t.h⟩
def KS : List UInt32 := [1116352408, 1899447441, 3049323471, 3921009573, 961987163, 1508970993, 2453635748, 2870763221,   3624381080, 310598401, 607225278, 1426881987, 1925078388, 2162078206, 2614888103, 3248222580,   3835390401, 4022224774, 264347078, 604807628, 770255983, 1249150122, 1555081692, 1996064986,   2554220882, 2821834349, 2952996808, 3210313671, 3336571891, 3584528711, 113926993, 338241895,   666307205, 773529912, 1294757372, 1396182291, 1695183700, 1986661051, 2177026350, 2456956037,   2730485921, 2820302411, 3259730800, 3345764771, 3516065817, 3600352804, 4094571909, 275423344,   430227734, 506948616, 659060556, 883997877, 958139571, 1322822218, 1537002063, 1747873779,   1955562222, 2024104815, 2227730452, 2361852424, 2428436474, 2756734187, 3204031479, 3329325298]
@[go_sem] theorem KS_len : KS.length = 64 := rfl
def blockS (s : S8) (blk : List UInt8) : S8 := (rnd KS (wsOf blk) s).add s
@[go_sem] theorem KS_drop : KS.drop 64 = [] := rfl
@[go_sem] theorem g0_eq : tabV .u32 tabL1 = KS.map w32 := rfl
theorem chx_eq (s : S8) (k w : UInt32) : s.h + (rr s.e 6 ^^^ rr s.e 11 ^^^ rr s.e 25) + ((s.e &&& s.f) ^^^ (~~~s.e &&& s.g)) + k + w = chx s k w := by rw [chx]
theorem chy_eq (s : S8) : (rr s.a 2 ^^^ rr s.a 13 ^^^ rr s.a 22) + ((s.a &&& s.b) ^^^ (s.a &&& s.c) ^^^ (s.b &&& s.c)) = chy s := by rw [chy]
theorem rnd_nil (s : S8) : rnd [] [] s = s := by simp only [rnd, List.zip_nil_left, List.foldl_nil]
theorem cells_step (u : S8) (k w : UInt32) : [AVal.int .u32 ((chx u k w + chy u).toNat : Int), .int .u32 (u.a.toNat : Int), .int .u32 (u.b.toNat : Int), .int .u32 (u.c.toNat : Int), .int .u32 ((u.d + chx u k w).toNat : Int), .int .u32 (u.e.toNat : Int), .int .u32 (u.f.toNat : Int), .int .u32 (u.g.toNat : Int)] = [.int .u32 ((sstep u k w).a.toNat : Int), .int .u32 ((sstep u k w).b.toNat : Int), .int .u32 ((sstep u k w).c.toNat : Int), .int .u32 ((sstep u k w).d.toNat : Int), .int .u32 ((sstep u k w).e.toNat : Int), .int .u32 ((sstep u k w).f.toNat : Int), .int .u32 ((sstep u k w).g.toNat : Int), .int .u32 ((sstep u k w).h.toNat : Int)] := rfl
theorem cells_add (u s : S8) : [AVal.int .u32 ((u.a + s.a).toNat : Int), .int .u32 ((u.b + s.b).toNat : Int), .int .u32 ((u.c + s.c).toNat : Int), .int .u32 ((u.d + s.d).toNat : Int), .int .u32 ((u.e + s.e).toNat : Int), .int .u32 ((u.f + s.f).toNat : Int), .int .u32 ((u.g + s.g).toNat : Int), .int .u32 ((u.h + s.h).toNat : Int)] = (u.add s).l.map w32 := rfl
attribute [local irreducible] wsOf KS rr chx chy sstep S8.add
theorem rnd_cons (k w : UInt32) (ks ws : List UInt32) (s : S8) : rnd (k :: ks) (w :: ws) s = rnd ks ws (sstep s k w) := by simp only [rnd, List.zip_cons_cons, List.foldl_cons]
theorem rnd_drop (ks ws : List UInt32) (i : Nat) (h1 : i < ks.length) (h2 : i < ws.length) (u : S8) : rnd (ks.drop i) (ws.drop i) u = rnd (ks.drop (i + 1)) (ws.drop (i + 1)) (sstep u ks[i] ws[i]) := by
  rw [List.drop_eq_getElem_cons h1, List.drop_eq_getElem_cons h2, rnd_cons]
@[go_sem] theorem e70 (s : S8) (blk : List UInt8) (h : blk.length = 64) : fn C 70 [] [.agg (s.l.map w32), .agg (blk.map w8)] = some (.agg ((blockS s blk).l.map w32), []) := by
  rw [fn_text Tryz.func70 rfl rfl Tryz.results70 fq70.1 rfl rfl (okArgs_of (by kernel_rfl) (by kernel_rfl) (by simp only [go_sem]) rfl)]
  have hw := wsOf_len blk
  have hk := KS_len
  have hsl : s.l.map w32 = [.int .u32 (s.a.toNat : Int), .int .u32 (s.b.toNat : Int), .int .u32 (s.c.toNat : Int), .int .u32 (s.d.toNat : Int), .int .u32 (s.e.toNat : Int), .int .u32 (s.f.toNat : Int), .int .u32 (s.g.toNat : Int), .int .u32 (s.h.toNat : Int)] := rfl
  rw [hsl]
  simp -implicitDefEqProofs -dsimp +contextual (maxSteps := 5000000) (disch := first | omega | simp only [go_sem] <;> omega | refine ib ?_; kernel_rfl) only [go_sem, Nat.reduceBEq, Int.reduceNeg, Int.reduceLT, Int.reduceLE, Int.reduceAdd, Int.reduceSub, Int.reduceToNat, Int.reduceMul, Int.reduceMod, Int.reduceTMod, Int.reduceTDiv, Int.reduceEq, Nat.reducePow, Nat.reduceDiv, Nat.reduceShiftRight, Nat.reduceMod, List.reduceReplicate, ↓reduceIte, Nat.reduceEqDiff, Nat.reduceAdd, Nat.reduceSub, Nat.reduceLeDiff, Nat.reduceLT, Nat.reduceMul, h, hw]
  refine (kLoop_rec2 (fun (i : Nat) (u : S8) f H => f 2 = .ptr 102 1 0 0 ∧ f 4 = .ptr 104 1 0 0 ∧ f 5 = .ptr 105 1 0 0 ∧ f 6 = .ptr 106 1 0 0 ∧ f 20 = .int .i64 (i : Int) ∧ H 102 = ⟨1, .live, 8, [[.int .u32 (s.a.toNat : Int), .int .u32 (s.b.toNat : Int), .int .u32 (s.c.toNat : Int), .int .u32 (s.d.toNat : Int), .int .u32 (s.e.toNat : Int), .int .u32 (s.f.toNat : Int), .int .u32 (s.g.toNat : Int), .int .u32 (s.h.toNat : Int)]], false⟩ ∧ H 104 = ⟨1, .live, 8, [List.replicate 8 (.int .u32 0)], false⟩ ∧ H 105 = ⟨1, .live, 64, [(wsOf blk).map w32], false⟩ ∧ H 106 = ⟨1, .live, 8, [[.int .u32 (u.a.toNat : Int), .int .u32 (u.b.toNat : Int), .int .u32 (u.c.toNat : Int), .int .u32 (u.d.toNat : Int), .int .u32 (u.e.toNat : Int), .int .u32 (u.f.toNat : Int), .int .u32 (u.g.toNat : Int), .int .u32 (u.h.toNat : Int)]], false⟩ ∧ i ≤ 64) (fun i _ => 64 - i) (fun i u => some (.agg (((rnd (KS.drop i) ((wsOf blk).drop i) u).add s).l.map w32), [])) ?_ 0 s _ _ ⟨rfl, rfl, rfl, rfl, rfl, rfl, rfl, rfl, rfl, by omega⟩)
  rintro i u f H ⟨f2, f4, f5, f6, f20, H2, H4, H5, H6, hi⟩ ih
  by_cases hl : i < 64
  · simp -implicitDefEqProofs -dsimp +contextual (maxSteps := 5000000) (disch := first | omega | simp only [go_sem] <;> omega | refine ib ?_; kernel_rfl) only [go_sem, Nat.reduceBEq, Int.reduceNeg, Int.reduceLT, Int.reduceLE, Int.reduceAdd, Int.reduceSub, Int.reduceToNat, Int.reduceMul, Int.reduceMod, Int.reduceTMod, Int.reduceTDiv, Int.reduceEq, Nat.reducePow, Nat.reduceDiv, Nat.reduceShiftRight, Nat.reduceMod, List.reduceReplicate, ↓reduceIte, Nat.reduceEqDiff, Nat.reduceAdd, Nat.reduceSub, Nat.reduceLeDiff, Nat.reduceLT, Nat.reduceMul, f2, f4, f5, f6, f20, H2, H4, H5, H6, hl, hw, hk]
    have c1 := chx_eq u (KS[i]'(by rw [hk]; exact hl)) ((wsOf blk)[i]'(by rw [hw]; exact hl))
    have c2 := chy_eq u
    have c3 := cells_step u (KS[i]'(by rw [hk]; exact hl)) ((wsOf blk)[i]'(by rw [hw]; exact hl))
    rw [c1, c2, c3]
    have hfin := congrArg (fun r : S8 => some (AVal.agg ((r.add s).l.map w32), ([] : List AVal))) (rnd_drop KS (wsOf blk) i (by rw [hk]; exact hl) (by rw [hw]; exact hl) u)
    refine Eq.trans ?_ hfin.symm
    refine ih (i + 1) _ _ _ ?_ (by omega)
    exact ⟨f2, f4, f5, f6, rfl, H2, H4, H5, rfl, by omega⟩
  · simp -implicitDefEqProofs -dsimp +contextual (maxSteps := 5000000) (disch := first | omega | simp only [go_sem] <;> omega | refine ib ?_; kernel_rfl) only [go_sem, Nat.reduceBEq, Int.reduceNeg, Int.reduceLT, Int.reduceLE, Int.reduceAdd, Int.reduceSub, Int.reduceToNat, Int.reduceMul, Int.reduceMod, Int.reduceTMod, Int.reduceTDiv, Int.reduceEq, Nat.reducePow, Nat.reduceDiv, Nat.reduceShiftRight, Nat.reduceMod, List.reduceReplicate, ↓reduceIte, Nat.reduceEqDiff, Nat.reduceAdd, Nat.reduceSub, Nat.reduceLeDiff, Nat.reduceLT, Nat.reduceMul, f2, f4, f5, f6, f20, H2, H4, H5, H6, hl, kLoop_eq]
    obtain rfl : i = 64 := by omega
    rw [rnd_nil]
    exact congrArg (fun x => some (AVal.agg x, [])) (cells_add u s)
end Go.Proofs.YtclgfgnhcakhdaaGreatDoor
namespace Go.Proofs.YtclgfgnhcakhdaaGreatDoor
set_option maxHeartbeats 64000000
open Go.Am
set_option linter.unusedSimpArgs false
set_option linter.unusedVariables false
set_option maxRecDepth 100000
@[go_sem] theorem wRow_eq (x : UInt32) : wRow x = [.int .u32 (x.toNat : Int)] := rfl
attribute [local irreducible] wsOf KS rr wds nxt extW wd chx chy sstep S8.add
end Go.Proofs.YtclgfgnhcakhdaaGreatDoor
namespace Go.Proofs.YtclgfgnhcakhdaaGreatDoor
set_option maxHeartbeats 64000000
open Go.Am
set_option linter.unusedSimpArgs false
set_option linter.unusedVariables false
set_option maxRecDepth 100000
def padD (n : Nat) : List UInt8 := 128 :: (List.replicate ((119 - n % 64) % 64) 0 ++ beN 8 (n * 8))
@[go_sem] theorem e68 (n : Nat) (h : n ≤ 1000000000000) : fn C 68 [] [.int .i64 (n : Int)] = some (.slice 1 ((padD n).map byteRow), []) := by
  rw [fn_text Tryz.func68 rfl rfl Tryz.results68 fq68.1 rfl rfl (by kernel_rfl)]
  have h119 : (119 : Int) - ((n % 64 : Nat) : Int) = ((119 - n % 64 : Nat) : Int) := by omega
  simp -implicitDefEqProofs -dsimp +contextual (maxSteps := 5000000) (disch := first | omega | simp only [go_sem] <;> omega | refine ib ?_; kernel_rfl) only [go_sem, Nat.reduceBEq, Int.reduceNeg, Int.reduceLT, Int.reduceLE, Int.reduceAdd, Int.reduceSub, Int.reduceToNat, Int.reduceMul, Int.reduceMod, Int.reduceTMod, Int.reduceTDiv, Int.reduceEq, Nat.reducePow, Nat.reduceDiv, Nat.reduceShiftRight, Nat.reduceMod, List.reduceReplicate, ↓reduceIte, Nat.reduceEqDiff, Nat.reduceAdd, Nat.reduceSub, Nat.reduceLeDiff, Nat.reduceLT, Nat.reduceMul, h119, kLoop_eq, Nat.not_lt_zero]
  have b1 : ((n * 8 / 72057594037927936 : Nat) : Int) = ((UInt8.ofNat (n * 8 / 72057594037927936)).toNat : Int) := by simp only [UInt8.toNat_ofNat']; omega
  have b2 : ((n * 8 / 281474976710656 : Nat) : Int) = ((UInt8.ofNat (n * 8 / 281474976710656)).toNat : Int) := by simp only [UInt8.toNat_ofNat']; omega
  have b3 : ((n * 8 / 1099511627776 : Nat) : Int) = ((UInt8.ofNat (n * 8 / 1099511627776)).toNat : Int) := by simp only [UInt8.toNat_ofNat']; omega
  rw [b1, b2, b3, u8_wrap, u8_wrap, u8_wrap, u8_wrap, u8_wrap]
  simp only [padD, beN, show List.range 8 = [0, 1, 2, 3, 4, 5, 6, 7] from rfl, List.map_cons, List.map_nil, List.map_append, List.append_assoc, List.cons_append, List.nil_append, List.append_nil]
  rfl
end Go.Proofs.YtclgfgnhcakhdaaGreatDoor
namespace Go.Proofs.YtclgfgnhcakhdaaGreatDoor
set_option maxHeartbeats 64000000
open Go.Am
set_option linter.unusedSimpArgs false
set_option linter.unusedVariables false
set_option maxRecDepth 100000
def H0 : S8 := ⟨1779033703, 3144134277, 1013904242, 2773480762, 1359893119, 2600822924, 528734635, 1541459225⟩
theorem H0_w : [AVal.int .u32 1779033703, .int .u32 3144134277, .int .u32 1013904242, .int .u32 2773480762, .int .u32 1359893119, .int .u32 2600822924, .int .u32 528734635, .int .u32 1541459225] = H0.l.map w32 := by kernel_rfl
@[go_sem] theorem S8_len (s : S8) : s.l.length = 8 := rfl
def stS (all : List UInt8) : Nat → S8
  | 0 => H0
  | i + 1 => blockS (stS all i) ((all.drop (64 * i)).take 64)
def be8 (x : UInt32) : List UInt8 := [(W32.shr x 24).toUInt8, (W32.shr x 16).toUInt8, (W32.shr x 8).toUInt8, x.toUInt8]
def outS (s : S8) : List UInt8 := s.l.flatMap be8
def allB (b : List UInt8) : List UInt8 := b ++ padD b.length
def sumB (b : List UInt8) : List UInt8 := outS (stS (allB b) ((allB b).length / 64))
theorem padD_len (n : Nat) : (padD n).length = (119 - n % 64) % 64 + 9 := by simp [padD, beN_len]
theorem allB_len (b : List UInt8) : (allB b).length = b.length + ((119 - b.length % 64) % 64 + 9) := by rw [allB, List.length_append, padD_len]
theorem allB_mod (b : List UInt8) : (allB b).length % 64 = 0 := by rw [allB_len]; omega
@[go_sem] theorem e69 : fn C 69 [] [] = some (.agg (H0.l.map w32), []) := by
  rw [fn_text Tryz.func69 rfl rfl Tryz.results69 fq69.1 rfl rfl (by kernel_rfl)]
  simp -implicitDefEqProofs -dsimp +contextual (maxSteps := 5000000) (disch := first | omega | simp only [go_sem] <;> omega | refine ib ?_; kernel_rfl) only [go_sem, Nat.reduceBEq, Int.reduceNeg, Int.reduceLT, Int.reduceLE, Int.reduceAdd, Int.reduceSub, Int.reduceToNat, Int.reduceMul, Int.reduceMod, Int.reduceTMod, Int.reduceTDiv, Int.reduceEq, Nat.reducePow, Nat.reduceDiv, Nat.reduceShiftRight, Nat.reduceMod, List.reduceReplicate, ↓reduceIte, Nat.reduceEqDiff, Nat.reduceAdd, Nat.reduceSub, Nat.reduceLeDiff, Nat.reduceLT, Nat.reduceMul, H0_w]
attribute [local irreducible] blockS padD
@[go_sem] theorem e46 (b : List UInt8) (h : b.length ≤ 1000000) : fn C 46 [] [.slice 1 (b.map byteRow)] = some (.slice 1 ((sumB b).map byteRow), []) := by
  rw [fn_text Tryz.func46 rfl rfl Tryz.results46 fq46.1 rfl rfl (by kernel_rfl)]
  have hp := padD_len b.length
  simp -implicitDefEqProofs -dsimp +contextual (maxSteps := 5000000) (disch := first | omega | simp only [go_sem] <;> omega | refine ib ?_; kernel_rfl) only [go_sem, Nat.reduceBEq, Int.reduceNeg, Int.reduceLT, Int.reduceLE, Int.reduceAdd, Int.reduceSub, Int.reduceToNat, Int.reduceMul, Int.reduceMod, Int.reduceTMod, Int.reduceTDiv, Int.reduceEq, Nat.reducePow, Nat.reduceDiv, Nat.reduceShiftRight, Nat.reduceMod, List.reduceReplicate, ↓reduceIte, Nat.reduceEqDiff, Nat.reduceAdd, Nat.reduceSub, Nat.reduceLeDiff, Nat.reduceLT, Nat.reduceMul, h, hp]
  have hmod := allB_mod b
  have hAl := allB_len b
  rw [show b ++ padD b.length = allB b from rfl, sumB]
  generalize hA : allB b = A at *
  have hAm : A.length ≤ 1001000 := by omega
  obtain ⟨m, hm⟩ : ∃ m, A.length = 64 * m := ⟨A.length / 64, by omega⟩
  rw [show A.length / 64 = m by omega]
  refine (kLoop_rec (fun (i : Nat) f H => f 3 = .slice 1 (A.map byteRow) ∧ f 4 = .ptr 104 1 0 0 ∧ f 5 = .int .i64 ((64 * i : Nat) : Int) ∧ H 104 = ⟨1, .live, 8, [(stS A i).l.map w32], false⟩ ∧ (H 148).gen = 0 ∧ i ≤ m) (fun i => m - i) (fun _ => some (.slice 1 ((outS (stS A m)).map byteRow), [])) ?_ 0 _ _ ⟨rfl, rfl, rfl, rfl, rfl, by omega⟩)
  rintro i f H ⟨f3, f4, f5, H4, g, hi⟩ ih
  by_cases hl : 64 * i + 64 ≤ A.length
  · simp -implicitDefEqProofs -dsimp +contextual (maxSteps := 5000000) (disch := first | omega | simp only [go_sem] <;> omega | refine ib ?_; kernel_rfl) only [go_sem, Nat.reduceBEq, Int.reduceNeg, Int.reduceLT, Int.reduceLE, Int.reduceAdd, Int.reduceSub, Int.reduceToNat, Int.reduceMul, Int.reduceMod, Int.reduceTMod, Int.reduceTDiv, Int.reduceEq, Nat.reducePow, Nat.reduceDiv, Nat.reduceShiftRight, Nat.reduceMod, List.reduceReplicate, ↓reduceIte, Nat.reduceEqDiff, Nat.reduceAdd, Nat.reduceSub, Nat.reduceLeDiff, Nat.reduceLT, Nat.reduceMul, f3, f4, f5, H4, g, hl]
    refine ih (i + 1) _ _ ⟨f3, f4, by simp only [upd, if_true]; congr 1, ?_, g, by omega⟩ (by omega)
    rw [stS, show 64 * i + 64 - 64 * i = 64 by omega]
    rfl
  · obtain rfl : i = m := by omega
    simp -implicitDefEqProofs -dsimp +contextual (maxSteps := 5000000) (disch := first | omega | simp only [go_sem] <;> omega | refine ib ?_; kernel_rfl) only [go_sem, Nat.reduceBEq, Int.reduceNeg, Int.reduceLT, Int.reduceLE, Int.reduceAdd, Int.reduceSub, Int.reduceToNat, Int.reduceMul, Int.reduceMod, Int.reduceTMod, Int.reduceTDiv, Int.reduceEq, Nat.reducePow, Nat.reduceDiv, Nat.reduceShiftRight, Nat.reduceMod, List.reduceReplicate, ↓reduceIte, Nat.reduceEqDiff, Nat.reduceAdd, Nat.reduceSub, Nat.reduceLeDiff, Nat.reduceLT, Nat.reduceMul, f3, f4, f5, H4, g, hl]
    generalize stS A i = s
    have hsl : s.l.map w32 = [.int .u32 (s.a.toNat : Int), .int .u32 (s.b.toNat : Int), .int .u32 (s.c.toNat : Int), .int .u32 (s.d.toNat : Int), .int .u32 (s.e.toNat : Int), .int .u32 (s.f.toNat : Int), .int .u32 (s.g.toNat : Int), .int .u32 (s.h.toNat : Int)] := rfl
    rw [hsl]
    simp -implicitDefEqProofs -dsimp +contextual (maxSteps := 5000000) (disch := first | omega | simp only [go_sem] <;> omega | refine ib ?_; kernel_rfl) only [go_sem, Nat.reduceBEq, Int.reduceNeg, Int.reduceLT, Int.reduceLE, Int.reduceAdd, Int.reduceSub, Int.reduceToNat, Int.reduceMul, Int.reduceMod, Int.reduceTMod, Int.reduceTDiv, Int.reduceEq, Nat.reducePow, Nat.reduceDiv, Nat.reduceShiftRight, Nat.reduceMod, List.reduceReplicate, ↓reduceIte, Nat.reduceEqDiff, Nat.reduceAdd, Nat.reduceSub, Nat.reduceLeDiff, Nat.reduceLT, Nat.reduceMul, kLoop_eq, f3, H4, g]
    rfl
@[go_sem] theorem sumB_len (b : List UInt8) : (sumB b).length = 32 := by rw [sumB]; rfl
end Go.Proofs.YtclgfgnhcakhdaaGreatDoor
namespace Go.Proofs.YtclgfgnhcakhdaaGreatDoor
set_option maxHeartbeats 64000000
open Go.Am
set_option linter.unusedSimpArgs false
set_option linter.unusedVariables false
set_option maxRecDepth 100000
open Lib in
theorem sign_text (g : Bool) (d : List UInt8) (h : g = false → d.head? ≠ some 45) : signOf (textN g d) = g ∧ digsOf (textN g d) = d := by
  cases g with
  | true => exact ⟨rfl, rfl⟩
  | false => have := h rfl; simp [textN, signOf, digsOf, this]
open Lib in
theorem back_num (k : Int) : readNumR (signOf (itoa k)) (digsOf (itoa k)) = if -1073741824 ≤ k ∧ k ≤ 1073741824 then some k else none := by
  obtain ⟨g, d, h1, h2, h3⟩ := read_itoa k
  obtain ⟨h4, h5⟩ := sign_text g d h2
  rw [h1, h4, h5, h3]
def numO (w : List UInt8) : Option Int := readNumR (signOf w) (digsOf w)
def numG (w : List UInt8) : Bool := match numO w with | some n => decide (0 ≤ n) && decide (n ≤ 99) | none => false
def numV (w : List UInt8) : Int := match numO w with | some n => n | none => 0
def hexG (w : List UInt8) : Bool := decide (w.length = 16) && w.all digOk
theorem hexG_chars (w : List UInt8) (h : hexG w = true) : w.length = 16 ∧ ∀ c ∈ w, ¬ c = 32 ∧ ¬ c = 61 := by
  simp only [hexG, Bool.and_eq_true, decide_eq_true_eq, List.all_eq_true] at h
  refine ⟨h.1, fun c hc => ⟨fun e => ?_, fun e => ?_⟩⟩
  · have := h.2 c hc; rw [e] at this; revert this; decide
  · have := h.2 c hc; rw [e] at this; revert this; decide
theorem numG_chars (w : List UInt8) (h : numG w = true) : ∀ c ∈ w, ¬ c = 32 ∧ ¬ c = 61 := by
  unfold numG at h
  split at h
  · rename_i n hn
    unfold numO readNumR at hn
    split at hn
    · rename_i hc
      have hp := hc.2.1
      simp only [plainD, Bool.and_eq_true] at hp
      have hd := List.all_eq_true.1 hp.1.2
      intro c hc
      rw [← text_of w] at hc
      have key : c = 45 ∨ decB c = true := by
        unfold textN at hc
        split at hc
        · rcases List.mem_cons.1 hc with h | h
          · exact .inl h
          · exact .inr (hd c h)
        · exact .inr (hd c hc)
      refine ⟨fun e => ?_, fun e => ?_⟩
      · rw [e] at key; revert key; decide
      · rw [e] at key; revert key; decide
    · cases hn
  · cases h
theorem numG_itoa (n : Int) (h0 : 0 ≤ n) (h1 : n ≤ 99) : numG (Lib.itoa n) = true ∧ numV (Lib.itoa n) = n := by
  have e : numO (Lib.itoa n) = some n := by
    unfold numO
    rw [back_num, if_pos (by omega)]
  unfold numG numV
  rw [e]
  simp [h0, h1]
def readL (line : List UInt8) : Option (List UInt8 × Int × List UInt8) :=
  match lineQ numG hexG line with
  | some (a, n, s) => if (readR a).2 = 0 then some (a, numV n, s) else none
  | none => none
theorem readL_at {line a n s : List UInt8} (h : rightL numG hexG line a n s) : readL line = if (readR a).2 = 0 then some (a, numV n, s) else none := by
  unfold readL
  rw [(lineQ_iff numG hexG numG_chars hexG_chars line a n s).2 h]
def textT (a : List UInt8) (e : Int) : List UInt8 := a ++ (eqS ++ Lib.itoa e)
def digT (sum : List UInt8) : List UInt8 := (bytesR sum).take 16
def nextT (sum t : List UInt8) : List UInt8 := sumB (sum ++ t)
def lineT (sum t : List UInt8) : List UInt8 := t ++ 32 :: digT (nextT sum t)
def linesK : List (St × Int) → List UInt8 → List (List UInt8)
  | [], _ => []
  | x :: l, sum => if (lineR x.1).2 = 0 then lineT sum (textT (lineR x.1).1 x.2) :: linesK l (nextT sum (textT (lineR x.1).1 x.2)) else linesK l sum
def endK : List (St × Int) → List UInt8 → List UInt8
  | [], sum => sum
  | x :: l, sum => if (lineR x.1).2 = 0 then endK l (nextT sum (textT (lineR x.1).1 x.2)) else endK l sum
def noteK (st : List (List UInt8) × List UInt8) (x : St × Int) : List (List UInt8) × List UInt8 :=
  if (lineR x.1).2 = 0 then (st.1 ++ [lineT st.2 (textT (lineR x.1).1 x.2)], nextT st.2 (textT (lineR x.1).1 x.2)) else st
theorem noteK_foldl : ∀ (l : List (St × Int)) (acc : List (List UInt8)) (sum : List UInt8), l.foldl noteK (acc, sum) = (acc ++ linesK l sum, endK l sum)
  | [], acc, sum => by simp [linesK, endK]
  | x :: l, acc, sum => by
    have e : noteK (acc, sum) x = if (lineR x.1).2 = 0 then (acc ++ [lineT sum (textT (lineR x.1).1 x.2)], nextT sum (textT (lineR x.1).1 x.2)) else (acc, sum) := rfl
    rw [List.foldl_cons, e]
    unfold linesK endK
    split
    · rw [noteK_foldl l]; simp
    · exact noteK_foldl l acc sum
def checkK : List (List UInt8) → List UInt8 → Nat
  | [], _ => 0
  | l :: ls, sum => match readL l with
    | none => 0
    | some (a, e, d) => if digT (nextT sum (textT a e)) = d then checkK ls (nextT sum (textT a e)) + 1 else 0
def stepsK : List (List UInt8) → List St × List Int × Option Nat
  | [] => ([], [], none)
  | l :: ls => match readL l with
    | none => ([], [], some 0)
    | some (a, e, _) => ((readR a).1 :: (stepsK ls).1, e :: (stepsK ls).2.1, (stepsK ls).2.2.map (· + 1))
theorem line_back {s : St} (h : (lineR s).2 = 0) : readR (lineR s).1 = (s, 0) := by
  unfold lineR at h ⊢
  split
  · rename_i hr; exact hr
  · rename_i hr; rw [if_neg hr] at h; exact absurd h (by decide)
theorem hexd_ok : ∀ d : Fin 16, digOk (hexd d.val) = true := by decide
theorem pairsR_ok (l : List UInt8) : (pairsR l).all digOk = true := by
  rw [List.all_eq_true]
  intro c hc
  unfold pairsR at hc
  obtain ⟨x, hx, hc⟩ := List.mem_flatMap.1 hc
  have h1 := hexd_ok ⟨x.toNat / 16, by have := x.toNat_lt; omega⟩
  have h2 := hexd_ok ⟨x.toNat % 16, by omega⟩
  simp only [List.mem_cons, List.not_mem_nil, or_false] at hc
  rcases hc with rfl | rfl
  · exact h1
  · exact h2
theorem hexG_dig (sum t : List UInt8) : hexG (digT (nextT sum t)) = true := by
  have hl : (nextT sum t).length = 32 := sumB_len _
  have hne : ¬ nextT sum t = [] := fun e => by rw [e] at hl; simp at hl
  unfold hexG digT bytesR
  rw [if_neg hne, Bool.and_eq_true]
  refine ⟨decide_eq_true (by rw [List.length_take, pairsR_len, hl]; decide), List.all_eq_true.2 fun c hc => ?_⟩
  exact List.all_eq_true.1 (pairsR_ok _) c (List.mem_of_mem_take hc)
theorem readL_line {s : St} {e : Int} (h : (lineR s).2 = 0) (h0 : 0 ≤ e) (h1 : e ≤ 99) (sum : List UInt8) : readL (lineT sum (textT (lineR s).1 e)) = some ((lineR s).1, e, digT (nextT sum (textT (lineR s).1 e))) := by
  obtain ⟨g1, g2⟩ := numG_itoa e h0 h1
  have hr : rightL numG hexG (lineT sum (textT (lineR s).1 e)) (lineR s).1 (Lib.itoa e) (digT (nextT sum (textT (lineR s).1 e))) :=
    ⟨by simp [lineT, textT], g1, hexG_dig _ _⟩
  rw [readL_at hr, line_back h, if_pos rfl, g2]
theorem check_lines : ∀ (l : List (St × Int)) (sum : List UInt8), (∀ x ∈ l, (lineR x.1).2 = 0 ∧ 0 ≤ x.2 ∧ x.2 ≤ 99) → checkK (linesK l sum) sum = l.length ∧ (linesK l sum).length = l.length
  | [], _, _ => ⟨rfl, rfl⟩
  | x :: l, sum, h => by
    obtain ⟨h1, h2, h3⟩ := h x (List.mem_cons_self ..)
    obtain ⟨i1, i2⟩ := check_lines l (nextT sum (textT (lineR x.1).1 x.2)) (fun y hy => h y (List.mem_cons_of_mem _ hy))
    unfold linesK
    rw [if_pos h1]
    refine ⟨?_, by rw [List.length_cons, i2, List.length_cons]⟩
    unfold checkK
    rw [readL_line h1 h2 h3]
    simp only [if_true]
    rw [i1, List.length_cons]
theorem steps_lines : ∀ (l : List (St × Int)) (sum : List UInt8), (∀ x ∈ l, (lineR x.1).2 = 0 ∧ 0 ≤ x.2 ∧ x.2 ≤ 99) → stepsK (linesK l sum) = (l.map (·.1), l.map (·.2), none)
  | [], _, _ => rfl
  | x :: l, sum, h => by
    obtain ⟨h1, h2, h3⟩ := h x (List.mem_cons_self ..)
    have ih := steps_lines l (nextT sum (textT (lineR x.1).1 x.2)) (fun y hy => h y (List.mem_cons_of_mem _ hy))
    unfold linesK
    rw [if_pos h1]
    unfold stepsK
    rw [readL_line h1 h2 h3]
    simp only
    rw [ih, line_back h1]
    rfl
end Go.Proofs.YtclgfgnhcakhdaaGreatDoor
namespace Go.Proofs.YtclgfgnhcakhdaaGreatDoor
set_option maxHeartbeats 64000000
open Go.Am
set_option linter.unusedSimpArgs false
set_option linter.unusedVariables false
set_option maxRecDepth 100000
theorem e55 (a b : List UInt8) (h : a.length + b.length ≤ 1000000) : fn C 55 [] [.slice 1 (a.map byteRow), .slice 1 (b.map byteRow)] = some (.slice 1 ((sumB (a ++ b)).map byteRow), []) := by
  rw [fn_text Tryz.func55 rfl rfl Tryz.results55 fq55.1 rfl rfl (by kernel_rfl)]
  simp -implicitDefEqProofs -dsimp +contextual (maxSteps := 9999999) (disch := first | omega | simp only [go_sem] <;> omega | refine ib ?_; kernel_rfl) only [go_sem, seval, ↓reduceIte]
def titS : List UInt8 := [99, 97, 114, 99, 97, 110, 101, 116, 32, 116, 114, 97, 99, 101, 32]
theorem e25 (t : List UInt8) (h : t.length ≤ 100000) : fn C 25 [] [.str t] = some (.agg [.slice 1 ((sumB (titS ++ t)).map byteRow)], []) := by
  have e1 : fn C 46 [] [.slice 1 ([.int .u8 99] :: [.int .u8 97] :: [.int .u8 114] :: [.int .u8 99] :: [.int .u8 97] :: [.int .u8 110] :: [.int .u8 101] :: [.int .u8 116] :: [.int .u8 32] :: [.int .u8 116] :: [.int .u8 114] :: [.int .u8 97] :: [.int .u8 99] :: [.int .u8 101] :: [.int .u8 32] :: t.map byteRow)] = _ := e46 (titS ++ t) (by simp [titS]; omega)
  rw [fn_text Tryz.func25 rfl rfl Tryz.results25 fq25.1 rfl rfl (by kernel_rfl)]
  simp -implicitDefEqProofs -dsimp +contextual (maxSteps := 9999999) (disch := first | omega | simp only [go_sem] <;> omega | refine ib ?_; kernel_rfl) only [go_sem, seval, ↓reduceIte, e1]
theorem e32 (a : List UInt8) (e : Int) (h1 : -9223372036854775808 ≤ e) (h2 : e ≤ 9223372036854775807) (ha : a.length ≤ 1000000) : fn C 32 [] [.str a, .int .i64 e] = some (.str (textT a e), []) := by
  have e1 := e54 e h1 h2
  have e2 := Lib.itoa_length_le e h1 h2
  rw [fn_text Tryz.func32 rfl rfl Tryz.results32 fq32.1 rfl rfl (by kernel_rfl)]
  simp -implicitDefEqProofs -dsimp +contextual (maxSteps := 9999999) (disch := first | omega | simp only [go_sem] <;> omega | refine ib ?_; kernel_rfl) only [go_sem, seval, ↓reduceIte, e1]
  simp [textT]
theorem dig_len (s t : List UInt8) : (bytesR (nextT s t)).length = 64 := by
  have hl : (nextT s t).length = 32 := sumB_len _
  have hne : ¬ nextT s t = [] := fun e => by rw [e] at hl; simp at hl
  unfold bytesR; rw [if_neg hne, pairsR_len, hl]
theorem e33 (s t : List UInt8) (h : s.length ≤ 100) (h2 : t.length ≤ 500000) : fn C 33 [] [.uptr [.slice 1 (s.map byteRow)], .str t] = some (.str (digT (nextT s t)), [.uptr [.slice 1 ((nextT s t).map byteRow)]]) := by
  have e1 := e55 s t (by omega)
  have e2 := e38 (nextT s t) (by rw [show (nextT s t).length = 32 from sumB_len _]; decide)
  have e3 := dig_len s t
  unfold digT
  rw [show sumB (s ++ t) = nextT s t from rfl] at e1
  generalize nextT s t = u at *
  rw [fn_text Tryz.func33 rfl rfl Tryz.results33 fq33.1 rfl rfl (by kernel_rfl)]
  simp -implicitDefEqProofs -dsimp +contextual (maxSteps := 9999999) (disch := first | omega | simp only [go_sem] <;> omega | refine ib ?_; kernel_rfl) only [go_sem, seval, ↓reduceIte, e1, e2, e3]
def rdV : Option (List UInt8 × Int × List UInt8) → AVal
  | some (a, n, s) => .tup [.str a, .int .i64 n, .str s, .bool true]
  | none => .tup [.str [], .int .i64 0, .str [], .bool false]
theorem cut_len (x p : List UInt8) : (Lib.cut x p).1.length ≤ x.length ∧ (Lib.cut x p).2.1.length ≤ x.length := by
  unfold Lib.cut
  split
  · simp; omega
  · simp
theorem hexG_V (b : List UInt8) : readHexR b = if hexG b = true then .tup [.int .u64 (hexV b : Int), .bool true] else .tup [.int .u64 0, .bool false] := by
  unfold readHexR hexG
  simp only [Bool.and_eq_true, decide_eq_true_eq]
theorem numG_of {w : List UInt8} {n : Int} (h : numO w = some n) : numG w = (decide (0 ≤ n) && decide (n ≤ 99)) ∧ numV w = n := by
  unfold numG numV; rw [h]; exact ⟨rfl, rfl⟩
theorem e17 (line : List UInt8) (hl : line.length ≤ 100000) : fn C 17 [] [.str line] = some (rdV (readL line), []) := by
  have e1 := e39 line eqS (by omega)
  have hP : lineP numG hexG line = lineQ numG hexG line := lineP_Q numG hexG numG_chars hexG_chars line
  unfold readL
  rw [← hP]
  unfold lineP
  by_cases h0 : 0 ≤ Lib.lastIndex line eqS
  · rw [if_pos h0]
    obtain ⟨i, hi⟩ : ∃ i : Nat, Lib.lastIndex line eqS = (i : Int) := ⟨(Lib.lastIndex line eqS).toNat, by omega⟩
    have hs := congrArg List.length (last_split line i hi)
    have hb : i + 3 ≤ line.length := by
      rw [List.length_append, List.length_append, List.length_take, List.length_drop] at hs
      simp only [List.length_cons, List.length_nil] at hs
      omega
    rw [hi] at e1 ⊢
    rw [Int.toNat_natCast]
    have e2 := e40 (line.drop (i + 3)) [32] (by rw [List.length_drop]; omega)
    have hc := cut_len (line.drop (i + 3)) [32]
    rw [List.length_drop] at hc
    generalize Lib.cut (line.drop (i + 3)) [32] = q at *
    obtain ⟨a, b, c⟩ := q
    simp only at e2 hc ⊢
    have e3 : fn C 41 [] [.str a] = some (rnV (numO a), []) := e41 a (by omega)
    have e4 := e42 b (by omega)
    rw [hexG_V] at e4
    have e5 := e43 (line.take i) (by rw [List.length_take]; omega)
    generalize hr : readR (line.take i) = r at *
    cases hn : numO a with
    | none =>
      have hg : numG a = false := by unfold numG; rw [hn]
      rw [hn, rnV] at e3
      rw [hg, if_neg (by simp)]
      cases c <;> (by_cases hh : hexG b = true <;> (first | rw [if_pos hh] at e4 | rw [if_neg hh] at e4) <;> (rw [fn_text Tryz.func17 rfl rfl Tryz.results17 fq17.1 rfl rfl (by kernel_rfl)]; simp -implicitDefEqProofs -dsimp +contextual (maxSteps := 9999999) (disch := first | omega | simp only [go_sem] <;> omega | refine ib ?_; kernel_rfl) only [go_sem, seval, ↓reduceIte, e1, e2, e3, e4, rdV]))
    | some n =>
      obtain ⟨hg, hv⟩ := numG_of hn
      rw [hn, rnV] at e3
      rw [hg]
      by_cases hh : hexG b = true
      · rw [if_pos hh] at e4
        cases c with
        | false =>
          rw [if_neg (by simp)]
          rw [fn_text Tryz.func17 rfl rfl Tryz.results17 fq17.1 rfl rfl (by kernel_rfl)]
          simp -implicitDefEqProofs -dsimp +contextual (maxSteps := 9999999) (disch := first | omega | simp only [go_sem] <;> omega | refine ib ?_; kernel_rfl) only [go_sem, seval, ↓reduceIte, e1, e2, e3, e4, rdV]
        | true =>
          by_cases n0 : 0 ≤ n
          · by_cases n9 : n ≤ 99
            · rw [if_pos ⟨rfl, by simp [n0, n9], hh⟩]
              simp only [hv]
              have n0' := eq_false (show ¬ n < 0 by omega)
              have n9' := eq_false (show ¬ 99 < n by omega)
              obtain ⟨st, f⟩ := r
              rw [stV] at e5
              by_cases hf : f = 0
              · subst hf
                rw [fn_text Tryz.func17 rfl rfl Tryz.results17 fq17.1 rfl rfl (by kernel_rfl)]
                simp -implicitDefEqProofs -dsimp +contextual (maxSteps := 9999999) (disch := first | omega | simp only [go_sem] <;> omega | refine ib ?_; kernel_rfl) only [go_sem, seval, ↓reduceIte, e1, e2, e3, e4, e5, rdV, n0', n9']
                rw [hr]
                rfl
              · have hf' := eq_false hf
                rw [fn_text Tryz.func17 rfl rfl Tryz.results17 fq17.1 rfl rfl (by kernel_rfl)]
                simp -implicitDefEqProofs -dsimp +contextual (maxSteps := 9999999) (disch := first | omega | simp only [go_sem] <;> omega | refine ib ?_; kernel_rfl) only [go_sem, seval, ↓reduceIte, e1, e2, e3, e4, e5, hf', rdV, n0', n9']
                rw [hr]
                simp only [hf', if_false]
            · rw [if_neg (by simp [n9])]
              have n0' := eq_false (show ¬ n < 0 by omega)
              have n9' := eq_true (show 99 < n by omega)
              rw [fn_text Tryz.func17 rfl rfl Tryz.results17 fq17.1 rfl rfl (by kernel_rfl)]
              simp -implicitDefEqProofs -dsimp +contextual (maxSteps := 9999999) (disch := first | omega | simp only [go_sem] <;> omega | refine ib ?_; kernel_rfl) only [go_sem, seval, ↓reduceIte, e1, e2, e3, e4, rdV, n0', n9']
          · rw [if_neg (by simp [n0])]
            have n0' := eq_true (show n < 0 by omega)
            rw [fn_text Tryz.func17 rfl rfl Tryz.results17 fq17.1 rfl rfl (by kernel_rfl)]
            simp -implicitDefEqProofs -dsimp +contextual (maxSteps := 9999999) (disch := first | omega | simp only [go_sem] <;> omega | refine ib ?_; kernel_rfl) only [go_sem, seval, ↓reduceIte, e1, e2, e3, e4, rdV, n0']
      · rw [if_neg hh] at e4
        rw [if_neg (by simp [hh])]
        cases c <;> (rw [fn_text Tryz.func17 rfl rfl Tryz.results17 fq17.1 rfl rfl (by kernel_rfl)]; simp -implicitDefEqProofs -dsimp +contextual (maxSteps := 9999999) (disch := first | omega | simp only [go_sem] <;> omega | refine ib ?_; kernel_rfl) only [go_sem, seval, ↓reduceIte, e1, e2, e3, e4, rdV])
  · rw [if_neg h0]
    have h0' : Lib.lastIndex line eqS < 0 := by omega
    rw [fn_text Tryz.func17 rfl rfl Tryz.results17 fq17.1 rfl rfl (by kernel_rfl)]
    simp -implicitDefEqProofs -dsimp +contextual (maxSteps := 9999999) (disch := first | omega | simp only [go_sem] <;> omega | refine ib ?_; kernel_rfl) only [go_sem, seval, ↓reduceIte, e1, h0', rdV]
theorem checkK_none {l : List UInt8} {ls : List (List UInt8)} {sum : List UInt8} (h : readL l = none) : checkK (l :: ls) sum = 0 := by rw [checkK, h]
theorem checkK_some {l a d : List UInt8} {e : Int} {ls : List (List UInt8)} {sum : List UInt8} (h : readL l = some (a, e, d)) : checkK (l :: ls) sum = if digT (nextT sum (textT a e)) = d then checkK ls (nextT sum (textT a e)) + 1 else 0 := by rw [checkK, h]
theorem readL_num {l a d : List UInt8} {e : Int} (h : readL l = some (a, e, d)) : 0 ≤ e ∧ e ≤ 99 ∧ a.length ≤ l.length := by
  unfold readL at h
  split at h
  · rename_i a' n s hq
    split at h
    · simp only [Option.some.injEq, Prod.mk.injEq] at h
      obtain ⟨rfl, rfl, rfl⟩ := h
      obtain ⟨r1, r2, _⟩ := (lineQ_iff numG hexG numG_chars hexG_chars l a' n s).1 hq
      refine ⟨?_, ?_, by rw [r1]; simp⟩
      all_goals
        cases hn : numO n with
        | none => exact absurd r2 (by unfold numG; rw [hn]; simp)
        | some k =>
          obtain ⟨q1, q2⟩ := numG_of hn
          rw [q1, Bool.and_eq_true, decide_eq_true_eq, decide_eq_true_eq] at r2
          rw [q2]
          omega
    · cases h
  · cases h
theorem e22 (t : List UInt8) (ls : List (List UInt8)) (h : t.length ≤ 1000) (hl : ls.length ≤ 100000) (hs : ∀ l ∈ ls, l.length ≤ 100000) : fn C 22 [] [.str t, .slice 1 (ls.map strRow)] = some (.int .i64 (checkK ls (sumB (titS ++ t)) : Int), []) := by
  have e0 := e25 t (by omega)
  have hS : (sumB (titS ++ t)).length = 32 := sumB_len _
  generalize sumB (titS ++ t) = S0 at *
  rw [fn_text Tryz.func22 rfl rfl Tryz.results22 fq22.1 rfl rfl (by kernel_rfl)]
  simp -implicitDefEqProofs -dsimp +contextual (maxSteps := 9999999) (disch := first | omega | simp only [go_sem] <;> omega | refine ib ?_; kernel_rfl) only [go_sem, seval, ↓reduceIte, e0]
  refine kFor ls.length (fun i f H => ∃ s g : _, (s : List UInt8).length = 32 ∧ checkK ls S0 = i + checkK (ls.drop i) s ∧ f 1 = .slice 1 (ls.map strRow) ∧ f 5 = .ptr 105 g 0 0 ∧ f 14 = .slice 1 (ls.map strRow) ∧ f 15 = .int .i64 ls.length ∧ f 16 = .int .i64 (i : Nat) ∧ H 105 = ⟨g, .live, 1, [[.slice 1 (s.map byteRow)]], false⟩) ?_ ?_ (by exact ⟨S0, 1, hS, by simp, rfl, rfl, rfl, rfl, rfl, rfl⟩)
  · rintro i f H hi ⟨s, g, hs32, hc, f1, f5, f14, f15, f16, hO⟩ ih
    have row : (ls.map strRow)[i]? = some [.str ls[i]] := by rw [List.getElem?_map, List.getElem?_eq_getElem hi]; rfl
    have hli := hs _ (List.getElem_mem hi)
    have e1 := e17 ls[i] hli
    rw [List.drop_eq_getElem_cons hi] at hc
    cases hr : readL ls[i] with
    | none =>
      rw [checkK_none hr] at hc
      rw [hr, rdV] at e1
      simp -implicitDefEqProofs -dsimp +contextual (maxSteps := 9999999) (disch := first | omega | simp only [go_sem] <;> omega | refine ib ?_; kernel_rfl) only [go_sem, seval, ↓reduceIte, f1, f5, f14, f15, f16, hO, hi, row, e1]
      rw [hc]; rfl
    | some q =>
      obtain ⟨a, e, d⟩ := q
      rw [checkK_some hr] at hc
      obtain ⟨b1, b2, b3⟩ := readL_num hr
      rw [hr, rdV] at e1
      have e2 := e32 a e (by omega) (by omega) (by omega)
      have ht : (textT a e).length ≤ 500000 := by
        have := Lib.itoa_length_le e (by omega) (by omega)
        unfold textT; simp; omega
      have e3 := e33 s (textT a e) (by omega) ht
      have hn : (nextT s (textT a e)).length = 32 := sumB_len _
      generalize nextT s (textT a e) = s' at *
      generalize textT a e = tx at *
      by_cases hd : digT s' = d
      · rw [if_pos hd] at hc
        have hd' := eq_true hd
        simp -implicitDefEqProofs -dsimp +contextual (maxSteps := 9999999) (disch := first | omega | simp only [go_sem] <;> omega | refine ib ?_; kernel_rfl) only [go_sem, seval, ↓reduceIte, f1, f5, f14, f15, f16, hO, hi, row, e1, e2, e3, hd']
        refine ih _ _ ?_
        exact ⟨s', g, hn, by omega, f1, f5, f14, f15, rfl, rfl⟩
      · rw [if_neg hd] at hc
        have hd' := eq_false hd
        simp -implicitDefEqProofs -dsimp +contextual (maxSteps := 9999999) (disch := first | omega | simp only [go_sem] <;> omega | refine ib ?_; kernel_rfl) only [go_sem, seval, ↓reduceIte, f1, f5, f14, f15, f16, hO, hi, row, e1, e2, e3, hd']
        rw [hc]; rfl
  · rintro f H ⟨s, g, hs32, hc, f1, f5, f14, f15, f16, hO⟩
    rw [List.drop_length] at hc
    simp -implicitDefEqProofs -dsimp +contextual (maxSteps := 9999999) (disch := first | omega | simp only [go_sem] <;> omega | refine ib ?_; kernel_rfl) only [go_sem, seval, ↓reduceIte, f1, f5, f14, f15, f16, hO]
    rw [hc]; rfl
def iRow (n : Int) : List AVal := [.int .i64 n]
@[go_sem] theorem iRow_clos (l : List Int) : (l.map iRow).all clos = true := allclos_map _ (fun _ => rfl) l
def atV : Option Nat → Int
  | none => -1
  | some k => k
def stepsV (q : List St × List Int × Option Nat) : AVal := .tup [.slice 10 (q.1.map St.cs), .slice 1 (q.2.1.map iRow), .int .i64 (atV q.2.2)]
def stepsA (i : Nat) (A : List St) (B : List Int) (q : List St × List Int × Option Nat) : List St × List Int × Option Nat := (A ++ q.1, B ++ q.2.1, q.2.2.map (· + i))
theorem stepsA_none {i : Nat} {A : List St} {B : List Int} {l : List UInt8} {ls : List (List UInt8)} (h : readL l = none) : stepsA i A B (stepsK (l :: ls)) = (A, B, some i) := by
  rw [stepsK, h]; simp [stepsA]
theorem stepsA_some {i : Nat} {A : List St} {B : List Int} {l a d : List UInt8} {e : Int} {ls : List (List UInt8)} (h : readL l = some (a, e, d)) : stepsA i A B (stepsK (l :: ls)) = stepsA (i + 1) (A ++ [(readR a).1]) (B ++ [e]) (stepsK ls) := by
  rw [stepsK, h]
  simp only [stepsA, List.append_assoc, List.singleton_append, Option.map_map]
  refine Prod.ext rfl (Prod.ext rfl (congrArg (fun g => Option.map g _) (funext fun x => ?_)))
  show x + 1 + i = x + (i + 1)
  omega
theorem stepsA_end {i : Nat} {A : List St} {B : List Int} : stepsA i A B (stepsK []) = (A, B, none) := by simp [stepsA, stepsK]
theorem stepsA_0 (q : List St × List Int × Option Nat) : stepsA 0 [] [] q = q := by
  obtain ⟨a, b, c⟩ := q
  cases c <;> rfl
theorem e19 (ls : List (List UInt8)) (hl : ls.length ≤ 100000) (hs : ∀ l ∈ ls, l.length ≤ 100000) : fn C 19 [] [.slice 1 (ls.map strRow)] = some (stepsV (stepsK ls), []) := by
  rw [← stepsA_0 (stepsK ls)]
  rw [fn_textN Tryz.func19 rfl rfl Tryz.results19 fq19.1 rfl rfl (by kernel_rfl)]
  simp -implicitDefEqProofs -dsimp +contextual (maxSteps := 9999999) (disch := first | omega | simp only [go_sem] <;> omega | refine ib ?_; kernel_rfl) only [go_sem, seval, ↓reduceIte]
  refine kLoop_rec (fun (q : Nat × List St × List Int) f H => q.1 ≤ ls.length ∧ q.2.1.length = q.1 ∧ q.2.2.length = q.1 ∧ f 15 = .slice 1 (ls.map strRow) ∧ f 16 = .int .i64 (ls.length : Int) ∧ f 17 = .int .i64 (q.1 : Int) ∧ AccS f H 5 105 q.2.1 ∧ ∃ g, f 6 = .osl 106 g 0 q.2.2.length ∧ H 106 = ⟨g, .live, 1, q.2.2.map iRow, false⟩) (fun q => ls.length - q.1) (fun q => some (stepsV (stepsA q.1 q.2.1 q.2.2 (stepsK (ls.drop q.1))), [])) ?_ (0, [], []) _ _ (by exact ⟨Nat.zero_le _, rfl, rfl, rfl, rfl, rfl, ⟨_, rfl, rfl⟩, ⟨_, rfl, rfl⟩⟩)
  rintro ⟨i, A, B⟩ f H ⟨hi', hA, hB, f15, f16, f17, ⟨g, f5, H5⟩, ⟨g6, f6, H6⟩⟩ ih
  simp only at hi' hA hB f15 f16 f17 f5 H5 f6 H6 ih
  by_cases hi : i < ls.length
  · have row : (ls.map strRow)[i]? = some [.str ls[i]] := by rw [List.getElem?_map, List.getElem?_eq_getElem hi]; rfl
    have hli := hs _ (List.getElem_mem hi)
    have e1 := e17 ls[i] hli
    rw [List.drop_eq_getElem_cons hi]
    have ih1 := ih (i + 1, A ++ [(readR (match readL ls[i] with | some q => q.1 | none => [])).1], B ++ [match readL ls[i] with | some q => q.2.1 | none => 0])
    clear ih
    cases hr : readL ls[i] with
    | none =>
      rw [stepsA_none hr]
      rw [hr, rdV] at e1
      clear ih1
      simp -implicitDefEqProofs -dsimp +contextual (maxSteps := 9999999) (disch := first | omega | simp only [go_sem] <;> omega | refine ib ?_; kernel_rfl) only [go_sem, seval, ↓reduceIte, f15, f16, f17, f5, f6, H5, H6, hi, row, e1, stepsV]
      first | rfl | (simp [atV]; done)
    | some q =>
      obtain ⟨a, e, d⟩ := q
      rw [stepsA_some hr]
      obtain ⟨b1, b2, b3⟩ := readL_num hr
      rw [hr, rdV] at e1
      rw [hr] at ih1
      simp only at ih1
      have e2 := e43 a (by omega)
      generalize stepsA (i + 1) _ _ _ = RZ at *
      generalize readR a = st at *
      rw [stV] at e2
      simp -implicitDefEqProofs -dsimp +contextual (maxSteps := 9999999) (disch := first | omega | simp only [go_sem] <;> omega | refine ib ?_; kernel_rfl) only [go_sem, seval, ↓reduceIte, f15, f16, f17, f5, f6, H5, H6, hi, row, e1, e2]
      refine ih1 _ _ ?_ (by omega)
      exact ⟨hi, by simp [hA], by simp [hB], f15, f16, rfl, ⟨_, by rw [List.length_append]; rfl, by rw [List.map_append]; rfl⟩, ⟨_, by rw [List.length_append]; rfl, by rw [List.map_append]; rfl⟩⟩
  · obtain rfl : i = ls.length := by omega
    clear ih
    rw [List.drop_length, stepsA_end]
    simp -implicitDefEqProofs -dsimp +contextual (maxSteps := 9999999) (disch := first | omega | simp only [go_sem] <;> omega | refine ib ?_; kernel_rfl) only [go_sem, seval, ↓reduceIte, f15, f16, f17, f5, f6, H5, H6, stepsV]
    first | rfl | (simp [atV]; done)
theorem linesK_cons (x : St × Int) (l : List (St × Int)) (sum : List UInt8) : linesK (x :: l) sum = if (lineR x.1).2 = 0 then lineT sum (textT (lineR x.1).1 x.2) :: linesK l (nextT sum (textT (lineR x.1).1 x.2)) else linesK l sum := rfl
theorem endK_cons (x : St × Int) (l : List (St × Int)) (sum : List UInt8) : endK (x :: l) sum = if (lineR x.1).2 = 0 then endK l (nextT sum (textT (lineR x.1).1 x.2)) else endK l sum := rfl
end Go.Proofs.YtclgfgnhcakhdaaGreatDoor
