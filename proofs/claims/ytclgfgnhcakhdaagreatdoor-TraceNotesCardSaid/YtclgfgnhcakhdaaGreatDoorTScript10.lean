import Derived.Test.YtclgfgnhcakhdaaGreatDoorTScript
namespace Go.Proofs.YtclgfgnhcakhdaaGreatDoor
set_option maxHeartbeats 64000000
open Go.Am
set_option linter.unusedSimpArgs false
set_option linter.unusedVariables false
set_option maxRecDepth 100000
theorem word_row (w : List UInt8) (r : List (List UInt8)) (i : Nat) (h : i < r.length) : ([AVal.str w] :: r.map strRow)[i + 1]? = some [.str r[i]] := by
  rw [List.getElem?_cons_succ, List.getElem?_map, List.getElem?_eq_getElem h]; rfl
theorem readAll_next {s : St} (c : UInt8) (L : List UInt8) (r : List (List UInt8)) (i : Nat) (h : i < r.length) : readAll (c :: L) (r.drop i) s = if (stepR c.toNat r[i] s).2 = 0 then readAll L (r.drop (i + 1)) (stepR c.toNat r[i] s).1 else stepR c.toNat r[i] s := by
  rw [List.drop_eq_getElem_cons h, readAll]
  rfl
def lastK (first : List UInt8) (i k : Nat) : Prop := (k = 0 ∧ ∀ j, 1 ≤ j → j < i → ¬ wordR j = first) ∨ (1 ≤ k ∧ k < i ∧ wordR k = first)
theorem lastK_hit {first : List UInt8} {i k : Nat} (h1 : 1 ≤ i) (e : wordR i = first) : lastK first (i + 1) i := .inr ⟨h1, by omega, e⟩
theorem lastK_miss {first : List UInt8} {i k : Nat} (h : lastK first i k) (e : ¬ wordR i = first) : lastK first (i + 1) k := by
  rcases h with ⟨h1, h2⟩ | ⟨h1, h2, h3⟩
  · refine .inl ⟨h1, fun j hj hl => ?_⟩
    by_cases hji : j = i
    · rw [hji]; exact e
    · exact h2 j hj (by omega)
  · exact .inr ⟨h1, by omega, h3⟩
theorem lastK_kind {first : List UInt8} {k : Nat} (h : lastK first 20 k) : (k = 0 ∧ kindF first = 20) ∨ (1 ≤ k ∧ k ≤ 19 ∧ kindF first = k) := by
  obtain ⟨q1, q2, q3, q4⟩ := formQ_kind first
  rcases h with ⟨h1, h2⟩ | ⟨h1, h2, h3⟩
  · refine .inl ⟨h1, Classical.byContradiction fun e => ?_⟩
    exact h2 (kindF first) q1 (by omega) (q3 (by omega)).symm
  · refine .inr ⟨h1, by omega, ?_⟩
    rcases Nat.lt_trichotomy (kindF first) k with e | e | e
    · exact absurd ((q3 (by omega)).symm.trans h3.symm) (wordR_inj _ _ q1 e (by omega))
    · exact e
    · exact absurd h3 (q4 k h1 e)
def finF (F : List UInt8) (r : List (List UInt8)) (s : St) : St × Int := if r.length = F.length then finR (readAll F r s) else (stZ, 50)
def quR (k : Nat) (w : List UInt8) (r : List (List UInt8)) : St × Int :=
  if k ≤ 19 ∧ (lettersP k r.length).length = r.length ∧ ¬(k = 1 ∧ r.length = 3 ∧ ¬(w :: r).getD 3 [] = [97, 108, 111, 110, 101]) then finR (readAll (lettersP k r.length) r { stZ with kind := (k : Int) }) else (stZ, 50)
theorem qu_A (w : List UInt8) (r : List (List UInt8)) (h : r.length = 1) : quR 18 w r = finF [109] r { stZ with kind := 18 } := by
  simp [quR, finF, lettersP, h]
theorem qu_B (w : List UInt8) (r : List (List UInt8)) (h : ¬ r.length = 1) : quR 18 w r = finF [] r { stZ with kind := 18 } := by
  by_cases h0 : r.length = 0
  · simp [quR, finF, lettersP, h0]
  · have h1 : ¬ 1 = r.length := fun e => h e.symm
    simp [quR, finF, lettersP, h0, h1]
theorem qu_C (w x y : List UInt8) : quR 1 w [x, y, [97, 108, 111, 110, 101]] = finF [110, 109] [x, y] { stZ with kind := 1, n := 1 } := by
  have e1 : ∀ (v : List UInt8) (s : St), stepR 110 v s = ({ s with node := (numR v 7).1 }, (numR v 7).2) := fun v s => by unfold stepR; rw [if_pos rfl]
  have u1 : (110 : UInt8).toNat = 110 := rfl
  have u2 : (109 : UInt8).toNat = 109 := rfl
  have u3 : (49 : UInt8).toNat = 49 := rfl
  rw [show quR 1 w [x, y, [97, 108, 111, 110, 101]] = finR (readAll [110, 109, 49] [x, y, [97, 108, 111, 110, 101]] { stZ with kind := 1 }) by simp [quR, lettersP], show finF [110, 109] [x, y] { stZ with kind := 1, n := 1 } = finR (readAll [110, 109] [x, y] { stZ with kind := 1, n := 1 }) by simp [finF]]
  simp only [readAll, u1, u2, u3, e1, stepR_109, stepR_49, nextR, List.headD_cons, List.tail_cons]
  by_cases h1 : (numR x 7).2 = 0
  · by_cases h2 : (textR (nameR y) y).2 = 0
    · simp [h1, h2, finR]
    · simp [h1, h2, finR]
  · simp [h1, finR]
theorem qu_D (w : List UInt8) (r : List (List UInt8)) (h : ¬(r.length = 3 ∧ (w :: r).getD 3 [] = [97, 108, 111, 110, 101])) : quR 1 w r = finF [110, 109] r { stZ with kind := 1 } := by
  by_cases h2 : r.length ≤ 2
  · by_cases h3 : r.length = 2
    · simp [quR, finF, lettersP, h3]
    · have h4 : ¬ 2 = r.length := fun e => h3 e.symm
      simp [quR, finF, lettersP, h2, h3, h4]
  · by_cases h3 : r.length = 3
    · have h5 : ¬ (w :: r).getD 3 [] = [97, 108, 111, 110, 101] := fun e => h ⟨h3, e⟩
      unfold quR finF
      rw [if_neg (fun x => x.2.2 ⟨rfl, h3, h5⟩), if_neg (by rw [h3]; decide)]
    · have h4 : ¬ 3 = r.length := fun e => h3 e.symm
      have h6 : ¬ r.length = 2 := by omega
      simp [quR, finF, lettersP, h2, h4, h6]
theorem qu_E (k : Nat) (w : List UInt8) (r : List (List UInt8)) (h1 : 1 ≤ k) (h2 : k ≤ 19) (n1 : ¬ k = 1) (n2 : ¬ k = 18) : quR k w r = finF (formR k) r { stZ with kind := (k : Int) } := by
  have : lettersP k r.length = formR k := by
    have h : k = 2 ∨ k = 3 ∨ k = 4 ∨ k = 5 ∨ k = 6 ∨ k = 7 ∨ k = 8 ∨ k = 9 ∨ k = 10 ∨ k = 11 ∨ k = 12 ∨ k = 13 ∨ k = 14 ∨ k = 15 ∨ k = 16 ∨ k = 17 ∨ k = 19 := by omega
    rcases h with rfl | rfl | rfl | rfl | rfl | rfl | rfl | rfl | rfl | rfl | rfl | rfl | rfl | rfl | rfl | rfl | rfl <;> rfl
  unfold quR finF
  rw [this]
  by_cases e : r.length = (formR k).length
  · rw [if_pos ⟨h2, e.symm, fun x => n1 x.1⟩, if_pos e]
  · rw [if_neg (fun x => e x.2.1.symm), if_neg e]
def okF (L : List UInt8) : Bool := L.all fun c => decide (c.toNat = 110 ∨ c.toNat = 111 ∨ c.toNat = 112 ∨ c.toNat = 102 ∨ c.toNat = 117 ∨ c.toNat = 97 ∨ c.toNat = 98 ∨ c.toNat = 105 ∨ c.toNat = 109 ∨ c.toNat = 107 ∨ c.toNat = 115 ∨ c.toNat = 118 ∨ c.toNat = 114)
theorem okF_mem {L : List UInt8} (h : okF L = true) {i : Nat} (hi : i < L.length) : okL L[i].toNat ∧ L[i].toNat ≠ 49 := by
  simp only [okF, List.all_eq_true, decide_eq_true_eq] at h
  have := h _ (List.getElem_mem hi)
  unfold okL; omega
theorem okF_form (k : Nat) (h : k ≤ 19) : okF (formR k) = true := by
  have : ∀ k : Fin 20, okF (formR k.val) = true := by decide
  exact this ⟨k, by omega⟩
@[go_sem] theorem e29 (line : List UInt8) (hl : line.length ≤ 900000) : fn C 29 [] [.str line] = some (stV (readR line), []) := by
  have hw : okW (parts 32 line) := ⟨by have := parts_count 32 line; omega, fun p hp => by have := parts_mem 32 line p hp; omega⟩
  have sp := e48 line (by omega)
  have e1 := e26
  have e2 := e27
  rw [show readR line = quR (kindF ((parts 32 line).headD [])) ((parts 32 line).headD []) (parts 32 line).tail by
    unfold readR quR
    cases hp : parts 32 line with
    | nil => exact absurd hp (parts_ne 32 line)
    | cons w r => simp]
  cases hp : parts 32 line with
  | nil => exact absurd hp (parts_ne 32 line)
  | cons w r =>
    rw [hp] at hw sp
    have hr := hw.tail
    have h1 := hw.1
    simp only [List.tail_cons, List.length_cons, List.headD_cons, Nat.add_sub_cancel, List.map_cons, strRow_eq w] at hr h1 sp ⊢
    rw [fn_text Tryz.func29 rfl rfl Tryz.results29 fq29.1 rfl rfl (by kernel_rfl)]
    simp -implicitDefEqProofs -dsimp +contextual (maxSteps := 9999999) (disch := first | omega | simp only [go_sem] <;> omega | refine ib ?_; kernel_rfl) only [go_sem, seval, ↓reduceIte, sp]
    refine kLoop_rec (fun (i : Nat) f H => 1 ≤ i ∧ i ≤ 20 ∧ ∃ k, lastK w i k ∧ f 2 = .ptr 102 1 0 0 ∧ f 4 = .slice 1 ([.str w] :: r.map strRow) ∧ f 5 = .int .i64 (k : Int) ∧ f 6 = .int .i64 (i : Int) ∧ (H 107).gen = 0 ∧
      H 102 = ⟨1, .live, 10, [[.int .i64 0, .int .i64 0, .int .i64 0, .int .i64 0, .int .i64 0, .int .i64 0, .int .u64 0, .str [], .str [], .sc (.slice none 0 0)]], false⟩)
      (fun i => 20 - i) (fun _ => _) ?_ 1 _ _ (by exact ⟨by omega, by omega, 0, .inl ⟨rfl, fun j a b => by omega⟩, rfl, rfl, rfl, rfl, rfl, by simp [Heap.set]⟩)
    rintro i f H ⟨hi1, hi, k, hk, f2, f4, f5, f6, g7, H1⟩ ih
    by_cases hlt : i < 20
    · have nr := names_row i hlt
      by_cases e : wordR i = w
      · have hk' := lastK_hit (k := k) hi1 e
        simp -implicitDefEqProofs -dsimp +contextual (maxSteps := 9999999) (disch := first | omega | simp only [go_sem] <;> omega | refine ib ?_; kernel_rfl) only [go_sem, seval, ↓reduceIte, f2, f4, f5, f6, H1, hlt, e1, nr, e]
        exact ih (i + 1) _ _ (by exact ⟨by omega, by omega, i, hk', f2, f4, rfl, rfl, g7, H1⟩) (by omega)
      · have hk' := lastK_miss hk e
        simp -implicitDefEqProofs -dsimp +contextual (maxSteps := 9999999) (disch := first | omega | simp only [go_sem] <;> omega | refine ib ?_; kernel_rfl) only [go_sem, seval, ↓reduceIte, f2, f4, f5, f6, H1, hlt, e1, nr, e]
        exact ih (i + 1) _ _ (by exact ⟨by omega, by omega, k, hk', f2, f4, f5, rfl, g7, H1⟩) (by omega)
    · obtain rfl : i = 20 := by omega
      clear ih
      simp only [Int.cast_ofNat_Int] at f6
      rcases lastK_kind hk with ⟨rfl, hkk⟩ | ⟨k1, k2, hkk⟩
      · rw [hkk]
        rw [show (((0 : Nat) : Int)) = 0 from rfl] at f5
        simp -implicitDefEqProofs -dsimp +contextual (maxSteps := 9999999) (disch := first | omega | simp only [go_sem] <;> omega | refine ib ?_; kernel_rfl) only [go_sem, seval, ↓reduceIte, f2, f4, f5, f6, H1]
        simp [quR, stV, stZ]
      · rw [hkk]
        have fr := forms_row k (by omega)
        by_cases n2 : k = 18
        · subst n2
          simp only [Int.cast_ofNat_Int] at f5
          simp only [show formR 18 = [] from rfl] at fr
          by_cases n3 : r.length = 1
          · rw [qu_A w r n3]
            unfold finF
            by_cases hln : r.length = ([109] : List UInt8).length
            · rw [if_pos hln]
              simp -implicitDefEqProofs -dsimp +contextual (maxSteps := 9999999) (disch := first | omega | simp only [go_sem] <;> omega | refine ib ?_; kernel_rfl) only [go_sem, seval, ↓reduceIte, f2, f4, f5, f6, H1, g7, e2, fr, n3, hln]
              obtain ⟨F, hF⟩ : ∃ F : List UInt8, F = [109] := ⟨_, rfl⟩
              have okf : okF F = true := by rw [hF]; rfl
              have hln : r.length = F.length := by rw [hF]; exact hln
              rw [show readAll [109] = readAll F by rw [hF]]
              refine kLoop_rec (fun (a : Nat × St × AVal) f H => a.1 ≤ F.length ∧ BsOk a.2.2 a.2.1.bs ∧ BsC a.2.2 ∧ f 2 = .ptr 102 1 0 0 ∧ f 4 = .slice 1 ([.str w] :: r.map strRow) ∧ f 7 = .ptr 107 1 0 0 ∧ f 8 = .str F ∧ f 9 = .int .i64 (a.1 : Int) ∧
                H 102 = ⟨1, .live, 10, [[.int .i64 0, .int .i64 0, .int .i64 0, .int .i64 0, .int .i64 0, .int .i64 0, .int .u64 0, .str [], .str [], .sc (.slice none 0 0)]], false⟩ ∧
                H 107 = ⟨1, .live, 10, [[.int .i64 a.2.1.kind, .int .i64 a.2.1.node, .int .i64 a.2.1.other, .int .i64 a.2.1.n, .int .i64 a.2.1.fr, .int .i64 a.2.1.un, .int .u64 (a.2.1.id : Int), .str a.2.1.key, .str a.2.1.val, a.2.2]], false⟩)
                (fun a => F.length - a.1) (fun a => some (stV (finR (readAll (F.drop a.1) (r.drop a.1) a.2.1)), [])) ?_ (0, ⟨18, 0, 0, 0, 0, 0, 0, [], [], []⟩, .sc (.slice none 0 0)) _ _ (by exact ⟨Nat.zero_le _, .inr ⟨rfl, rfl⟩, .nil, f2, by first | exact f4 | rfl, rfl, by first | rfl | (rw [hF]; rfl), rfl, by simp [Heap.set, H1], by simp [Heap.set, g7]⟩)
              rintro ⟨i, s', b⟩ f H ⟨hi, hB, hb, f2, f4, f7, f8, f9, H1, H2⟩ ih
              simp only at hi hB hb f9 H2 ih
              by_cases hlt : i < F.length
              · have hlr : i < r.length := by omega
                have wr := word_row w r i hlr
                have ok := okF_mem okf hlt
                have hc := refOne s' r[i] F[i].toNat (hr.2 _ (List.getElem_mem hlr)) ok.1 ok.2
                obtain ⟨o1, o2⟩ := oneR_step F[i].toNat r[i] s'
                have ih' := ih (i + 1, (stepR F[i].toNat r[i] s').1, .slice 1 ((stepR F[i].toNat r[i] s').1.bs.map byteRow))
                simp only at ih'
                clear ih
                rw [List.drop_eq_getElem_cons hlt, readAll_next _ _ _ i hlr]
                by_cases z : (stepR F[i].toNat r[i] s').2 = 0
                · rw [if_pos z]
                  rw [stV, o1, o2 z, z] at hc
                  clear o1 o2 z
                  generalize stepR F[i].toNat r[i] s' = q at *
                  generalize finR (readAll (List.drop (i + 1) F) (List.drop (i + 1) r) q.1) = RZ at ih' ⊢
                  rcases hB with rfl | ⟨rfl, hB⟩
                  · simp -implicitDefEqProofs -dsimp +contextual (maxSteps := 9999999) (disch := first | omega | simp only [go_sem] <;> omega | refine ib ?_; kernel_rfl) only [go_sem, seval, ↓reduceIte, f2, f4, f7, f8, f9, H1, H2, hlt, hc, wr]
                    exact ih' _ _ (by exact ⟨hlt, .inl rfl, .sl _, f2, f4, f7, f8, rfl, H1, rfl⟩) (by omega)
                  · rw [hB] at hc
                    simp only [List.map_nil] at hc
                    simp -implicitDefEqProofs -dsimp +contextual (maxSteps := 9999999) (disch := first | omega | simp only [go_sem] <;> omega | refine ib ?_; kernel_rfl) only [go_sem, seval, ↓reduceIte, f2, f4, f7, f8, f9, H1, H2, hlt, hc, wr]
                    exact ih' _ _ (by exact ⟨hlt, .inl rfl, .sl _, f2, f4, f7, f8, rfl, H1, rfl⟩) (by omega)
                · rw [if_neg z, finR, if_neg z]
                  rw [stV, o1] at hc
                  clear o2
                  generalize oneR F[i].toNat r[i] s' = q1 at *
                  generalize stepR F[i].toNat r[i] s' = q at *
                  generalize finR (readAll (List.drop (i + 1) F) (List.drop (i + 1) r) q.1) = RZ at ih' ⊢
                  rcases hB with rfl | ⟨rfl, hB⟩
                  · simp -implicitDefEqProofs -dsimp +contextual (maxSteps := 9999999) (disch := first | omega | simp only [go_sem] <;> omega | refine ib ?_; kernel_rfl) only [go_sem, seval, ↓reduceIte, f2, f4, f7, f8, f9, H1, H2, hlt, hc, wr, z]
                    simp [stV, stZ]
                  · rw [hB] at hc
                    simp only [List.map_nil] at hc
                    simp -implicitDefEqProofs -dsimp +contextual (maxSteps := 9999999) (disch := first | omega | simp only [go_sem] <;> omega | refine ib ?_; kernel_rfl) only [go_sem, seval, ↓reduceIte, f2, f4, f7, f8, f9, H1, H2, hlt, hc, wr, z]
                    simp [stV, stZ]
              · obtain rfl : i = F.length := by omega
                clear ih
                rw [List.drop_length, readAll, finR, if_pos rfl]
                rcases hB with rfl | ⟨rfl, hB⟩
                · simp -implicitDefEqProofs -dsimp +contextual (maxSteps := 9999999) (disch := first | omega | simp only [go_sem] <;> omega | refine ib ?_; kernel_rfl) only [go_sem, seval, ↓reduceIte, f2, f4, f7, f8, f9, H1, H2]
                  simp [stV]
                · simp -implicitDefEqProofs -dsimp +contextual (maxSteps := 9999999) (disch := first | omega | simp only [go_sem] <;> omega | refine ib ?_; kernel_rfl) only [go_sem, seval, ↓reduceIte, f2, f4, f7, f8, f9, H1, H2]
                  simp [stV, hB]
            · exact absurd n3 hln
          · rw [qu_B w r n3]
            unfold finF
            by_cases hln : r.length = ([] : List UInt8).length
            · rw [if_pos hln]
              simp -implicitDefEqProofs -dsimp +contextual (maxSteps := 9999999) (disch := first | omega | simp only [go_sem] <;> omega | refine ib ?_; kernel_rfl) only [go_sem, seval, ↓reduceIte, f2, f4, f5, f6, H1, g7, e2, fr, n3, hln]
              obtain ⟨F, hF⟩ : ∃ F : List UInt8, F = ([] : List UInt8) := ⟨_, rfl⟩
              have okf : okF F = true := by rw [hF]; rfl
              have hln : r.length = F.length := by rw [hF]; exact hln
              rw [show readAll ([] : List UInt8) = readAll F by rw [hF]]
              refine kLoop_rec (fun (a : Nat × St × AVal) f H => a.1 ≤ F.length ∧ BsOk a.2.2 a.2.1.bs ∧ BsC a.2.2 ∧ f 2 = .ptr 102 1 0 0 ∧ f 4 = .slice 1 ([.str w] :: r.map strRow) ∧ f 7 = .ptr 107 1 0 0 ∧ f 8 = .str F ∧ f 9 = .int .i64 (a.1 : Int) ∧
                H 102 = ⟨1, .live, 10, [[.int .i64 0, .int .i64 0, .int .i64 0, .int .i64 0, .int .i64 0, .int .i64 0, .int .u64 0, .str [], .str [], .sc (.slice none 0 0)]], false⟩ ∧
                H 107 = ⟨1, .live, 10, [[.int .i64 a.2.1.kind, .int .i64 a.2.1.node, .int .i64 a.2.1.other, .int .i64 a.2.1.n, .int .i64 a.2.1.fr, .int .i64 a.2.1.un, .int .u64 (a.2.1.id : Int), .str a.2.1.key, .str a.2.1.val, a.2.2]], false⟩)
                (fun a => F.length - a.1) (fun a => some (stV (finR (readAll (F.drop a.1) (r.drop a.1) a.2.1)), [])) ?_ (0, ⟨18, 0, 0, 0, 0, 0, 0, [], [], []⟩, .sc (.slice none 0 0)) _ _ (by exact ⟨Nat.zero_le _, .inr ⟨rfl, rfl⟩, .nil, f2, by first | exact f4 | rfl, rfl, by first | rfl | (rw [hF]; rfl), rfl, by simp [Heap.set, H1], by simp [Heap.set, g7]⟩)
              rintro ⟨i, s', b⟩ f H ⟨hi, hB, hb, f2, f4, f7, f8, f9, H1, H2⟩ ih
              simp only at hi hB hb f9 H2 ih
              by_cases hlt : i < F.length
              · have hlr : i < r.length := by omega
                have wr := word_row w r i hlr
                have ok := okF_mem okf hlt
                have hc := refOne s' r[i] F[i].toNat (hr.2 _ (List.getElem_mem hlr)) ok.1 ok.2
                obtain ⟨o1, o2⟩ := oneR_step F[i].toNat r[i] s'
                have ih' := ih (i + 1, (stepR F[i].toNat r[i] s').1, .slice 1 ((stepR F[i].toNat r[i] s').1.bs.map byteRow))
                simp only at ih'
                clear ih
                rw [List.drop_eq_getElem_cons hlt, readAll_next _ _ _ i hlr]
                by_cases z : (stepR F[i].toNat r[i] s').2 = 0
                · rw [if_pos z]
                  rw [stV, o1, o2 z, z] at hc
                  clear o1 o2 z
                  generalize stepR F[i].toNat r[i] s' = q at *
                  generalize finR (readAll (List.drop (i + 1) F) (List.drop (i + 1) r) q.1) = RZ at ih' ⊢
                  rcases hB with rfl | ⟨rfl, hB⟩
                  · simp -implicitDefEqProofs -dsimp +contextual (maxSteps := 9999999) (disch := first | omega | simp only [go_sem] <;> omega | refine ib ?_; kernel_rfl) only [go_sem, seval, ↓reduceIte, f2, f4, f7, f8, f9, H1, H2, hlt, hc, wr]
                    exact ih' _ _ (by exact ⟨hlt, .inl rfl, .sl _, f2, f4, f7, f8, rfl, H1, rfl⟩) (by omega)
                  · rw [hB] at hc
                    simp only [List.map_nil] at hc
                    simp -implicitDefEqProofs -dsimp +contextual (maxSteps := 9999999) (disch := first | omega | simp only [go_sem] <;> omega | refine ib ?_; kernel_rfl) only [go_sem, seval, ↓reduceIte, f2, f4, f7, f8, f9, H1, H2, hlt, hc, wr]
                    exact ih' _ _ (by exact ⟨hlt, .inl rfl, .sl _, f2, f4, f7, f8, rfl, H1, rfl⟩) (by omega)
                · rw [if_neg z, finR, if_neg z]
                  rw [stV, o1] at hc
                  clear o2
                  generalize oneR F[i].toNat r[i] s' = q1 at *
                  generalize stepR F[i].toNat r[i] s' = q at *
                  generalize finR (readAll (List.drop (i + 1) F) (List.drop (i + 1) r) q.1) = RZ at ih' ⊢
                  rcases hB with rfl | ⟨rfl, hB⟩
                  · simp -implicitDefEqProofs -dsimp +contextual (maxSteps := 9999999) (disch := first | omega | simp only [go_sem] <;> omega | refine ib ?_; kernel_rfl) only [go_sem, seval, ↓reduceIte, f2, f4, f7, f8, f9, H1, H2, hlt, hc, wr, z]
                    simp [stV, stZ]
                  · rw [hB] at hc
                    simp only [List.map_nil] at hc
                    simp -implicitDefEqProofs -dsimp +contextual (maxSteps := 9999999) (disch := first | omega | simp only [go_sem] <;> omega | refine ib ?_; kernel_rfl) only [go_sem, seval, ↓reduceIte, f2, f4, f7, f8, f9, H1, H2, hlt, hc, wr, z]
                    simp [stV, stZ]
              · obtain rfl : i = F.length := by omega
                clear ih
                rw [List.drop_length, readAll, finR, if_pos rfl]
                rcases hB with rfl | ⟨rfl, hB⟩
                · simp -implicitDefEqProofs -dsimp +contextual (maxSteps := 9999999) (disch := first | omega | simp only [go_sem] <;> omega | refine ib ?_; kernel_rfl) only [go_sem, seval, ↓reduceIte, f2, f4, f7, f8, f9, H1, H2]
                  simp [stV]
                · simp -implicitDefEqProofs -dsimp +contextual (maxSteps := 9999999) (disch := first | omega | simp only [go_sem] <;> omega | refine ib ?_; kernel_rfl) only [go_sem, seval, ↓reduceIte, f2, f4, f7, f8, f9, H1, H2]
                  simp [stV, hB]
            · rw [if_neg hln]
              simp -implicitDefEqProofs -dsimp +contextual (maxSteps := 9999999) (disch := first | omega | simp only [go_sem] <;> omega | refine ib ?_; kernel_rfl) only [go_sem, seval, ↓reduceIte, f2, f4, f5, f6, H1, e2, fr, n3, hln]
              try simp [stV, stZ]
        by_cases n1 : k = 1
        · subst n1
          simp only [Int.cast_ofNat_Int] at f5
          simp only [show formR 1 = [110, 109] from rfl] at fr
          by_cases n3 : r.length = 3
          · match r, n3 with
            | [x, y, z], _ =>
              by_cases n4 : z = [97, 108, 111, 110, 101]
              · subst n4
                rw [qu_C w x y]
                unfold finF
                simp only [List.map_cons, List.map_nil, strRow_eq] at f4
                by_cases hln : [x, y].length = ([110, 109] : List UInt8).length
                · rw [if_pos hln]
                  simp -implicitDefEqProofs -dsimp +contextual (maxSteps := 9999999) (disch := first | omega | simp only [go_sem] <;> omega | refine ib ?_; kernel_rfl) only [go_sem, seval, ↓reduceIte, f2, f4, f5, f6, H1, g7, e2, fr, n2, hln]
                  obtain ⟨F, hF⟩ : ∃ F : List UInt8, F = [110, 109] := ⟨_, rfl⟩
                  have okf : okF F = true := by rw [hF]; rfl
                  have hln : [x, y].length = F.length := by rw [hF]; exact hln
                  rw [show readAll [110, 109] = readAll F by rw [hF]]
                  obtain ⟨R, hR⟩ : ∃ R : List (List UInt8), R = [x, y] := ⟨_, rfl⟩
                  have hrR : okW R := by rw [hR]; exact ⟨by simp, fun p hp => hr.2 p (List.mem_of_mem_take (i := 2) hp)⟩
                  have hrL := hrR.1
                  rw [show readAll F [x, y] = readAll F R by rw [hR]]
                  have hln : R.length = F.length := by rw [hR, hF]; rfl
                  refine kLoop_rec (fun (a : Nat × St × AVal) f H => a.1 ≤ F.length ∧ BsOk a.2.2 a.2.1.bs ∧ BsC a.2.2 ∧ f 2 = .ptr 102 1 0 0 ∧ f 4 = .slice 1 ([.str w] :: R.map strRow) ∧ f 7 = .ptr 107 1 0 0 ∧ f 8 = .str F ∧ f 9 = .int .i64 (a.1 : Int) ∧
                    H 102 = ⟨1, .live, 10, [[.int .i64 0, .int .i64 0, .int .i64 0, .int .i64 0, .int .i64 0, .int .i64 0, .int .u64 0, .str [], .str [], .sc (.slice none 0 0)]], false⟩ ∧
                    H 107 = ⟨1, .live, 10, [[.int .i64 a.2.1.kind, .int .i64 a.2.1.node, .int .i64 a.2.1.other, .int .i64 a.2.1.n, .int .i64 a.2.1.fr, .int .i64 a.2.1.un, .int .u64 (a.2.1.id : Int), .str a.2.1.key, .str a.2.1.val, a.2.2]], false⟩)
                    (fun a => F.length - a.1) (fun a => some (stV (finR (readAll (F.drop a.1) (R.drop a.1) a.2.1)), [])) ?_ (0, ⟨1, 0, 0, 1, 0, 0, 0, [], [], []⟩, .sc (.slice none 0 0)) _ _ (by exact ⟨Nat.zero_le _, .inr ⟨rfl, rfl⟩, .nil, f2, by first | exact f4 | rfl | (rw [hR]; rfl), rfl, by first | rfl | (rw [hF]; rfl), rfl, by simp [Heap.set, H1], by simp [Heap.set, g7]⟩)
                  rintro ⟨i, s', b⟩ f H ⟨hi, hB, hb, f2, f4, f7, f8, f9, H1, H2⟩ ih
                  simp only at hi hB hb f9 H2 ih
                  by_cases hlt : i < F.length
                  · have hlr : i < R.length := by omega
                    have wr := word_row w R i hlr
                    have ok := okF_mem okf hlt
                    have hc := refOne s' R[i] F[i].toNat (hrR.2 _ (List.getElem_mem hlr)) ok.1 ok.2
                    obtain ⟨o1, o2⟩ := oneR_step F[i].toNat R[i] s'
                    have ih' := ih (i + 1, (stepR F[i].toNat R[i] s').1, .slice 1 ((stepR F[i].toNat R[i] s').1.bs.map byteRow))
                    simp only at ih'
                    clear ih
                    rw [List.drop_eq_getElem_cons hlt, readAll_next _ _ _ i hlr]
                    by_cases z : (stepR F[i].toNat R[i] s').2 = 0
                    · rw [if_pos z]
                      rw [stV, o1, o2 z, z] at hc
                      clear o1 o2 z
                      generalize stepR F[i].toNat R[i] s' = q at *
                      generalize finR (readAll (List.drop (i + 1) F) (List.drop (i + 1) R) q.1) = RZ at ih' ⊢
                      rcases hB with rfl | ⟨rfl, hB⟩
                      · simp -implicitDefEqProofs -dsimp +contextual (maxSteps := 9999999) (disch := first | omega | simp only [go_sem] <;> omega | refine ib ?_; kernel_rfl) only [go_sem, seval, ↓reduceIte, f2, f4, f7, f8, f9, H1, H2, hlt, hc, wr]
                        exact ih' _ _ (by exact ⟨hlt, .inl rfl, .sl _, f2, f4, f7, f8, rfl, H1, rfl⟩) (by omega)
                      · rw [hB] at hc
                        simp only [List.map_nil] at hc
                        simp -implicitDefEqProofs -dsimp +contextual (maxSteps := 9999999) (disch := first | omega | simp only [go_sem] <;> omega | refine ib ?_; kernel_rfl) only [go_sem, seval, ↓reduceIte, f2, f4, f7, f8, f9, H1, H2, hlt, hc, wr]
                        exact ih' _ _ (by exact ⟨hlt, .inl rfl, .sl _, f2, f4, f7, f8, rfl, H1, rfl⟩) (by omega)
                    · rw [if_neg z, finR, if_neg z]
                      rw [stV, o1] at hc
                      clear o2
                      generalize oneR F[i].toNat R[i] s' = q1 at *
                      generalize stepR F[i].toNat R[i] s' = q at *
                      generalize finR (readAll (List.drop (i + 1) F) (List.drop (i + 1) R) q.1) = RZ at ih' ⊢
                      rcases hB with rfl | ⟨rfl, hB⟩
                      · simp -implicitDefEqProofs -dsimp +contextual (maxSteps := 9999999) (disch := first | omega | simp only [go_sem] <;> omega | refine ib ?_; kernel_rfl) only [go_sem, seval, ↓reduceIte, f2, f4, f7, f8, f9, H1, H2, hlt, hc, wr, z]
                        simp [stV, stZ]
                      · rw [hB] at hc
                        simp only [List.map_nil] at hc
                        simp -implicitDefEqProofs -dsimp +contextual (maxSteps := 9999999) (disch := first | omega | simp only [go_sem] <;> omega | refine ib ?_; kernel_rfl) only [go_sem, seval, ↓reduceIte, f2, f4, f7, f8, f9, H1, H2, hlt, hc, wr, z]
                        simp [stV, stZ]
                  · obtain rfl : i = F.length := by omega
                    clear ih
                    rw [List.drop_length, readAll, finR, if_pos rfl]
                    rcases hB with rfl | ⟨rfl, hB⟩
                    · simp -implicitDefEqProofs -dsimp +contextual (maxSteps := 9999999) (disch := first | omega | simp only [go_sem] <;> omega | refine ib ?_; kernel_rfl) only [go_sem, seval, ↓reduceIte, f2, f4, f7, f8, f9, H1, H2]
                      simp [stV]
                    · simp -implicitDefEqProofs -dsimp +contextual (maxSteps := 9999999) (disch := first | omega | simp only [go_sem] <;> omega | refine ib ?_; kernel_rfl) only [go_sem, seval, ↓reduceIte, f2, f4, f7, f8, f9, H1, H2]
                      simp [stV, hB]
                · exact absurd rfl hln
              · rw [qu_D w [x, y, z] (fun h => n4 (by simpa using h.2)), finF, if_neg (by simp)]
                simp only [List.map_cons, List.map_nil, strRow_eq] at f4
                simp -implicitDefEqProofs -dsimp +contextual (maxSteps := 9999999) (disch := first | omega | simp only [go_sem] <;> omega | refine ib ?_; kernel_rfl) only [go_sem, seval, ↓reduceIte, f2, f4, f5, f6, H1, g7, e2, fr, n4]
                try simp [stV, stZ]
          · rw [qu_D w r (fun h => n3 h.1)]
            unfold finF
            by_cases hln : r.length = ([110, 109] : List UInt8).length
            · rw [if_pos hln]
              simp -implicitDefEqProofs -dsimp +contextual (maxSteps := 9999999) (disch := first | omega | simp only [go_sem] <;> omega | refine ib ?_; kernel_rfl) only [go_sem, seval, ↓reduceIte, f2, f4, f5, f6, H1, g7, e2, fr, n3, hln]
              obtain ⟨F, hF⟩ : ∃ F : List UInt8, F = [110, 109] := ⟨_, rfl⟩
              have okf : okF F = true := by rw [hF]; rfl
              have hln : r.length = F.length := by rw [hF]; exact hln
              rw [show readAll [110, 109] = readAll F by rw [hF]]
              refine kLoop_rec (fun (a : Nat × St × AVal) f H => a.1 ≤ F.length ∧ BsOk a.2.2 a.2.1.bs ∧ BsC a.2.2 ∧ f 2 = .ptr 102 1 0 0 ∧ f 4 = .slice 1 ([.str w] :: r.map strRow) ∧ f 7 = .ptr 107 1 0 0 ∧ f 8 = .str F ∧ f 9 = .int .i64 (a.1 : Int) ∧
                H 102 = ⟨1, .live, 10, [[.int .i64 0, .int .i64 0, .int .i64 0, .int .i64 0, .int .i64 0, .int .i64 0, .int .u64 0, .str [], .str [], .sc (.slice none 0 0)]], false⟩ ∧
                H 107 = ⟨1, .live, 10, [[.int .i64 a.2.1.kind, .int .i64 a.2.1.node, .int .i64 a.2.1.other, .int .i64 a.2.1.n, .int .i64 a.2.1.fr, .int .i64 a.2.1.un, .int .u64 (a.2.1.id : Int), .str a.2.1.key, .str a.2.1.val, a.2.2]], false⟩)
                (fun a => F.length - a.1) (fun a => some (stV (finR (readAll (F.drop a.1) (r.drop a.1) a.2.1)), [])) ?_ (0, ⟨1, 0, 0, 0, 0, 0, 0, [], [], []⟩, .sc (.slice none 0 0)) _ _ (by exact ⟨Nat.zero_le _, .inr ⟨rfl, rfl⟩, .nil, f2, by first | exact f4 | rfl, rfl, by first | rfl | (rw [hF]; rfl), rfl, by simp [Heap.set, H1], by simp [Heap.set, g7]⟩)
              rintro ⟨i, s', b⟩ f H ⟨hi, hB, hb, f2, f4, f7, f8, f9, H1, H2⟩ ih
              simp only at hi hB hb f9 H2 ih
              by_cases hlt : i < F.length
              · have hlr : i < r.length := by omega
                have wr := word_row w r i hlr
                have ok := okF_mem okf hlt
                have hc := refOne s' r[i] F[i].toNat (hr.2 _ (List.getElem_mem hlr)) ok.1 ok.2
                obtain ⟨o1, o2⟩ := oneR_step F[i].toNat r[i] s'
                have ih' := ih (i + 1, (stepR F[i].toNat r[i] s').1, .slice 1 ((stepR F[i].toNat r[i] s').1.bs.map byteRow))
                simp only at ih'
                clear ih
                rw [List.drop_eq_getElem_cons hlt, readAll_next _ _ _ i hlr]
                by_cases z : (stepR F[i].toNat r[i] s').2 = 0
                · rw [if_pos z]
                  rw [stV, o1, o2 z, z] at hc
                  clear o1 o2 z
                  generalize stepR F[i].toNat r[i] s' = q at *
                  generalize finR (readAll (List.drop (i + 1) F) (List.drop (i + 1) r) q.1) = RZ at ih' ⊢
                  rcases hB with rfl | ⟨rfl, hB⟩
                  · simp -implicitDefEqProofs -dsimp +contextual (maxSteps := 9999999) (disch := first | omega | simp only [go_sem] <;> omega | refine ib ?_; kernel_rfl) only [go_sem, seval, ↓reduceIte, f2, f4, f7, f8, f9, H1, H2, hlt, hc, wr]
                    exact ih' _ _ (by exact ⟨hlt, .inl rfl, .sl _, f2, f4, f7, f8, rfl, H1, rfl⟩) (by omega)
                  · rw [hB] at hc
                    simp only [List.map_nil] at hc
                    simp -implicitDefEqProofs -dsimp +contextual (maxSteps := 9999999) (disch := first | omega | simp only [go_sem] <;> omega | refine ib ?_; kernel_rfl) only [go_sem, seval, ↓reduceIte, f2, f4, f7, f8, f9, H1, H2, hlt, hc, wr]
                    exact ih' _ _ (by exact ⟨hlt, .inl rfl, .sl _, f2, f4, f7, f8, rfl, H1, rfl⟩) (by omega)
                · rw [if_neg z, finR, if_neg z]
                  rw [stV, o1] at hc
                  clear o2
                  generalize oneR F[i].toNat r[i] s' = q1 at *
                  generalize stepR F[i].toNat r[i] s' = q at *
                  generalize finR (readAll (List.drop (i + 1) F) (List.drop (i + 1) r) q.1) = RZ at ih' ⊢
                  rcases hB with rfl | ⟨rfl, hB⟩
                  · simp -implicitDefEqProofs -dsimp +contextual (maxSteps := 9999999) (disch := first | omega | simp only [go_sem] <;> omega | refine ib ?_; kernel_rfl) only [go_sem, seval, ↓reduceIte, f2, f4, f7, f8, f9, H1, H2, hlt, hc, wr, z]
                    simp [stV, stZ]
                  · rw [hB] at hc
                    simp only [List.map_nil] at hc
                    simp -implicitDefEqProofs -dsimp +contextual (maxSteps := 9999999) (disch := first | omega | simp only [go_sem] <;> omega | refine ib ?_; kernel_rfl) only [go_sem, seval, ↓reduceIte, f2, f4, f7, f8, f9, H1, H2, hlt, hc, wr, z]
                    simp [stV, stZ]
              · obtain rfl : i = F.length := by omega
                clear ih
                rw [List.drop_length, readAll, finR, if_pos rfl]
                rcases hB with rfl | ⟨rfl, hB⟩
                · simp -implicitDefEqProofs -dsimp +contextual (maxSteps := 9999999) (disch := first | omega | simp only [go_sem] <;> omega | refine ib ?_; kernel_rfl) only [go_sem, seval, ↓reduceIte, f2, f4, f7, f8, f9, H1, H2]
                  simp [stV]
                · simp -implicitDefEqProofs -dsimp +contextual (maxSteps := 9999999) (disch := first | omega | simp only [go_sem] <;> omega | refine ib ?_; kernel_rfl) only [go_sem, seval, ↓reduceIte, f2, f4, f7, f8, f9, H1, H2]
                  simp [stV, hB]
            · rw [if_neg hln]
              simp -implicitDefEqProofs -dsimp +contextual (maxSteps := 9999999) (disch := first | omega | simp only [go_sem] <;> omega | refine ib ?_; kernel_rfl) only [go_sem, seval, ↓reduceIte, f2, f4, f5, f6, H1, e2, fr, n3, hln]
              try simp [stV, stZ]
        · rw [qu_E k w r k1 k2 n1 n2]
          have okf := okF_form k (by omega)
          generalize formR k = F at *
          unfold finF
          by_cases hln : r.length = F.length
          · rw [if_pos hln]
            simp -implicitDefEqProofs -dsimp +contextual (maxSteps := 9999999) (disch := first | omega | simp only [go_sem] <;> omega | refine ib ?_; kernel_rfl) only [go_sem, seval, ↓reduceIte, f2, f4, f5, f6, H1, g7, e2, fr, n1, n2, hln]
            refine kLoop_rec (fun (a : Nat × St × AVal) f H => a.1 ≤ F.length ∧ BsOk a.2.2 a.2.1.bs ∧ BsC a.2.2 ∧ f 2 = .ptr 102 1 0 0 ∧ f 4 = .slice 1 ([.str w] :: r.map strRow) ∧ f 7 = .ptr 107 1 0 0 ∧ f 8 = .str F ∧ f 9 = .int .i64 (a.1 : Int) ∧
              H 102 = ⟨1, .live, 10, [[.int .i64 0, .int .i64 0, .int .i64 0, .int .i64 0, .int .i64 0, .int .i64 0, .int .u64 0, .str [], .str [], .sc (.slice none 0 0)]], false⟩ ∧
              H 107 = ⟨1, .live, 10, [[.int .i64 a.2.1.kind, .int .i64 a.2.1.node, .int .i64 a.2.1.other, .int .i64 a.2.1.n, .int .i64 a.2.1.fr, .int .i64 a.2.1.un, .int .u64 (a.2.1.id : Int), .str a.2.1.key, .str a.2.1.val, a.2.2]], false⟩)
              (fun a => F.length - a.1) (fun a => some (stV (finR (readAll (F.drop a.1) (r.drop a.1) a.2.1)), [])) ?_ (0, ⟨(k : Int), 0, 0, 0, 0, 0, 0, [], [], []⟩, .sc (.slice none 0 0)) _ _ (by exact ⟨Nat.zero_le _, .inr ⟨rfl, rfl⟩, .nil, f2, by first | exact f4 | rfl, rfl, by first | rfl | (rw [hF]; rfl), rfl, by simp [Heap.set, H1], by simp [Heap.set, g7]⟩)
            rintro ⟨i, s', b⟩ f H ⟨hi, hB, hb, f2, f4, f7, f8, f9, H1, H2⟩ ih
            simp only at hi hB hb f9 H2 ih
            by_cases hlt : i < F.length
            · have hlr : i < r.length := by omega
              have wr := word_row w r i hlr
              have ok := okF_mem okf hlt
              have hc := refOne s' r[i] F[i].toNat (hr.2 _ (List.getElem_mem hlr)) ok.1 ok.2
              obtain ⟨o1, o2⟩ := oneR_step F[i].toNat r[i] s'
              have ih' := ih (i + 1, (stepR F[i].toNat r[i] s').1, .slice 1 ((stepR F[i].toNat r[i] s').1.bs.map byteRow))
              simp only at ih'
              clear ih
              rw [List.drop_eq_getElem_cons hlt, readAll_next _ _ _ i hlr]
              by_cases z : (stepR F[i].toNat r[i] s').2 = 0
              · rw [if_pos z]
                rw [stV, o1, o2 z, z] at hc
                clear o1 o2 z
                generalize stepR F[i].toNat r[i] s' = q at *
                generalize finR (readAll (List.drop (i + 1) F) (List.drop (i + 1) r) q.1) = RZ at ih' ⊢
                rcases hB with rfl | ⟨rfl, hB⟩
                · simp -implicitDefEqProofs -dsimp +contextual (maxSteps := 9999999) (disch := first | omega | simp only [go_sem] <;> omega | refine ib ?_; kernel_rfl) only [go_sem, seval, ↓reduceIte, f2, f4, f7, f8, f9, H1, H2, hlt, hc, wr]
                  exact ih' _ _ (by exact ⟨hlt, .inl rfl, .sl _, f2, f4, f7, f8, rfl, H1, rfl⟩) (by omega)
                · rw [hB] at hc
                  simp only [List.map_nil] at hc
                  simp -implicitDefEqProofs -dsimp +contextual (maxSteps := 9999999) (disch := first | omega | simp only [go_sem] <;> omega | refine ib ?_; kernel_rfl) only [go_sem, seval, ↓reduceIte, f2, f4, f7, f8, f9, H1, H2, hlt, hc, wr]
                  exact ih' _ _ (by exact ⟨hlt, .inl rfl, .sl _, f2, f4, f7, f8, rfl, H1, rfl⟩) (by omega)
              · rw [if_neg z, finR, if_neg z]
                rw [stV, o1] at hc
                clear o2
                generalize oneR F[i].toNat r[i] s' = q1 at *
                generalize stepR F[i].toNat r[i] s' = q at *
                generalize finR (readAll (List.drop (i + 1) F) (List.drop (i + 1) r) q.1) = RZ at ih' ⊢
                rcases hB with rfl | ⟨rfl, hB⟩
                · simp -implicitDefEqProofs -dsimp +contextual (maxSteps := 9999999) (disch := first | omega | simp only [go_sem] <;> omega | refine ib ?_; kernel_rfl) only [go_sem, seval, ↓reduceIte, f2, f4, f7, f8, f9, H1, H2, hlt, hc, wr, z]
                  simp [stV, stZ]
                · rw [hB] at hc
                  simp only [List.map_nil] at hc
                  simp -implicitDefEqProofs -dsimp +contextual (maxSteps := 9999999) (disch := first | omega | simp only [go_sem] <;> omega | refine ib ?_; kernel_rfl) only [go_sem, seval, ↓reduceIte, f2, f4, f7, f8, f9, H1, H2, hlt, hc, wr, z]
                  simp [stV, stZ]
            · obtain rfl : i = F.length := by omega
              clear ih
              rw [List.drop_length, readAll, finR, if_pos rfl]
              rcases hB with rfl | ⟨rfl, hB⟩
              · simp -implicitDefEqProofs -dsimp +contextual (maxSteps := 9999999) (disch := first | omega | simp only [go_sem] <;> omega | refine ib ?_; kernel_rfl) only [go_sem, seval, ↓reduceIte, f2, f4, f7, f8, f9, H1, H2]
                simp [stV]
              · simp -implicitDefEqProofs -dsimp +contextual (maxSteps := 9999999) (disch := first | omega | simp only [go_sem] <;> omega | refine ib ?_; kernel_rfl) only [go_sem, seval, ↓reduceIte, f2, f4, f7, f8, f9, H1, H2]
                simp [stV, hB]
          · rw [if_neg hln]
            simp -implicitDefEqProofs -dsimp +contextual (maxSteps := 9999999) (disch := first | omega | simp only [go_sem] <;> omega | refine ib ?_; kernel_rfl) only [go_sem, seval, ↓reduceIte, f2, f4, f5, f6, H1, e2, fr, n1, n2, hln]
            try simp [stV, stZ]
def sayR (s : St) (c : Nat) : List UInt8 :=
  if c = 110 then Lib.itoa s.node else if c = 111 then Lib.itoa s.other else if c = 112 then Lib.itoa s.n else if c = 102 then Lib.itoa s.fr else if c = 97 then Lib.itoa s.fr else if c = 117 then Lib.itoa s.un else if c = 98 then Lib.itoa s.un
  else if c = 105 then hexR s.id else if c = 109 then s.key else if c = 107 then s.key else if c = 115 then s.val else if c = 118 then bytesR s.val else bytesR s.bs
theorem ite_sm {p : Prop} [Decidable p] {a b : List UInt8} (ha : a.length ≤ 200001) (hb : b.length ≤ 200001) : (if p then a else b).length ≤ 200001 := by split <;> assumption
theorem sayR_sm (s : St) (h : s.ok) (c : Nat) : (sayR s c).length ≤ 200001 := by
  have n1 := itoa_sm s.node h.a1 h.a2; have n2 := itoa_sm s.other h.b1 h.b2; have n3 := itoa_sm s.n h.c1 h.c2; have n4 := itoa_sm s.fr h.d1 h.d2; have n5 := itoa_sm s.un h.e1 h.e2
  have n6 := hexR_sm s.id; have n7 := bytesR_sm s.val h.g2; have n8 := bytesR_sm s.bs h.g3
  have g1 := h.g1; have g2 := h.g2
  have g3 : s.key.length ≤ 200001 := by omega
  have g4 : s.val.length ≤ 200001 := by omega
  unfold sayR
  repeat' (first | assumption | refine ite_sm ?_ ?_)
theorem refSay (s : St) (h : s.ok) (c : Nat) (hc : okL c) (h49 : c ≠ 49) : fn C 28 [] [.agg [.int .i64 s.kind, .int .i64 s.node, .int .i64 s.other, .int .i64 s.n, .int .i64 s.fr, .int .i64 s.un, .int .u64 (s.id : Int), .str s.key, .str s.val, .slice 1 (s.bs.map byteRow)], .int .u8 (c : Int)] = some (.str (sayR s c), []) := by
  have := h.f2; have := h.a1; have := h.a2; have := h.b1; have := h.b2; have := h.c1; have := h.c2; have := h.d1; have := h.d2; have := h.e1; have := h.e2; have := h.g1; have := h.g2; have := h.g3
  have hc' : c = 110 ∨ c = 111 ∨ c = 112 ∨ c = 102 ∨ c = 117 ∨ c = 97 ∨ c = 98 ∨ c = 105 ∨ c = 109 ∨ c = 107 ∨ c = 115 ∨ c = 118 ∨ c = 114 := by unfold okL at hc; omega
  rcases hc' with rfl | rfl | rfl | rfl | rfl | rfl | rfl | rfl | rfl | rfl | rfl | rfl | rfl
  · rw [show sayR s 110 = Lib.itoa s.node from rfl]
    rw [fn_text Tryz.func28 rfl rfl Tryz.results28 fq28.1 rfl rfl (by kernel_rfl)]
    simp -implicitDefEqProofs -dsimp +contextual (maxSteps := 9999999) (disch := first | omega | simp only [go_sem] <;> omega | refine ib ?_; kernel_rfl) only [go_sem, seval, ↓reduceIte]
  · rw [show sayR s 111 = Lib.itoa s.other from rfl]
    rw [fn_text Tryz.func28 rfl rfl Tryz.results28 fq28.1 rfl rfl (by kernel_rfl)]
    simp -implicitDefEqProofs -dsimp +contextual (maxSteps := 9999999) (disch := first | omega | simp only [go_sem] <;> omega | refine ib ?_; kernel_rfl) only [go_sem, seval, ↓reduceIte]
  · rw [show sayR s 112 = Lib.itoa s.n from rfl]
    rw [fn_text Tryz.func28 rfl rfl Tryz.results28 fq28.1 rfl rfl (by kernel_rfl)]
    simp -implicitDefEqProofs -dsimp +contextual (maxSteps := 9999999) (disch := first | omega | simp only [go_sem] <;> omega | refine ib ?_; kernel_rfl) only [go_sem, seval, ↓reduceIte]
  · rw [show sayR s 102 = Lib.itoa s.fr from rfl]
    rw [fn_text Tryz.func28 rfl rfl Tryz.results28 fq28.1 rfl rfl (by kernel_rfl)]
    simp -implicitDefEqProofs -dsimp +contextual (maxSteps := 9999999) (disch := first | omega | simp only [go_sem] <;> omega | refine ib ?_; kernel_rfl) only [go_sem, seval, ↓reduceIte]
  · rw [show sayR s 117 = Lib.itoa s.un from rfl]
    rw [fn_text Tryz.func28 rfl rfl Tryz.results28 fq28.1 rfl rfl (by kernel_rfl)]
    simp -implicitDefEqProofs -dsimp +contextual (maxSteps := 9999999) (disch := first | omega | simp only [go_sem] <;> omega | refine ib ?_; kernel_rfl) only [go_sem, seval, ↓reduceIte]
  · rw [show sayR s 97 = Lib.itoa s.fr from rfl]
    rw [fn_text Tryz.func28 rfl rfl Tryz.results28 fq28.1 rfl rfl (by kernel_rfl)]
    simp -implicitDefEqProofs -dsimp +contextual (maxSteps := 9999999) (disch := first | omega | simp only [go_sem] <;> omega | refine ib ?_; kernel_rfl) only [go_sem, seval, ↓reduceIte]
  · rw [show sayR s 98 = Lib.itoa s.un from rfl]
    rw [fn_text Tryz.func28 rfl rfl Tryz.results28 fq28.1 rfl rfl (by kernel_rfl)]
    simp -implicitDefEqProofs -dsimp +contextual (maxSteps := 9999999) (disch := first | omega | simp only [go_sem] <;> omega | refine ib ?_; kernel_rfl) only [go_sem, seval, ↓reduceIte]
  · rw [show sayR s 105 = hexR s.id from rfl]
    rw [fn_text Tryz.func28 rfl rfl Tryz.results28 fq28.1 rfl rfl (by kernel_rfl)]
    simp -implicitDefEqProofs -dsimp +contextual (maxSteps := 9999999) (disch := first | omega | simp only [go_sem] <;> omega | refine ib ?_; kernel_rfl) only [go_sem, seval, ↓reduceIte]
  · rw [show sayR s 109 = s.key from rfl]
    rw [fn_text Tryz.func28 rfl rfl Tryz.results28 fq28.1 rfl rfl (by kernel_rfl)]
    simp -implicitDefEqProofs -dsimp +contextual (maxSteps := 9999999) (disch := first | omega | simp only [go_sem] <;> omega | refine ib ?_; kernel_rfl) only [go_sem, seval, ↓reduceIte]
  · rw [show sayR s 107 = s.key from rfl]
    rw [fn_text Tryz.func28 rfl rfl Tryz.results28 fq28.1 rfl rfl (by kernel_rfl)]
    simp -implicitDefEqProofs -dsimp +contextual (maxSteps := 9999999) (disch := first | omega | simp only [go_sem] <;> omega | refine ib ?_; kernel_rfl) only [go_sem, seval, ↓reduceIte]
  · rw [show sayR s 115 = s.val from rfl]
    rw [fn_text Tryz.func28 rfl rfl Tryz.results28 fq28.1 rfl rfl (by kernel_rfl)]
    simp -implicitDefEqProofs -dsimp +contextual (maxSteps := 9999999) (disch := first | omega | simp only [go_sem] <;> omega | refine ib ?_; kernel_rfl) only [go_sem, seval, ↓reduceIte]
  · rw [show sayR s 118 = bytesR s.val from rfl]
    rw [fn_text Tryz.func28 rfl rfl Tryz.results28 fq28.1 rfl rfl (by kernel_rfl)]
    simp -implicitDefEqProofs -dsimp +contextual (maxSteps := 9999999) (disch := first | omega | simp only [go_sem] <;> omega | refine ib ?_; kernel_rfl) only [go_sem, seval, ↓reduceIte]
  · rw [show sayR s 114 = bytesR s.bs from rfl]
    rw [fn_text Tryz.func28 rfl rfl Tryz.results28 fq28.1 rfl rfl (by kernel_rfl)]
    simp -implicitDefEqProofs -dsimp +contextual (maxSteps := 9999999) (disch := first | omega | simp only [go_sem] <;> omega | refine ib ?_; kernel_rfl) only [go_sem, seval, ↓reduceIte]
def accR (s : St) (w F : List UInt8) : List UInt8 := w ++ F.flatMap fun c => 32 :: sayR s c.toNat
theorem accR_more (s : St) (w F : List UInt8) (i : Nat) (h : i < F.length) : accR s w (F.take (i + 1)) = accR s w (F.take i) ++ [32] ++ sayR s F[i].toNat := by
  unfold accR
  rw [List.take_succ_eq_append_getElem h, List.flatMap_append]
  simp
theorem accR_le (s : St) (hs : s.ok) (w : List UInt8) : ∀ F : List UInt8, (accR s w F).length ≤ w.length + F.length * 200002
  | [] => by simp [accR]
  | c :: F => by
    have ih := accR_le s hs w F
    have h1 := sayR_sm s hs c.toNat
    unfold accR at ih ⊢
    simp only [List.flatMap_cons, List.length_append, List.length_cons] at ih ⊢
    omega
theorem lineW_acc (s : St) (w F : List UInt8) (e : wordK s.kind = w) (h : toldR s = F.map fun c => sayR s c.toNat) : lineW s = accR s w F := by
  unfold lineW accR
  rw [e, Lib.join_cons, Lib.joinTail, h, List.map_map, ← List.flatMap_def]
  rfl
theorem lineW_one (s : St) (w F : List UInt8) (e : wordK s.kind = w) (h : toldR s = (F.map fun c => sayR s c.toNat) ++ [[97, 108, 111, 110, 101]]) : lineW s = accR s w F ++ [32, 97, 108, 111, 110, 101] := by
  unfold lineW accR
  rw [e, Lib.join_cons, Lib.joinTail, h, List.map_append, List.flatten_append, List.map_map, ← List.append_assoc]
  rw [show (List.map ((fun x => [32] ++ x) ∘ fun c : UInt8 => sayR s c.toNat) F).flatten = F.flatMap (fun c => 32 :: sayR s c.toNat) by rw [List.flatMap_def]; rfl]
  rfl
theorem told_form (s : St) (k : Nat) (hk : s.kind = (k : Int)) (h1 : 1 ≤ k) (h2 : k ≤ 19) (n1 : ¬(k = 1 ∧ s.n = 1)) (n2 : ¬(k = 18 ∧ ¬ s.key = [])) : toldR s = (formR k).map fun c => sayR s c.toNat := by
  have h : k = 1 ∨ k = 2 ∨ k = 3 ∨ k = 4 ∨ k = 5 ∨ k = 6 ∨ k = 7 ∨ k = 8 ∨ k = 9 ∨ k = 10 ∨ k = 11 ∨ k = 12 ∨ k = 13 ∨ k = 14 ∨ k = 15 ∨ k = 16 ∨ k = 17 ∨ k = 18 ∨ k = 19 := by omega
  rcases h with rfl | rfl | rfl | rfl | rfl | rfl | rfl | rfl | rfl | rfl | rfl | rfl | rfl | rfl | rfl | rfl | rfl | rfl | rfl
  · have n3 : ¬ s.n = 1 := fun e => n1 ⟨rfl, e⟩
    simp only [toldR, hk, n3, Int.cast_ofNat_Int, Int.reduceEq, if_false, if_true, reduceIte]; rfl
  · simp only [toldR, hk, Int.cast_ofNat_Int, Int.reduceEq, if_false, if_true, reduceIte, or_self, or_true, true_or, false_and, or_false, false_or]; rfl
  · simp only [toldR, hk, Int.cast_ofNat_Int, Int.reduceEq, if_false, if_true, reduceIte, or_self, or_true, true_or, false_and, or_false, false_or]; rfl
  · simp only [toldR, hk, Int.cast_ofNat_Int, Int.reduceEq, if_false, if_true, reduceIte, or_self, or_true, true_or, false_and, or_false, false_or]; rfl
  · simp only [toldR, hk, Int.cast_ofNat_Int, Int.reduceEq, if_false, if_true, reduceIte, or_self, or_true, true_or, false_and, or_false, false_or]; rfl
  · simp only [toldR, hk, Int.cast_ofNat_Int, Int.reduceEq, if_false, if_true, reduceIte, or_self, or_true, true_or, false_and, or_false, false_or]; rfl
  · simp only [toldR, hk, Int.cast_ofNat_Int, Int.reduceEq, if_false, if_true, reduceIte, or_self, or_true, true_or, false_and, or_false, false_or]; rfl
  · simp only [toldR, hk, Int.cast_ofNat_Int, Int.reduceEq, if_false, if_true, reduceIte, or_self, or_true, true_or, false_and, or_false, false_or]; rfl
  · simp only [toldR, hk, Int.cast_ofNat_Int, Int.reduceEq, if_false, if_true, reduceIte, or_self, or_true, true_or, false_and, or_false, false_or]; rfl
  · simp only [toldR, hk, Int.cast_ofNat_Int, Int.reduceEq, if_false, if_true, reduceIte, or_self, or_true, true_or, false_and, or_false, false_or]; rfl
  · simp only [toldR, hk, Int.cast_ofNat_Int, Int.reduceEq, if_false, if_true, reduceIte, or_self, or_true, true_or, false_and, or_false, false_or]; rfl
  · simp only [toldR, hk, Int.cast_ofNat_Int, Int.reduceEq, if_false, if_true, reduceIte, or_self, or_true, true_or, false_and, or_false, false_or]; rfl
  · simp only [toldR, hk, Int.cast_ofNat_Int, Int.reduceEq, if_false, if_true, reduceIte, or_self, or_true, true_or, false_and, or_false, false_or]; rfl
  · simp only [toldR, hk, Int.cast_ofNat_Int, Int.reduceEq, if_false, if_true, reduceIte, or_self, or_true, true_or, false_and, or_false, false_or]; rfl
  · simp only [toldR, hk, Int.cast_ofNat_Int, Int.reduceEq, if_false, if_true, reduceIte, or_self, or_true, true_or, false_and, or_false, false_or]; rfl
  · simp only [toldR, hk, Int.cast_ofNat_Int, Int.reduceEq, if_false, if_true, reduceIte, or_self, or_true, true_or, false_and, or_false, false_or]; rfl
  · simp only [toldR, hk, Int.cast_ofNat_Int, Int.reduceEq, if_false, if_true, reduceIte, or_self, or_true, true_or, false_and, or_false, false_or]; rfl
  · have n3 : s.key = [] := Classical.byContradiction fun e => n2 ⟨rfl, e⟩
    simp only [toldR, hk, n3, Int.cast_ofNat_Int, Int.reduceEq, if_false, if_true, reduceIte, or_self, ne_eq, not_true_eq_false, and_false]; rfl
  · simp only [toldR, hk, Int.cast_ofNat_Int, Int.reduceEq, if_false, if_true, reduceIte, or_self, or_true, true_or, false_and, or_false, false_or]; rfl
theorem lineR_out (s : St) (h : s.kind < 1 ∨ 19 < s.kind) : lineR s = ([], 2) := by
  have e1 : wordK s.kind = [] := by unfold wordK; rw [if_neg (by omega)]
  have e2 : toldR s = [] := by
    unfold toldR
    rw [if_neg (by omega), if_neg (by omega), if_neg (by omega), if_neg (by omega), if_neg (by omega), if_neg (by omega), if_neg (by omega), if_neg (by omega), if_neg (by omega), if_neg (by omega), if_neg (fun x => by omega)]
  have e3 : lineW s = [] := by rw [lineW, e1, e2, Lib.join_one]
  rw [lineR, e3, if_neg]
  rw [show readR [] = (stZ, 50) by kernel_rfl]
  intro e
  cases congrArg Prod.snd e
@[go_sem] theorem e9 (s : St) (h : s.ok) : fn C 9 [] [.agg [.int .i64 s.kind, .int .i64 s.node, .int .i64 s.other, .int .i64 s.n, .int .i64 s.fr, .int .i64 s.un, .int .u64 (s.id : Int), .str s.key, .str s.val, .slice 1 (s.bs.map byteRow)]] = some (.tup [.str (lineR s).1, .int .i64 (lineR s).2], []) := by
  by_cases hout : s.kind < 1 ∨ 19 < s.kind
  · rw [lineR_out s hout]
    rw [fn_text Tryz.func9 rfl rfl Tryz.results9 fq9.1 rfl rfl (by kernel_rfl)]
    rcases hout with hout | hout
    · simp -implicitDefEqProofs -dsimp +contextual (maxSteps := 9999999) (disch := first | omega | simp only [go_sem] <;> omega | refine ib ?_; kernel_rfl) only [go_sem, seval, ↓reduceIte, hout]
    · simp -implicitDefEqProofs -dsimp +contextual (maxSteps := 9999999) (disch := first | omega | simp only [go_sem] <;> omega | refine ib ?_; kernel_rfl) only [go_sem, seval, ↓reduceIte, hout, show ¬ s.kind < 1 by omega]
  · obtain ⟨k, hk⟩ : ∃ k : Nat, s.kind = (k : Int) := ⟨s.kind.toNat, by omega⟩
    have k1 : 1 ≤ k := by omega
    have k2 : k ≤ 19 := by omega
    have nr := names_row k (by omega)
    have fr := forms_row k (by omega)
    have e1 := e26
    have e2 := e27
    have hwk : wordK s.kind = wordR k := by rw [wordK, if_pos (by omega), hk]; rfl
    have hwl := wordR_le k k2
    have rd := e29 (lineW s) (lineW_le s h).1
    have ok := readR_ok (lineW s)
    have g3 := h.g3
    have g4 := ok.g3
    have m := e30 (readR (lineW s)).1 s (by omega) (by omega)
    rw [stV] at rd
    unfold lineR
    have hF : ∃ F : List UInt8, okF F = true ∧ F.length ≤ 4 ∧ ((¬(k = 1 ∧ s.n = 1) ∧ ¬(k = 18 ∧ ¬ s.key = []) ∧ F = formR k ∧ accR s (wordR k) F = lineW s) ∨ (k = 1 ∧ s.n = 1 ∧ F = [110, 109] ∧ accR s (wordR k) F ++ [32, 97, 108, 111, 110, 101] = lineW s) ∨ (k = 18 ∧ ¬ s.key = [] ∧ F = [109] ∧ accR s (wordR k) F = lineW s)) := by
      by_cases n1 : k = 1 ∧ s.n = 1
      · refine ⟨[110, 109], by decide, by simp, .inr (.inl ⟨n1.1, n1.2, rfl, ?_⟩)⟩
        refine (lineW_one s _ _ hwk ?_).symm
        simp only [toldR, hk, n1.1, n1.2, Int.cast_ofNat_Int, Int.reduceEq, if_false, if_true, reduceIte]
        rfl
      · by_cases n2 : k = 18 ∧ ¬ s.key = []
        · refine ⟨[109], by decide, by simp, .inr (.inr ⟨n2.1, n2.2, rfl, ?_⟩)⟩
          refine (lineW_acc s _ _ hwk ?_).symm
          simp only [toldR, hk, n2.1, n2.2, Int.cast_ofNat_Int, Int.reduceEq, if_false, if_true, reduceIte, or_self, ne_eq, not_false_eq_true, and_self]
          rfl
        · exact ⟨formR k, okF_form k k2, by have : ∀ k : Fin 20, (formR k.val).length ≤ 4 := by decide
                                            exact this ⟨k, by omega⟩, .inl ⟨n1, n2, rfl, (lineW_acc s _ _ hwk (told_form s k hk k1 k2 n1 n2)).symm⟩⟩
    obtain ⟨F, okf, hFl, hF⟩ := hF
    have hacc := fun i => accR_le s h (wordR k) (F.take i)
    generalize wordR k = w at *
    generalize lineW s = W at *
    generalize hq : readR W = q at *
    obtain ⟨b, e⟩ := q
    simp only at *
    have hR : (if (b, e) = (s, 0) then (W, (0 : Int)) else ([], 2)) = if e = 0 ∧ b = s then (W, 0) else ([], 2) := by
      by_cases c : e = 0 ∧ b = s
      · rw [if_pos c, if_pos (by rw [c.1, c.2])]
      · rw [if_neg c, if_neg (fun x => c ⟨congrArg Prod.snd x, congrArg Prod.fst x⟩)]
    rw [hR]
    clear hR hq
    have hkk : s.kind < 1 ↔ False := by rw [iff_false]; omega
    have hcs : (k = 18 ∧ s.key = [] ∧ F = formR k ∧ accR s w F = W) ∨ (k = 1 ∧ ¬ s.n = 1 ∧ F = formR k ∧ accR s w F = W) ∨ (¬ k = 18 ∧ ¬ k = 1 ∧ F = formR k ∧ accR s w F = W) ∨ (k = 1 ∧ s.n = 1 ∧ F = [110, 109] ∧ accR s w F ++ [32, 97, 108, 111, 110, 101] = W) ∨ (k = 18 ∧ ¬ s.key = [] ∧ F = [109] ∧ accR s w F = W) := by
      rcases hF with ⟨n1, n2, hF, ha⟩ | ⟨n1, n2, hF, ha⟩ | ⟨n1, n2, hF, ha⟩
      · by_cases c18 : k = 18
        · exact .inl ⟨c18, Classical.byContradiction fun x => n2 ⟨c18, x⟩, hF, ha⟩
        · by_cases c1 : k = 1
          · exact .inr (.inl ⟨c1, fun x => n1 ⟨c1, x⟩, hF, ha⟩)
          · exact .inr (.inr (.inl ⟨c18, c1, hF, ha⟩))
      · exact .inr (.inr (.inr (.inl ⟨n1, n2, hF, ha⟩)))
      · exact .inr (.inr (.inr (.inr ⟨n1, n2, hF, ha⟩)))
    clear hF hkk
    rcases hcs with ⟨n1, n2, hF, ha⟩ | ⟨n1, n2, hF, ha⟩ | ⟨n1, n2, hF, ha⟩ | ⟨n1, n2, hF, ha⟩ | ⟨n1, n2, hF, ha⟩
    · subst n1
      simp only [Int.cast_ofNat_Int] at hk
      rw [show formR 18 = [] from rfl] at fr
      rw [fn_text Tryz.func9 rfl rfl Tryz.results9 fq9.1 rfl rfl (by kernel_rfl)]
      simp -implicitDefEqProofs -dsimp +contextual (maxSteps := 9999999) (disch := first | omega | simp only [go_sem] <;> omega | refine ib ?_; kernel_rfl) only [go_sem, seval, ↓reduceIte, hk, e1, e2, nr, fr, n2]
      refine kFor F.length (fun i f H => f 1 = .ptr 101 1 0 0 ∧ f 4 = .str (accR s w (F.take i)) ∧ f 5 = .str F ∧ f 6 = .int .i64 (i : Int) ∧ H 101 = ⟨1, .live, 10, [s.cs], false⟩) ?_ ?_ (by refine ⟨rfl, ?_, ?_, rfl, by simp [Heap.set, St.cs_eq, hk, n2]⟩ <;> first | rfl | (simp [upd, accR]; done) | (rw [hF]; rfl))
      · rintro i f H hi ⟨f1, f4, f5, f6, H1⟩ ih
        have ok1 := okF_mem okf hi
        have sy := refSay s h F[i].toNat ok1.1 ok1.2
        have sl := sayR_sm s h F[i].toNat
        have al := hacc i
        have hm := accR_more s w F i hi
        have tl : (F.take i).length ≤ 4 := by simp; omega
        generalize accR s w (F.take i) = A at *
        generalize sayR s F[i].toNat = B at *
        rw [St.cs_eq] at H1
        simp -implicitDefEqProofs -dsimp +contextual (maxSteps := 9999999) (disch := first | omega | simp only [go_sem] <;> omega | refine ib ?_; kernel_rfl) only [go_sem, seval, ↓reduceIte, f1, f4, f5, f6, H1, hi, sy]
        exact ih _ _ ⟨f1, by rw [hm]; first | rfl | simp, f5, rfl, by rw [St.cs_eq]; exact H1⟩
      · rintro f H ⟨f1, f4, f5, f6, H1⟩
        rw [List.take_length] at f4
        have al := hacc F.length
        rw [List.take_length] at al
        rw [St.cs_eq] at H1
        rw [ha] at f4
        by_cases c1 : e = 0
        · by_cases c2 : b = s
          · rw [if_pos ⟨c1, c2⟩]
            simp -implicitDefEqProofs -dsimp +contextual (maxSteps := 9999999) (disch := first | omega | simp only [go_sem] <;> omega | refine ib ?_; kernel_rfl) only [go_sem, seval, ↓reduceIte, f1, f4, f5, f6, H1, show ¬ s.kind = 1 by omega, rd, m, c1, c2]
          · rw [if_neg (fun x => c2 x.2)]
            simp -implicitDefEqProofs -dsimp +contextual (maxSteps := 9999999) (disch := first | omega | simp only [go_sem] <;> omega | refine ib ?_; kernel_rfl) only [go_sem, seval, ↓reduceIte, f1, f4, f5, f6, H1, show ¬ s.kind = 1 by omega, rd, m, c1, c2]
        · rw [if_neg (fun x => c1 x.1)]
          simp -implicitDefEqProofs -dsimp +contextual (maxSteps := 9999999) (disch := first | omega | simp only [go_sem] <;> omega | refine ib ?_; kernel_rfl) only [go_sem, seval, ↓reduceIte, f1, f4, f5, f6, H1, show ¬ s.kind = 1 by omega, rd, c1]
    · subst n1
      simp only [Int.cast_ofNat_Int] at hk
      rw [show formR 1 = [110, 109] from rfl] at fr
      rw [fn_text Tryz.func9 rfl rfl Tryz.results9 fq9.1 rfl rfl (by kernel_rfl)]
      simp -implicitDefEqProofs -dsimp +contextual (maxSteps := 9999999) (disch := first | omega | simp only [go_sem] <;> omega | refine ib ?_; kernel_rfl) only [go_sem, seval, ↓reduceIte, hk, e1, e2, nr, fr, n2]
      refine kFor F.length (fun i f H => f 1 = .ptr 101 1 0 0 ∧ f 4 = .str (accR s w (F.take i)) ∧ f 5 = .str F ∧ f 6 = .int .i64 (i : Int) ∧ H 101 = ⟨1, .live, 10, [s.cs], false⟩) ?_ ?_ (by refine ⟨rfl, ?_, ?_, rfl, by simp [Heap.set, St.cs_eq, hk, n2]⟩ <;> first | rfl | (simp [upd, accR]; done) | (rw [hF]; rfl))
      · rintro i f H hi ⟨f1, f4, f5, f6, H1⟩ ih
        have ok1 := okF_mem okf hi
        have sy := refSay s h F[i].toNat ok1.1 ok1.2
        have sl := sayR_sm s h F[i].toNat
        have al := hacc i
        have hm := accR_more s w F i hi
        have tl : (F.take i).length ≤ 4 := by simp; omega
        generalize accR s w (F.take i) = A at *
        generalize sayR s F[i].toNat = B at *
        rw [St.cs_eq] at H1
        simp -implicitDefEqProofs -dsimp +contextual (maxSteps := 9999999) (disch := first | omega | simp only [go_sem] <;> omega | refine ib ?_; kernel_rfl) only [go_sem, seval, ↓reduceIte, f1, f4, f5, f6, H1, hi, sy]
        exact ih _ _ ⟨f1, by rw [hm]; first | rfl | simp, f5, rfl, by rw [St.cs_eq]; exact H1⟩
      · rintro f H ⟨f1, f4, f5, f6, H1⟩
        rw [List.take_length] at f4
        have al := hacc F.length
        rw [List.take_length] at al
        rw [St.cs_eq] at H1
        rw [ha] at f4
        by_cases c1 : e = 0
        · by_cases c2 : b = s
          · rw [if_pos ⟨c1, c2⟩]
            simp -implicitDefEqProofs -dsimp +contextual (maxSteps := 9999999) (disch := first | omega | simp only [go_sem] <;> omega | refine ib ?_; kernel_rfl) only [go_sem, seval, ↓reduceIte, f1, f4, f5, f6, H1, eq_true hk, rd, m, c1, c2, n2]
          · rw [if_neg (fun x => c2 x.2)]
            simp -implicitDefEqProofs -dsimp +contextual (maxSteps := 9999999) (disch := first | omega | simp only [go_sem] <;> omega | refine ib ?_; kernel_rfl) only [go_sem, seval, ↓reduceIte, f1, f4, f5, f6, H1, eq_true hk, rd, m, c1, c2, n2]
        · rw [if_neg (fun x => c1 x.1)]
          simp -implicitDefEqProofs -dsimp +contextual (maxSteps := 9999999) (disch := first | omega | simp only [go_sem] <;> omega | refine ib ?_; kernel_rfl) only [go_sem, seval, ↓reduceIte, f1, f4, f5, f6, H1, eq_true hk, rd, c1, n2]
    · rw [← hF] at fr
      rw [fn_text Tryz.func9 rfl rfl Tryz.results9 fq9.1 rfl rfl (by kernel_rfl)]
      simp -implicitDefEqProofs -dsimp +contextual (maxSteps := 9999999) (disch := first | omega | simp only [go_sem] <;> omega | refine ib ?_; kernel_rfl) only [go_sem, seval, ↓reduceIte, hk, e1, e2, nr, fr, n1, n2, show ¬ k < 1 by omega, show ¬ 19 < k by omega]
      refine kFor F.length (fun i f H => f 1 = .ptr 101 1 0 0 ∧ f 4 = .str (accR s w (F.take i)) ∧ f 5 = .str F ∧ f 6 = .int .i64 (i : Int) ∧ H 101 = ⟨1, .live, 10, [s.cs], false⟩) ?_ ?_ (by refine ⟨rfl, ?_, ?_, rfl, by simp [Heap.set, St.cs_eq, hk, n2]⟩ <;> first | rfl | (simp [upd, accR]; done) | (rw [hF]; rfl))
      · rintro i f H hi ⟨f1, f4, f5, f6, H1⟩ ih
        have ok1 := okF_mem okf hi
        have sy := refSay s h F[i].toNat ok1.1 ok1.2
        have sl := sayR_sm s h F[i].toNat
        have al := hacc i
        have hm := accR_more s w F i hi
        have tl : (F.take i).length ≤ 4 := by simp; omega
        generalize accR s w (F.take i) = A at *
        generalize sayR s F[i].toNat = B at *
        rw [St.cs_eq] at H1
        simp -implicitDefEqProofs -dsimp +contextual (maxSteps := 9999999) (disch := first | omega | simp only [go_sem] <;> omega | refine ib ?_; kernel_rfl) only [go_sem, seval, ↓reduceIte, f1, f4, f5, f6, H1, hi, sy]
        exact ih _ _ ⟨f1, by rw [hm]; first | rfl | simp, f5, rfl, by rw [St.cs_eq]; exact H1⟩
      · rintro f H ⟨f1, f4, f5, f6, H1⟩
        rw [List.take_length] at f4
        have al := hacc F.length
        rw [List.take_length] at al
        rw [St.cs_eq] at H1
        rw [ha] at f4
        by_cases c1 : e = 0
        · by_cases c2 : b = s
          · rw [if_pos ⟨c1, c2⟩]
            simp -implicitDefEqProofs -dsimp +contextual (maxSteps := 9999999) (disch := first | omega | simp only [go_sem] <;> omega | refine ib ?_; kernel_rfl) only [go_sem, seval, ↓reduceIte, f1, f4, f5, f6, H1, show ¬ s.kind = 1 by omega, rd, m, c1, c2, n1, n2, show ¬ k < 1 by omega, show ¬ 19 < k by omega]
          · rw [if_neg (fun x => c2 x.2)]
            simp -implicitDefEqProofs -dsimp +contextual (maxSteps := 9999999) (disch := first | omega | simp only [go_sem] <;> omega | refine ib ?_; kernel_rfl) only [go_sem, seval, ↓reduceIte, f1, f4, f5, f6, H1, show ¬ s.kind = 1 by omega, rd, m, c1, c2, n1, n2, show ¬ k < 1 by omega, show ¬ 19 < k by omega]
        · rw [if_neg (fun x => c1 x.1)]
          simp -implicitDefEqProofs -dsimp +contextual (maxSteps := 9999999) (disch := first | omega | simp only [go_sem] <;> omega | refine ib ?_; kernel_rfl) only [go_sem, seval, ↓reduceIte, f1, f4, f5, f6, H1, show ¬ s.kind = 1 by omega, rd, c1, n1, n2, show ¬ k < 1 by omega, show ¬ 19 < k by omega]
    · subst n1
      simp only [Int.cast_ofNat_Int] at hk
      rw [show formR 1 = [110, 109] from rfl] at fr
      rw [fn_text Tryz.func9 rfl rfl Tryz.results9 fq9.1 rfl rfl (by kernel_rfl)]
      simp -implicitDefEqProofs -dsimp +contextual (maxSteps := 9999999) (disch := first | omega | simp only [go_sem] <;> omega | refine ib ?_; kernel_rfl) only [go_sem, seval, ↓reduceIte, hk, e1, e2, nr, fr, n2]
      refine kFor F.length (fun i f H => f 1 = .ptr 101 1 0 0 ∧ f 4 = .str (accR s w (F.take i)) ∧ f 5 = .str F ∧ f 6 = .int .i64 (i : Int) ∧ H 101 = ⟨1, .live, 10, [s.cs], false⟩) ?_ ?_ (by refine ⟨rfl, ?_, ?_, rfl, by simp [Heap.set, St.cs_eq, hk, n2]⟩ <;> first | rfl | (simp [upd, accR]; done) | (rw [hF]; rfl))
      · rintro i f H hi ⟨f1, f4, f5, f6, H1⟩ ih
        have ok1 := okF_mem okf hi
        have sy := refSay s h F[i].toNat ok1.1 ok1.2
        have sl := sayR_sm s h F[i].toNat
        have al := hacc i
        have hm := accR_more s w F i hi
        have tl : (F.take i).length ≤ 4 := by simp; omega
        generalize accR s w (F.take i) = A at *
        generalize sayR s F[i].toNat = B at *
        rw [St.cs_eq] at H1
        simp -implicitDefEqProofs -dsimp +contextual (maxSteps := 9999999) (disch := first | omega | simp only [go_sem] <;> omega | refine ib ?_; kernel_rfl) only [go_sem, seval, ↓reduceIte, f1, f4, f5, f6, H1, hi, sy]
        exact ih _ _ ⟨f1, by rw [hm]; first | rfl | simp, f5, rfl, by rw [St.cs_eq]; exact H1⟩
      · rintro f H ⟨f1, f4, f5, f6, H1⟩
        rw [List.take_length] at f4
        have al := hacc F.length
        rw [List.take_length] at al
        rw [St.cs_eq] at H1
        have al2 : (accR s w F).length ≤ 900000 := by omega
        generalize accR s w F = A at *
        by_cases c1 : e = 0
        · by_cases c2 : b = s
          · rw [if_pos ⟨c1, c2⟩]
            simp -implicitDefEqProofs -dsimp +contextual (maxSteps := 9999999) (disch := first | omega | simp only [go_sem] <;> omega | refine ib ?_; kernel_rfl) only [go_sem, seval, ↓reduceIte, f1, f4, f5, f6, H1, eq_true hk, ha, rd, m, c1, c2, eq_true n2]
          · rw [if_neg (fun x => c2 x.2)]
            simp -implicitDefEqProofs -dsimp +contextual (maxSteps := 9999999) (disch := first | omega | simp only [go_sem] <;> omega | refine ib ?_; kernel_rfl) only [go_sem, seval, ↓reduceIte, f1, f4, f5, f6, H1, eq_true hk, ha, rd, m, c1, c2, eq_true n2]
        · rw [if_neg (fun x => c1 x.1)]
          simp -implicitDefEqProofs -dsimp +contextual (maxSteps := 9999999) (disch := first | omega | simp only [go_sem] <;> omega | refine ib ?_; kernel_rfl) only [go_sem, seval, ↓reduceIte, f1, f4, f5, f6, H1, eq_true hk, ha, rd, c1, eq_true n2]
    · subst n1
      simp only [Int.cast_ofNat_Int] at hk
      rw [show formR 18 = [] from rfl] at fr
      rw [fn_text Tryz.func9 rfl rfl Tryz.results9 fq9.1 rfl rfl (by kernel_rfl)]
      simp -implicitDefEqProofs -dsimp +contextual (maxSteps := 9999999) (disch := first | omega | simp only [go_sem] <;> omega | refine ib ?_; kernel_rfl) only [go_sem, seval, ↓reduceIte, hk, e1, e2, nr, fr, n2]
      refine kFor F.length (fun i f H => f 1 = .ptr 101 1 0 0 ∧ f 4 = .str (accR s w (F.take i)) ∧ f 5 = .str F ∧ f 6 = .int .i64 (i : Int) ∧ H 101 = ⟨1, .live, 10, [s.cs], false⟩) ?_ ?_ (by refine ⟨rfl, ?_, ?_, rfl, by simp [Heap.set, St.cs_eq, hk, n2]⟩ <;> first | rfl | (simp [upd, accR]; done) | (rw [hF]; rfl))
      · rintro i f H hi ⟨f1, f4, f5, f6, H1⟩ ih
        have ok1 := okF_mem okf hi
        have sy := refSay s h F[i].toNat ok1.1 ok1.2
        have sl := sayR_sm s h F[i].toNat
        have al := hacc i
        have hm := accR_more s w F i hi
        have tl : (F.take i).length ≤ 4 := by simp; omega
        generalize accR s w (F.take i) = A at *
        generalize sayR s F[i].toNat = B at *
        rw [St.cs_eq] at H1
        simp -implicitDefEqProofs -dsimp +contextual (maxSteps := 9999999) (disch := first | omega | simp only [go_sem] <;> omega | refine ib ?_; kernel_rfl) only [go_sem, seval, ↓reduceIte, f1, f4, f5, f6, H1, hi, sy]
        exact ih _ _ ⟨f1, by rw [hm]; first | rfl | simp, f5, rfl, by rw [St.cs_eq]; exact H1⟩
      · rintro f H ⟨f1, f4, f5, f6, H1⟩
        rw [List.take_length] at f4
        have al := hacc F.length
        rw [List.take_length] at al
        rw [St.cs_eq] at H1
        rw [ha] at f4
        by_cases c1 : e = 0
        · by_cases c2 : b = s
          · rw [if_pos ⟨c1, c2⟩]
            simp -implicitDefEqProofs -dsimp +contextual (maxSteps := 9999999) (disch := first | omega | simp only [go_sem] <;> omega | refine ib ?_; kernel_rfl) only [go_sem, seval, ↓reduceIte, f1, f4, f5, f6, H1, show ¬ s.kind = 1 by omega, rd, m, c1, c2]
          · rw [if_neg (fun x => c2 x.2)]
            simp -implicitDefEqProofs -dsimp +contextual (maxSteps := 9999999) (disch := first | omega | simp only [go_sem] <;> omega | refine ib ?_; kernel_rfl) only [go_sem, seval, ↓reduceIte, f1, f4, f5, f6, H1, show ¬ s.kind = 1 by omega, rd, m, c1, c2]
        · rw [if_neg (fun x => c1 x.1)]
          simp -implicitDefEqProofs -dsimp +contextual (maxSteps := 9999999) (disch := first | omega | simp only [go_sem] <;> omega | refine ib ?_; kernel_rfl) only [go_sem, seval, ↓reduceIte, f1, f4, f5, f6, H1, show ¬ s.kind = 1 by omega, rd, c1]
theorem min9 (a : Nat) : (if 9000 < a then (9000 : Int) else (a : Int)) = ((min a 9000 : Nat) : Int) := by split <;> omega
def sumT (s : St) : Nat := min s.key.length 9000 + min s.val.length 9000 + min s.bs.length 9000
def sumS (l : List St) : Nat := (l.map sumT).sum
def shortR (l : List St) : Bool := decide (l.length ≤ 80) && decide (sumS l ≤ 8000)
theorem sumS_cons (s : St) (l : List St) : sumS (s :: l) = sumT s + sumS l := by simp [sumS]
theorem st_row (l : List St) (i : Nat) (h : i < l.length) : (l.map St.cs)[i]? = some l[i].cs := by
  rw [List.getElem?_map, List.getElem?_eq_getElem h]; rfl
structure St.fit (s : St) : Prop where
  g1 : s.key.length ≤ 9223372036854775807
  g2 : s.val.length ≤ 9223372036854775807
  g3 : s.bs.length ≤ 9223372036854775807
@[go_sem] theorem e6 (l : List St) (hl : l.length ≤ 9223372036854775807) (hf : ∀ s ∈ l, s.fit) : fn C 6 [] [.slice 10 (l.map St.cs)] = some (.bool (shortR l), []) := by
  by_cases h : 80 < l.length
  · rw [show shortR l = false by simp only [shortR, Bool.and_eq_false_iff, decide_eq_false_iff_not]; omega]
    rw [fn_text Tryz.func6 rfl rfl Tryz.results6 fq6.1 rfl rfl (by kernel_rfl)]
    simp -implicitDefEqProofs -dsimp +contextual (maxSteps := 9999999) (disch := first | omega | simp only [go_sem] <;> omega | refine ib ?_; kernel_rfl) only [go_sem, seval, ↓reduceIte, h]
  · rw [show shortR l = decide (sumS l ≤ 8000) by simp only [shortR]; rw [decide_eq_true (by omega), Bool.true_and]]
    rw [fn_text Tryz.func6 rfl rfl Tryz.results6 fq6.1 rfl rfl (by kernel_rfl)]
    simp -implicitDefEqProofs -dsimp +contextual (maxSteps := 9999999) (disch := first | omega | simp only [go_sem] <;> omega | refine ib ?_; kernel_rfl) only [go_sem, seval, ↓reduceIte, h]
    refine (kLoop_rec (fun (a : Nat × Nat) f H => a.1 ≤ l.length ∧ a.2 ≤ 8000 ∧ f 0 = .slice 10 (l.map St.cs) ∧ f 3 = .int .i64 (a.2 : Int) ∧ f 4 = .int .i64 (a.1 : Int))
      (fun a => l.length - a.1) (fun a => some (.bool (decide (a.2 + sumS (l.drop a.1) ≤ 8000)), [])) ?_ (0, 0) _ _ (by exact ⟨Nat.zero_le _, Nat.zero_le _, rfl, rfl, rfl⟩)).trans (by simp)
    rintro ⟨i, n⟩ f H ⟨hi, hn, f0, f3, f4⟩ ih
    simp only at hi hn f3 f4 ih
    by_cases hlt : i < l.length
    · have row := st_row l i hlt
      have fi := hf _ (List.getElem_mem hlt)
      obtain ⟨g1, g2, g3⟩ := fi
      have ih' := ih (i + 1, n + sumT l[i])
      simp only at ih'
      clear ih
      rw [List.drop_eq_getElem_cons hlt, sumS_cons]
      generalize List.drop (i + 1) l = rest at *
      have st : sumT l[i] ≤ 27000 := by unfold sumT; omega
      rw [St.cs_eq] at row
      by_cases z : 8000 < n + sumT l[i]
      · rw [show decide (n + (sumT l[i] + sumS rest) ≤ 8000) = false from decide_eq_false (by omega)]
        have z' : 8000 < n + (min l[i].key.length 9000 + min l[i].val.length 9000 + min l[i].bs.length 9000) := z
        simp -implicitDefEqProofs -dsimp +contextual (maxSteps := 9999999) (disch := first | omega | simp only [go_sem] <;> omega | refine ib ?_; kernel_rfl) only [go_sem, seval, ↓reduceIte, f0, f3, f4, hlt, row, min9, z']
      · rw [show n + (sumT l[i] + sumS rest) = n + sumT l[i] + sumS rest by omega]
        have z' : ¬ 8000 < n + (min l[i].key.length 9000 + min l[i].val.length 9000 + min l[i].bs.length 9000) := z
        generalize hR : decide (n + sumT l[i] + sumS rest ≤ 8000) = RZ at *
        simp -implicitDefEqProofs -dsimp +contextual (maxSteps := 9999999) (disch := first | omega | simp only [go_sem] <;> omega | refine ib ?_; kernel_rfl) only [go_sem, seval, ↓reduceIte, f0, f3, f4, hlt, row, min9, z']
        refine ih' _ _ (by exact ⟨hlt, by omega, f0, by first | rfl | exact congrArg (AVal.int .i64) (by unfold sumT; omega) | (unfold sumT; rfl), rfl⟩) (by omega)
    · obtain rfl : i = l.length := by omega
      clear ih
      rw [List.drop_length]
      rw [show decide (n + sumS [] ≤ 8000) = true from decide_eq_true (by simp [sumS]; omega)]
      simp -implicitDefEqProofs -dsimp +contextual (maxSteps := 9999999) (disch := first | omega | simp only [go_sem] <;> omega | refine ib ?_; kernel_rfl) only [go_sem, seval, ↓reduceIte, f0, f3, f4]
theorem short_mem : ∀ {l : List St}, sumS l ≤ 8000 → ∀ s ∈ l, sumT s ≤ 8000
  | [], _, s, h => by cases h
  | a :: l, hl, s, h => by
    rw [sumS_cons] at hl
    rcases List.mem_cons.1 h with rfl | h
    · omega
    · exact short_mem (by omega) s h
theorem sumT_le {s : St} (h : sumT s ≤ 8000) : s.key.length ≤ 8000 ∧ s.val.length ≤ 8000 ∧ s.bs.length ≤ 8000 := by unfold sumT at h; omega
structure St.num (s : St) : Prop where
  k : -9223372036854775808 ≤ s.kind ∧ s.kind ≤ 9223372036854775807
  a : -9223372036854775808 ≤ s.node ∧ s.node ≤ 9223372036854775807
  b : -9223372036854775808 ≤ s.other ∧ s.other ≤ 9223372036854775807
  c : -9223372036854775808 ≤ s.n ∧ s.n ≤ 9223372036854775807
  d : -9223372036854775808 ≤ s.fr ∧ s.fr ≤ 9223372036854775807
  e : -9223372036854775808 ≤ s.un ∧ s.un ≤ 9223372036854775807
  f : s.id ≤ 18446744073709551615
theorem St.num.ok {s : St} (h : s.num) (t : sumT s ≤ 8000) : s.ok := by
  have := sumT_le t
  exact ⟨h.k.1, h.k.2, h.a.1, h.a.2, h.b.1, h.b.2, h.c.1, h.c.2, h.d.1, h.d.2, h.e.1, h.e.2, h.f, by omega, by omega, by omega⟩
def rotl (x : UInt32) (m : Nat) : UInt32 := W32.shl x m ||| W32.shr x (32 - m)
theorem and31 (n : Int) (h : 0 ≤ n) (h2 : n ≤ 18446744073709551615) (P : Program) (t : TypeId) : binV P .and t (.int .u64 n) (.int .u64 31) = some (.int .u64 (n % 32)) := by
  obtain ⟨m, rfl⟩ := Int.eq_ofNat_of_zero_le h
  have e : binV P .and t (.int .u64 (m : Int)) (.int .u64 31) = some (.int .u64 (IntKind.u64.wrap (((BitVec.ofInt 64 (m : Int)) &&& (BitVec.ofInt 64 ((31 : Nat) : Int))).toNat : Int))) := rfl
  rw [e, BitVec.ofInt_natCast, BitVec.ofInt_natCast, BitVec.toNat_and, BitVec.toNat_ofNat, BitVec.toNat_ofNat, Nat.mod_eq_of_lt (show m < 2 ^ 64 by omega), show (31 : Nat) % 2 ^ 64 = 2 ^ 5 - 1 by decide, Nat.and_two_pow_sub_one_eq_mod, IntKind.wrap_u64]
  congr 2; omega
@[go_sem] theorem e118 (x : UInt32) (n : Int) (h1 : -1000 ≤ n) (h2 : n ≤ 1000) : fn C 118 [] [.int .u32 (x.toNat : Int), .int .i64 n] = some (.int .u32 ((rotl x (n % 32).toNat).toNat : Int), []) := by
  have hw : IntKind.u64.wrap n % 32 = n % 32 := by rw [IntKind.wrap_u64]; omega
  have hw1 : 0 ≤ IntKind.u64.wrap n := by rw [IntKind.wrap_u64]; omega
  have hw2 : IntKind.u64.wrap n ≤ 18446744073709551615 := by rw [IntKind.wrap_u64]; omega
  obtain ⟨m, hm⟩ := Int.eq_ofNat_of_zero_le (show 0 ≤ n % 32 by omega)
  have a31 := fun P t => and31 (IntKind.u64.wrap n) hw1 hw2 P t
  rw [hw, hm] at a31
  have hm32 : m < 32 := by omega
  have e32 : (32 : Int) - (m : Int) = ((32 - m : Nat) : Int) := by omega
  rw [fn_text Tryz.func118 rfl rfl Tryz.results118 fq118.1 rfl rfl (by kernel_rfl)]
  simp -implicitDefEqProofs -dsimp +contextual (maxSteps := 5000000) (disch := first | omega | simp only [go_sem] <;> omega | refine ib ?_; kernel_rfl) only [go_sem, Nat.reduceBEq, Int.reduceNeg, Int.reduceLT, Int.reduceLE, Int.reduceAdd, Int.reduceSub, Int.reduceToNat, Int.reduceMul, Int.reduceMod, Int.reduceTMod, Int.reduceTDiv, Int.reduceEq, Nat.reducePow, Nat.reduceDiv, Nat.reduceShiftRight, Nat.reduceMod, List.reduceReplicate, ↓reduceIte, Nat.reduceEqDiff, Nat.reduceAdd, Nat.reduceSub, Nat.reduceLeDiff, Nat.reduceLT, Nat.reduceMul, a31, hm, e32]
  rfl
def rr (x : UInt32) (k : Nat) : UInt32 := rotl x (32 - k)
def sg0 (x : UInt32) : UInt32 := rr x 7 ^^^ rr x 18 ^^^ W32.shr x 3
def sg1 (x : UInt32) : UInt32 := rr x 17 ^^^ rr x 19 ^^^ W32.shr x 10
def wRow (x : UInt32) : List AVal := [.int .u32 (x.toNat : Int)]
@[go_sem] theorem e96 (x : UInt32) (k : Nat) (h1 : 1 ≤ k) (h2 : k ≤ 31) : fn C 96 [] [.int .u32 (x.toNat : Int), .int .i64 (k : Int)] = some (.int .u32 ((rr x k).toNat : Int), []) := by
  have e := e118 x (-(k : Int)) (by omega) (by omega)
  rw [show ((-(k : Int)) % 32).toNat = 32 - k by omega] at e
  rw [fn_text Tryz.func96 rfl rfl Tryz.results96 fq96.1 rfl rfl (by kernel_rfl)]
  simp -implicitDefEqProofs -dsimp +contextual (maxSteps := 5000000) (disch := first | omega | simp only [go_sem] <;> omega | refine ib ?_; kernel_rfl) only [go_sem, Nat.reduceBEq, Int.reduceNeg, Int.reduceLT, Int.reduceLE, Int.reduceAdd, Int.reduceSub, Int.reduceToNat, Int.reduceMul, Int.reduceMod, Int.reduceTMod, Int.reduceTDiv, Int.reduceEq, Nat.reducePow, Nat.reduceDiv, Nat.reduceShiftRight, Nat.reduceMod, List.reduceReplicate, ↓reduceIte, Nat.reduceEqDiff, Nat.reduceAdd, Nat.reduceSub, Nat.reduceLeDiff, Nat.reduceLT, Nat.reduceMul, e, Int.zero_sub]
  rfl
@[go_sem] theorem e_dright_lit (x : UInt32) (k : Nat) (h1 : 1 ≤ OfNat.ofNat k) (h2 : OfNat.ofNat k ≤ 31) : fn C 96 [] [.int .u32 (x.toNat : Int), .int .i64 (no_index (OfNat.ofNat k : Int))] = some (.int .u32 ((rr x (OfNat.ofNat k)).toNat : Int), []) := e96 x (OfNat.ofNat k) h1 h2
@[go_sem] theorem e104 (x : UInt32) (k : Nat) (h1 : 1 ≤ k) (h2 : k ≤ 31) : fn C 104 [] [.int .u32 (x.toNat : Int), .int .u64 (k : Int)] = some (.int .u32 ((rr x k).toNat : Int), []) := by
  have e32 : (32 : Int) - (k : Int) = ((32 - k : Nat) : Int) := by omega
  rw [fn_text Tryz.func104 rfl rfl Tryz.results104 fq104.1 rfl rfl (by kernel_rfl)]
  simp -implicitDefEqProofs -dsimp +contextual (maxSteps := 5000000) (disch := first | omega | simp only [go_sem] <;> omega | refine ib ?_; kernel_rfl) only [go_sem, Nat.reduceBEq, Int.reduceNeg, Int.reduceLT, Int.reduceLE, Int.reduceAdd, Int.reduceSub, Int.reduceToNat, Int.reduceMul, Int.reduceMod, Int.reduceTMod, Int.reduceTDiv, Int.reduceEq, Nat.reducePow, Nat.reduceDiv, Nat.reduceShiftRight, Nat.reduceMod, List.reduceReplicate, ↓reduceIte, Nat.reduceEqDiff, Nat.reduceAdd, Nat.reduceSub, Nat.reduceLeDiff, Nat.reduceLT, Nat.reduceMul, e32]
  rw [show W32.shr x k ||| W32.shl x (32 - k) = rr x k by rw [rr, rotl, UInt32.or_comm, show 32 - (32 - k) = k by omega]]
@[go_sem] theorem e_r03right_lit (x : UInt32) (k : Nat) (h1 : 1 ≤ OfNat.ofNat k) (h2 : OfNat.ofNat k ≤ 31) : fn C 104 [] [.int .u32 (x.toNat : Int), .int .u64 (no_index (OfNat.ofNat k : Int))] = some (.int .u32 ((rr x (OfNat.ofNat k)).toNat : Int), []) := e104 x (OfNat.ofNat k) h1 h2
def be4 (a b c d : UInt8) : UInt32 := ((W32.shl a.toUInt32 24 ||| W32.shl b.toUInt32 16) ||| W32.shl c.toUInt32 8) ||| d.toUInt32
theorem or_add (a b k : Nat) (h : b < 2 ^ k) : a * 2 ^ k ||| b = a * 2 ^ k + b := by
  rw [← Nat.shiftLeft_eq, Nat.shiftLeft_add_eq_or_of_lt h]
theorem be4_sum (a b c d : UInt8) : (be4 a b c d).toNat = a.toNat * 16777216 + b.toNat * 65536 + c.toNat * 256 + d.toNat := by
  have ha := u8_lt a; have hb := u8_lt b; have hc := u8_lt c; have hd := u8_lt d
  simp only [be4, W32.shl, UInt32.toNat_or, UInt8.toNat_toUInt32, UInt32.toNat_ofNat']
  rw [Nat.mod_eq_of_lt (show a.toNat * 2 ^ 24 < 2 ^ 32 by omega), Nat.mod_eq_of_lt (show b.toNat * 2 ^ 16 < 2 ^ 32 by omega), Nat.mod_eq_of_lt (show c.toNat * 2 ^ 8 < 2 ^ 32 by omega)]
  rw [or_add _ _ _ (by omega), show a.toNat * 2 ^ 24 + b.toNat * 2 ^ 16 = (a.toNat * 256 + b.toNat) * 2 ^ 16 by omega, or_add _ _ _ (by omega), show (a.toNat * 256 + b.toNat) * 2 ^ 16 + c.toNat * 2 ^ 8 = ((a.toNat * 256 + b.toNat) * 256 + c.toNat) * 2 ^ 8 by omega, or_add _ _ _ (by omega)]
theorem be4_num (a b c d : UInt8) : a.toUInt32 * UInt32.ofNat 16777216 + b.toUInt32 * UInt32.ofNat 65536 + c.toUInt32 * UInt32.ofNat 256 + d.toUInt32 = be4 a b c d := by
  have ha := u8_lt a; have hb := u8_lt b; have hc := u8_lt c; have hd := u8_lt d
  apply UInt32.toNat_inj.1
  rw [be4_sum]
  simp only [UInt32.toNat_add, UInt32.toNat_mul, UInt8.toNat_toUInt32, UInt32.toNat_ofNat']
  omega
def numB (l : List UInt8) : UInt32 := be4 (l.getD 0 0) (l.getD 1 0) (l.getD 2 0) (l.getD 3 0)
theorem four_of (b : List UInt8) (h : 4 ≤ b.length) : ∃ x y z w r, b = x :: y :: z :: w :: r := by
  match b, h with
  | x :: y :: z :: w :: r, _ => exact ⟨x, y, z, w, r, rfl⟩
@[go_sem] theorem e103 (b : List UInt8) (h : 4 ≤ b.length) : fn C 103 [] [.slice 1 (b.map byteRow)] = some (.int .u32 ((numB b).toNat : Int), []) := by
  obtain ⟨x, y, z, w, r, rfl⟩ := four_of b h
  rw [fn_text Tryz.func103 rfl rfl Tryz.results103 fq103.1 rfl rfl (by kernel_rfl)]
  simp -implicitDefEqProofs -dsimp +contextual (maxSteps := 5000000) (disch := first | omega | simp only [go_sem] <;> omega | refine ib ?_; kernel_rfl) only [go_sem, Nat.reduceBEq, Int.reduceNeg, Int.reduceLT, Int.reduceLE, Int.reduceAdd, Int.reduceSub, Int.reduceToNat, Int.reduceMul, Int.reduceMod, Int.reduceTMod, Int.reduceTDiv, Int.reduceEq, Nat.reducePow, Nat.reduceDiv, Nat.reduceShiftRight, Nat.reduceMod, List.reduceReplicate, ↓reduceIte, Nat.reduceEqDiff, Nat.reduceAdd, Nat.reduceSub, Nat.reduceLeDiff, Nat.reduceLT, Nat.reduceMul]
  rw [show numB (x :: y :: z :: w :: r) = be4 x y z w from rfl, ← be4_num]
end Go.Proofs.YtclgfgnhcakhdaaGreatDoor
namespace Go.Proofs.YtclgfgnhcakhdaaGreatDoor
set_option maxHeartbeats 64000000
open Go.Am
set_option linter.unusedSimpArgs false
set_option linter.unusedVariables false
set_option maxRecDepth 100000
def wd (blk : List UInt8) (i : Nat) : UInt32 := be4 (blk.getD (4 * i) 0) (blk.getD (4 * i + 1) 0) (blk.getD (4 * i + 2) 0) (blk.getD (4 * i + 3) 0)
def wds (blk : List UInt8) (n : Nat) : List UInt32 := (List.range n).map (wd blk)
@[go_sem] theorem wds_len (blk : List UInt8) (n : Nat) : (wds blk n).length = n := by simp [wds]
theorem wds_succ (blk : List UInt8) (n : Nat) : wds blk (n + 1) = wds blk n ++ [wd blk n] := by simp [wds, List.range_succ]
def nxt (l : List UInt32) : UInt32 := l.getD (l.length - 16) 0 + l.getD (l.length - 7) 0 + sg0 (l.getD (l.length - 15) 0) + sg1 (l.getD (l.length - 2) 0)
def extW : Nat → List UInt32 → List UInt32
  | 0, l => l
  | n + 1, l => extW n (l ++ [nxt l])
theorem extW_len : ∀ (n : Nat) (l : List UInt32), (extW n l).length = l.length + n
  | 0, _ => rfl
  | n + 1, l => by rw [extW, extW_len]; simp; omega
def wsOf (blk : List UInt8) : List UInt32 := extW 48 (wds blk 16)
@[go_sem] theorem wsOf_len (blk : List UInt8) : (wsOf blk).length = 64 := by rw [wsOf, extW_len, wds_len]
def pad64 (l : List UInt32) : List UInt32 := l ++ List.replicate (64 - l.length) 0
theorem pad64_len (l : List UInt32) (h : l.length ≤ 64) : (pad64 l).length = 64 := by simp [pad64]; omega
theorem pad64_set (l : List UInt32) (x : UInt32) (h : l.length < 64) : (pad64 l).set l.length x = pad64 (l ++ [x]) := by
  unfold pad64
  rw [List.set_append_right _ _ (Nat.le_refl _), Nat.sub_self, show 64 - l.length = (64 - (l.length + 1)) + 1 by omega, List.replicate_succ, List.set_cons_zero, List.length_append]
  simp
theorem pad64_get (l : List UInt32) (i : Nat) (h : i < l.length) (h2 : i < (pad64 l).length) : (pad64 l)[i] = l[i] := by
  simp only [pad64]; rw [List.getElem_append_left h]
theorem pad64_all (l : List UInt32) (h : l.length = 64) : pad64 l = l := by simp [pad64, h]
theorem getD_of {α : Type} (l : List α) (i : Nat) (d : α) (h : i < l.length) : l.getD i d = l[i] := by
  rw [List.getD_eq_getElem?_getD, List.getElem?_eq_getElem h]; rfl
def Z64w : List AVal := (List.replicate 64 (0 : UInt32)).map w32
@[go_sem] theorem Z64w_len : Z64w.length = 64 := rfl
@[go_sem] theorem Z64w_drop : Z64w.drop 64 = [] := rfl
theorem pad0 (blk : List UInt8) : (pad64 (wds blk 0)).map w32 = Z64w := rfl
attribute [local irreducible] extW wds pad64 nxt wd
@[go_sem] theorem e95 (blk : List UInt8) (h : blk.length = 64) : fn C 95 [] [.agg (blk.map w8)] = some (.agg ((wsOf blk).map w32), []) := by
  rw [fn_text Tryz.func95 rfl rfl Tryz.results95 fq95.1 rfl rfl (okArgs_of (by kernel_rfl) (by kernel_rfl) (by simp only [go_sem]) rfl)]
  simp -implicitDefEqProofs -dsimp +contextual (maxSteps := 5000000) (disch := first | omega | simp only [go_sem] <;> omega | refine ib ?_; kernel_rfl) only [go_sem, Nat.reduceBEq, Int.reduceNeg, Int.reduceLT, Int.reduceLE, Int.reduceAdd, Int.reduceSub, Int.reduceToNat, Int.reduceMul, Int.reduceMod, Int.reduceTMod, Int.reduceTDiv, Int.reduceEq, Nat.reducePow, Nat.reduceDiv, Nat.reduceShiftRight, Nat.reduceMod, List.reduceReplicate, ↓reduceIte, Nat.reduceEqDiff, Nat.reduceAdd, Nat.reduceSub, Nat.reduceLeDiff, Nat.reduceLT, Nat.reduceMul, h]
  refine (kLoop_rec (fun (i : Nat) f H => f 1 = .ptr 101 1 0 0 ∧ f 2 = .ptr 102 1 0 0 ∧ f 3 = .ptr 103 1 0 0 ∧ f 8 = .int .i64 (i : Int) ∧ H 101 = ⟨1, .live, 64, [blk.map w8], false⟩ ∧ H 102 = ⟨1, .live, 64, [Z64w], false⟩ ∧ H 103 = ⟨1, .live, 64, [(pad64 (wds blk i)).map w32], false⟩ ∧ i ≤ 16) (fun i => 16 - i) (fun _ => some (.agg ((wsOf blk).map w32), [])) ?_ 0 _ _ ⟨rfl, rfl, rfl, rfl, rfl, rfl, by rw [pad0]; rfl, by omega⟩)
  rintro i f H ⟨f1, f2, f3, f8, H1, H2, H3, hi⟩ ih
  have hp := pad64_len (wds blk i) (by rw [wds_len]; omega)
  by_cases hl : i < 16
  · simp -implicitDefEqProofs -dsimp +contextual (maxSteps := 5000000) (disch := first | omega | simp only [go_sem] <;> omega | refine ib ?_; kernel_rfl) only [go_sem, Nat.reduceBEq, Int.reduceNeg, Int.reduceLT, Int.reduceLE, Int.reduceAdd, Int.reduceSub, Int.reduceToNat, Int.reduceMul, Int.reduceMod, Int.reduceTMod, Int.reduceTDiv, Int.reduceEq, Nat.reducePow, Nat.reduceDiv, Nat.reduceShiftRight, Nat.reduceMod, List.reduceReplicate, ↓reduceIte, Nat.reduceEqDiff, Nat.reduceAdd, Nat.reduceSub, Nat.reduceLeDiff, Nat.reduceLT, Nat.reduceMul, f1, f2, f3, f8, H1, H3, hl, h, hp]
    have hw : ((W32.shl blk[4 * i].toUInt32 24 ||| W32.shl blk[4 * i + 1].toUInt32 16) ||| W32.shl blk[4 * i + 2].toUInt32 8) ||| blk[4 * i + 3].toUInt32 = wd blk i := by
      rw [wd, getD_of _ _ _ (by omega), getD_of _ _ _ (by omega), getD_of _ _ _ (by omega), getD_of _ _ _ (by omega)]; rfl
    have hs := pad64_set (wds blk i) (wd blk i) (by rw [wds_len]; omega)
    rw [wds_len, ← wds_succ] at hs
    rw [hw, hs]
    exact ih (i + 1) _ _ ⟨f1, f2, f3, rfl, H1, H2, rfl, by omega⟩ (by omega)
  · obtain rfl : i = 16 := by omega
    simp -implicitDefEqProofs -dsimp +contextual (maxSteps := 5000000) (disch := first | omega | simp only [go_sem] <;> omega | refine ib ?_; kernel_rfl) only [go_sem, Nat.reduceBEq, Int.reduceNeg, Int.reduceLT, Int.reduceLE, Int.reduceAdd, Int.reduceSub, Int.reduceToNat, Int.reduceMul, Int.reduceMod, Int.reduceTMod, Int.reduceTDiv, Int.reduceEq, Nat.reducePow, Nat.reduceDiv, Nat.reduceShiftRight, Nat.reduceMod, List.reduceReplicate, ↓reduceIte, Nat.reduceEqDiff, Nat.reduceAdd, Nat.reduceSub, Nat.reduceLeDiff, Nat.reduceLT, Nat.reduceMul, f1, f2, f3, f8, H1, H3, hl, h, hp]
    rw [wsOf, show (48 : Nat) = 64 - 16 from rfl]
    refine (kLoop_rec2 (fun (t : Nat) (l : List UInt32) f H => f 1 = .ptr 101 1 0 0 ∧ f 2 = .ptr 102 1 0 0 ∧ f 3 = .ptr 103 1 0 0 ∧ f 5 = .int .i64 (t : Int) ∧ H 102 = ⟨1, .live, 64, [Z64w], false⟩ ∧ H 103 = ⟨1, .live, 64, [(pad64 l).map w32], false⟩ ∧ l.length = t ∧ 16 ≤ t ∧ t ≤ 64) (fun t _ => 64 - t) (fun t l => some (.agg ((extW (64 - t) l).map w32), [])) ?_ 16 (wds blk 16) _ _ ⟨f1, f2, f3, rfl, H2, H3, wds_len _ _, by omega, by omega⟩)
    rintro t l f H ⟨f1, f2, f3, f5, H2, H3, hlen, ht, ht2⟩ ih
    have hp := pad64_len l (by omega)
    by_cases hlt : t < 64
    · have g1 := pad64_get l (t - 15) (by omega) (by omega)
      have g2 := pad64_get l (t - 2) (by omega) (by omega)
      have g3 := pad64_get l (t - 16) (by omega) (by omega)
      have g4 := pad64_get l (t - 7) (by omega) (by omega)
      simp -implicitDefEqProofs -dsimp +contextual (maxSteps := 5000000) (disch := first | omega | simp only [go_sem] <;> omega | refine ib ?_; kernel_rfl) only [go_sem, Nat.reduceBEq, Int.reduceNeg, Int.reduceLT, Int.reduceLE, Int.reduceAdd, Int.reduceSub, Int.reduceToNat, Int.reduceMul, Int.reduceMod, Int.reduceTMod, Int.reduceTDiv, Int.reduceEq, Nat.reducePow, Nat.reduceDiv, Nat.reduceShiftRight, Nat.reduceMod, List.reduceReplicate, ↓reduceIte, Nat.reduceEqDiff, Nat.reduceAdd, Nat.reduceSub, Nat.reduceLeDiff, Nat.reduceLT, Nat.reduceMul, f1, f2, f3, f5, H2, H3, hlt, hp, g1, g2, g3, g4]
      have hn : l[t - 16] + l[t - 7] + (rr l[t - 15] 7 ^^^ rr l[t - 15] 18 ^^^ W32.shr l[t - 15] 3) + (rr l[t - 2] 17 ^^^ rr l[t - 2] 19 ^^^ W32.shr l[t - 2] 10) = nxt l := by
        subst hlen
        rw [nxt, getD_of _ _ _ (by omega), getD_of _ _ _ (by omega), getD_of _ _ _ (by omega), getD_of _ _ _ (by omega)]; rfl
      have hs := pad64_set l (nxt l) (by omega)
      rw [hlen] at hs
      rw [hn, hs, show 64 - t = (64 - (t + 1)) + 1 by omega, extW]
      exact ih (t + 1) (l ++ [nxt l]) _ _ ⟨f1, f2, f3, rfl, H2, rfl, by simp [hlen], by omega, by omega⟩ (by omega)
    · simp -implicitDefEqProofs -dsimp +contextual (maxSteps := 5000000) (disch := first | omega | simp only [go_sem] <;> omega | refine ib ?_; kernel_rfl) only [go_sem, Nat.reduceBEq, Int.reduceNeg, Int.reduceLT, Int.reduceLE, Int.reduceAdd, Int.reduceSub, Int.reduceToNat, Int.reduceMul, Int.reduceMod, Int.reduceTMod, Int.reduceTDiv, Int.reduceEq, Nat.reducePow, Nat.reduceDiv, Nat.reduceShiftRight, Nat.reduceMod, List.reduceReplicate, ↓reduceIte, Nat.reduceEqDiff, Nat.reduceAdd, Nat.reduceSub, Nat.reduceLeDiff, Nat.reduceLT, Nat.reduceMul, f1, f2, f3, f5, H2, H3, hlt, hp]
      obtain rfl : t = 64 := by omega
      rw [pad64_all l hlen, show 64 - 64 = 0 from rfl, extW]
end Go.Proofs.YtclgfgnhcakhdaaGreatDoor
namespace Go.Proofs.YtclgfgnhcakhdaaGreatDoor
set_option maxHeartbeats 64000000
open Go.Am
set_option linter.unusedSimpArgs false
set_option linter.unusedVariables false
set_option maxRecDepth 100000
structure S8 where
  a : UInt32
  b : UInt32
  c : UInt32
  d : UInt32
  e : UInt32
  f : UInt32
  g : UInt32
  h : UInt32
def S8.l (s : S8) : List UInt32 := [s.a, s.b, s.c, s.d, s.e, s.f, s.g, s.h]
def chx (s : S8) (k w : UInt32) : UInt32 := s.h + (rr s.e 6 ^^^ rr s.e 11 ^^^ rr s.e 25) + ((s.e &&& s.f) ^^^ (~~~s.e &&& s.g)) + k + w
def chy (s : S8) : UInt32 := (rr s.a 2 ^^^ rr s.a 13 ^^^ rr s.a 22) + ((s.a &&& s.b) ^^^ (s.a &&& s.c) ^^^ (s.b &&& s.c))
def sstep (s : S8) (k w : UInt32) : S8 := ⟨chx s k w + chy s, s.a, s.b, s.c, s.d + chx s k w, s.e, s.f, s.g⟩
def rnd (ks ws : List UInt32) (s : S8) : S8 := (ks.zip ws).foldl (fun s p => sstep s p.1 p.2) s
def S8.add (s t : S8) : S8 := ⟨s.a + t.a, s.b + t.b, s.c + t.c, s.d + t.d, s.e + t.e, s.f + t.f, s.g + t.g, s.h + t.h⟩
def KS : List UInt32 := [1116352408, 1899447441, 3049323471, 3921009573, 961987163, 1508970993, 2453635748, 2870763221,   3624381080, 310598401, 607225278, 1426881987, 1925078388, 2162078206, 2614888103, 3248222580,   3835390401, 4022224774, 264347078, 604807628, 770255983, 1249150122, 1555081692, 1996064986,   2554220882, 2821834349, 2952996808, 3210313671, 3336571891, 3584528711, 113926993, 338241895,   666307205, 773529912, 1294757372, 1396182291, 1695183700, 1986661051, 2177026350, 2456956037,   2730485921, 2820302411, 3259730800, 3345764771, 3516065817, 3600352804, 4094571909, 275423344,   430227734, 506948616, 659060556, 883997877, 958139571, 1322822218, 1537002063, 1747873779,   1955562222, 2024104815, 2227730452, 2361852424, 2428436474, 2756734187, 3204031479, 3329325298]
@[go_sem] theorem KS_len : KS.length = 64 := rfl
def blockS (s : S8) (blk : List UInt8) : S8 := (rnd KS (wsOf blk) s).add s
@[go_sem] theorem KS_drop : KS.drop 64 = [] := rfl
@[go_sem] theorem g0_eq : tabV .u32 tabL1 = KS.map w32 := rfl
theorem chx_eq (s : S8) (k w : UInt32) : s.h + (rr s.e 6 ^^^ rr s.e 11 ^^^ rr s.e 25) + ((s.e &&& s.f) ^^^ (~~~s.e &&& s.g)) + k + w = chx s k w := by rw [chx]
theorem chy_eq (s : S8) : (rr s.a 2 ^^^ rr s.a 13 ^^^ rr s.a 22) + ((s.a &&& s.b) ^^^ (s.a &&& s.c) ^^^ (s.b &&& s.c)) = chy s := by rw [chy]
theorem rnd_nil (s : S8) : rnd [] [] s = s := by simp only [rnd, List.zip_nil_left, List.foldl_nil]
theorem cells_step (u : S8) (k w : UInt32) : [AVal.int .u32 ((chx u k w + chy u).toNat : Int), .int .u32 (u.a.toNat : Int), .int .u32 (u.b.toNat : Int), .int .u32 (u.c.toNat : Int), .int .u32 ((u.d + chx u k w).toNat : Int), .int .u32 (u.e.toNat : Int), .int .u32 (u.f.toNat : Int), .int .u32 (u.g.toNat : Int)] = [.int .u32 ((sstep u k w).a.toNat : Int), .int .u32 ((sstep u k w).b.toNat : Int), .int .u32 ((sstep u k w).c.toNat : Int), .int .u32 ((sstep u k w).d.toNat : Int), .int .u32 ((sstep u k w).e.toNat : Int), .int .u32 ((sstep u k w).f.toNat : Int), .int .u32 ((sstep u k w).g.toNat : Int), .int .u32 ((sstep u k w).h.toNat : Int)] := rfl
theorem cells_add (u s : S8) : [AVal.int .u32 ((u.a + s.a).toNat : Int), .int .u32 ((u.b + s.b).toNat : Int), .int .u32 ((u.c + s.c).toNat : Int), .int .u32 ((u.d + s.d).toNat : Int), .int .u32 ((u.e + s.e).toNat : Int), .int .u32 ((u.f + s.f).toNat : Int), .int .u32 ((u.g + s.g).toNat : Int), .int .u32 ((u.h + s.h).toNat : Int)] = (u.add s).l.map w32 := rfl
attribute [local irreducible] wsOf KS rr chx chy sstep S8.add
theorem rnd_cons (k w : UInt32) (ks ws : List UInt32) (s : S8) : rnd (k :: ks) (w :: ws) s = rnd ks ws (sstep s k w) := by simp only [rnd, List.zip_cons_cons, List.foldl_cons]
theorem rnd_drop (ks ws : List UInt32) (i : Nat) (h1 : i < ks.length) (h2 : i < ws.length) (u : S8) : rnd (ks.drop i) (ws.drop i) u = rnd (ks.drop (i + 1)) (ws.drop (i + 1)) (sstep u ks[i] ws[i]) := by
  rw [List.drop_eq_getElem_cons h1, List.drop_eq_getElem_cons h2, rnd_cons]
@[go_sem] theorem e70 (s : S8) (blk : List UInt8) (h : blk.length = 64) : fn C 70 [] [.agg (s.l.map w32), .agg (blk.map w8)] = some (.agg ((blockS s blk).l.map w32), []) := by
  rw [fn_text Tryz.func70 rfl rfl Tryz.results70 fq70.1 rfl rfl (okArgs_of (by kernel_rfl) (by kernel_rfl) (by simp only [go_sem]) rfl)]
  have hw := wsOf_len blk
  have hk := KS_len
  have hsl : s.l.map w32 = [.int .u32 (s.a.toNat : Int), .int .u32 (s.b.toNat : Int), .int .u32 (s.c.toNat : Int), .int .u32 (s.d.toNat : Int), .int .u32 (s.e.toNat : Int), .int .u32 (s.f.toNat : Int), .int .u32 (s.g.toNat : Int), .int .u32 (s.h.toNat : Int)] := rfl
  rw [hsl]
  simp -implicitDefEqProofs -dsimp +contextual (maxSteps := 5000000) (disch := first | omega | simp only [go_sem] <;> omega | refine ib ?_; kernel_rfl) only [go_sem, Nat.reduceBEq, Int.reduceNeg, Int.reduceLT, Int.reduceLE, Int.reduceAdd, Int.reduceSub, Int.reduceToNat, Int.reduceMul, Int.reduceMod, Int.reduceTMod, Int.reduceTDiv, Int.reduceEq, Nat.reducePow, Nat.reduceDiv, Nat.reduceShiftRight, Nat.reduceMod, List.reduceReplicate, ↓reduceIte, Nat.reduceEqDiff, Nat.reduceAdd, Nat.reduceSub, Nat.reduceLeDiff, Nat.reduceLT, Nat.reduceMul, h, hw]
  refine (kLoop_rec2 (fun (i : Nat) (u : S8) f H => f 2 = .ptr 102 1 0 0 ∧ f 4 = .ptr 104 1 0 0 ∧ f 5 = .ptr 105 1 0 0 ∧ f 6 = .ptr 106 1 0 0 ∧ f 20 = .int .i64 (i : Int) ∧ H 102 = ⟨1, .live, 8, [[.int .u32 (s.a.toNat : Int), .int .u32 (s.b.toNat : Int), .int .u32 (s.c.toNat : Int), .int .u32 (s.d.toNat : Int), .int .u32 (s.e.toNat : Int), .int .u32 (s.f.toNat : Int), .int .u32 (s.g.toNat : Int), .int .u32 (s.h.toNat : Int)]], false⟩ ∧ H 104 = ⟨1, .live, 8, [List.replicate 8 (.int .u32 0)], false⟩ ∧ H 105 = ⟨1, .live, 64, [(wsOf blk).map w32], false⟩ ∧ H 106 = ⟨1, .live, 8, [[.int .u32 (u.a.toNat : Int), .int .u32 (u.b.toNat : Int), .int .u32 (u.c.toNat : Int), .int .u32 (u.d.toNat : Int), .int .u32 (u.e.toNat : Int), .int .u32 (u.f.toNat : Int), .int .u32 (u.g.toNat : Int), .int .u32 (u.h.toNat : Int)]], false⟩ ∧ i ≤ 64) (fun i _ => 64 - i) (fun i u => some (.agg (((rnd (KS.drop i) ((wsOf blk).drop i) u).add s).l.map w32), [])) ?_ 0 s _ _ ⟨rfl, rfl, rfl, rfl, rfl, rfl, rfl, rfl, rfl, by omega⟩)
  rintro i u f H ⟨f2, f4, f5, f6, f20, H2, H4, H5, H6, hi⟩ ih
  by_cases hl : i < 64
  · simp -implicitDefEqProofs -dsimp +contextual (maxSteps := 5000000) (disch := first | omega | simp only [go_sem] <;> omega | refine ib ?_; kernel_rfl) only [go_sem, Nat.reduceBEq, Int.reduceNeg, Int.reduceLT, Int.reduceLE, Int.reduceAdd, Int.reduceSub, Int.reduceToNat, Int.reduceMul, Int.reduceMod, Int.reduceTMod, Int.reduceTDiv, Int.reduceEq, Nat.reducePow, Nat.reduceDiv, Nat.reduceShiftRight, Nat.reduceMod, List.reduceReplicate, ↓reduceIte, Nat.reduceEqDiff, Nat.reduceAdd, Nat.reduceSub, Nat.reduceLeDiff, Nat.reduceLT, Nat.reduceMul, f2, f4, f5, f6, f20, H2, H4, H5, H6, hl, hw, hk]
    have c1 := chx_eq u (KS[i]'(by rw [hk]; exact hl)) ((wsOf blk)[i]'(by rw [hw]; exact hl))
    have c2 := chy_eq u
    have c3 := cells_step u (KS[i]'(by rw [hk]; exact hl)) ((wsOf blk)[i]'(by rw [hw]; exact hl))
    rw [c1, c2, c3]
    have hfin := congrArg (fun r : S8 => some (AVal.agg ((r.add s).l.map w32), ([] : List AVal))) (rnd_drop KS (wsOf blk) i (by rw [hk]; exact hl) (by rw [hw]; exact hl) u)
    refine Eq.trans ?_ hfin.symm
    refine ih (i + 1) _ _ _ ?_ (by omega)
    exact ⟨f2, f4, f5, f6, rfl, H2, H4, H5, rfl, by omega⟩
  · simp -implicitDefEqProofs -dsimp +contextual (maxSteps := 5000000) (disch := first | omega | simp only [go_sem] <;> omega | refine ib ?_; kernel_rfl) only [go_sem, Nat.reduceBEq, Int.reduceNeg, Int.reduceLT, Int.reduceLE, Int.reduceAdd, Int.reduceSub, Int.reduceToNat, Int.reduceMul, Int.reduceMod, Int.reduceTMod, Int.reduceTDiv, Int.reduceEq, Nat.reducePow, Nat.reduceDiv, Nat.reduceShiftRight, Nat.reduceMod, List.reduceReplicate, ↓reduceIte, Nat.reduceEqDiff, Nat.reduceAdd, Nat.reduceSub, Nat.reduceLeDiff, Nat.reduceLT, Nat.reduceMul, f2, f4, f5, f6, f20, H2, H4, H5, H6, hl, kLoop_eq]
    obtain rfl : i = 64 := by omega
    rw [rnd_nil]
    exact congrArg (fun x => some (AVal.agg x, [])) (cells_add u s)
end Go.Proofs.YtclgfgnhcakhdaaGreatDoor
namespace Go.Proofs.YtclgfgnhcakhdaaGreatDoor
set_option maxHeartbeats 64000000
open Go.Am
set_option linter.unusedSimpArgs false
set_option linter.unusedVariables false
set_option maxRecDepth 100000
theorem div8 (x : UInt32) : ((x.toNat / 8 : Nat) : Int) = ((W32.shr x 3).toNat : Int) := by
  have := u32_lt x
  simp only [W32.shr, UInt32.toNat_ofNat']; omega
theorem div1024 (x : UInt32) : ((x.toNat / 1024 : Nat) : Int) = ((W32.shr x 10).toNat : Int) := by
  have := u32_lt x
  simp only [W32.shr, UInt32.toNat_ofNat']; omega
@[go_sem] theorem wRow_eq (x : UInt32) : wRow x = [.int .u32 (x.toNat : Int)] := rfl
theorem wds_zero (blk : List UInt8) : wds blk 0 = [] := rfl
@[go_sem] theorem wRow_clos (l : List UInt32) : (l.map wRow).all clos = true := by
  rw [List.all_eq_true]; intro r hr
  rw [List.mem_map] at hr
  obtain ⟨x, _, rfl⟩ := hr
  rfl
@[go_sem] theorem e105 : fn C 105 [] [] = some (.slice 1 (KS.map wRow), []) := by
  rw [fn_text Tryz.func105 rfl rfl Tryz.results105 fq105.1 rfl rfl (by kernel_rfl)]
  have h : [[AVal.int .u32 1116352408], [AVal.int .u32 1899447441], [AVal.int .u32 3049323471], [AVal.int .u32 3921009573], [AVal.int .u32 961987163], [AVal.int .u32 1508970993], [AVal.int .u32 2453635748], [AVal.int .u32 2870763221], [AVal.int .u32 3624381080], [AVal.int .u32 310598401], [AVal.int .u32 607225278], [AVal.int .u32 1426881987], [AVal.int .u32 1925078388], [AVal.int .u32 2162078206], [AVal.int .u32 2614888103], [AVal.int .u32 3248222580], [AVal.int .u32 3835390401], [AVal.int .u32 4022224774], [AVal.int .u32 264347078], [AVal.int .u32 604807628], [AVal.int .u32 770255983], [AVal.int .u32 1249150122], [AVal.int .u32 1555081692], [AVal.int .u32 1996064986], [AVal.int .u32 2554220882], [AVal.int .u32 2821834349], [AVal.int .u32 2952996808], [AVal.int .u32 3210313671], [AVal.int .u32 3336571891], [AVal.int .u32 3584528711], [AVal.int .u32 113926993], [AVal.int .u32 338241895], [AVal.int .u32 666307205], [AVal.int .u32 773529912], [AVal.int .u32 1294757372], [AVal.int .u32 1396182291], [AVal.int .u32 1695183700], [AVal.int .u32 1986661051], [AVal.int .u32 2177026350], [AVal.int .u32 2456956037], [AVal.int .u32 2730485921], [AVal.int .u32 2820302411], [AVal.int .u32 3259730800], [AVal.int .u32 3345764771], [AVal.int .u32 3516065817], [AVal.int .u32 3600352804], [AVal.int .u32 4094571909], [AVal.int .u32 275423344], [AVal.int .u32 430227734], [AVal.int .u32 506948616], [AVal.int .u32 659060556], [AVal.int .u32 883997877], [AVal.int .u32 958139571], [AVal.int .u32 1322822218], [AVal.int .u32 1537002063], [AVal.int .u32 1747873779], [AVal.int .u32 1955562222], [AVal.int .u32 2024104815], [AVal.int .u32 2227730452], [AVal.int .u32 2361852424], [AVal.int .u32 2428436474], [AVal.int .u32 2756734187], [AVal.int .u32 3204031479], [AVal.int .u32 3329325298]] = KS.map wRow := by kernel_rfl
  simp -implicitDefEqProofs -dsimp +contextual (maxSteps := 5000000) (disch := first | omega | simp only [go_sem] <;> omega | refine ib ?_; kernel_rfl) only [go_sem, Nat.reduceBEq, Int.reduceNeg, Int.reduceLT, Int.reduceLE, Int.reduceAdd, Int.reduceSub, Int.reduceToNat, Int.reduceMul, Int.reduceMod, Int.reduceTMod, Int.reduceTDiv, Int.reduceEq, Nat.reducePow, Nat.reduceDiv, Nat.reduceShiftRight, Nat.reduceMod, List.reduceReplicate, ↓reduceIte, Nat.reduceEqDiff, Nat.reduceAdd, Nat.reduceSub, Nat.reduceLeDiff, Nat.reduceLT, Nat.reduceMul, h]
theorem rows_add (u s : S8) : [[AVal.int .u32 ((s.a + u.a).toNat : Int)], [AVal.int .u32 ((s.b + u.b).toNat : Int)], [AVal.int .u32 ((s.c + u.c).toNat : Int)], [AVal.int .u32 ((s.d + u.d).toNat : Int)], [AVal.int .u32 ((s.e + u.e).toNat : Int)], [AVal.int .u32 ((s.f + u.f).toNat : Int)], [AVal.int .u32 ((s.g + u.g).toNat : Int)], [AVal.int .u32 ((s.h + u.h).toNat : Int)]] = (u.add s).l.map wRow := by
  rw [UInt32.add_comm s.a, UInt32.add_comm s.b, UInt32.add_comm s.c, UInt32.add_comm s.d, UInt32.add_comm s.e, UInt32.add_comm s.f, UInt32.add_comm s.g, UInt32.add_comm s.h]; rfl
theorem sstep_eq (u : S8) (k w : UInt32) : sstep u k w = ⟨chx u k w + chy u, u.a, u.b, u.c, u.d + chx u k w, u.e, u.f, u.g⟩ := by unfold sstep; rfl
theorem wsOf_eq (blk : List UInt8) : wsOf blk = extW 48 (wds blk 16) := rfl
theorem extW_succ (n : Nat) (l : List UInt32) : extW (n + 1) l = extW n (l ++ [nxt l]) := rfl
theorem extW_zero (l : List UInt32) : extW 0 l = l := rfl
attribute [local irreducible] wsOf KS rr wds nxt extW wd chx chy sstep S8.add
theorem numB_wd (blk : List UInt8) (t : Nat) (h : 4 * t + 4 ≤ blk.length) : numB ((blk.drop (4 * t)).take (4 * t + 4 - 4 * t)) = wd blk t := by
  rw [show 4 * t + 4 - 4 * t = 4 by omega, wd, numB]
  simp only [List.getD_eq_getElem?_getD, List.getElem?_take, List.getElem?_drop]
  simp
@[go_sem] theorem e80 (s : S8) (blk : List UInt8) (h : blk.length = 64) : fn C 80 [] [.slice 1 (s.l.map wRow), .slice 1 (blk.map byteRow)] = some (.slice 1 ((blockS s blk).l.map wRow), []) := by
  rw [fn_text Tryz.func80 rfl rfl Tryz.results80 fq80.1 rfl rfl (by kernel_rfl)]
  have hw := wsOf_len blk
  have hk := KS_len
  have hsl : s.l.map wRow = [[.int .u32 (s.a.toNat : Int)], [.int .u32 (s.b.toNat : Int)], [.int .u32 (s.c.toNat : Int)], [.int .u32 (s.d.toNat : Int)], [.int .u32 (s.e.toNat : Int)], [.int .u32 (s.f.toNat : Int)], [.int .u32 (s.g.toNat : Int)], [.int .u32 (s.h.toNat : Int)]] := rfl
  rw [hsl]
  simp -implicitDefEqProofs -dsimp +contextual (maxSteps := 5000000) (disch := first | omega | simp only [go_sem] <;> omega | refine ib ?_; kernel_rfl) only [go_sem, Nat.reduceBEq, Int.reduceNeg, Int.reduceLT, Int.reduceLE, Int.reduceAdd, Int.reduceSub, Int.reduceToNat, Int.reduceMul, Int.reduceMod, Int.reduceTMod, Int.reduceTDiv, Int.reduceEq, Nat.reducePow, Nat.reduceDiv, Nat.reduceShiftRight, Nat.reduceMod, List.reduceReplicate, ↓reduceIte, Nat.reduceEqDiff, Nat.reduceAdd, Nat.reduceSub, Nat.reduceLeDiff, Nat.reduceLT, Nat.reduceMul, h, hw]
  refine (kLoop_rec2 (fun (t : Nat) (l : List UInt32) f H => f 0 = .slice 1 [[.int .u32 (s.a.toNat : Int)], [.int .u32 (s.b.toNat : Int)], [.int .u32 (s.c.toNat : Int)], [.int .u32 (s.d.toNat : Int)], [.int .u32 (s.e.toNat : Int)], [.int .u32 (s.f.toNat : Int)], [.int .u32 (s.g.toNat : Int)], [.int .u32 (s.h.toNat : Int)]] ∧ f 1 = .slice 1 (blk.map byteRow) ∧ f 6 = .int .i64 (t : Int) ∧ ((t = 0 ∧ f 5 = .sc (.slice none 0 0) ∧ H 137 = ⟨0, .dead, 0, [], false⟩) ∨ (t ≠ 0 ∧ f 5 = .osl 137 t 0 t ∧ H 137 = ⟨t, .live, 1, l.map wRow, false⟩)) ∧ l.length = t ∧ t ≤ 64 ∧ (t ≤ 16 → l = wds blk t)) (fun t _ => 64 - t) (fun t l => some (.slice 1 (((rnd KS (if t ≤ 16 then wsOf blk else extW (64 - t) l) s).add s).l.map wRow), [])) ?_ 0 [] _ _ ⟨rfl, rfl, rfl, .inl ⟨rfl, rfl, rfl⟩, rfl, by omega, fun _ => by rw [wds]; rfl⟩)
  rintro t l f H ⟨f0, f1, f6, hc, hlen, ht, hwd⟩ ih
  by_cases hlt : t < 64
  · by_cases h16 : t < 16
    · rcases hc with ⟨rfl, f5, H137⟩ | ⟨h0, f5, H137⟩
      · simp -implicitDefEqProofs -dsimp +contextual (maxSteps := 5000000) (disch := first | omega | simp only [go_sem] <;> omega | refine ib ?_; kernel_rfl) only [go_sem, Nat.reduceBEq, Int.reduceNeg, Int.reduceLT, Int.reduceLE, Int.reduceAdd, Int.reduceSub, Int.reduceToNat, Int.reduceMul, Int.reduceMod, Int.reduceTMod, Int.reduceTDiv, Int.reduceEq, Nat.reducePow, Nat.reduceDiv, Nat.reduceShiftRight, Nat.reduceMod, List.reduceReplicate, ↓reduceIte, Nat.reduceEqDiff, Nat.reduceAdd, Nat.reduceSub, Nat.reduceLeDiff, Nat.reduceLT, Nat.reduceMul, f0, f1, f5, f6, H137, h, hlt, h16]
        have hn : numB (blk.take 4) = wd blk 0 := by simpa using numB_wd blk 0 (by omega)
        refine Eq.trans (ih 1 [wd blk 0] _ _ ⟨f0, f1, rfl, .inr ⟨by omega, by simp [upd], ?_⟩, rfl, by omega, fun _ => ?_⟩ (by omega)) ?_
        · rw [hn]; rfl
        · rw [show (1 : Nat) = 0 + 1 from rfl, wds_succ, wds_zero]; rfl
        · rw [if_pos (by decide)]
      · have hn := numB_wd blk t (by omega)
        simp -implicitDefEqProofs -dsimp +contextual (maxSteps := 5000000) (disch := first | omega | simp only [go_sem] <;> omega | refine ib ?_; kernel_rfl) only [go_sem, Nat.reduceBEq, Int.reduceNeg, Int.reduceLT, Int.reduceLE, Int.reduceAdd, Int.reduceSub, Int.reduceToNat, Int.reduceMul, Int.reduceMod, Int.reduceTMod, Int.reduceTDiv, Int.reduceEq, Nat.reducePow, Nat.reduceDiv, Nat.reduceShiftRight, Nat.reduceMod, List.reduceReplicate, ↓reduceIte, Nat.reduceEqDiff, Nat.reduceAdd, Nat.reduceSub, Nat.reduceLeDiff, Nat.reduceLT, Nat.reduceMul, f0, f1, f5, f6, H137, h, hlt, h16, hlen]
        rw [hn]
        refine Eq.trans (ih (t + 1) (l ++ [wd blk t]) _ _ ⟨f0, f1, rfl, .inr ⟨by omega, by simp [upd], ?_⟩, by simp [hlen], by omega, fun _ => ?_⟩ (by omega)) ?_
        · rw [List.map_append]; rfl
        · rw [wds_succ, hwd (by omega)]
        · rw [if_pos (by omega)]
          try rw [if_pos (by omega)]
    · rcases hc with ⟨rfl, f5, H137⟩ | ⟨h0, f5, H137⟩
      · exact absurd (by decide) h16
      · simp -implicitDefEqProofs -dsimp +contextual (maxSteps := 5000000) (disch := first | omega | simp only [go_sem] <;> omega | refine ib ?_; kernel_rfl) only [go_sem, Nat.reduceBEq, Int.reduceNeg, Int.reduceLT, Int.reduceLE, Int.reduceAdd, Int.reduceSub, Int.reduceToNat, Int.reduceMul, Int.reduceMod, Int.reduceTMod, Int.reduceTDiv, Int.reduceEq, Nat.reducePow, Nat.reduceDiv, Nat.reduceShiftRight, Nat.reduceMod, List.reduceReplicate, ↓reduceIte, Nat.reduceEqDiff, Nat.reduceAdd, Nat.reduceSub, Nat.reduceLeDiff, Nat.reduceLT, Nat.reduceMul, f0, f1, f5, f6, H137, h, hlt, h16, hlen, div8, div1024]
        have hn : l[t - 16] + l[t - 7] + (rr l[t - 15] 7 ^^^ rr l[t - 15] 18 ^^^ W32.shr l[t - 15] 3) + (rr l[t - 2] 17 ^^^ rr l[t - 2] 19 ^^^ W32.shr l[t - 2] 10) = nxt l := by
          subst hlen
          rw [nxt, getD_of _ _ _ (by omega), getD_of _ _ _ (by omega), getD_of _ _ _ (by omega), getD_of _ _ _ (by omega), sg0, sg1]
        have hF : (if t ≤ 16 then wsOf blk else extW (64 - t) l) = extW (64 - (t + 1)) (l ++ [nxt l]) := by
          rw [← extW_succ, show 64 - (t + 1) + 1 = 64 - t by omega]
          split
          · obtain rfl : t = 16 := by omega
            rw [wsOf_eq, hwd (by omega)]
          · rfl
        rw [hn, hF]
        refine Eq.trans (ih (t + 1) (l ++ [nxt l]) _ _ ⟨f0, f1, rfl, .inr ⟨by omega, by simp [upd], ?_⟩, by simp [hlen], by omega, fun _ => by omega⟩ (by omega)) ?_
        · rw [List.map_append]; rfl
        · rw [if_neg (by omega)]
  · obtain rfl : t = 64 := by omega
    rcases hc with ⟨h0, _⟩ | ⟨h0, f5, H137⟩
    · omega
    rw [if_neg (by omega), show 64 - 64 = 0 from rfl, extW_zero]
    simp -implicitDefEqProofs -dsimp +contextual (maxSteps := 5000000) (disch := first | omega | simp only [go_sem] <;> omega | refine ib ?_; kernel_rfl) only [go_sem, Nat.reduceBEq, Int.reduceNeg, Int.reduceLT, Int.reduceLE, Int.reduceAdd, Int.reduceSub, Int.reduceToNat, Int.reduceMul, Int.reduceMod, Int.reduceTMod, Int.reduceTDiv, Int.reduceEq, Nat.reducePow, Nat.reduceDiv, Nat.reduceShiftRight, Nat.reduceMod, List.reduceReplicate, ↓reduceIte, Nat.reduceEqDiff, Nat.reduceAdd, Nat.reduceSub, Nat.reduceLeDiff, Nat.reduceLT, Nat.reduceMul, f0, f1, f5, f6, H137, h, hlt, hlen, hk]
    refine (kLoop_rec2 (fun (i : Nat) (u : S8) f H => f 0 = .slice 1 [[.int .u32 (s.a.toNat : Int)], [.int .u32 (s.b.toNat : Int)], [.int .u32 (s.c.toNat : Int)], [.int .u32 (s.d.toNat : Int)], [.int .u32 (s.e.toNat : Int)], [.int .u32 (s.f.toNat : Int)], [.int .u32 (s.g.toNat : Int)], [.int .u32 (s.h.toNat : Int)]] ∧ f 5 = .osl 137 64 0 64 ∧ f 9 = .slice 1 (KS.map wRow) ∧ f 10 = .int .u32 (u.a.toNat : Int) ∧ f 11 = .int .u32 (u.b.toNat : Int) ∧ f 12 = .int .u32 (u.c.toNat : Int) ∧ f 13 = .int .u32 (u.d.toNat : Int) ∧ f 14 = .int .u32 (u.e.toNat : Int) ∧ f 15 = .int .u32 (u.f.toNat : Int) ∧ f 16 = .int .u32 (u.g.toNat : Int) ∧ f 17 = .int .u32 (u.h.toNat : Int) ∧ f 18 = .int .i64 (i : Int) ∧ H 137 = ⟨64, .live, 1, l.map wRow, false⟩ ∧ i ≤ 64) (fun i _ => 64 - i) (fun i u => some (.slice 1 (((rnd (KS.drop i) (l.drop i) u).add s).l.map wRow), [])) ?_ 0 s _ _ ⟨f0, f5, rfl, rfl, rfl, rfl, rfl, rfl, rfl, rfl, rfl, rfl, H137, by omega⟩)
    rintro i u f H ⟨f0, f5, f9, g10, g11, g12, g13, g14, g15, g16, g17, f18, H137, hi⟩ ih
    by_cases hl : i < 64
    · simp -implicitDefEqProofs -dsimp +contextual (maxSteps := 5000000) (disch := first | omega | simp only [go_sem] <;> omega | refine ib ?_; kernel_rfl) only [go_sem, Nat.reduceBEq, Int.reduceNeg, Int.reduceLT, Int.reduceLE, Int.reduceAdd, Int.reduceSub, Int.reduceToNat, Int.reduceMul, Int.reduceMod, Int.reduceTMod, Int.reduceTDiv, Int.reduceEq, Nat.reducePow, Nat.reduceDiv, Nat.reduceShiftRight, Nat.reduceMod, List.reduceReplicate, ↓reduceIte, Nat.reduceEqDiff, Nat.reduceAdd, Nat.reduceSub, Nat.reduceLeDiff, Nat.reduceLT, Nat.reduceMul, f0, f5, f9, g10, g11, g12, g13, g14, g15, g16, g17, f18, H137, hl, hlen, hk]
      have c1 := chx_eq u (KS[i]'(by rw [hk]; exact hl)) (l[i]'(by rw [hlen]; exact hl))
      have c2 := chy_eq u
      have c3 := rnd_drop KS l i (by rw [hk]; exact hl) (by rw [hlen]; exact hl) u
      rw [sstep_eq] at c3
      rw [c1, c2, c3]
      refine ih (i + 1) _ _ _ ?_ (by omega)
      exact ⟨f0, f5, f9, rfl, rfl, rfl, rfl, rfl, rfl, rfl, rfl, rfl, H137, by omega⟩
    · simp -implicitDefEqProofs -dsimp +contextual (maxSteps := 5000000) (disch := first | omega | simp only [go_sem] <;> omega | refine ib ?_; kernel_rfl) only [go_sem, Nat.reduceBEq, Int.reduceNeg, Int.reduceLT, Int.reduceLE, Int.reduceAdd, Int.reduceSub, Int.reduceToNat, Int.reduceMul, Int.reduceMod, Int.reduceTMod, Int.reduceTDiv, Int.reduceEq, Nat.reducePow, Nat.reduceDiv, Nat.reduceShiftRight, Nat.reduceMod, List.reduceReplicate, ↓reduceIte, Nat.reduceEqDiff, Nat.reduceAdd, Nat.reduceSub, Nat.reduceLeDiff, Nat.reduceLT, Nat.reduceMul, f0, f5, f9, g10, g11, g12, g13, g14, g15, g16, g17, f18, H137, hl, hlen, hk]
      obtain rfl : i = 64 := by omega
      rw [rnd_nil]
      exact congrArg (fun x => some (AVal.slice 1 x, ([] : List AVal))) (rows_add u s)
end Go.Proofs.YtclgfgnhcakhdaaGreatDoor
namespace Go.Proofs.YtclgfgnhcakhdaaGreatDoor
set_option maxHeartbeats 64000000
open Go.Am
set_option linter.unusedSimpArgs false
set_option linter.unusedVariables false
set_option maxRecDepth 100000
def padD (n : Nat) : List UInt8 := 128 :: (List.replicate ((119 - n % 64) % 64) 0 ++ beN 8 (n * 8))
@[go_sem] theorem e68 (n : Nat) (h : n ≤ 1000000000000) : fn C 68 [] [.int .i64 (n : Int)] = some (.slice 1 ((padD n).map byteRow), []) := by
  rw [fn_text Tryz.func68 rfl rfl Tryz.results68 fq68.1 rfl rfl (by kernel_rfl)]
  have h119 : (119 : Int) - ((n % 64 : Nat) : Int) = ((119 - n % 64 : Nat) : Int) := by omega
  simp -implicitDefEqProofs -dsimp +contextual (maxSteps := 5000000) (disch := first | omega | simp only [go_sem] <;> omega | refine ib ?_; kernel_rfl) only [go_sem, Nat.reduceBEq, Int.reduceNeg, Int.reduceLT, Int.reduceLE, Int.reduceAdd, Int.reduceSub, Int.reduceToNat, Int.reduceMul, Int.reduceMod, Int.reduceTMod, Int.reduceTDiv, Int.reduceEq, Nat.reducePow, Nat.reduceDiv, Nat.reduceShiftRight, Nat.reduceMod, List.reduceReplicate, ↓reduceIte, Nat.reduceEqDiff, Nat.reduceAdd, Nat.reduceSub, Nat.reduceLeDiff, Nat.reduceLT, Nat.reduceMul, h119, kLoop_eq, Nat.not_lt_zero]
  have b1 : ((n * 8 / 72057594037927936 : Nat) : Int) = ((UInt8.ofNat (n * 8 / 72057594037927936)).toNat : Int) := by simp only [UInt8.toNat_ofNat']; omega
  have b2 : ((n * 8 / 281474976710656 : Nat) : Int) = ((UInt8.ofNat (n * 8 / 281474976710656)).toNat : Int) := by simp only [UInt8.toNat_ofNat']; omega
  have b3 : ((n * 8 / 1099511627776 : Nat) : Int) = ((UInt8.ofNat (n * 8 / 1099511627776)).toNat : Int) := by simp only [UInt8.toNat_ofNat']; omega
  rw [b1, b2, b3, u8_wrap, u8_wrap, u8_wrap, u8_wrap, u8_wrap]
  simp only [padD, beN, show List.range 8 = [0, 1, 2, 3, 4, 5, 6, 7] from rfl, List.map_cons, List.map_nil, List.map_append, List.append_assoc, List.cons_append, List.nil_append, List.append_nil]
  rfl
@[go_sem] theorem e78 (n : Nat) (h : n ≤ 1000000000000) : fn C 78 [] [.int .i64 (n : Int)] = some (.slice 1 ((padD n).map byteRow), []) := by
  rw [fn_text Tryz.func78 rfl rfl Tryz.results78 fq78.1 rfl rfl (by kernel_rfl)]
  simp -implicitDefEqProofs -dsimp +contextual (maxSteps := 5000000) (disch := first | omega | simp only [go_sem] <;> omega | refine ib ?_; kernel_rfl) only [go_sem, Nat.reduceBEq, Int.reduceNeg, Int.reduceLT, Int.reduceLE, Int.reduceAdd, Int.reduceSub, Int.reduceToNat, Int.reduceMul, Int.reduceMod, Int.reduceTMod, Int.reduceTDiv, Int.reduceEq, Nat.reducePow, Nat.reduceDiv, Nat.reduceShiftRight, Nat.reduceMod, List.reduceReplicate, ↓reduceIte, Nat.reduceEqDiff, Nat.reduceAdd, Nat.reduceSub, Nat.reduceLeDiff, Nat.reduceLT, Nat.reduceMul, Nat.not_lt_zero]
  obtain ⟨Z, hZ⟩ : ∃ Z, Z = (119 - n % 64) % 64 := ⟨_, rfl⟩
  refine (kLoop_rec (fun (k : Nat) f H => f 0 = .int .i64 (n : Int) ∧ f 3 = .osl 108 (k + 1) 0 (k + 1) ∧ H 108 = ⟨k + 1, .live, 1, (128 :: List.replicate k (0 : UInt8)).map byteRow, false⟩ ∧ k ≤ Z) (fun k => Z - k) (fun _ => some (.slice 1 ((padD n).map byteRow), [])) ?_ 0 _ _ ⟨rfl, rfl, rfl, by omega⟩)
  rintro k f H ⟨f0, f3, H8, hk⟩ ih
  by_cases hl : (n % 64 + (k + 1) + 8) % 64 = 0
  · obtain rfl : k = Z := by omega
    simp -implicitDefEqProofs -dsimp +contextual (maxSteps := 5000000) (disch := first | omega | simp only [go_sem] <;> omega | refine ib ?_; kernel_rfl) only [go_sem, Nat.reduceBEq, Int.reduceNeg, Int.reduceLT, Int.reduceLE, Int.reduceAdd, Int.reduceSub, Int.reduceToNat, Int.reduceMul, Int.reduceMod, Int.reduceTMod, Int.reduceTDiv, Int.reduceEq, Nat.reducePow, Nat.reduceDiv, Nat.reduceShiftRight, Nat.reduceMod, List.reduceReplicate, ↓reduceIte, Nat.reduceEqDiff, Nat.reduceAdd, Nat.reduceSub, Nat.reduceLeDiff, Nat.reduceLT, Nat.reduceMul, f0, f3, H8, hl, kLoop_eq]
    have hm : ∀ m : Nat, ((m % 256 : Nat) : Int) = ((UInt8.ofNat m).toNat : Int) := fun m => by simp [UInt8.toNat_ofNat']
    rw [hm, hm, hm, hm, hm, hm, hm, hm, hZ]
    simp only [padD, beN, show List.range 8 = [0, 1, 2, 3, 4, 5, 6, 7] from rfl, List.map_cons, List.map_nil, List.map_append, List.append_assoc, List.cons_append, List.nil_append, List.append_nil]
    rfl
  · simp -implicitDefEqProofs -dsimp +contextual (maxSteps := 5000000) (disch := first | omega | simp only [go_sem] <;> omega | refine ib ?_; kernel_rfl) only [go_sem, Nat.reduceBEq, Int.reduceNeg, Int.reduceLT, Int.reduceLE, Int.reduceAdd, Int.reduceSub, Int.reduceToNat, Int.reduceMul, Int.reduceMod, Int.reduceTMod, Int.reduceTDiv, Int.reduceEq, Nat.reducePow, Nat.reduceDiv, Nat.reduceShiftRight, Nat.reduceMod, List.reduceReplicate, ↓reduceIte, Nat.reduceEqDiff, Nat.reduceAdd, Nat.reduceSub, Nat.reduceLeDiff, Nat.reduceLT, Nat.reduceMul, f0, f3, H8, hl]
    refine ih (k + 1) _ _ ⟨f0, rfl, ?_, by omega⟩ (by omega)
    rw [List.replicate_succ', List.map_cons, List.map_append]
    rfl
end Go.Proofs.YtclgfgnhcakhdaaGreatDoor
namespace Go.Proofs.YtclgfgnhcakhdaaGreatDoor
set_option maxHeartbeats 64000000
open Go.Am
set_option linter.unusedSimpArgs false
set_option linter.unusedVariables false
set_option maxRecDepth 100000
def H0 : S8 := ⟨1779033703, 3144134277, 1013904242, 2773480762, 1359893119, 2600822924, 528734635, 1541459225⟩
theorem H0_w : [AVal.int .u32 1779033703, .int .u32 3144134277, .int .u32 1013904242, .int .u32 2773480762, .int .u32 1359893119, .int .u32 2600822924, .int .u32 528734635, .int .u32 1541459225] = H0.l.map w32 := by kernel_rfl
theorem H0_r : [[AVal.int .u32 1779033703], [.int .u32 3144134277], [.int .u32 1013904242], [.int .u32 2773480762], [.int .u32 1359893119], [.int .u32 2600822924], [.int .u32 528734635], [.int .u32 1541459225]] = H0.l.map wRow := by kernel_rfl
@[go_sem] theorem S8_len (s : S8) : s.l.length = 8 := rfl
def stS (all : List UInt8) : Nat → S8
  | 0 => H0
  | i + 1 => blockS (stS all i) ((all.drop (64 * i)).take 64)
def be8 (x : UInt32) : List UInt8 := [(W32.shr x 24).toUInt8, (W32.shr x 16).toUInt8, (W32.shr x 8).toUInt8, x.toUInt8]
def outS (s : S8) : List UInt8 := s.l.flatMap be8
def allB (b : List UInt8) : List UInt8 := b ++ padD b.length
def sumB (b : List UInt8) : List UInt8 := outS (stS (allB b) ((allB b).length / 64))
theorem padD_len (n : Nat) : (padD n).length = (119 - n % 64) % 64 + 9 := by simp [padD, beN_len]
theorem allB_len (b : List UInt8) : (allB b).length = b.length + ((119 - b.length % 64) % 64 + 9) := by rw [allB, List.length_append, padD_len]
theorem allB_mod (b : List UInt8) : (allB b).length % 64 = 0 := by rw [allB_len]; omega
@[go_sem] theorem e69 : fn C 69 [] [] = some (.agg (H0.l.map w32), []) := by
  rw [fn_text Tryz.func69 rfl rfl Tryz.results69 fq69.1 rfl rfl (by kernel_rfl)]
  simp -implicitDefEqProofs -dsimp +contextual (maxSteps := 5000000) (disch := first | omega | simp only [go_sem] <;> omega | refine ib ?_; kernel_rfl) only [go_sem, Nat.reduceBEq, Int.reduceNeg, Int.reduceLT, Int.reduceLE, Int.reduceAdd, Int.reduceSub, Int.reduceToNat, Int.reduceMul, Int.reduceMod, Int.reduceTMod, Int.reduceTDiv, Int.reduceEq, Nat.reducePow, Nat.reduceDiv, Nat.reduceShiftRight, Nat.reduceMod, List.reduceReplicate, ↓reduceIte, Nat.reduceEqDiff, Nat.reduceAdd, Nat.reduceSub, Nat.reduceLeDiff, Nat.reduceLT, Nat.reduceMul, H0_w]
@[go_sem] theorem e79 : fn C 79 [] [] = some (.slice 1 (H0.l.map wRow), []) := by
  rw [fn_text Tryz.func79 rfl rfl Tryz.results79 fq79.1 rfl rfl (by kernel_rfl)]
  simp -implicitDefEqProofs -dsimp +contextual (maxSteps := 5000000) (disch := first | omega | simp only [go_sem] <;> omega | refine ib ?_; kernel_rfl) only [go_sem, Nat.reduceBEq, Int.reduceNeg, Int.reduceLT, Int.reduceLE, Int.reduceAdd, Int.reduceSub, Int.reduceToNat, Int.reduceMul, Int.reduceMod, Int.reduceTMod, Int.reduceTDiv, Int.reduceEq, Nat.reducePow, Nat.reduceDiv, Nat.reduceShiftRight, Nat.reduceMod, List.reduceReplicate, ↓reduceIte, Nat.reduceEqDiff, Nat.reduceAdd, Nat.reduceSub, Nat.reduceLeDiff, Nat.reduceLT, Nat.reduceMul, H0_r]
attribute [local irreducible] blockS padD
@[go_sem] theorem e46 (b : List UInt8) (h : b.length ≤ 1000000) : fn C 46 [] [.slice 1 (b.map byteRow)] = some (.slice 1 ((sumB b).map byteRow), []) := by
  rw [fn_text Tryz.func46 rfl rfl Tryz.results46 fq46.1 rfl rfl (by kernel_rfl)]
  have hp := padD_len b.length
  simp -implicitDefEqProofs -dsimp +contextual (maxSteps := 5000000) (disch := first | omega | simp only [go_sem] <;> omega | refine ib ?_; kernel_rfl) only [go_sem, Nat.reduceBEq, Int.reduceNeg, Int.reduceLT, Int.reduceLE, Int.reduceAdd, Int.reduceSub, Int.reduceToNat, Int.reduceMul, Int.reduceMod, Int.reduceTMod, Int.reduceTDiv, Int.reduceEq, Nat.reducePow, Nat.reduceDiv, Nat.reduceShiftRight, Nat.reduceMod, List.reduceReplicate, ↓reduceIte, Nat.reduceEqDiff, Nat.reduceAdd, Nat.reduceSub, Nat.reduceLeDiff, Nat.reduceLT, Nat.reduceMul, h, hp]
  have hmod := allB_mod b
  have hAl := allB_len b
  rw [show b ++ padD b.length = allB b from rfl, sumB]
  generalize hA : allB b = A at *
  have hAm : A.length ≤ 1001000 := by omega
  obtain ⟨m, hm⟩ : ∃ m, A.length = 64 * m := ⟨A.length / 64, by omega⟩
  rw [show A.length / 64 = m by omega]
  refine (kLoop_rec (fun (i : Nat) f H => f 3 = .slice 1 (A.map byteRow) ∧ f 4 = .ptr 104 1 0 0 ∧ f 5 = .int .i64 ((64 * i : Nat) : Int) ∧ H 104 = ⟨1, .live, 8, [(stS A i).l.map w32], false⟩ ∧ (H 148).gen = 0 ∧ i ≤ m) (fun i => m - i) (fun _ => some (.slice 1 ((outS (stS A m)).map byteRow), [])) ?_ 0 _ _ ⟨rfl, rfl, rfl, rfl, rfl, by omega⟩)
  rintro i f H ⟨f3, f4, f5, H4, g, hi⟩ ih
  by_cases hl : 64 * i + 64 ≤ A.length
  · simp -implicitDefEqProofs -dsimp +contextual (maxSteps := 5000000) (disch := first | omega | simp only [go_sem] <;> omega | refine ib ?_; kernel_rfl) only [go_sem, Nat.reduceBEq, Int.reduceNeg, Int.reduceLT, Int.reduceLE, Int.reduceAdd, Int.reduceSub, Int.reduceToNat, Int.reduceMul, Int.reduceMod, Int.reduceTMod, Int.reduceTDiv, Int.reduceEq, Nat.reducePow, Nat.reduceDiv, Nat.reduceShiftRight, Nat.reduceMod, List.reduceReplicate, ↓reduceIte, Nat.reduceEqDiff, Nat.reduceAdd, Nat.reduceSub, Nat.reduceLeDiff, Nat.reduceLT, Nat.reduceMul, f3, f4, f5, H4, g, hl]
    refine ih (i + 1) _ _ ⟨f3, f4, by simp only [upd, if_true]; congr 1, ?_, g, by omega⟩ (by omega)
    rw [stS, show 64 * i + 64 - 64 * i = 64 by omega]
    rfl
  · obtain rfl : i = m := by omega
    simp -implicitDefEqProofs -dsimp +contextual (maxSteps := 5000000) (disch := first | omega | simp only [go_sem] <;> omega | refine ib ?_; kernel_rfl) only [go_sem, Nat.reduceBEq, Int.reduceNeg, Int.reduceLT, Int.reduceLE, Int.reduceAdd, Int.reduceSub, Int.reduceToNat, Int.reduceMul, Int.reduceMod, Int.reduceTMod, Int.reduceTDiv, Int.reduceEq, Nat.reducePow, Nat.reduceDiv, Nat.reduceShiftRight, Nat.reduceMod, List.reduceReplicate, ↓reduceIte, Nat.reduceEqDiff, Nat.reduceAdd, Nat.reduceSub, Nat.reduceLeDiff, Nat.reduceLT, Nat.reduceMul, f3, f4, f5, H4, g, hl]
    generalize stS A i = s
    have hsl : s.l.map w32 = [.int .u32 (s.a.toNat : Int), .int .u32 (s.b.toNat : Int), .int .u32 (s.c.toNat : Int), .int .u32 (s.d.toNat : Int), .int .u32 (s.e.toNat : Int), .int .u32 (s.f.toNat : Int), .int .u32 (s.g.toNat : Int), .int .u32 (s.h.toNat : Int)] := rfl
    rw [hsl]
    simp -implicitDefEqProofs -dsimp +contextual (maxSteps := 5000000) (disch := first | omega | simp only [go_sem] <;> omega | refine ib ?_; kernel_rfl) only [go_sem, Nat.reduceBEq, Int.reduceNeg, Int.reduceLT, Int.reduceLE, Int.reduceAdd, Int.reduceSub, Int.reduceToNat, Int.reduceMul, Int.reduceMod, Int.reduceTMod, Int.reduceTDiv, Int.reduceEq, Nat.reducePow, Nat.reduceDiv, Nat.reduceShiftRight, Nat.reduceMod, List.reduceReplicate, ↓reduceIte, Nat.reduceEqDiff, Nat.reduceAdd, Nat.reduceSub, Nat.reduceLeDiff, Nat.reduceLT, Nat.reduceMul, kLoop_eq, f3, H4, g]
    rfl
@[go_sem] theorem e56 (b : List UInt8) (h : b.length ≤ 1000000) : fn C 56 [] [.slice 1 (b.map byteRow)] = some (.usl 1 ((sumB b).map byteRow), []) := by
  rw [fn_text Tryz.func56 rfl rfl Tryz.results56 fq56.1 rfl rfl (by kernel_rfl)]
  have hp := padD_len b.length
  simp -implicitDefEqProofs -dsimp +contextual (maxSteps := 5000000) (disch := first | omega | simp only [go_sem] <;> omega | refine ib ?_; kernel_rfl) only [go_sem, Nat.reduceBEq, Int.reduceNeg, Int.reduceLT, Int.reduceLE, Int.reduceAdd, Int.reduceSub, Int.reduceToNat, Int.reduceMul, Int.reduceMod, Int.reduceTMod, Int.reduceTDiv, Int.reduceEq, Nat.reducePow, Nat.reduceDiv, Nat.reduceShiftRight, Nat.reduceMod, List.reduceReplicate, ↓reduceIte, Nat.reduceEqDiff, Nat.reduceAdd, Nat.reduceSub, Nat.reduceLeDiff, Nat.reduceLT, Nat.reduceMul, h, hp]
  have hmod := allB_mod b
  have hAl := allB_len b
  rw [show b ++ padD b.length = allB b from rfl, sumB, ← hAl]
  generalize hA : allB b = A at *
  have hAm : A.length ≤ 1001000 := by omega
  obtain ⟨m, hm⟩ : ∃ m, A.length = 64 * m := ⟨A.length / 64, by omega⟩
  rw [show A.length / 64 = m by omega]
  refine (kLoop_rec (fun (i : Nat) f H => f 3 = .osl 108 3 0 A.length ∧ f 4 = .slice 1 ((stS A i).l.map wRow) ∧ f 5 = .int .i64 ((64 * i : Nat) : Int) ∧ (H 108 = ⟨3, .live, 1, A.map byteRow, false⟩ ∨ H 108 = ⟨3, .froz, 1, A.map byteRow, false⟩) ∧ (H 157).gen = 0 ∧ i ≤ m) (fun i => m - i) (fun _ => some (.usl 1 ((outS (stS A m)).map byteRow), [])) ?_ 0 _ _ ⟨rfl, rfl, rfl, .inl rfl, rfl, by omega⟩)
  rintro i f H ⟨f3, f4, f5, H8, g, hi⟩ ih
  by_cases hl : 64 * i < A.length
  · have h64 : 64 * i + 64 ≤ A.length := by omega
    rcases H8 with H8 | H8
    · simp -implicitDefEqProofs -dsimp +contextual (maxSteps := 5000000) (disch := first | omega | simp only [go_sem] <;> omega | refine ib ?_; kernel_rfl) only [go_sem, Nat.reduceBEq, Int.reduceNeg, Int.reduceLT, Int.reduceLE, Int.reduceAdd, Int.reduceSub, Int.reduceToNat, Int.reduceMul, Int.reduceMod, Int.reduceTMod, Int.reduceTDiv, Int.reduceEq, Nat.reducePow, Nat.reduceDiv, Nat.reduceShiftRight, Nat.reduceMod, List.reduceReplicate, ↓reduceIte, Nat.reduceEqDiff, Nat.reduceAdd, Nat.reduceSub, Nat.reduceLeDiff, Nat.reduceLT, Nat.reduceMul, f3, f4, f5, H8, g, hl, h64]
      refine ih (i + 1) _ _ ⟨f3, ?_, by simp only [upd, if_true]; congr 1, .inr rfl, g, by omega⟩ (by omega)
      rw [stS, show 64 * i + 64 - 64 * i = 64 by omega]
      rfl
    · simp -implicitDefEqProofs -dsimp +contextual (maxSteps := 5000000) (disch := first | omega | simp only [go_sem] <;> omega | refine ib ?_; kernel_rfl) only [go_sem, Nat.reduceBEq, Int.reduceNeg, Int.reduceLT, Int.reduceLE, Int.reduceAdd, Int.reduceSub, Int.reduceToNat, Int.reduceMul, Int.reduceMod, Int.reduceTMod, Int.reduceTDiv, Int.reduceEq, Nat.reducePow, Nat.reduceDiv, Nat.reduceShiftRight, Nat.reduceMod, List.reduceReplicate, ↓reduceIte, Nat.reduceEqDiff, Nat.reduceAdd, Nat.reduceSub, Nat.reduceLeDiff, Nat.reduceLT, Nat.reduceMul, f3, f4, f5, H8, g, hl, h64]
      refine ih (i + 1) _ _ ⟨f3, ?_, by simp only [upd, if_true]; congr 1, .inr rfl, g, by omega⟩ (by omega)
      rw [stS, show 64 * i + 64 - 64 * i = 64 by omega]
      rfl
  · obtain rfl : i = m := by omega
    generalize stS A i = s at *
    have hsl : s.l.map wRow = [[.int .u32 (s.a.toNat : Int)], [.int .u32 (s.b.toNat : Int)], [.int .u32 (s.c.toNat : Int)], [.int .u32 (s.d.toNat : Int)], [.int .u32 (s.e.toNat : Int)], [.int .u32 (s.f.toNat : Int)], [.int .u32 (s.g.toNat : Int)], [.int .u32 (s.h.toNat : Int)]] := rfl
    rw [hsl] at f4
    rcases H8 with H8 | H8
    · simp -implicitDefEqProofs -dsimp +contextual (maxSteps := 5000000) (disch := first | omega | simp only [go_sem] <;> omega | refine ib ?_; kernel_rfl) only [go_sem, Nat.reduceBEq, Int.reduceNeg, Int.reduceLT, Int.reduceLE, Int.reduceAdd, Int.reduceSub, Int.reduceToNat, Int.reduceMul, Int.reduceMod, Int.reduceTMod, Int.reduceTDiv, Int.reduceEq, Nat.reducePow, Nat.reduceDiv, Nat.reduceShiftRight, Nat.reduceMod, List.reduceReplicate, ↓reduceIte, Nat.reduceEqDiff, Nat.reduceAdd, Nat.reduceSub, Nat.reduceLeDiff, Nat.reduceLT, Nat.reduceMul, f3, f4, f5, H8, g, hl, kLoop_eq]
      rfl
    · simp -implicitDefEqProofs -dsimp +contextual (maxSteps := 5000000) (disch := first | omega | simp only [go_sem] <;> omega | refine ib ?_; kernel_rfl) only [go_sem, Nat.reduceBEq, Int.reduceNeg, Int.reduceLT, Int.reduceLE, Int.reduceAdd, Int.reduceSub, Int.reduceToNat, Int.reduceMul, Int.reduceMod, Int.reduceTMod, Int.reduceTDiv, Int.reduceEq, Nat.reducePow, Nat.reduceDiv, Nat.reduceShiftRight, Nat.reduceMod, List.reduceReplicate, ↓reduceIte, Nat.reduceEqDiff, Nat.reduceAdd, Nat.reduceSub, Nat.reduceLeDiff, Nat.reduceLT, Nat.reduceMul, f3, f4, f5, H8, g, hl, kLoop_eq]
      rfl
@[go_sem] theorem sumB_len (b : List UInt8) : (sumB b).length = 32 := by rw [sumB]; rfl
end Go.Proofs.YtclgfgnhcakhdaaGreatDoor
namespace Go.Proofs.YtclgfgnhcakhdaaGreatDoor
set_option maxHeartbeats 64000000
open Go.Am
set_option linter.unusedSimpArgs false
set_option linter.unusedVariables false
set_option maxRecDepth 100000
open Lib in
theorem sign_text (g : Bool) (d : List UInt8) (h : g = false → d.head? ≠ some 45) : signOf (textN g d) = g ∧ digsOf (textN g d) = d := by
  cases g with
  | true => exact ⟨rfl, rfl⟩
  | false => have := h rfl; simp [textN, signOf, digsOf, this]
open Lib in
theorem back_num (k : Int) : readNumR (signOf (itoa k)) (digsOf (itoa k)) = if -1073741824 ≤ k ∧ k ≤ 1073741824 then some k else none := by
  obtain ⟨g, d, h1, h2, h3⟩ := read_itoa k
  obtain ⟨h4, h5⟩ := sign_text g d h2
  rw [h1, h4, h5, h3]
def numO (w : List UInt8) : Option Int := readNumR (signOf w) (digsOf w)
def numG (w : List UInt8) : Bool := match numO w with | some n => decide (0 ≤ n) && decide (n ≤ 99) | none => false
def numV (w : List UInt8) : Int := match numO w with | some n => n | none => 0
def hexG (w : List UInt8) : Bool := decide (w.length = 16) && w.all digOk
theorem hexG_chars (w : List UInt8) (h : hexG w = true) : w.length = 16 ∧ ∀ c ∈ w, ¬ c = 32 ∧ ¬ c = 61 := by
  simp only [hexG, Bool.and_eq_true, decide_eq_true_eq, List.all_eq_true] at h
  refine ⟨h.1, fun c hc => ⟨fun e => ?_, fun e => ?_⟩⟩
  · have := h.2 c hc; rw [e] at this; revert this; decide
  · have := h.2 c hc; rw [e] at this; revert this; decide
theorem numG_chars (w : List UInt8) (h : numG w = true) : ∀ c ∈ w, ¬ c = 32 ∧ ¬ c = 61 := by
  unfold numG at h
  split at h
  · rename_i n hn
    unfold numO readNumR at hn
    split at hn
    · rename_i hc
      have hp := hc.2.1
      simp only [plainD, Bool.and_eq_true] at hp
      have hd := List.all_eq_true.1 hp.1.2
      intro c hc
      rw [← text_of w] at hc
      have key : c = 45 ∨ decB c = true := by
        unfold textN at hc
        split at hc
        · rcases List.mem_cons.1 hc with h | h
          · exact .inl h
          · exact .inr (hd c h)
        · exact .inr (hd c hc)
      refine ⟨fun e => ?_, fun e => ?_⟩
      · rw [e] at key; revert key; decide
      · rw [e] at key; revert key; decide
    · cases hn
  · cases h
theorem numG_itoa (n : Int) (h0 : 0 ≤ n) (h1 : n ≤ 99) : numG (Lib.itoa n) = true ∧ numV (Lib.itoa n) = n := by
  have e : numO (Lib.itoa n) = some n := by
    unfold numO
    rw [back_num, if_pos (by omega)]
  unfold numG numV
  rw [e]
  simp [h0, h1]
def readL (line : List UInt8) : Option (List UInt8 × Int × List UInt8) :=
  match lineQ numG hexG line with
  | some (a, n, s) => if (readR a).2 = 0 then some (a, numV n, s) else none
  | none => none
theorem readL_at {line a n s : List UInt8} (h : rightL numG hexG line a n s) : readL line = if (readR a).2 = 0 then some (a, numV n, s) else none := by
  unfold readL
  rw [(lineQ_iff numG hexG numG_chars hexG_chars line a n s).2 h]
def textT (a : List UInt8) (e : Int) : List UInt8 := a ++ (eqS ++ Lib.itoa e)
def digT (sum : List UInt8) : List UInt8 := (bytesR sum).take 16
def nextT (sum t : List UInt8) : List UInt8 := sumB (sum ++ t)
def lineT (sum t : List UInt8) : List UInt8 := t ++ 32 :: digT (nextT sum t)
def linesK : List (St × Int) → List UInt8 → List (List UInt8)
  | [], _ => []
  | x :: l, sum => if (lineR x.1).2 = 0 then lineT sum (textT (lineR x.1).1 x.2) :: linesK l (nextT sum (textT (lineR x.1).1 x.2)) else linesK l sum
def endK : List (St × Int) → List UInt8 → List UInt8
  | [], sum => sum
  | x :: l, sum => if (lineR x.1).2 = 0 then endK l (nextT sum (textT (lineR x.1).1 x.2)) else endK l sum
def noteK (st : List (List UInt8) × List UInt8) (x : St × Int) : List (List UInt8) × List UInt8 :=
  if (lineR x.1).2 = 0 then (st.1 ++ [lineT st.2 (textT (lineR x.1).1 x.2)], nextT st.2 (textT (lineR x.1).1 x.2)) else st
theorem noteK_foldl : ∀ (l : List (St × Int)) (acc : List (List UInt8)) (sum : List UInt8), l.foldl noteK (acc, sum) = (acc ++ linesK l sum, endK l sum)
  | [], acc, sum => by simp [linesK, endK]
  | x :: l, acc, sum => by
    have e : noteK (acc, sum) x = if (lineR x.1).2 = 0 then (acc ++ [lineT sum (textT (lineR x.1).1 x.2)], nextT sum (textT (lineR x.1).1 x.2)) else (acc, sum) := rfl
    rw [List.foldl_cons, e]
    unfold linesK endK
    split
    · rw [noteK_foldl l]; simp
    · exact noteK_foldl l acc sum
def checkK : List (List UInt8) → List UInt8 → Nat
  | [], _ => 0
  | l :: ls, sum => match readL l with
    | none => 0
    | some (a, e, d) => if digT (nextT sum (textT a e)) = d then checkK ls (nextT sum (textT a e)) + 1 else 0
theorem line_back {s : St} (h : (lineR s).2 = 0) : readR (lineR s).1 = (s, 0) := by
  unfold lineR at h ⊢
  split
  · rename_i hr; exact hr
  · rename_i hr; rw [if_neg hr] at h; exact absurd h (by decide)
theorem hexd_ok : ∀ d : Fin 16, digOk (hexd d.val) = true := by decide
theorem pairsR_ok (l : List UInt8) : (pairsR l).all digOk = true := by
  rw [List.all_eq_true]
  intro c hc
  unfold pairsR at hc
  obtain ⟨x, hx, hc⟩ := List.mem_flatMap.1 hc
  have h1 := hexd_ok ⟨x.toNat / 16, by have := x.toNat_lt; omega⟩
  have h2 := hexd_ok ⟨x.toNat % 16, by omega⟩
  simp only [List.mem_cons, List.not_mem_nil, or_false] at hc
  rcases hc with rfl | rfl
  · exact h1
  · exact h2
theorem hexG_dig (sum t : List UInt8) : hexG (digT (nextT sum t)) = true := by
  have hl : (nextT sum t).length = 32 := sumB_len _
  have hne : ¬ nextT sum t = [] := fun e => by rw [e] at hl; simp at hl
  unfold hexG digT bytesR
  rw [if_neg hne, Bool.and_eq_true]
  refine ⟨decide_eq_true (by rw [List.length_take, pairsR_len, hl]; decide), List.all_eq_true.2 fun c hc => ?_⟩
  exact List.all_eq_true.1 (pairsR_ok _) c (List.mem_of_mem_take hc)
theorem readL_line {s : St} {e : Int} (h : (lineR s).2 = 0) (h0 : 0 ≤ e) (h1 : e ≤ 99) (sum : List UInt8) : readL (lineT sum (textT (lineR s).1 e)) = some ((lineR s).1, e, digT (nextT sum (textT (lineR s).1 e))) := by
  obtain ⟨g1, g2⟩ := numG_itoa e h0 h1
  have hr : rightL numG hexG (lineT sum (textT (lineR s).1 e)) (lineR s).1 (Lib.itoa e) (digT (nextT sum (textT (lineR s).1 e))) :=
    ⟨by simp [lineT, textT], g1, hexG_dig _ _⟩
  rw [readL_at hr, line_back h, if_pos rfl, g2]
end Go.Proofs.YtclgfgnhcakhdaaGreatDoor
