import Derived.Test.YtbnlbdhepbbaoaaDoorTScript2
import Derived.Test.YtbnlbdhepbbaoaaDoorTPrintw
namespace Go.Proofs.YtbnlbdhepbbaoaaDoor
open Go.Am
set_option linter.unusedSimpArgs false
set_option linter.unusedVariables false
set_option maxRecDepth 100000
/-! Layer 43: the document's Read. -/
theorem word_row (w : List UInt8) (r : List (List UInt8)) (i : Nat) (h : i < r.length) : ([AVal.str w] :: r.map strRow)[i + 1]? = some [.str r[i]] := by
  rw [List.getElem?_cons_succ, List.getElem?_map, List.getElem?_eq_getElem h]; rfl
theorem readAll_next {s : St} (c : UInt8) (L : List UInt8) (r : List (List UInt8)) (i : Nat) (h : i < r.length) : readAll (c :: L) (r.drop i) s = if (stepR c.toNat r[i] s).2 = 0 then readAll L (r.drop (i + 1)) (stepR c.toNat r[i] s).1 else stepR c.toNat r[i] s := by
  rw [List.drop_eq_getElem_cons h, readAll]
  rfl
/-- The last kind of a word, of the first ones. -/
def lastK (first : List UInt8) (i k : Nat) : Prop := (k = 0 ∧ ∀ j, 1 ≤ j → j < i → ¬ wordR j = first) ∨ (1 ≤ k ∧ k < i ∧ wordR k = first)
theorem lastK_hit {first : List UInt8} {i k : Nat} (h1 : 1 ≤ i) (e : wordR i = first) : lastK first (i + 1) i := .inr ⟨h1, by omega, e⟩
theorem lastK_miss {first : List UInt8} {i k : Nat} (h : lastK first i k) (e : ¬ wordR i = first) : lastK first (i + 1) k := by
  rcases h with ⟨h1, h2⟩ | ⟨h1, h2, h3⟩
  · refine .inl ⟨h1, fun j hj hl => ?_⟩
    by_cases hji : j = i
    · rw [hji]; exact e
    · exact h2 j hj (by omega)
  · exact .inr ⟨h1, by omega, h3⟩
theorem lastK_kind {first : List UInt8} {k : Nat} (h : lastK first 20 k) : (k = 0 ∧ kindF first = 20) ∨ (1 ≤ k ∧ k ≤ 19 ∧ kindF first = k) := by
  obtain ⟨q1, q2, q3, q4⟩ := formQ_kind first
  rcases h with ⟨h1, h2⟩ | ⟨h1, h2, h3⟩
  · refine .inl ⟨h1, Classical.byContradiction fun e => ?_⟩
    exact h2 (kindF first) q1 (by omega) (q3 (by omega)).symm
  · refine .inr ⟨h1, by omega, ?_⟩
    rcases Nat.lt_trichotomy (kindF first) k with e | e | e
    · exact absurd ((q3 (by omega)).symm.trans h3.symm) (wordR_inj _ _ q1 e (by omega))
    · exact e
    · exact absurd h3 (q4 k h1 e)

def finF (F : List UInt8) (r : List (List UInt8)) (s : St) : St × Int := if r.length = F.length then finR (readAll F r s) else (stZ, 50)
def quR (k : Nat) (w : List UInt8) (r : List (List UInt8)) : St × Int :=
  if k ≤ 19 ∧ (lettersP k r.length).length = r.length ∧ ¬(k = 1 ∧ r.length = 3 ∧ ¬(w :: r).getD 3 [] = [97, 108, 111, 110, 101]) then finR (readAll (lettersP k r.length) r { stZ with kind := (k : Int) }) else (stZ, 50)
theorem qu_A (w : List UInt8) (r : List (List UInt8)) (h : r.length = 1) : quR 18 w r = finF [109] r { stZ with kind := 18 } := by
  simp [quR, finF, lettersP, h]
theorem qu_B (w : List UInt8) (r : List (List UInt8)) (h : ¬ r.length = 1) : quR 18 w r = finF [] r { stZ with kind := 18 } := by
  by_cases h0 : r.length = 0
  · simp [quR, finF, lettersP, h0]
  · have h1 : ¬ 1 = r.length := fun e => h e.symm
    simp [quR, finF, lettersP, h0, h1]
theorem qu_C (w x y : List UInt8) : quR 1 w [x, y, [97, 108, 111, 110, 101]] = finF [110, 109] [x, y] { stZ with kind := 1, n := 1 } := by
  have e1 : ∀ (v : List UInt8) (s : St), stepR 110 v s = ({ s with node := (numR v 7).1 }, (numR v 7).2) := fun v s => by unfold stepR; rw [if_pos rfl]
  have u1 : (110 : UInt8).toNat = 110 := rfl
  have u2 : (109 : UInt8).toNat = 109 := rfl
  have u3 : (49 : UInt8).toNat = 49 := rfl
  rw [show quR 1 w [x, y, [97, 108, 111, 110, 101]] = finR (readAll [110, 109, 49] [x, y, [97, 108, 111, 110, 101]] { stZ with kind := 1 }) by simp [quR, lettersP], show finF [110, 109] [x, y] { stZ with kind := 1, n := 1 } = finR (readAll [110, 109] [x, y] { stZ with kind := 1, n := 1 }) by simp [finF]]
  simp only [readAll, u1, u2, u3, e1, stepR_109, stepR_49, nextR, List.headD_cons, List.tail_cons]
  by_cases h1 : (numR x 7).2 = 0
  · by_cases h2 : (textR (nameR y) y).2 = 0
    · simp [h1, h2, finR]
    · simp [h1, h2, finR]
  · simp [h1, finR]
theorem qu_D (w : List UInt8) (r : List (List UInt8)) (h : ¬(r.length = 3 ∧ (w :: r).getD 3 [] = [97, 108, 111, 110, 101])) : quR 1 w r = finF [110, 109] r { stZ with kind := 1 } := by
  by_cases h2 : r.length ≤ 2
  · by_cases h3 : r.length = 2
    · simp [quR, finF, lettersP, h3]
    · have h4 : ¬ 2 = r.length := fun e => h3 e.symm
      simp [quR, finF, lettersP, h2, h3, h4]
  · by_cases h3 : r.length = 3
    · have h5 : ¬ (w :: r).getD 3 [] = [97, 108, 111, 110, 101] := fun e => h ⟨h3, e⟩
      unfold quR finF
      rw [if_neg (fun x => x.2.2 ⟨rfl, h3, h5⟩), if_neg (by rw [h3]; decide)]
    · have h4 : ¬ 3 = r.length := fun e => h3 e.symm
      have h6 : ¬ r.length = 2 := by omega
      simp [quR, finF, lettersP, h2, h4, h6]
theorem qu_E (k : Nat) (w : List UInt8) (r : List (List UInt8)) (h1 : 1 ≤ k) (h2 : k ≤ 19) (n1 : ¬ k = 1) (n2 : ¬ k = 18) : quR k w r = finF (formR k) r { stZ with kind := (k : Int) } := by
  have : lettersP k r.length = formR k := by
    have h : k = 2 ∨ k = 3 ∨ k = 4 ∨ k = 5 ∨ k = 6 ∨ k = 7 ∨ k = 8 ∨ k = 9 ∨ k = 10 ∨ k = 11 ∨ k = 12 ∨ k = 13 ∨ k = 14 ∨ k = 15 ∨ k = 16 ∨ k = 17 ∨ k = 19 := by omega
    rcases h with rfl | rfl | rfl | rfl | rfl | rfl | rfl | rfl | rfl | rfl | rfl | rfl | rfl | rfl | rfl | rfl | rfl <;> rfl
  unfold quR finF
  rw [this]
  by_cases e : r.length = (formR k).length
  · rw [if_pos ⟨h2, e.symm, fun x => n1 x.1⟩, if_pos e]
  · rw [if_neg (fun x => e x.2.1.symm), if_neg e]
def okF (L : List UInt8) : Bool := L.all fun c => decide (c.toNat = 110 ∨ c.toNat = 111 ∨ c.toNat = 112 ∨ c.toNat = 102 ∨ c.toNat = 117 ∨ c.toNat = 97 ∨ c.toNat = 98 ∨ c.toNat = 105 ∨ c.toNat = 109 ∨ c.toNat = 107 ∨ c.toNat = 115 ∨ c.toNat = 118 ∨ c.toNat = 114)
theorem okF_mem {L : List UInt8} (h : okF L = true) {i : Nat} (hi : i < L.length) : okL L[i].toNat ∧ L[i].toNat ≠ 49 := by
  simp only [okF, List.all_eq_true, decide_eq_true_eq] at h
  have := h _ (List.getElem_mem hi)
  unfold okL; omega
theorem okF_form (k : Nat) (h : k ≤ 19) : okF (formR k) = true := by
  have : ∀ k : Fin 20, okF (formR k.val) = true := by decide
  exact this ⟨k, by omega⟩

set_option maxHeartbeats 8000000 in
@[go_sem] theorem e9 (line : List UInt8) (hl : line.length ≤ 900000) : fn C 9 [] [.str line] = some (stV (readR line), []) := by
  have hw : okW (parts 32 line) := ⟨by have := parts_count 32 line; omega, fun p hp => by have := parts_mem 32 line p hp; omega⟩
  have sp := e23 line (by omega)
  have e1 := e24
  have e2 := e25
  rw [show readR line = quR (kindF ((parts 32 line).headD [])) ((parts 32 line).headD []) (parts 32 line).tail by
    unfold readR quR
    cases hp : parts 32 line with
    | nil => exact absurd hp (parts_ne 32 line)
    | cons w r => simp]
  cases hp : parts 32 line with
  | nil => exact absurd hp (parts_ne 32 line)
  | cons w r =>
    rw [hp] at hw sp
    have hr := hw.tail
    have h1 := hw.1
    simp only [List.tail_cons, List.length_cons, List.headD_cons, Nat.add_sub_cancel, List.map_cons, strRow_eq w] at hr h1 sp ⊢
    rw [fn_text Tryd.func9 rfl rfl Tryd.results9 fq9.1 rfl rfl (by kernel_rfl)]
    simp -implicitDefEqProofs -dsimp +contextual (maxSteps := 9999999) (disch := first | omega | simp only [go_sem] <;> omega | refine ib ?_; kernel_rfl) only [go_sem, seval, ↓reduceIte, sp]
    refine kLoop_rec (fun (i : Nat) f H => 1 ≤ i ∧ i ≤ 20 ∧ ∃ k, lastK w i k ∧ f 2 = .ptr 102 1 0 0 ∧ f 4 = .slice 1 ([.str w] :: r.map strRow) ∧ f 5 = .int .i64 (k : Int) ∧ f 6 = .int .i64 (i : Int) ∧ (H 107).gen = 0 ∧
      H 102 = ⟨1, .live, 10, [[.int .i64 0, .int .i64 0, .int .i64 0, .int .i64 0, .int .i64 0, .int .i64 0, .int .u64 0, .str [], .str [], .sc (.slice none 0 0)]], false⟩)
      (fun i => 20 - i) (fun _ => _) ?_ 1 _ _ (by exact ⟨by omega, by omega, 0, .inl ⟨rfl, fun j a b => by omega⟩, rfl, rfl, rfl, rfl, rfl, by simp [Heap.set]⟩)
    rintro i f H ⟨hi1, hi, k, hk, f2, f4, f5, f6, g7, H1⟩ ih
    by_cases hlt : i < 20
    · have nr := names_row i hlt
      by_cases e : wordR i = w
      · have hk' := lastK_hit (k := k) hi1 e
        simp -implicitDefEqProofs -dsimp +contextual (maxSteps := 9999999) (disch := first | omega | simp only [go_sem] <;> omega | refine ib ?_; kernel_rfl) only [go_sem, seval, ↓reduceIte, f2, f4, f5, f6, H1, hlt, e1, nr, e]
        exact ih (i + 1) _ _ (by exact ⟨by omega, by omega, i, hk', f2, f4, rfl, rfl, g7, H1⟩) (by omega)
      · have hk' := lastK_miss hk e
        simp -implicitDefEqProofs -dsimp +contextual (maxSteps := 9999999) (disch := first | omega | simp only [go_sem] <;> omega | refine ib ?_; kernel_rfl) only [go_sem, seval, ↓reduceIte, f2, f4, f5, f6, H1, hlt, e1, nr, e]
        exact ih (i + 1) _ _ (by exact ⟨by omega, by omega, k, hk', f2, f4, f5, rfl, g7, H1⟩) (by omega)
    · obtain rfl : i = 20 := by omega
      clear ih
      simp only [Int.cast_ofNat_Int] at f6
      rcases lastK_kind hk with ⟨rfl, hkk⟩ | ⟨k1, k2, hkk⟩
      · rw [hkk]
        rw [show (((0 : Nat) : Int)) = 0 from rfl] at f5
        simp -implicitDefEqProofs -dsimp +contextual (maxSteps := 9999999) (disch := first | omega | simp only [go_sem] <;> omega | refine ib ?_; kernel_rfl) only [go_sem, seval, ↓reduceIte, f2, f4, f5, f6, H1]
        simp [quR, stV, stZ]
      · rw [hkk]
        have fr := forms_row k (by omega)
        by_cases n2 : k = 18
        · subst n2
          simp only [Int.cast_ofNat_Int] at f5
          simp only [show formR 18 = [] from rfl] at fr
          by_cases n3 : r.length = 1
          · rw [qu_A w r n3]
            unfold finF
            by_cases hln : r.length = ([109] : List UInt8).length
            · rw [if_pos hln]
              simp -implicitDefEqProofs -dsimp +contextual (maxSteps := 9999999) (disch := first | omega | simp only [go_sem] <;> omega | refine ib ?_; kernel_rfl) only [go_sem, seval, ↓reduceIte, f2, f4, f5, f6, H1, g7, e2, fr, n3, hln]
              obtain ⟨F, hF⟩ : ∃ F : List UInt8, F = [109] := ⟨_, rfl⟩
              have okf : okF F = true := by rw [hF]; rfl
              have hln : r.length = F.length := by rw [hF]; exact hln
              rw [show readAll [109] = readAll F by rw [hF]]
              refine kLoop_rec (fun (a : Nat × St × AVal) f H => a.1 ≤ F.length ∧ BsOk a.2.2 a.2.1.bs ∧ BsC a.2.2 ∧ f 2 = .ptr 102 1 0 0 ∧ f 4 = .slice 1 ([.str w] :: r.map strRow) ∧ f 7 = .ptr 107 1 0 0 ∧ f 8 = .str F ∧ f 9 = .int .i64 (a.1 : Int) ∧
                H 102 = ⟨1, .live, 10, [[.int .i64 0, .int .i64 0, .int .i64 0, .int .i64 0, .int .i64 0, .int .i64 0, .int .u64 0, .str [], .str [], .sc (.slice none 0 0)]], false⟩ ∧
                H 107 = ⟨1, .live, 10, [[.int .i64 a.2.1.kind, .int .i64 a.2.1.node, .int .i64 a.2.1.other, .int .i64 a.2.1.n, .int .i64 a.2.1.fr, .int .i64 a.2.1.un, .int .u64 (a.2.1.id : Int), .str a.2.1.key, .str a.2.1.val, a.2.2]], false⟩)
                (fun a => F.length - a.1) (fun a => some (stV (finR (readAll (F.drop a.1) (r.drop a.1) a.2.1)), [])) ?_ (0, ⟨18, 0, 0, 0, 0, 0, 0, [], [], []⟩, .sc (.slice none 0 0)) _ _ (by exact ⟨Nat.zero_le _, .inr ⟨rfl, rfl⟩, .nil, f2, by first | exact f4 | rfl, rfl, by first | rfl | (rw [hF]; rfl), rfl, by simp [Heap.set, H1], by simp [Heap.set, g7]⟩)
              rintro ⟨i, s', b⟩ f H ⟨hi, hB, hb, f2, f4, f7, f8, f9, H1, H2⟩ ih
              simp only at hi hB hb f9 H2 ih
              by_cases hlt : i < F.length
              · have hlr : i < r.length := by omega
                have wr := word_row w r i hlr
                have ok := okF_mem okf hlt
                have hc := refOne s' r[i] F[i].toNat (hr.2 _ (List.getElem_mem hlr)) ok.1 ok.2
                obtain ⟨o1, o2⟩ := oneR_step F[i].toNat r[i] s'
                have ih' := ih (i + 1, (stepR F[i].toNat r[i] s').1, .slice 1 ((stepR F[i].toNat r[i] s').1.bs.map byteRow))
                simp only at ih'
                clear ih
                rw [List.drop_eq_getElem_cons hlt, readAll_next _ _ _ i hlr]
                by_cases z : (stepR F[i].toNat r[i] s').2 = 0
                · rw [if_pos z]
                  rw [stV, o1, o2 z, z] at hc
                  clear o1 o2 z
                  generalize stepR F[i].toNat r[i] s' = q at *
                  generalize finR (readAll (List.drop (i + 1) F) (List.drop (i + 1) r) q.1) = RZ at ih' ⊢
                  rcases hB with rfl | ⟨rfl, hB⟩
                  · simp -implicitDefEqProofs -dsimp +contextual (maxSteps := 9999999) (disch := first | omega | simp only [go_sem] <;> omega | refine ib ?_; kernel_rfl) only [go_sem, seval, ↓reduceIte, f2, f4, f7, f8, f9, H1, H2, hlt, hc, wr]
                    exact ih' _ _ (by exact ⟨hlt, .inl rfl, .sl _, f2, f4, f7, f8, rfl, H1, rfl⟩) (by omega)
                  · rw [hB] at hc
                    simp only [List.map_nil] at hc
                    simp -implicitDefEqProofs -dsimp +contextual (maxSteps := 9999999) (disch := first | omega | simp only [go_sem] <;> omega | refine ib ?_; kernel_rfl) only [go_sem, seval, ↓reduceIte, f2, f4, f7, f8, f9, H1, H2, hlt, hc, wr]
                    exact ih' _ _ (by exact ⟨hlt, .inl rfl, .sl _, f2, f4, f7, f8, rfl, H1, rfl⟩) (by omega)
                · rw [if_neg z, finR, if_neg z]
                  rw [stV, o1] at hc
                  clear o2
                  generalize oneR F[i].toNat r[i] s' = q1 at *
                  generalize stepR F[i].toNat r[i] s' = q at *
                  generalize finR (readAll (List.drop (i + 1) F) (List.drop (i + 1) r) q.1) = RZ at ih' ⊢
                  rcases hB with rfl | ⟨rfl, hB⟩
                  · simp -implicitDefEqProofs -dsimp +contextual (maxSteps := 9999999) (disch := first | omega | simp only [go_sem] <;> omega | refine ib ?_; kernel_rfl) only [go_sem, seval, ↓reduceIte, f2, f4, f7, f8, f9, H1, H2, hlt, hc, wr, z]
                    simp [stV, stZ]
                  · rw [hB] at hc
                    simp only [List.map_nil] at hc
                    simp -implicitDefEqProofs -dsimp +contextual (maxSteps := 9999999) (disch := first | omega | simp only [go_sem] <;> omega | refine ib ?_; kernel_rfl) only [go_sem, seval, ↓reduceIte, f2, f4, f7, f8, f9, H1, H2, hlt, hc, wr, z]
                    simp [stV, stZ]
              · obtain rfl : i = F.length := by omega
                clear ih
                rw [List.drop_length, readAll, finR, if_pos rfl]
                rcases hB with rfl | ⟨rfl, hB⟩
                · simp -implicitDefEqProofs -dsimp +contextual (maxSteps := 9999999) (disch := first | omega | simp only [go_sem] <;> omega | refine ib ?_; kernel_rfl) only [go_sem, seval, ↓reduceIte, f2, f4, f7, f8, f9, H1, H2]
                  simp [stV]
                · simp -implicitDefEqProofs -dsimp +contextual (maxSteps := 9999999) (disch := first | omega | simp only [go_sem] <;> omega | refine ib ?_; kernel_rfl) only [go_sem, seval, ↓reduceIte, f2, f4, f7, f8, f9, H1, H2]
                  simp [stV, hB]
            · exact absurd n3 hln
          · rw [qu_B w r n3]
            unfold finF
            by_cases hln : r.length = ([] : List UInt8).length
            · rw [if_pos hln]
              simp -implicitDefEqProofs -dsimp +contextual (maxSteps := 9999999) (disch := first | omega | simp only [go_sem] <;> omega | refine ib ?_; kernel_rfl) only [go_sem, seval, ↓reduceIte, f2, f4, f5, f6, H1, g7, e2, fr, n3, hln]
              obtain ⟨F, hF⟩ : ∃ F : List UInt8, F = ([] : List UInt8) := ⟨_, rfl⟩
              have okf : okF F = true := by rw [hF]; rfl
              have hln : r.length = F.length := by rw [hF]; exact hln
              rw [show readAll ([] : List UInt8) = readAll F by rw [hF]]
              refine kLoop_rec (fun (a : Nat × St × AVal) f H => a.1 ≤ F.length ∧ BsOk a.2.2 a.2.1.bs ∧ BsC a.2.2 ∧ f 2 = .ptr 102 1 0 0 ∧ f 4 = .slice 1 ([.str w] :: r.map strRow) ∧ f 7 = .ptr 107 1 0 0 ∧ f 8 = .str F ∧ f 9 = .int .i64 (a.1 : Int) ∧
                H 102 = ⟨1, .live, 10, [[.int .i64 0, .int .i64 0, .int .i64 0, .int .i64 0, .int .i64 0, .int .i64 0, .int .u64 0, .str [], .str [], .sc (.slice none 0 0)]], false⟩ ∧
                H 107 = ⟨1, .live, 10, [[.int .i64 a.2.1.kind, .int .i64 a.2.1.node, .int .i64 a.2.1.other, .int .i64 a.2.1.n, .int .i64 a.2.1.fr, .int .i64 a.2.1.un, .int .u64 (a.2.1.id : Int), .str a.2.1.key, .str a.2.1.val, a.2.2]], false⟩)
                (fun a => F.length - a.1) (fun a => some (stV (finR (readAll (F.drop a.1) (r.drop a.1) a.2.1)), [])) ?_ (0, ⟨18, 0, 0, 0, 0, 0, 0, [], [], []⟩, .sc (.slice none 0 0)) _ _ (by exact ⟨Nat.zero_le _, .inr ⟨rfl, rfl⟩, .nil, f2, by first | exact f4 | rfl, rfl, by first | rfl | (rw [hF]; rfl), rfl, by simp [Heap.set, H1], by simp [Heap.set, g7]⟩)
              rintro ⟨i, s', b⟩ f H ⟨hi, hB, hb, f2, f4, f7, f8, f9, H1, H2⟩ ih
              simp only at hi hB hb f9 H2 ih
              by_cases hlt : i < F.length
              · have hlr : i < r.length := by omega
                have wr := word_row w r i hlr
                have ok := okF_mem okf hlt
                have hc := refOne s' r[i] F[i].toNat (hr.2 _ (List.getElem_mem hlr)) ok.1 ok.2
                obtain ⟨o1, o2⟩ := oneR_step F[i].toNat r[i] s'
                have ih' := ih (i + 1, (stepR F[i].toNat r[i] s').1, .slice 1 ((stepR F[i].toNat r[i] s').1.bs.map byteRow))
                simp only at ih'
                clear ih
                rw [List.drop_eq_getElem_cons hlt, readAll_next _ _ _ i hlr]
                by_cases z : (stepR F[i].toNat r[i] s').2 = 0
                · rw [if_pos z]
                  rw [stV, o1, o2 z, z] at hc
                  clear o1 o2 z
                  generalize stepR F[i].toNat r[i] s' = q at *
                  generalize finR (readAll (List.drop (i + 1) F) (List.drop (i + 1) r) q.1) = RZ at ih' ⊢
                  rcases hB with rfl | ⟨rfl, hB⟩
                  · simp -implicitDefEqProofs -dsimp +contextual (maxSteps := 9999999) (disch := first | omega | simp only [go_sem] <;> omega | refine ib ?_; kernel_rfl) only [go_sem, seval, ↓reduceIte, f2, f4, f7, f8, f9, H1, H2, hlt, hc, wr]
                    exact ih' _ _ (by exact ⟨hlt, .inl rfl, .sl _, f2, f4, f7, f8, rfl, H1, rfl⟩) (by omega)
                  · rw [hB] at hc
                    simp only [List.map_nil] at hc
                    simp -implicitDefEqProofs -dsimp +contextual (maxSteps := 9999999) (disch := first | omega | simp only [go_sem] <;> omega | refine ib ?_; kernel_rfl) only [go_sem, seval, ↓reduceIte, f2, f4, f7, f8, f9, H1, H2, hlt, hc, wr]
                    exact ih' _ _ (by exact ⟨hlt, .inl rfl, .sl _, f2, f4, f7, f8, rfl, H1, rfl⟩) (by omega)
                · rw [if_neg z, finR, if_neg z]
                  rw [stV, o1] at hc
                  clear o2
                  generalize oneR F[i].toNat r[i] s' = q1 at *
                  generalize stepR F[i].toNat r[i] s' = q at *
                  generalize finR (readAll (List.drop (i + 1) F) (List.drop (i + 1) r) q.1) = RZ at ih' ⊢
                  rcases hB with rfl | ⟨rfl, hB⟩
                  · simp -implicitDefEqProofs -dsimp +contextual (maxSteps := 9999999) (disch := first | omega | simp only [go_sem] <;> omega | refine ib ?_; kernel_rfl) only [go_sem, seval, ↓reduceIte, f2, f4, f7, f8, f9, H1, H2, hlt, hc, wr, z]
                    simp [stV, stZ]
                  · rw [hB] at hc
                    simp only [List.map_nil] at hc
                    simp -implicitDefEqProofs -dsimp +contextual (maxSteps := 9999999) (disch := first | omega | simp only [go_sem] <;> omega | refine ib ?_; kernel_rfl) only [go_sem, seval, ↓reduceIte, f2, f4, f7, f8, f9, H1, H2, hlt, hc, wr, z]
                    simp [stV, stZ]
              · obtain rfl : i = F.length := by omega
                clear ih
                rw [List.drop_length, readAll, finR, if_pos rfl]
                rcases hB with rfl | ⟨rfl, hB⟩
                · simp -implicitDefEqProofs -dsimp +contextual (maxSteps := 9999999) (disch := first | omega | simp only [go_sem] <;> omega | refine ib ?_; kernel_rfl) only [go_sem, seval, ↓reduceIte, f2, f4, f7, f8, f9, H1, H2]
                  simp [stV]
                · simp -implicitDefEqProofs -dsimp +contextual (maxSteps := 9999999) (disch := first | omega | simp only [go_sem] <;> omega | refine ib ?_; kernel_rfl) only [go_sem, seval, ↓reduceIte, f2, f4, f7, f8, f9, H1, H2]
                  simp [stV, hB]
            · rw [if_neg hln]
              simp -implicitDefEqProofs -dsimp +contextual (maxSteps := 9999999) (disch := first | omega | simp only [go_sem] <;> omega | refine ib ?_; kernel_rfl) only [go_sem, seval, ↓reduceIte, f2, f4, f5, f6, H1, e2, fr, n3, hln]
              try simp [stV, stZ]
        by_cases n1 : k = 1
        · subst n1
          simp only [Int.cast_ofNat_Int] at f5
          simp only [show formR 1 = [110, 109] from rfl] at fr
          by_cases n3 : r.length = 3
          · match r, n3 with
            | [x, y, z], _ =>
              by_cases n4 : z = [97, 108, 111, 110, 101]
              · subst n4
                rw [qu_C w x y]
                unfold finF
                simp only [List.map_cons, List.map_nil, strRow_eq] at f4
                by_cases hln : [x, y].length = ([110, 109] : List UInt8).length
                · rw [if_pos hln]
                  simp -implicitDefEqProofs -dsimp +contextual (maxSteps := 9999999) (disch := first | omega | simp only [go_sem] <;> omega | refine ib ?_; kernel_rfl) only [go_sem, seval, ↓reduceIte, f2, f4, f5, f6, H1, g7, e2, fr, n2, hln]
                  obtain ⟨F, hF⟩ : ∃ F : List UInt8, F = [110, 109] := ⟨_, rfl⟩
                  have okf : okF F = true := by rw [hF]; rfl
                  have hln : [x, y].length = F.length := by rw [hF]; exact hln
                  rw [show readAll [110, 109] = readAll F by rw [hF]]
                  obtain ⟨R, hR⟩ : ∃ R : List (List UInt8), R = [x, y] := ⟨_, rfl⟩
                  have hrR : okW R := by rw [hR]; exact ⟨by simp, fun p hp => hr.2 p (List.mem_of_mem_take (i := 2) hp)⟩
                  have hrL := hrR.1
                  rw [show readAll F [x, y] = readAll F R by rw [hR]]
                  have hln : R.length = F.length := by rw [hR, hF]; rfl
                  refine kLoop_rec (fun (a : Nat × St × AVal) f H => a.1 ≤ F.length ∧ BsOk a.2.2 a.2.1.bs ∧ BsC a.2.2 ∧ f 2 = .ptr 102 1 0 0 ∧ f 4 = .slice 1 ([.str w] :: R.map strRow) ∧ f 7 = .ptr 107 1 0 0 ∧ f 8 = .str F ∧ f 9 = .int .i64 (a.1 : Int) ∧
                    H 102 = ⟨1, .live, 10, [[.int .i64 0, .int .i64 0, .int .i64 0, .int .i64 0, .int .i64 0, .int .i64 0, .int .u64 0, .str [], .str [], .sc (.slice none 0 0)]], false⟩ ∧
                    H 107 = ⟨1, .live, 10, [[.int .i64 a.2.1.kind, .int .i64 a.2.1.node, .int .i64 a.2.1.other, .int .i64 a.2.1.n, .int .i64 a.2.1.fr, .int .i64 a.2.1.un, .int .u64 (a.2.1.id : Int), .str a.2.1.key, .str a.2.1.val, a.2.2]], false⟩)
                    (fun a => F.length - a.1) (fun a => some (stV (finR (readAll (F.drop a.1) (R.drop a.1) a.2.1)), [])) ?_ (0, ⟨1, 0, 0, 1, 0, 0, 0, [], [], []⟩, .sc (.slice none 0 0)) _ _ (by exact ⟨Nat.zero_le _, .inr ⟨rfl, rfl⟩, .nil, f2, by first | exact f4 | rfl | (rw [hR]; rfl), rfl, by first | rfl | (rw [hF]; rfl), rfl, by simp [Heap.set, H1], by simp [Heap.set, g7]⟩)
                  rintro ⟨i, s', b⟩ f H ⟨hi, hB, hb, f2, f4, f7, f8, f9, H1, H2⟩ ih
                  simp only at hi hB hb f9 H2 ih
                  by_cases hlt : i < F.length
                  · have hlr : i < R.length := by omega
                    have wr := word_row w R i hlr
                    have ok := okF_mem okf hlt
                    have hc := refOne s' R[i] F[i].toNat (hrR.2 _ (List.getElem_mem hlr)) ok.1 ok.2
                    obtain ⟨o1, o2⟩ := oneR_step F[i].toNat R[i] s'
                    have ih' := ih (i + 1, (stepR F[i].toNat R[i] s').1, .slice 1 ((stepR F[i].toNat R[i] s').1.bs.map byteRow))
                    simp only at ih'
                    clear ih
                    rw [List.drop_eq_getElem_cons hlt, readAll_next _ _ _ i hlr]
                    by_cases z : (stepR F[i].toNat R[i] s').2 = 0
                    · rw [if_pos z]
                      rw [stV, o1, o2 z, z] at hc
                      clear o1 o2 z
                      generalize stepR F[i].toNat R[i] s' = q at *
                      generalize finR (readAll (List.drop (i + 1) F) (List.drop (i + 1) R) q.1) = RZ at ih' ⊢
                      rcases hB with rfl | ⟨rfl, hB⟩
                      · simp -implicitDefEqProofs -dsimp +contextual (maxSteps := 9999999) (disch := first | omega | simp only [go_sem] <;> omega | refine ib ?_; kernel_rfl) only [go_sem, seval, ↓reduceIte, f2, f4, f7, f8, f9, H1, H2, hlt, hc, wr]
                        exact ih' _ _ (by exact ⟨hlt, .inl rfl, .sl _, f2, f4, f7, f8, rfl, H1, rfl⟩) (by omega)
                      · rw [hB] at hc
                        simp only [List.map_nil] at hc
                        simp -implicitDefEqProofs -dsimp +contextual (maxSteps := 9999999) (disch := first | omega | simp only [go_sem] <;> omega | refine ib ?_; kernel_rfl) only [go_sem, seval, ↓reduceIte, f2, f4, f7, f8, f9, H1, H2, hlt, hc, wr]
                        exact ih' _ _ (by exact ⟨hlt, .inl rfl, .sl _, f2, f4, f7, f8, rfl, H1, rfl⟩) (by omega)
                    · rw [if_neg z, finR, if_neg z]
                      rw [stV, o1] at hc
                      clear o2
                      generalize oneR F[i].toNat R[i] s' = q1 at *
                      generalize stepR F[i].toNat R[i] s' = q at *
                      generalize finR (readAll (List.drop (i + 1) F) (List.drop (i + 1) R) q.1) = RZ at ih' ⊢
                      rcases hB with rfl | ⟨rfl, hB⟩
                      · simp -implicitDefEqProofs -dsimp +contextual (maxSteps := 9999999) (disch := first | omega | simp only [go_sem] <;> omega | refine ib ?_; kernel_rfl) only [go_sem, seval, ↓reduceIte, f2, f4, f7, f8, f9, H1, H2, hlt, hc, wr, z]
                        simp [stV, stZ]
                      · rw [hB] at hc
                        simp only [List.map_nil] at hc
                        simp -implicitDefEqProofs -dsimp +contextual (maxSteps := 9999999) (disch := first | omega | simp only [go_sem] <;> omega | refine ib ?_; kernel_rfl) only [go_sem, seval, ↓reduceIte, f2, f4, f7, f8, f9, H1, H2, hlt, hc, wr, z]
                        simp [stV, stZ]
                  · obtain rfl : i = F.length := by omega
                    clear ih
                    rw [List.drop_length, readAll, finR, if_pos rfl]
                    rcases hB with rfl | ⟨rfl, hB⟩
                    · simp -implicitDefEqProofs -dsimp +contextual (maxSteps := 9999999) (disch := first | omega | simp only [go_sem] <;> omega | refine ib ?_; kernel_rfl) only [go_sem, seval, ↓reduceIte, f2, f4, f7, f8, f9, H1, H2]
                      simp [stV]
                    · simp -implicitDefEqProofs -dsimp +contextual (maxSteps := 9999999) (disch := first | omega | simp only [go_sem] <;> omega | refine ib ?_; kernel_rfl) only [go_sem, seval, ↓reduceIte, f2, f4, f7, f8, f9, H1, H2]
                      simp [stV, hB]
                · exact absurd rfl hln
              · rw [qu_D w [x, y, z] (fun h => n4 (by simpa using h.2)), finF, if_neg (by simp)]
                simp only [List.map_cons, List.map_nil, strRow_eq] at f4
                simp -implicitDefEqProofs -dsimp +contextual (maxSteps := 9999999) (disch := first | omega | simp only [go_sem] <;> omega | refine ib ?_; kernel_rfl) only [go_sem, seval, ↓reduceIte, f2, f4, f5, f6, H1, g7, e2, fr, n4]
                try simp [stV, stZ]
          · rw [qu_D w r (fun h => n3 h.1)]
            unfold finF
            by_cases hln : r.length = ([110, 109] : List UInt8).length
            · rw [if_pos hln]
              simp -implicitDefEqProofs -dsimp +contextual (maxSteps := 9999999) (disch := first | omega | simp only [go_sem] <;> omega | refine ib ?_; kernel_rfl) only [go_sem, seval, ↓reduceIte, f2, f4, f5, f6, H1, g7, e2, fr, n3, hln]
              obtain ⟨F, hF⟩ : ∃ F : List UInt8, F = [110, 109] := ⟨_, rfl⟩
              have okf : okF F = true := by rw [hF]; rfl
              have hln : r.length = F.length := by rw [hF]; exact hln
              rw [show readAll [110, 109] = readAll F by rw [hF]]
              refine kLoop_rec (fun (a : Nat × St × AVal) f H => a.1 ≤ F.length ∧ BsOk a.2.2 a.2.1.bs ∧ BsC a.2.2 ∧ f 2 = .ptr 102 1 0 0 ∧ f 4 = .slice 1 ([.str w] :: r.map strRow) ∧ f 7 = .ptr 107 1 0 0 ∧ f 8 = .str F ∧ f 9 = .int .i64 (a.1 : Int) ∧
                H 102 = ⟨1, .live, 10, [[.int .i64 0, .int .i64 0, .int .i64 0, .int .i64 0, .int .i64 0, .int .i64 0, .int .u64 0, .str [], .str [], .sc (.slice none 0 0)]], false⟩ ∧
                H 107 = ⟨1, .live, 10, [[.int .i64 a.2.1.kind, .int .i64 a.2.1.node, .int .i64 a.2.1.other, .int .i64 a.2.1.n, .int .i64 a.2.1.fr, .int .i64 a.2.1.un, .int .u64 (a.2.1.id : Int), .str a.2.1.key, .str a.2.1.val, a.2.2]], false⟩)
                (fun a => F.length - a.1) (fun a => some (stV (finR (readAll (F.drop a.1) (r.drop a.1) a.2.1)), [])) ?_ (0, ⟨1, 0, 0, 0, 0, 0, 0, [], [], []⟩, .sc (.slice none 0 0)) _ _ (by exact ⟨Nat.zero_le _, .inr ⟨rfl, rfl⟩, .nil, f2, by first | exact f4 | rfl, rfl, by first | rfl | (rw [hF]; rfl), rfl, by simp [Heap.set, H1], by simp [Heap.set, g7]⟩)
              rintro ⟨i, s', b⟩ f H ⟨hi, hB, hb, f2, f4, f7, f8, f9, H1, H2⟩ ih
              simp only at hi hB hb f9 H2 ih
              by_cases hlt : i < F.length
              · have hlr : i < r.length := by omega
                have wr := word_row w r i hlr
                have ok := okF_mem okf hlt
                have hc := refOne s' r[i] F[i].toNat (hr.2 _ (List.getElem_mem hlr)) ok.1 ok.2
                obtain ⟨o1, o2⟩ := oneR_step F[i].toNat r[i] s'
                have ih' := ih (i + 1, (stepR F[i].toNat r[i] s').1, .slice 1 ((stepR F[i].toNat r[i] s').1.bs.map byteRow))
                simp only at ih'
                clear ih
                rw [List.drop_eq_getElem_cons hlt, readAll_next _ _ _ i hlr]
                by_cases z : (stepR F[i].toNat r[i] s').2 = 0
                · rw [if_pos z]
                  rw [stV, o1, o2 z, z] at hc
                  clear o1 o2 z
                  generalize stepR F[i].toNat r[i] s' = q at *
                  generalize finR (readAll (List.drop (i + 1) F) (List.drop (i + 1) r) q.1) = RZ at ih' ⊢
                  rcases hB with rfl | ⟨rfl, hB⟩
                  · simp -implicitDefEqProofs -dsimp +contextual (maxSteps := 9999999) (disch := first | omega | simp only [go_sem] <;> omega | refine ib ?_; kernel_rfl) only [go_sem, seval, ↓reduceIte, f2, f4, f7, f8, f9, H1, H2, hlt, hc, wr]
                    exact ih' _ _ (by exact ⟨hlt, .inl rfl, .sl _, f2, f4, f7, f8, rfl, H1, rfl⟩) (by omega)
                  · rw [hB] at hc
                    simp only [List.map_nil] at hc
                    simp -implicitDefEqProofs -dsimp +contextual (maxSteps := 9999999) (disch := first | omega | simp only [go_sem] <;> omega | refine ib ?_; kernel_rfl) only [go_sem, seval, ↓reduceIte, f2, f4, f7, f8, f9, H1, H2, hlt, hc, wr]
                    exact ih' _ _ (by exact ⟨hlt, .inl rfl, .sl _, f2, f4, f7, f8, rfl, H1, rfl⟩) (by omega)
                · rw [if_neg z, finR, if_neg z]
                  rw [stV, o1] at hc
                  clear o2
                  generalize oneR F[i].toNat r[i] s' = q1 at *
                  generalize stepR F[i].toNat r[i] s' = q at *
                  generalize finR (readAll (List.drop (i + 1) F) (List.drop (i + 1) r) q.1) = RZ at ih' ⊢
                  rcases hB with rfl | ⟨rfl, hB⟩
                  · simp -implicitDefEqProofs -dsimp +contextual (maxSteps := 9999999) (disch := first | omega | simp only [go_sem] <;> omega | refine ib ?_; kernel_rfl) only [go_sem, seval, ↓reduceIte, f2, f4, f7, f8, f9, H1, H2, hlt, hc, wr, z]
                    simp [stV, stZ]
                  · rw [hB] at hc
                    simp only [List.map_nil] at hc
                    simp -implicitDefEqProofs -dsimp +contextual (maxSteps := 9999999) (disch := first | omega | simp only [go_sem] <;> omega | refine ib ?_; kernel_rfl) only [go_sem, seval, ↓reduceIte, f2, f4, f7, f8, f9, H1, H2, hlt, hc, wr, z]
                    simp [stV, stZ]
              · obtain rfl : i = F.length := by omega
                clear ih
                rw [List.drop_length, readAll, finR, if_pos rfl]
                rcases hB with rfl | ⟨rfl, hB⟩
                · simp -implicitDefEqProofs -dsimp +contextual (maxSteps := 9999999) (disch := first | omega | simp only [go_sem] <;> omega | refine ib ?_; kernel_rfl) only [go_sem, seval, ↓reduceIte, f2, f4, f7, f8, f9, H1, H2]
                  simp [stV]
                · simp -implicitDefEqProofs -dsimp +contextual (maxSteps := 9999999) (disch := first | omega | simp only [go_sem] <;> omega | refine ib ?_; kernel_rfl) only [go_sem, seval, ↓reduceIte, f2, f4, f7, f8, f9, H1, H2]
                  simp [stV, hB]
            · rw [if_neg hln]
              simp -implicitDefEqProofs -dsimp +contextual (maxSteps := 9999999) (disch := first | omega | simp only [go_sem] <;> omega | refine ib ?_; kernel_rfl) only [go_sem, seval, ↓reduceIte, f2, f4, f5, f6, H1, e2, fr, n3, hln]
              try simp [stV, stZ]
        · rw [qu_E k w r k1 k2 n1 n2]
          have okf := okF_form k (by omega)
          generalize formR k = F at *
          unfold finF
          by_cases hln : r.length = F.length
          · rw [if_pos hln]
            simp -implicitDefEqProofs -dsimp +contextual (maxSteps := 9999999) (disch := first | omega | simp only [go_sem] <;> omega | refine ib ?_; kernel_rfl) only [go_sem, seval, ↓reduceIte, f2, f4, f5, f6, H1, g7, e2, fr, n1, n2, hln]
            refine kLoop_rec (fun (a : Nat × St × AVal) f H => a.1 ≤ F.length ∧ BsOk a.2.2 a.2.1.bs ∧ BsC a.2.2 ∧ f 2 = .ptr 102 1 0 0 ∧ f 4 = .slice 1 ([.str w] :: r.map strRow) ∧ f 7 = .ptr 107 1 0 0 ∧ f 8 = .str F ∧ f 9 = .int .i64 (a.1 : Int) ∧
              H 102 = ⟨1, .live, 10, [[.int .i64 0, .int .i64 0, .int .i64 0, .int .i64 0, .int .i64 0, .int .i64 0, .int .u64 0, .str [], .str [], .sc (.slice none 0 0)]], false⟩ ∧
              H 107 = ⟨1, .live, 10, [[.int .i64 a.2.1.kind, .int .i64 a.2.1.node, .int .i64 a.2.1.other, .int .i64 a.2.1.n, .int .i64 a.2.1.fr, .int .i64 a.2.1.un, .int .u64 (a.2.1.id : Int), .str a.2.1.key, .str a.2.1.val, a.2.2]], false⟩)
              (fun a => F.length - a.1) (fun a => some (stV (finR (readAll (F.drop a.1) (r.drop a.1) a.2.1)), [])) ?_ (0, ⟨(k : Int), 0, 0, 0, 0, 0, 0, [], [], []⟩, .sc (.slice none 0 0)) _ _ (by exact ⟨Nat.zero_le _, .inr ⟨rfl, rfl⟩, .nil, f2, by first | exact f4 | rfl, rfl, by first | rfl | (rw [hF]; rfl), rfl, by simp [Heap.set, H1], by simp [Heap.set, g7]⟩)
            rintro ⟨i, s', b⟩ f H ⟨hi, hB, hb, f2, f4, f7, f8, f9, H1, H2⟩ ih
            simp only at hi hB hb f9 H2 ih
            by_cases hlt : i < F.length
            · have hlr : i < r.length := by omega
              have wr := word_row w r i hlr
              have ok := okF_mem okf hlt
              have hc := refOne s' r[i] F[i].toNat (hr.2 _ (List.getElem_mem hlr)) ok.1 ok.2
              obtain ⟨o1, o2⟩ := oneR_step F[i].toNat r[i] s'
              have ih' := ih (i + 1, (stepR F[i].toNat r[i] s').1, .slice 1 ((stepR F[i].toNat r[i] s').1.bs.map byteRow))
              simp only at ih'
              clear ih
              rw [List.drop_eq_getElem_cons hlt, readAll_next _ _ _ i hlr]
              by_cases z : (stepR F[i].toNat r[i] s').2 = 0
              · rw [if_pos z]
                rw [stV, o1, o2 z, z] at hc
                clear o1 o2 z
                generalize stepR F[i].toNat r[i] s' = q at *
                generalize finR (readAll (List.drop (i + 1) F) (List.drop (i + 1) r) q.1) = RZ at ih' ⊢
                rcases hB with rfl | ⟨rfl, hB⟩
                · simp -implicitDefEqProofs -dsimp +contextual (maxSteps := 9999999) (disch := first | omega | simp only [go_sem] <;> omega | refine ib ?_; kernel_rfl) only [go_sem, seval, ↓reduceIte, f2, f4, f7, f8, f9, H1, H2, hlt, hc, wr]
                  exact ih' _ _ (by exact ⟨hlt, .inl rfl, .sl _, f2, f4, f7, f8, rfl, H1, rfl⟩) (by omega)
                · rw [hB] at hc
                  simp only [List.map_nil] at hc
                  simp -implicitDefEqProofs -dsimp +contextual (maxSteps := 9999999) (disch := first | omega | simp only [go_sem] <;> omega | refine ib ?_; kernel_rfl) only [go_sem, seval, ↓reduceIte, f2, f4, f7, f8, f9, H1, H2, hlt, hc, wr]
                  exact ih' _ _ (by exact ⟨hlt, .inl rfl, .sl _, f2, f4, f7, f8, rfl, H1, rfl⟩) (by omega)
              · rw [if_neg z, finR, if_neg z]
                rw [stV, o1] at hc
                clear o2
                generalize oneR F[i].toNat r[i] s' = q1 at *
                generalize stepR F[i].toNat r[i] s' = q at *
                generalize finR (readAll (List.drop (i + 1) F) (List.drop (i + 1) r) q.1) = RZ at ih' ⊢
                rcases hB with rfl | ⟨rfl, hB⟩
                · simp -implicitDefEqProofs -dsimp +contextual (maxSteps := 9999999) (disch := first | omega | simp only [go_sem] <;> omega | refine ib ?_; kernel_rfl) only [go_sem, seval, ↓reduceIte, f2, f4, f7, f8, f9, H1, H2, hlt, hc, wr, z]
                  simp [stV, stZ]
                · rw [hB] at hc
                  simp only [List.map_nil] at hc
                  simp -implicitDefEqProofs -dsimp +contextual (maxSteps := 9999999) (disch := first | omega | simp only [go_sem] <;> omega | refine ib ?_; kernel_rfl) only [go_sem, seval, ↓reduceIte, f2, f4, f7, f8, f9, H1, H2, hlt, hc, wr, z]
                  simp [stV, stZ]
            · obtain rfl : i = F.length := by omega
              clear ih
              rw [List.drop_length, readAll, finR, if_pos rfl]
              rcases hB with rfl | ⟨rfl, hB⟩
              · simp -implicitDefEqProofs -dsimp +contextual (maxSteps := 9999999) (disch := first | omega | simp only [go_sem] <;> omega | refine ib ?_; kernel_rfl) only [go_sem, seval, ↓reduceIte, f2, f4, f7, f8, f9, H1, H2]
                simp [stV]
              · simp -implicitDefEqProofs -dsimp +contextual (maxSteps := 9999999) (disch := first | omega | simp only [go_sem] <;> omega | refine ib ?_; kernel_rfl) only [go_sem, seval, ↓reduceIte, f2, f4, f7, f8, f9, H1, H2]
                simp [stV, hB]
          · rw [if_neg hln]
            simp -implicitDefEqProofs -dsimp +contextual (maxSteps := 9999999) (disch := first | omega | simp only [go_sem] <;> omega | refine ib ?_; kernel_rfl) only [go_sem, seval, ↓reduceIte, f2, f4, f5, f6, H1, e2, fr, n1, n2, hln]
            try simp [stV, stZ]

end Go.Proofs.YtbnlbdhepbbaoaaDoor
namespace Go.Proofs.YtbnlbdhepbbaoaaDoor
open Go.Am
set_option linter.unusedSimpArgs false
set_option linter.unusedVariables false
set_option maxRecDepth 100000
/-! Layer 43: Parse. -/
@[go_sem] theorem St_ones (l : List St) : ones (l.map St.cs) = true := by
  induction l with
  | nil => rfl
  | cons a l ih => rw [List.map_cons, ones_cons, ih]; rfl
@[go_sem] theorem St_clos (l : List St) : (l.map St.cs).all clos = true := allclos_map _ (fun _ => rfl) l
def parseAll : List (List UInt8) → Nat → List St → List St × Nat × Int
  | [], _, out => (out, 0, 0)
  | l :: ls, row, out =>
    if l = [] ∨ l.head? = some 35 then parseAll ls (row + 1) out
    else if out.length = 200 then ([], row, 3)
    else if (readR l).2 = 0 then parseAll ls (row + 1) (out ++ [(readR l).1]) else ([], row, (readR l).2)
def parseR (text : List UInt8) : List St × Nat × Int := if 20000 < text.length then ([], 0, 3) else parseAll (parts 10 text) 1 []
def pV (q : List St × Nat × Int) : AVal := .tup [.slice 10 (q.1.map St.cs), .int .i64 (q.2.1 : Int), .int .i64 q.2.2]
def AccS (f : Nat → AVal) (H : Heap) (t o : Nat) (r : List St) : Prop := ∃ g, f t = .osl o g 0 r.length ∧ H o = ⟨g, .live, 10, r.map St.cs, false⟩
theorem line_row (ls : List (List UInt8)) (i : Nat) (h : i < ls.length) : (ls.map strRow)[i]? = some [.str ls[i]] := by
  rw [List.getElem?_map, List.getElem?_eq_getElem h]; rfl
theorem len_200 (n : Nat) : (((n : Nat) : Int) = 200) = (n = 200) := propext ⟨fun h => by omega, fun h => by omega⟩

set_option maxHeartbeats 8000000 in
@[go_sem] theorem e15 (text : List UInt8) (hl : text.length ≤ 9223372036854775807) : fn C 15 [] [.str text] = some (pV (parseR text), []) := by
  unfold parseR
  by_cases hb : 20000 < text.length
  · rw [if_pos hb]
    rw [fn_textN Tryd.func15 rfl rfl Tryd.results15 fq15.1 rfl rfl (by kernel_rfl)]
    simp -implicitDefEqProofs -dsimp +contextual (maxSteps := 9999999) (disch := first | omega | simp only [go_sem] <;> omega | refine ib ?_; kernel_rfl) only [go_sem, seval, ↓reduceIte, hb]
    simp [pV]
  · rw [if_neg hb]
    have sp := e20 text 10 (by omega)
    have hw : ∀ p ∈ parts 10 text, p.length ≤ 20000 := fun p hp => by have := parts_mem 10 text p hp; omega
    have hc := parts_count 10 text
    generalize parts 10 text = ls at *
    rw [fn_textN Tryd.func15 rfl rfl Tryd.results15 fq15.1 rfl rfl (by kernel_rfl)]
    simp -implicitDefEqProofs -dsimp +contextual (maxSteps := 9999999) (disch := first | omega | simp only [go_sem] <;> omega | refine ib ?_; kernel_rfl) only [go_sem, seval, ↓reduceIte, hb, sp]
    refine kLoop_rec (fun (a : Nat × List St) f H => a.1 ≤ ls.length ∧ a.2.length ≤ 200 ∧ f 14 = .slice 1 (ls.map strRow) ∧ f 15 = .int .i64 (ls.length : Int) ∧ f 16 = .int .i64 (a.1 : Int) ∧ AccS f H 5 105 a.2)
      (fun a => ls.length - a.1) (fun a => some (pV (parseAll (ls.drop a.1) (a.1 + 1) a.2), [])) ?_ (0, []) _ _ (by exact ⟨Nat.zero_le _, by simp, rfl, rfl, rfl, ⟨_, rfl, rfl⟩⟩)
    rintro ⟨i, out⟩ f H ⟨hi, ho, f14, f15, f16, g, f5, hA⟩ ih
    simp only at hi ho f16 f5 hA ih
    by_cases hlt : i < ls.length
    · have lr := line_row ls i hlt
      have hlen := hw _ (List.getElem_mem hlt)
      rw [List.drop_eq_getElem_cons hlt, parseAll]
      have ih0 := ih (i + 1, out)
      have rd := e8 ls[i] (by omega)
      have ih1 := ih (i + 1, out ++ [(readR ls[i]).1])
      simp only at ih0 ih1
      clear ih
      generalize List.drop (i + 1) ls = rest at *
      generalize readR ls[i] = q at *
      rw [stV] at rd
      cases hL : ls[i] with
      | nil =>
        rw [hL] at lr
        rw [if_pos (.inl rfl)]
        generalize parseAll rest (i + 1 + 1) out = RZ at *
        simp -implicitDefEqProofs -dsimp +contextual (maxSteps := 9999999) (disch := first | omega | simp only [go_sem] <;> omega | refine ib ?_; kernel_rfl) only [go_sem, seval, ↓reduceIte, f14, f15, f16, f5, hA, hlt, lr]
        exact ih0 _ _ (by exact ⟨hlt, ho, f14, f15, rfl, ⟨_, f5, hA⟩⟩) (by omega)
      | cons c t =>
        rw [hL] at lr rd
        by_cases h35 : c.toNat = 35
        · rw [if_pos (.inr (by simp only [List.head?_cons, Option.some.injEq]; exact UInt8.toNat_inj.1 h35))]
          generalize parseAll rest (i + 1 + 1) out = RZ at *
          simp -implicitDefEqProofs -dsimp +contextual (maxSteps := 9999999) (disch := first | omega | simp only [go_sem] <;> omega | refine ib ?_; kernel_rfl) only [go_sem, seval, ↓reduceIte, f14, f15, f16, f5, hA, hlt, lr, h35]
          exact ih0 _ _ (by exact ⟨hlt, ho, f14, f15, rfl, ⟨_, f5, hA⟩⟩) (by omega)
        · rw [if_neg (by simp only [List.head?_cons, Option.some.injEq]; exact fun h => h.elim (fun x => by cases x) (fun x => h35 (by rw [x]; rfl)))]
          by_cases h2 : out.length = 200
          · rw [if_pos h2]
            simp -implicitDefEqProofs -dsimp +contextual (maxSteps := 9999999) (disch := first | omega | simp only [go_sem] <;> omega | refine ib ?_; kernel_rfl) only [go_sem, seval, ↓reduceIte, f14, f15, f16, f5, hA, hlt, lr, h35, rd, h2, pV]
            try simp [pV]
          · rw [if_neg h2]
            by_cases z : q.2 = 0
            · rw [if_pos z]
              generalize parseAll rest (i + 1 + 1) (out ++ [q.1]) = RZ at *
              simp -implicitDefEqProofs -dsimp +contextual (maxSteps := 9999999) (disch := first | omega | simp only [go_sem] <;> omega | refine ib ?_; kernel_rfl) only [go_sem, seval, ↓reduceIte, f14, f15, f16, f5, hA, hlt, lr, h35, rd, h2, len_200, z]
              refine ih1 _ _ (by exact ⟨hlt, by rw [List.length_append, List.length_singleton]; omega, f14, f15, rfl, ⟨_, by rw [List.length_append]; rfl, by rw [List.map_append]; rfl⟩⟩) (by omega)
            · rw [if_neg z]
              simp -implicitDefEqProofs -dsimp +contextual (maxSteps := 9999999) (disch := first | omega | simp only [go_sem] <;> omega | refine ib ?_; kernel_rfl) only [go_sem, seval, ↓reduceIte, f14, f15, f16, f5, hA, hlt, lr, h35, rd, h2, len_200, z, pV]
              try simp [pV]
    · obtain rfl : i = ls.length := by omega
      clear ih
      rw [List.drop_length, parseAll]
      simp -implicitDefEqProofs -dsimp +contextual (maxSteps := 9999999) (disch := first | omega | simp only [go_sem] <;> omega | refine ib ?_; kernel_rfl) only [go_sem, seval, ↓reduceIte, f14, f15, f16, f5, hA, pV]

end Go.Proofs.YtbnlbdhepbbaoaaDoor
namespace Go.Proofs.YtbnlbdhepbbaoaaDoor
open Go.Am
set_option linter.unusedSimpArgs false
set_option linter.unusedVariables false
set_option maxRecDepth 100000
/-! Layer 43: the document's Parse. -/
theorem parts_no (c : UInt8) : ∀ (a : List UInt8), (∀ x ∈ a, ¬ x = c) → parts c a = [a]
  | [], _ => rfl
  | x :: a, h => by
    rw [parts, if_neg (h x (by simp)), parts_no c a (fun y hy => h y (by simp [hy]))]; rfl
theorem parts_at (c : UInt8) (b : List UInt8) : ∀ (a : List UInt8), (∀ x ∈ a, ¬ x = c) → parts c (a ++ c :: b) = a :: parts c b
  | [], _ => by rw [List.nil_append, parts, if_pos rfl]
  | x :: a, h => by
    rw [List.cons_append, parts, if_neg (h x (by simp)), parts_at c b a (fun y hy => h y (by simp [hy]))]; rfl
def lnT (text : List UInt8) (i fr : Nat) : List UInt8 := (text.drop fr).take (i - fr)
def LnI (text : List UInt8) (i fr : Nat) (ls : List (List UInt8)) : Prop := (i ≤ text.length ∧ fr ≤ i ∧ ls = parts 10 (text.drop fr) ∧ ∀ x ∈ lnT text i fr, ¬ x = 10) ∨ (i = text.length + 1 ∧ ls = [])
theorem lnT_cat (text : List UInt8) (i fr : Nat) (h1 : fr ≤ i) (h2 : i ≤ text.length) : text.drop fr = lnT text i fr ++ text.drop i := by
  have := (List.take_append_drop (i - fr) (text.drop fr)).symm
  rw [List.drop_drop, show fr + (i - fr) = i by omega] at this
  exact this
theorem LnI_go {text : List UInt8} {i fr : Nat} {ls : List (List UInt8)} (h : LnI text i fr ls) (hi : i < text.length) (e : ¬ text[i].toNat = 10) : LnI text (i + 1) fr ls := by
  rcases h with ⟨h1, h2, h3, h4⟩ | ⟨h1, _⟩
  · refine .inl ⟨hi, by omega, h3, fun x hx => ?_⟩
    unfold lnT at hx h4
    rw [show i + 1 - fr = (i - fr) + 1 by omega, List.take_succ_eq_append_getElem (by rw [List.length_drop]; omega), List.mem_append] at hx
    rcases hx with hx | hx
    · exact h4 x hx
    · simp only [List.mem_singleton, List.getElem_drop, show fr + (i - fr) = i by omega] at hx
      intro ex
      apply e
      rw [← hx, ex]; rfl
  · omega
theorem LnI_cut {text : List UInt8} {i fr : Nat} {ls : List (List UInt8)} (h : LnI text i fr ls) (hi : i < text.length) (e : text[i].toNat = 10) : ls = lnT text i fr :: parts 10 (text.drop (i + 1)) ∧ LnI text (i + 1) (i + 1) (parts 10 (text.drop (i + 1))) := by
  rcases h with ⟨h1, h2, h3, h4⟩ | ⟨h1, _⟩
  · refine ⟨?_, .inl ⟨hi, Nat.le_refl _, rfl, fun x hx => ?_⟩⟩
    · rw [h3, lnT_cat text i fr h2 h1, List.drop_eq_getElem_cons hi, show text[i] = 10 from UInt8.toNat_inj.1 (by rw [e]; rfl)]
      exact parts_at 10 _ _ h4
    · rw [lnT, Nat.sub_self, List.take_zero] at hx; cases hx
  · omega
theorem LnI_end {text : List UInt8} {fr : Nat} {ls : List (List UInt8)} (h : LnI text text.length fr ls) : ls = [lnT text text.length fr] := by
  rcases h with ⟨h1, h2, h3, h4⟩ | ⟨h1, _⟩
  · rw [h3]
    have := lnT_cat text text.length fr h2 h1
    rw [List.drop_length, List.append_nil] at this
    rw [this]
    exact parts_no 10 _ h4
  · omega
theorem lnT_le (text : List UInt8) (i fr : Nat) : (lnT text i fr).length ≤ text.length := by unfold lnT; rw [List.length_take, List.length_drop]; omega

set_option maxHeartbeats 8000000 in
@[go_sem] theorem e16 (text : List UInt8) (hl : text.length ≤ 9223372036854775807) : fn C 16 [] [.str text] = some (pV (parseR text), []) := by
  unfold parseR
  by_cases hb : 20000 < text.length
  · rw [if_pos hb]
    rw [fn_textN Tryd.func16 rfl rfl Tryd.results16 fq16.1 rfl rfl (by kernel_rfl)]
    simp -implicitDefEqProofs -dsimp +contextual (maxSteps := 9999999) (disch := first | omega | simp only [go_sem] <;> omega | refine ib ?_; kernel_rfl) only [go_sem, seval, ↓reduceIte, hb]
    simp [pV]
  · rw [if_neg hb]
    rw [fn_textN Tryd.func16 rfl rfl Tryd.results16 fq16.1 rfl rfl (by kernel_rfl)]
    simp -implicitDefEqProofs -dsimp +contextual (maxSteps := 9999999) (disch := first | omega | simp only [go_sem] <;> omega | refine ib ?_; kernel_rfl) only [go_sem, seval, ↓reduceIte, hb]
    refine kLoop_rec (fun (a : Nat × Nat × Nat × List St × List (List UInt8)) f H => LnI text a.1 a.2.1 a.2.2.2.2 ∧ a.2.1 ≤ a.1 ∧ a.1 ≤ text.length + 1 ∧ a.2.2.2.1.length ≤ 200 ∧ a.2.2.1 ≤ a.1 + 1 ∧ f 0 = .str text ∧ f 6 = .int .i64 (a.2.2.1 : Int) ∧ f 7 = .int .i64 (a.2.1 : Int) ∧ f 8 = .int .i64 (a.1 : Int) ∧ AccS f H 5 105 a.2.2.2.1)
      (fun a => text.length + 1 - a.1) (fun a => some (pV (parseAll a.2.2.2.2 a.2.2.1 a.2.2.2.1), [])) ?_ (0, 0, 1, [], parts 10 text) _ _ (by exact ⟨.inl ⟨Nat.zero_le _, Nat.zero_le _, rfl, fun x hx => by cases hx⟩, Nat.zero_le _, Nat.zero_le _, by simp, Nat.le_refl 1, rfl, rfl, rfl, rfl, ⟨_, rfl, rfl⟩⟩)
    rintro ⟨i, fr, row, out, ls⟩ f H ⟨hI, hf, hi, ho, hr, f0, f6, f7, f8, g, f5, hA⟩ ih
    simp only at hI hf hi ho hr f6 f7 f8 f5 hA ih
    by_cases hend : i = text.length + 1
    · have hls : ls = [] := by
        rcases hI with ⟨h1, _⟩ | ⟨_, h⟩
        · omega
        · exact h
      clear ih
      rw [hls, parseAll]
      simp -implicitDefEqProofs -dsimp +contextual (maxSteps := 9999999) (disch := first | omega | simp only [go_sem] <;> omega | refine ib ?_; kernel_rfl) only [go_sem, seval, ↓reduceIte, f0, f5, f6, f7, f8, hA, show ¬ i ≤ text.length by omega, pV]
    · have hi2 : i ≤ text.length := by omega
      by_cases hgo : ∃ h : i < text.length, ¬ text[i].toNat = 10
      · obtain ⟨hlt, e⟩ := hgo
        have hI' := LnI_go hI hlt e
        have ih' := ih (i + 1, fr, row, out, ls)
        simp only at ih'
        clear ih
        generalize parseAll ls row out = RZ at *
        simp -implicitDefEqProofs -dsimp +contextual (maxSteps := 9999999) (disch := first | omega | simp only [go_sem] <;> omega | refine ib ?_; kernel_rfl) only [go_sem, seval, ↓reduceIte, f0, f5, f6, f7, f8, hA, hi2, hlt, e]
        exact ih' _ _ (by exact ⟨hI', by omega, by omega, ho, by omega, f0, f6, f7, rfl, ⟨_, f5, hA⟩⟩) (by omega)
      · have hcut : ∃ ls', ls = lnT text i fr :: ls' ∧ LnI text (i + 1) (i + 1) ls' := by
          by_cases hlt : i < text.length
          · have e : text[i].toNat = 10 := Classical.byContradiction fun e => hgo ⟨hlt, e⟩
            exact ⟨_, LnI_cut hI hlt e⟩
          · obtain rfl : i = text.length := by omega
            exact ⟨[], LnI_end hI, .inr ⟨rfl, rfl⟩⟩
        obtain ⟨ls', hls, hI'⟩ := hcut
        have hle := lnT_le text i fr
        have rd := e9 (lnT text i fr) (by omega)
        have ih0 := ih (i + 1, i + 1, row + 1, out, ls')
        have ih1 := ih (i + 1, i + 1, row + 1, out ++ [(readR (lnT text i fr)).1], ls')
        simp only at ih0 ih1
        clear ih
        rw [hls, parseAll]
        have hT : List.take (i - fr) (List.drop fr text) = lnT text i fr := rfl
        generalize lnT text i fr = ln at *
        generalize readR ln = q at *
        rw [stV] at rd
        have hcond : (i < text.length ∧ ∃ h : i < text.length, text[i].toNat = 10) ∨ i = text.length := by
          by_cases hlt : i < text.length
          · exact .inl ⟨hlt, hlt, Classical.byContradiction fun e => hgo ⟨hlt, e⟩⟩
          · exact .inr (by omega)
        clear hgo hls hI hend
        cases hL : ln with
        | nil =>
          rw [hL] at hT
          rw [if_pos (.inl rfl)]
          generalize parseAll ls' (row + 1) out = RZ at *
          rcases hcond with ⟨hlt, _, e⟩ | e
          · simp -implicitDefEqProofs -dsimp +contextual (maxSteps := 9999999) (disch := first | omega | simp only [go_sem] <;> omega | refine ib ?_; kernel_rfl) only [go_sem, seval, ↓reduceIte, f0, f5, f6, f7, f8, hA, hi2, hlt, e, hT]
            exact ih0 _ _ (by exact ⟨hI', by omega, by omega, ho, by omega, f0, rfl, rfl, rfl, ⟨_, f5, hA⟩⟩) (by omega)
          · simp -implicitDefEqProofs -dsimp +contextual (maxSteps := 9999999) (disch := first | omega | simp only [go_sem] <;> omega | refine ib ?_; kernel_rfl) only [go_sem, seval, ↓reduceIte, f0, f5, f6, f7, f8, hA, hi2, show ¬ i < text.length by omega, hT]
            exact ih0 _ _ (by exact ⟨hI', by omega, by omega, ho, by omega, f0, rfl, rfl, rfl, ⟨_, f5, hA⟩⟩) (by omega)
        | cons c t =>
          rw [hL] at hT rd
          by_cases h35 : c.toNat = 35
          · rw [if_pos (.inr (by simp only [List.head?_cons, Option.some.injEq]; exact UInt8.toNat_inj.1 h35))]
            generalize parseAll ls' (row + 1) out = RZ at *
            rcases hcond with ⟨hlt, _, e⟩ | e
            · simp -implicitDefEqProofs -dsimp +contextual (maxSteps := 9999999) (disch := first | omega | simp only [go_sem] <;> omega | refine ib ?_; kernel_rfl) only [go_sem, seval, ↓reduceIte, f0, f5, f6, f7, f8, hA, hi2, hlt, e, hT, h35]
              exact ih0 _ _ (by exact ⟨hI', by omega, by omega, ho, by omega, f0, rfl, rfl, rfl, ⟨_, f5, hA⟩⟩) (by omega)
            · simp -implicitDefEqProofs -dsimp +contextual (maxSteps := 9999999) (disch := first | omega | simp only [go_sem] <;> omega | refine ib ?_; kernel_rfl) only [go_sem, seval, ↓reduceIte, f0, f5, f6, f7, f8, hA, hi2, show ¬ i < text.length by omega, hT, h35]
              exact ih0 _ _ (by exact ⟨hI', by omega, by omega, ho, by omega, f0, rfl, rfl, rfl, ⟨_, f5, hA⟩⟩) (by omega)
          · rw [if_neg (by simp only [List.head?_cons, Option.some.injEq]; exact fun h => h.elim (fun x => by cases x) (fun x => h35 (by rw [x]; rfl)))]
            by_cases h2 : out.length = 200
            · rw [if_pos h2]
              rcases hcond with ⟨hlt, _, e⟩ | e
              · simp -implicitDefEqProofs -dsimp +contextual (maxSteps := 9999999) (disch := first | omega | simp only [go_sem] <;> omega | refine ib ?_; kernel_rfl) only [go_sem, seval, ↓reduceIte, f0, f5, f6, f7, f8, hA, hi2, hlt, e, hT, h35, rd, h2, pV]
                try simp [pV]
              · simp -implicitDefEqProofs -dsimp +contextual (maxSteps := 9999999) (disch := first | omega | simp only [go_sem] <;> omega | refine ib ?_; kernel_rfl) only [go_sem, seval, ↓reduceIte, f0, f5, f6, f7, f8, hA, hi2, show ¬ i < text.length by omega, hT, h35, rd, h2, pV]
                try simp [pV]
            · rw [if_neg h2]
              by_cases z : q.2 = 0
              · rw [if_pos z]
                generalize parseAll ls' (row + 1) (out ++ [q.1]) = RZ at *
                rcases hcond with ⟨hlt, _, e⟩ | e
                · simp -implicitDefEqProofs -dsimp +contextual (maxSteps := 9999999) (disch := first | omega | simp only [go_sem] <;> omega | refine ib ?_; kernel_rfl) only [go_sem, seval, ↓reduceIte, f0, f5, f6, f7, f8, hA, hi2, hlt, e, hT, h35, rd, h2, len_200, z]
                  exact ih1 _ _ (by exact ⟨hI', by omega, by omega, by rw [List.length_append, List.length_singleton]; omega, by omega, f0, rfl, rfl, rfl, ⟨_, by rw [List.length_append]; rfl, by rw [List.map_append]; rfl⟩⟩) (by omega)
                · simp -implicitDefEqProofs -dsimp +contextual (maxSteps := 9999999) (disch := first | omega | simp only [go_sem] <;> omega | refine ib ?_; kernel_rfl) only [go_sem, seval, ↓reduceIte, f0, f5, f6, f7, f8, hA, hi2, show ¬ i < text.length by omega, hT, h35, rd, h2, len_200, z]
                  exact ih1 _ _ (by exact ⟨hI', by omega, by omega, by rw [List.length_append, List.length_singleton]; omega, by omega, f0, rfl, rfl, rfl, ⟨_, by rw [List.length_append]; rfl, by rw [List.map_append]; rfl⟩⟩) (by omega)
              · rw [if_neg z]
                rcases hcond with ⟨hlt, _, e⟩ | e
                · simp -implicitDefEqProofs -dsimp +contextual (maxSteps := 9999999) (disch := first | omega | simp only [go_sem] <;> omega | refine ib ?_; kernel_rfl) only [go_sem, seval, ↓reduceIte, f0, f5, f6, f7, f8, hA, hi2, hlt, e, hT, h35, rd, h2, len_200, z, pV]
                  try simp [pV]
                · simp -implicitDefEqProofs -dsimp +contextual (maxSteps := 9999999) (disch := first | omega | simp only [go_sem] <;> omega | refine ib ?_; kernel_rfl) only [go_sem, seval, ↓reduceIte, f0, f5, f6, f7, f8, hA, hi2, show ¬ i < text.length by omega, hT, h35, rd, h2, len_200, z, pV]
                  try simp [pV]

end Go.Proofs.YtbnlbdhepbbaoaaDoor
namespace Go.Proofs.YtbnlbdhepbbaoaaDoor
open Go.Am
set_option linter.unusedSimpArgs false
set_option linter.unusedVariables false
set_option maxRecDepth 100000
/-! Layer 43: the example; ScriptReads. -/
def exL : List UInt8 := [98, 111, 111, 116, 32, 51, 32, 97, 32, 97, 108, 111, 110, 101]
def exS : St := ⟨1, 3, 0, 1, 0, 0, 0, [97], [], []⟩
def exT : List UInt8 := [116, 105, 99, 107, 10, 10, 98, 111, 111, 116, 32, 56, 32, 97]
theorem itoa3 : Lib.itoa 3 = [51] := by rw [Lib.itoa, if_neg (by decide), show (3 : Int).toNat = 3 from rfl, Lib.decDigits_one (by decide)]; rfl
theorem ex_read : readR exL = (exS, 0) := by kernel_rfl
theorem ex_lineW : lineW exS = exL := by
  rw [show lineW exS = Lib.join [wordK 1, Lib.itoa 3, [97], [97, 108, 111, 110, 101]] [32] from rfl, itoa3]
  kernel_rfl
theorem ex_line : lineR exS = (exL, 0) := by rw [lineR, ex_lineW, ex_read, if_pos rfl]
theorem ex_parse : parseR exT = ([], 3, 51) := by kernel_rfl
theorem exS_ok : exS.ok := by constructor <;> decide
set_option maxHeartbeats 4000000 in
@[go_sem] theorem e7 : fn C 7 [] [] = some (.bool true, []) := by
  have h1 := e8 exL (by decide)
  have h2 := e12 exS exS_ok
  have h3 := e15 exT (by decide)
  rw [ex_read, stV] at h1
  rw [ex_line] at h2
  rw [ex_parse, pV] at h3
  simp only [exL, exS, exT, List.map_nil, Int.cast_ofNat_Int] at h1 h2 h3
  rw [fn_text Tryd.func7 rfl rfl Tryd.results7 fq7.1 rfl rfl (by kernel_rfl)]
  simp -implicitDefEqProofs -dsimp +contextual (maxSteps := 9999999) (disch := first | omega | simp only [go_sem] <;> omega | refine ib ?_; kernel_rfl) only [go_sem, seval, ↓reduceIte, h1, h2, h3]

set_option maxHeartbeats 4000000 in
theorem e3 (line : List UInt8) (hl : line.length ≤ 9223372036854775807) : fn C 3 [] [.str line] = some (.bool true, []) := by
  by_cases h : 5000 < line.length
  · rw [fn_text Tryd.func3 rfl rfl Tryd.results3 fq3.1 rfl rfl (by kernel_rfl)]
    simp -implicitDefEqProofs -dsimp +contextual (maxSteps := 9999999) (disch := first | omega | simp only [go_sem] <;> omega | refine ib ?_; kernel_rfl) only [go_sem, seval, ↓reduceIte, h]
  · have h1 := e8 line (by omega)
    have h2 := e9 line (by omega)
    have ok := readR_ok line
    rw [stV] at h1 h2
    generalize readR line = q at *
    have m := e10 q.1 q.1 (by have := ok.g3; omega) (by have := ok.g3; omega)
    rw [decide_eq_true rfl] at m
    rw [fn_text Tryd.func3 rfl rfl Tryd.results3 fq3.1 rfl rfl (by kernel_rfl)]
    simp -implicitDefEqProofs -dsimp +contextual (maxSteps := 9999999) (disch := first | omega | simp only [go_sem] <;> omega | refine ib ?_; kernel_rfl) only [go_sem, seval, ↓reduceIte, h, h1, h2, m]

end Go.Proofs.YtbnlbdhepbbaoaaDoor
namespace Go.Proofs.YtbnlbdhepbbaoaaDoor
open Go.Am
set_option linter.unusedSimpArgs false
set_option linter.unusedVariables false
set_option maxRecDepth 100000
/-! Layer 43: the document's Line. -/
def sayR (s : St) (c : Nat) : List UInt8 :=
  if c = 110 then Lib.itoa s.node else if c = 111 then Lib.itoa s.other else if c = 112 then Lib.itoa s.n else if c = 102 then Lib.itoa s.fr else if c = 97 then Lib.itoa s.fr else if c = 117 then Lib.itoa s.un else if c = 98 then Lib.itoa s.un
  else if c = 105 then hexR s.id else if c = 109 then s.key else if c = 107 then s.key else if c = 115 then s.val else if c = 118 then bytesR s.val else bytesR s.bs
theorem ite_sm {p : Prop} [Decidable p] {a b : List UInt8} (ha : a.length ≤ 200001) (hb : b.length ≤ 200001) : (if p then a else b).length ≤ 200001 := by split <;> assumption
theorem sayR_sm (s : St) (h : s.ok) (c : Nat) : (sayR s c).length ≤ 200001 := by
  have n1 := itoa_sm s.node h.a1 h.a2; have n2 := itoa_sm s.other h.b1 h.b2; have n3 := itoa_sm s.n h.c1 h.c2; have n4 := itoa_sm s.fr h.d1 h.d2; have n5 := itoa_sm s.un h.e1 h.e2
  have n6 := hexR_sm s.id; have n7 := bytesR_sm s.val h.g2; have n8 := bytesR_sm s.bs h.g3
  have g1 := h.g1; have g2 := h.g2
  have g3 : s.key.length ≤ 200001 := by omega
  have g4 : s.val.length ≤ 200001 := by omega
  unfold sayR
  repeat' (first | assumption | refine ite_sm ?_ ?_)
set_option maxHeartbeats 8000000 in
theorem refSay (s : St) (h : s.ok) (c : Nat) (hc : okL c) (h49 : c ≠ 49) : fn C 31 [] [.agg [.int .i64 s.kind, .int .i64 s.node, .int .i64 s.other, .int .i64 s.n, .int .i64 s.fr, .int .i64 s.un, .int .u64 (s.id : Int), .str s.key, .str s.val, .slice 1 (s.bs.map byteRow)], .int .u8 (c : Int)] = some (.str (sayR s c), []) := by
  have := h.f2; have := h.a1; have := h.a2; have := h.b1; have := h.b2; have := h.c1; have := h.c2; have := h.d1; have := h.d2; have := h.e1; have := h.e2; have := h.g1; have := h.g2; have := h.g3
  have hc' : c = 110 ∨ c = 111 ∨ c = 112 ∨ c = 102 ∨ c = 117 ∨ c = 97 ∨ c = 98 ∨ c = 105 ∨ c = 109 ∨ c = 107 ∨ c = 115 ∨ c = 118 ∨ c = 114 := by unfold okL at hc; omega
  rcases hc' with rfl | rfl | rfl | rfl | rfl | rfl | rfl | rfl | rfl | rfl | rfl | rfl | rfl
  · rw [show sayR s 110 = Lib.itoa s.node from rfl]
    rw [fn_text Tryd.func31 rfl rfl Tryd.results31 fq31.1 rfl rfl (by kernel_rfl)]
    simp -implicitDefEqProofs -dsimp +contextual (maxSteps := 9999999) (disch := first | omega | simp only [go_sem] <;> omega | refine ib ?_; kernel_rfl) only [go_sem, seval, ↓reduceIte]
  · rw [show sayR s 111 = Lib.itoa s.other from rfl]
    rw [fn_text Tryd.func31 rfl rfl Tryd.results31 fq31.1 rfl rfl (by kernel_rfl)]
    simp -implicitDefEqProofs -dsimp +contextual (maxSteps := 9999999) (disch := first | omega | simp only [go_sem] <;> omega | refine ib ?_; kernel_rfl) only [go_sem, seval, ↓reduceIte]
  · rw [show sayR s 112 = Lib.itoa s.n from rfl]
    rw [fn_text Tryd.func31 rfl rfl Tryd.results31 fq31.1 rfl rfl (by kernel_rfl)]
    simp -implicitDefEqProofs -dsimp +contextual (maxSteps := 9999999) (disch := first | omega | simp only [go_sem] <;> omega | refine ib ?_; kernel_rfl) only [go_sem, seval, ↓reduceIte]
  · rw [show sayR s 102 = Lib.itoa s.fr from rfl]
    rw [fn_text Tryd.func31 rfl rfl Tryd.results31 fq31.1 rfl rfl (by kernel_rfl)]
    simp -implicitDefEqProofs -dsimp +contextual (maxSteps := 9999999) (disch := first | omega | simp only [go_sem] <;> omega | refine ib ?_; kernel_rfl) only [go_sem, seval, ↓reduceIte]
  · rw [show sayR s 117 = Lib.itoa s.un from rfl]
    rw [fn_text Tryd.func31 rfl rfl Tryd.results31 fq31.1 rfl rfl (by kernel_rfl)]
    simp -implicitDefEqProofs -dsimp +contextual (maxSteps := 9999999) (disch := first | omega | simp only [go_sem] <;> omega | refine ib ?_; kernel_rfl) only [go_sem, seval, ↓reduceIte]
  · rw [show sayR s 97 = Lib.itoa s.fr from rfl]
    rw [fn_text Tryd.func31 rfl rfl Tryd.results31 fq31.1 rfl rfl (by kernel_rfl)]
    simp -implicitDefEqProofs -dsimp +contextual (maxSteps := 9999999) (disch := first | omega | simp only [go_sem] <;> omega | refine ib ?_; kernel_rfl) only [go_sem, seval, ↓reduceIte]
  · rw [show sayR s 98 = Lib.itoa s.un from rfl]
    rw [fn_text Tryd.func31 rfl rfl Tryd.results31 fq31.1 rfl rfl (by kernel_rfl)]
    simp -implicitDefEqProofs -dsimp +contextual (maxSteps := 9999999) (disch := first | omega | simp only [go_sem] <;> omega | refine ib ?_; kernel_rfl) only [go_sem, seval, ↓reduceIte]
  · rw [show sayR s 105 = hexR s.id from rfl]
    rw [fn_text Tryd.func31 rfl rfl Tryd.results31 fq31.1 rfl rfl (by kernel_rfl)]
    simp -implicitDefEqProofs -dsimp +contextual (maxSteps := 9999999) (disch := first | omega | simp only [go_sem] <;> omega | refine ib ?_; kernel_rfl) only [go_sem, seval, ↓reduceIte]
  · rw [show sayR s 109 = s.key from rfl]
    rw [fn_text Tryd.func31 rfl rfl Tryd.results31 fq31.1 rfl rfl (by kernel_rfl)]
    simp -implicitDefEqProofs -dsimp +contextual (maxSteps := 9999999) (disch := first | omega | simp only [go_sem] <;> omega | refine ib ?_; kernel_rfl) only [go_sem, seval, ↓reduceIte]
  · rw [show sayR s 107 = s.key from rfl]
    rw [fn_text Tryd.func31 rfl rfl Tryd.results31 fq31.1 rfl rfl (by kernel_rfl)]
    simp -implicitDefEqProofs -dsimp +contextual (maxSteps := 9999999) (disch := first | omega | simp only [go_sem] <;> omega | refine ib ?_; kernel_rfl) only [go_sem, seval, ↓reduceIte]
  · rw [show sayR s 115 = s.val from rfl]
    rw [fn_text Tryd.func31 rfl rfl Tryd.results31 fq31.1 rfl rfl (by kernel_rfl)]
    simp -implicitDefEqProofs -dsimp +contextual (maxSteps := 9999999) (disch := first | omega | simp only [go_sem] <;> omega | refine ib ?_; kernel_rfl) only [go_sem, seval, ↓reduceIte]
  · rw [show sayR s 118 = bytesR s.val from rfl]
    rw [fn_text Tryd.func31 rfl rfl Tryd.results31 fq31.1 rfl rfl (by kernel_rfl)]
    simp -implicitDefEqProofs -dsimp +contextual (maxSteps := 9999999) (disch := first | omega | simp only [go_sem] <;> omega | refine ib ?_; kernel_rfl) only [go_sem, seval, ↓reduceIte]
  · rw [show sayR s 114 = bytesR s.bs from rfl]
    rw [fn_text Tryd.func31 rfl rfl Tryd.results31 fq31.1 rfl rfl (by kernel_rfl)]
    simp -implicitDefEqProofs -dsimp +contextual (maxSteps := 9999999) (disch := first | omega | simp only [go_sem] <;> omega | refine ib ?_; kernel_rfl) only [go_sem, seval, ↓reduceIte]

def accR (s : St) (w F : List UInt8) : List UInt8 := w ++ F.flatMap fun c => 32 :: sayR s c.toNat
theorem accR_more (s : St) (w F : List UInt8) (i : Nat) (h : i < F.length) : accR s w (F.take (i + 1)) = accR s w (F.take i) ++ [32] ++ sayR s F[i].toNat := by
  unfold accR
  rw [List.take_succ_eq_append_getElem h, List.flatMap_append]
  simp
theorem accR_le (s : St) (hs : s.ok) (w : List UInt8) : ∀ F : List UInt8, (accR s w F).length ≤ w.length + F.length * 200002
  | [] => by simp [accR]
  | c :: F => by
    have ih := accR_le s hs w F
    have h1 := sayR_sm s hs c.toNat
    unfold accR at ih ⊢
    simp only [List.flatMap_cons, List.length_append, List.length_cons] at ih ⊢
    omega
theorem lineW_acc (s : St) (w F : List UInt8) (e : wordK s.kind = w) (h : toldR s = F.map fun c => sayR s c.toNat) : lineW s = accR s w F := by
  unfold lineW accR
  rw [e, Lib.join_cons, Lib.joinTail, h, List.map_map, ← List.flatMap_def]
  rfl
theorem lineW_one (s : St) (w F : List UInt8) (e : wordK s.kind = w) (h : toldR s = (F.map fun c => sayR s c.toNat) ++ [[97, 108, 111, 110, 101]]) : lineW s = accR s w F ++ [32, 97, 108, 111, 110, 101] := by
  unfold lineW accR
  rw [e, Lib.join_cons, Lib.joinTail, h, List.map_append, List.flatten_append, List.map_map, ← List.append_assoc]
  rw [show (List.map ((fun x => [32] ++ x) ∘ fun c : UInt8 => sayR s c.toNat) F).flatten = F.flatMap (fun c => 32 :: sayR s c.toNat) by rw [List.flatMap_def]; rfl]
  rfl
theorem told_form (s : St) (k : Nat) (hk : s.kind = (k : Int)) (h1 : 1 ≤ k) (h2 : k ≤ 19) (n1 : ¬(k = 1 ∧ s.n = 1)) (n2 : ¬(k = 18 ∧ ¬ s.key = [])) : toldR s = (formR k).map fun c => sayR s c.toNat := by
  have h : k = 1 ∨ k = 2 ∨ k = 3 ∨ k = 4 ∨ k = 5 ∨ k = 6 ∨ k = 7 ∨ k = 8 ∨ k = 9 ∨ k = 10 ∨ k = 11 ∨ k = 12 ∨ k = 13 ∨ k = 14 ∨ k = 15 ∨ k = 16 ∨ k = 17 ∨ k = 18 ∨ k = 19 := by omega
  rcases h with rfl | rfl | rfl | rfl | rfl | rfl | rfl | rfl | rfl | rfl | rfl | rfl | rfl | rfl | rfl | rfl | rfl | rfl | rfl
  · have n3 : ¬ s.n = 1 := fun e => n1 ⟨rfl, e⟩
    simp only [toldR, hk, n3, Int.cast_ofNat_Int, Int.reduceEq, if_false, if_true, reduceIte]; rfl
  · simp only [toldR, hk, Int.cast_ofNat_Int, Int.reduceEq, if_false, if_true, reduceIte, or_self, or_true, true_or, false_and, or_false, false_or]; rfl
  · simp only [toldR, hk, Int.cast_ofNat_Int, Int.reduceEq, if_false, if_true, reduceIte, or_self, or_true, true_or, false_and, or_false, false_or]; rfl
  · simp only [toldR, hk, Int.cast_ofNat_Int, Int.reduceEq, if_false, if_true, reduceIte, or_self, or_true, true_or, false_and, or_false, false_or]; rfl
  · simp only [toldR, hk, Int.cast_ofNat_Int, Int.reduceEq, if_false, if_true, reduceIte, or_self, or_true, true_or, false_and, or_false, false_or]; rfl
  · simp only [toldR, hk, Int.cast_ofNat_Int, Int.reduceEq, if_false, if_true, reduceIte, or_self, or_true, true_or, false_and, or_false, false_or]; rfl
  · simp only [toldR, hk, Int.cast_ofNat_Int, Int.reduceEq, if_false, if_true, reduceIte, or_self, or_true, true_or, false_and, or_false, false_or]; rfl
  · simp only [toldR, hk, Int.cast_ofNat_Int, Int.reduceEq, if_false, if_true, reduceIte, or_self, or_true, true_or, false_and, or_false, false_or]; rfl
  · simp only [toldR, hk, Int.cast_ofNat_Int, Int.reduceEq, if_false, if_true, reduceIte, or_self, or_true, true_or, false_and, or_false, false_or]; rfl
  · simp only [toldR, hk, Int.cast_ofNat_Int, Int.reduceEq, if_false, if_true, reduceIte, or_self, or_true, true_or, false_and, or_false, false_or]; rfl
  · simp only [toldR, hk, Int.cast_ofNat_Int, Int.reduceEq, if_false, if_true, reduceIte, or_self, or_true, true_or, false_and, or_false, false_or]; rfl
  · simp only [toldR, hk, Int.cast_ofNat_Int, Int.reduceEq, if_false, if_true, reduceIte, or_self, or_true, true_or, false_and, or_false, false_or]; rfl
  · simp only [toldR, hk, Int.cast_ofNat_Int, Int.reduceEq, if_false, if_true, reduceIte, or_self, or_true, true_or, false_and, or_false, false_or]; rfl
  · simp only [toldR, hk, Int.cast_ofNat_Int, Int.reduceEq, if_false, if_true, reduceIte, or_self, or_true, true_or, false_and, or_false, false_or]; rfl
  · simp only [toldR, hk, Int.cast_ofNat_Int, Int.reduceEq, if_false, if_true, reduceIte, or_self, or_true, true_or, false_and, or_false, false_or]; rfl
  · simp only [toldR, hk, Int.cast_ofNat_Int, Int.reduceEq, if_false, if_true, reduceIte, or_self, or_true, true_or, false_and, or_false, false_or]; rfl
  · simp only [toldR, hk, Int.cast_ofNat_Int, Int.reduceEq, if_false, if_true, reduceIte, or_self, or_true, true_or, false_and, or_false, false_or]; rfl
  · have n3 : s.key = [] := Classical.byContradiction fun e => n2 ⟨rfl, e⟩
    simp only [toldR, hk, n3, Int.cast_ofNat_Int, Int.reduceEq, if_false, if_true, reduceIte, or_self, ne_eq, not_true_eq_false, and_false]; rfl
  · simp only [toldR, hk, Int.cast_ofNat_Int, Int.reduceEq, if_false, if_true, reduceIte, or_self, or_true, true_or, false_and, or_false, false_or]; rfl
theorem lineR_out (s : St) (h : s.kind < 1 ∨ 19 < s.kind) : lineR s = ([], 2) := by
  have e1 : wordK s.kind = [] := by unfold wordK; rw [if_neg (by omega)]
  have e2 : toldR s = [] := by
    unfold toldR
    rw [if_neg (by omega), if_neg (by omega), if_neg (by omega), if_neg (by omega), if_neg (by omega), if_neg (by omega), if_neg (by omega), if_neg (by omega), if_neg (by omega), if_neg (by omega), if_neg (fun x => by omega)]
  have e3 : lineW s = [] := by rw [lineW, e1, e2, Lib.join_one]
  rw [lineR, e3, if_neg]
  rw [show readR [] = (stZ, 50) by kernel_rfl]
  intro e
  cases congrArg Prod.snd e

end Go.Proofs.YtbnlbdhepbbaoaaDoor
namespace Go.Proofs.YtbnlbdhepbbaoaaDoor
open Go.Am
set_option linter.unusedSimpArgs false
set_option linter.unusedVariables false
set_option maxRecDepth 100000
/-! Layer 43: the document's Line; ScriptWrites. -/
set_option maxHeartbeats 16000000 in
@[go_sem] theorem e13 (s : St) (h : s.ok) : fn C 13 [] [.agg [.int .i64 s.kind, .int .i64 s.node, .int .i64 s.other, .int .i64 s.n, .int .i64 s.fr, .int .i64 s.un, .int .u64 (s.id : Int), .str s.key, .str s.val, .slice 1 (s.bs.map byteRow)]] = some (.tup [.str (lineR s).1, .int .i64 (lineR s).2], []) := by
  by_cases hout : s.kind < 1 ∨ 19 < s.kind
  · rw [lineR_out s hout]
    rw [fn_text Tryd.func13 rfl rfl Tryd.results13 fq13.1 rfl rfl (by kernel_rfl)]
    rcases hout with hout | hout
    · simp -implicitDefEqProofs -dsimp +contextual (maxSteps := 9999999) (disch := first | omega | simp only [go_sem] <;> omega | refine ib ?_; kernel_rfl) only [go_sem, seval, ↓reduceIte, hout]
    · simp -implicitDefEqProofs -dsimp +contextual (maxSteps := 9999999) (disch := first | omega | simp only [go_sem] <;> omega | refine ib ?_; kernel_rfl) only [go_sem, seval, ↓reduceIte, hout, show ¬ s.kind < 1 by omega]
  · obtain ⟨k, hk⟩ : ∃ k : Nat, s.kind = (k : Int) := ⟨s.kind.toNat, by omega⟩
    have k1 : 1 ≤ k := by omega
    have k2 : k ≤ 19 := by omega
    have nr := names_row k (by omega)
    have fr := forms_row k (by omega)
    have e1 := e24
    have e2 := e25
    have hwk : wordK s.kind = wordR k := by rw [wordK, if_pos (by omega), hk]; rfl
    have hwl := wordR_le k k2
    have rd := e9 (lineW s) (lineW_le s h).1
    have ok := readR_ok (lineW s)
    have g3 := h.g3
    have g4 := ok.g3
    have m := e10 (readR (lineW s)).1 s (by omega) (by omega)
    rw [stV] at rd
    unfold lineR
    have hF : ∃ F : List UInt8, okF F = true ∧ F.length ≤ 4 ∧ ((¬(k = 1 ∧ s.n = 1) ∧ ¬(k = 18 ∧ ¬ s.key = []) ∧ F = formR k ∧ accR s (wordR k) F = lineW s) ∨ (k = 1 ∧ s.n = 1 ∧ F = [110, 109] ∧ accR s (wordR k) F ++ [32, 97, 108, 111, 110, 101] = lineW s) ∨ (k = 18 ∧ ¬ s.key = [] ∧ F = [109] ∧ accR s (wordR k) F = lineW s)) := by
      by_cases n1 : k = 1 ∧ s.n = 1
      · refine ⟨[110, 109], by decide, by simp, .inr (.inl ⟨n1.1, n1.2, rfl, ?_⟩)⟩
        refine (lineW_one s _ _ hwk ?_).symm
        simp only [toldR, hk, n1.1, n1.2, Int.cast_ofNat_Int, Int.reduceEq, if_false, if_true, reduceIte]
        rfl
      · by_cases n2 : k = 18 ∧ ¬ s.key = []
        · refine ⟨[109], by decide, by simp, .inr (.inr ⟨n2.1, n2.2, rfl, ?_⟩)⟩
          refine (lineW_acc s _ _ hwk ?_).symm
          simp only [toldR, hk, n2.1, n2.2, Int.cast_ofNat_Int, Int.reduceEq, if_false, if_true, reduceIte, or_self, ne_eq, not_false_eq_true, and_self]
          rfl
        · exact ⟨formR k, okF_form k k2, by have : ∀ k : Fin 20, (formR k.val).length ≤ 4 := by decide
                                            exact this ⟨k, by omega⟩, .inl ⟨n1, n2, rfl, (lineW_acc s _ _ hwk (told_form s k hk k1 k2 n1 n2)).symm⟩⟩
    obtain ⟨F, okf, hFl, hF⟩ := hF
    have hacc := fun i => accR_le s h (wordR k) (F.take i)
    generalize wordR k = w at *
    generalize lineW s = W at *
    generalize hq : readR W = q at *
    obtain ⟨b, e⟩ := q
    simp only at *
    have hR : (if (b, e) = (s, 0) then (W, (0 : Int)) else ([], 2)) = if e = 0 ∧ b = s then (W, 0) else ([], 2) := by
      by_cases c : e = 0 ∧ b = s
      · rw [if_pos c, if_pos (by rw [c.1, c.2])]
      · rw [if_neg c, if_neg (fun x => c ⟨congrArg Prod.snd x, congrArg Prod.fst x⟩)]
    rw [hR]
    clear hR hq
    have hkk : s.kind < 1 ↔ False := by rw [iff_false]; omega
    have hcs : (k = 18 ∧ s.key = [] ∧ F = formR k ∧ accR s w F = W) ∨ (k = 1 ∧ ¬ s.n = 1 ∧ F = formR k ∧ accR s w F = W) ∨ (¬ k = 18 ∧ ¬ k = 1 ∧ F = formR k ∧ accR s w F = W) ∨ (k = 1 ∧ s.n = 1 ∧ F = [110, 109] ∧ accR s w F ++ [32, 97, 108, 111, 110, 101] = W) ∨ (k = 18 ∧ ¬ s.key = [] ∧ F = [109] ∧ accR s w F = W) := by
      rcases hF with ⟨n1, n2, hF, ha⟩ | ⟨n1, n2, hF, ha⟩ | ⟨n1, n2, hF, ha⟩
      · by_cases c18 : k = 18
        · exact .inl ⟨c18, Classical.byContradiction fun x => n2 ⟨c18, x⟩, hF, ha⟩
        · by_cases c1 : k = 1
          · exact .inr (.inl ⟨c1, fun x => n1 ⟨c1, x⟩, hF, ha⟩)
          · exact .inr (.inr (.inl ⟨c18, c1, hF, ha⟩))
      · exact .inr (.inr (.inr (.inl ⟨n1, n2, hF, ha⟩)))
      · exact .inr (.inr (.inr (.inr ⟨n1, n2, hF, ha⟩)))
    clear hF hkk
    rcases hcs with ⟨n1, n2, hF, ha⟩ | ⟨n1, n2, hF, ha⟩ | ⟨n1, n2, hF, ha⟩ | ⟨n1, n2, hF, ha⟩ | ⟨n1, n2, hF, ha⟩
    · subst n1
      simp only [Int.cast_ofNat_Int] at hk
      rw [show formR 18 = [] from rfl] at fr
      rw [fn_text Tryd.func13 rfl rfl Tryd.results13 fq13.1 rfl rfl (by kernel_rfl)]
      simp -implicitDefEqProofs -dsimp +contextual (maxSteps := 9999999) (disch := first | omega | simp only [go_sem] <;> omega | refine ib ?_; kernel_rfl) only [go_sem, seval, ↓reduceIte, hk, e1, e2, nr, fr, n2]
      refine kFor F.length (fun i f H => f 1 = .ptr 101 1 0 0 ∧ f 4 = .str (accR s w (F.take i)) ∧ f 5 = .str F ∧ f 6 = .int .i64 (i : Int) ∧ H 101 = ⟨1, .live, 10, [s.cs], false⟩) ?_ ?_ (by refine ⟨rfl, ?_, ?_, rfl, by simp [Heap.set, St.cs_eq, hk, n2]⟩ <;> first | rfl | (simp [upd, accR]; done) | (rw [hF]; rfl))
      · rintro i f H hi ⟨f1, f4, f5, f6, H1⟩ ih
        have ok1 := okF_mem okf hi
        have sy := refSay s h F[i].toNat ok1.1 ok1.2
        have sl := sayR_sm s h F[i].toNat
        have al := hacc i
        have hm := accR_more s w F i hi
        have tl : (F.take i).length ≤ 4 := by simp; omega
        generalize accR s w (F.take i) = A at *
        generalize sayR s F[i].toNat = B at *
        rw [St.cs_eq] at H1
        simp -implicitDefEqProofs -dsimp +contextual (maxSteps := 9999999) (disch := first | omega | simp only [go_sem] <;> omega | refine ib ?_; kernel_rfl) only [go_sem, seval, ↓reduceIte, f1, f4, f5, f6, H1, hi, sy]
        exact ih _ _ ⟨f1, by rw [hm]; first | rfl | simp, f5, rfl, by rw [St.cs_eq]; exact H1⟩
      · rintro f H ⟨f1, f4, f5, f6, H1⟩
        rw [List.take_length] at f4
        have al := hacc F.length
        rw [List.take_length] at al
        rw [St.cs_eq] at H1
        rw [ha] at f4
        by_cases c1 : e = 0
        · by_cases c2 : b = s
          · rw [if_pos ⟨c1, c2⟩]
            simp -implicitDefEqProofs -dsimp +contextual (maxSteps := 9999999) (disch := first | omega | simp only [go_sem] <;> omega | refine ib ?_; kernel_rfl) only [go_sem, seval, ↓reduceIte, f1, f4, f5, f6, H1, show ¬ s.kind = 1 by omega, rd, m, c1, c2]
          · rw [if_neg (fun x => c2 x.2)]
            simp -implicitDefEqProofs -dsimp +contextual (maxSteps := 9999999) (disch := first | omega | simp only [go_sem] <;> omega | refine ib ?_; kernel_rfl) only [go_sem, seval, ↓reduceIte, f1, f4, f5, f6, H1, show ¬ s.kind = 1 by omega, rd, m, c1, c2]
        · rw [if_neg (fun x => c1 x.1)]
          simp -implicitDefEqProofs -dsimp +contextual (maxSteps := 9999999) (disch := first | omega | simp only [go_sem] <;> omega | refine ib ?_; kernel_rfl) only [go_sem, seval, ↓reduceIte, f1, f4, f5, f6, H1, show ¬ s.kind = 1 by omega, rd, c1]
    · subst n1
      simp only [Int.cast_ofNat_Int] at hk
      rw [show formR 1 = [110, 109] from rfl] at fr
      rw [fn_text Tryd.func13 rfl rfl Tryd.results13 fq13.1 rfl rfl (by kernel_rfl)]
      simp -implicitDefEqProofs -dsimp +contextual (maxSteps := 9999999) (disch := first | omega | simp only [go_sem] <;> omega | refine ib ?_; kernel_rfl) only [go_sem, seval, ↓reduceIte, hk, e1, e2, nr, fr, n2]
      refine kFor F.length (fun i f H => f 1 = .ptr 101 1 0 0 ∧ f 4 = .str (accR s w (F.take i)) ∧ f 5 = .str F ∧ f 6 = .int .i64 (i : Int) ∧ H 101 = ⟨1, .live, 10, [s.cs], false⟩) ?_ ?_ (by refine ⟨rfl, ?_, ?_, rfl, by simp [Heap.set, St.cs_eq, hk, n2]⟩ <;> first | rfl | (simp [upd, accR]; done) | (rw [hF]; rfl))
      · rintro i f H hi ⟨f1, f4, f5, f6, H1⟩ ih
        have ok1 := okF_mem okf hi
        have sy := refSay s h F[i].toNat ok1.1 ok1.2
        have sl := sayR_sm s h F[i].toNat
        have al := hacc i
        have hm := accR_more s w F i hi
        have tl : (F.take i).length ≤ 4 := by simp; omega
        generalize accR s w (F.take i) = A at *
        generalize sayR s F[i].toNat = B at *
        rw [St.cs_eq] at H1
        simp -implicitDefEqProofs -dsimp +contextual (maxSteps := 9999999) (disch := first | omega | simp only [go_sem] <;> omega | refine ib ?_; kernel_rfl) only [go_sem, seval, ↓reduceIte, f1, f4, f5, f6, H1, hi, sy]
        exact ih _ _ ⟨f1, by rw [hm]; first | rfl | simp, f5, rfl, by rw [St.cs_eq]; exact H1⟩
      · rintro f H ⟨f1, f4, f5, f6, H1⟩
        rw [List.take_length] at f4
        have al := hacc F.length
        rw [List.take_length] at al
        rw [St.cs_eq] at H1
        rw [ha] at f4
        by_cases c1 : e = 0
        · by_cases c2 : b = s
          · rw [if_pos ⟨c1, c2⟩]
            simp -implicitDefEqProofs -dsimp +contextual (maxSteps := 9999999) (disch := first | omega | simp only [go_sem] <;> omega | refine ib ?_; kernel_rfl) only [go_sem, seval, ↓reduceIte, f1, f4, f5, f6, H1, eq_true hk, rd, m, c1, c2, n2]
          · rw [if_neg (fun x => c2 x.2)]
            simp -implicitDefEqProofs -dsimp +contextual (maxSteps := 9999999) (disch := first | omega | simp only [go_sem] <;> omega | refine ib ?_; kernel_rfl) only [go_sem, seval, ↓reduceIte, f1, f4, f5, f6, H1, eq_true hk, rd, m, c1, c2, n2]
        · rw [if_neg (fun x => c1 x.1)]
          simp -implicitDefEqProofs -dsimp +contextual (maxSteps := 9999999) (disch := first | omega | simp only [go_sem] <;> omega | refine ib ?_; kernel_rfl) only [go_sem, seval, ↓reduceIte, f1, f4, f5, f6, H1, eq_true hk, rd, c1, n2]
    · rw [← hF] at fr
      rw [fn_text Tryd.func13 rfl rfl Tryd.results13 fq13.1 rfl rfl (by kernel_rfl)]
      simp -implicitDefEqProofs -dsimp +contextual (maxSteps := 9999999) (disch := first | omega | simp only [go_sem] <;> omega | refine ib ?_; kernel_rfl) only [go_sem, seval, ↓reduceIte, hk, e1, e2, nr, fr, n1, n2, show ¬ k < 1 by omega, show ¬ 19 < k by omega]
      refine kFor F.length (fun i f H => f 1 = .ptr 101 1 0 0 ∧ f 4 = .str (accR s w (F.take i)) ∧ f 5 = .str F ∧ f 6 = .int .i64 (i : Int) ∧ H 101 = ⟨1, .live, 10, [s.cs], false⟩) ?_ ?_ (by refine ⟨rfl, ?_, ?_, rfl, by simp [Heap.set, St.cs_eq, hk, n2]⟩ <;> first | rfl | (simp [upd, accR]; done) | (rw [hF]; rfl))
      · rintro i f H hi ⟨f1, f4, f5, f6, H1⟩ ih
        have ok1 := okF_mem okf hi
        have sy := refSay s h F[i].toNat ok1.1 ok1.2
        have sl := sayR_sm s h F[i].toNat
        have al := hacc i
        have hm := accR_more s w F i hi
        have tl : (F.take i).length ≤ 4 := by simp; omega
        generalize accR s w (F.take i) = A at *
        generalize sayR s F[i].toNat = B at *
        rw [St.cs_eq] at H1
        simp -implicitDefEqProofs -dsimp +contextual (maxSteps := 9999999) (disch := first | omega | simp only [go_sem] <;> omega | refine ib ?_; kernel_rfl) only [go_sem, seval, ↓reduceIte, f1, f4, f5, f6, H1, hi, sy]
        exact ih _ _ ⟨f1, by rw [hm]; first | rfl | simp, f5, rfl, by rw [St.cs_eq]; exact H1⟩
      · rintro f H ⟨f1, f4, f5, f6, H1⟩
        rw [List.take_length] at f4
        have al := hacc F.length
        rw [List.take_length] at al
        rw [St.cs_eq] at H1
        rw [ha] at f4
        by_cases c1 : e = 0
        · by_cases c2 : b = s
          · rw [if_pos ⟨c1, c2⟩]
            simp -implicitDefEqProofs -dsimp +contextual (maxSteps := 9999999) (disch := first | omega | simp only [go_sem] <;> omega | refine ib ?_; kernel_rfl) only [go_sem, seval, ↓reduceIte, f1, f4, f5, f6, H1, show ¬ s.kind = 1 by omega, rd, m, c1, c2, n1, n2, show ¬ k < 1 by omega, show ¬ 19 < k by omega]
          · rw [if_neg (fun x => c2 x.2)]
            simp -implicitDefEqProofs -dsimp +contextual (maxSteps := 9999999) (disch := first | omega | simp only [go_sem] <;> omega | refine ib ?_; kernel_rfl) only [go_sem, seval, ↓reduceIte, f1, f4, f5, f6, H1, show ¬ s.kind = 1 by omega, rd, m, c1, c2, n1, n2, show ¬ k < 1 by omega, show ¬ 19 < k by omega]
        · rw [if_neg (fun x => c1 x.1)]
          simp -implicitDefEqProofs -dsimp +contextual (maxSteps := 9999999) (disch := first | omega | simp only [go_sem] <;> omega | refine ib ?_; kernel_rfl) only [go_sem, seval, ↓reduceIte, f1, f4, f5, f6, H1, show ¬ s.kind = 1 by omega, rd, c1, n1, n2, show ¬ k < 1 by omega, show ¬ 19 < k by omega]
    · subst n1
      simp only [Int.cast_ofNat_Int] at hk
      rw [show formR 1 = [110, 109] from rfl] at fr
      rw [fn_text Tryd.func13 rfl rfl Tryd.results13 fq13.1 rfl rfl (by kernel_rfl)]
      simp -implicitDefEqProofs -dsimp +contextual (maxSteps := 9999999) (disch := first | omega | simp only [go_sem] <;> omega | refine ib ?_; kernel_rfl) only [go_sem, seval, ↓reduceIte, hk, e1, e2, nr, fr, n2]
      refine kFor F.length (fun i f H => f 1 = .ptr 101 1 0 0 ∧ f 4 = .str (accR s w (F.take i)) ∧ f 5 = .str F ∧ f 6 = .int .i64 (i : Int) ∧ H 101 = ⟨1, .live, 10, [s.cs], false⟩) ?_ ?_ (by refine ⟨rfl, ?_, ?_, rfl, by simp [Heap.set, St.cs_eq, hk, n2]⟩ <;> first | rfl | (simp [upd, accR]; done) | (rw [hF]; rfl))
      · rintro i f H hi ⟨f1, f4, f5, f6, H1⟩ ih
        have ok1 := okF_mem okf hi
        have sy := refSay s h F[i].toNat ok1.1 ok1.2
        have sl := sayR_sm s h F[i].toNat
        have al := hacc i
        have hm := accR_more s w F i hi
        have tl : (F.take i).length ≤ 4 := by simp; omega
        generalize accR s w (F.take i) = A at *
        generalize sayR s F[i].toNat = B at *
        rw [St.cs_eq] at H1
        simp -implicitDefEqProofs -dsimp +contextual (maxSteps := 9999999) (disch := first | omega | simp only [go_sem] <;> omega | refine ib ?_; kernel_rfl) only [go_sem, seval, ↓reduceIte, f1, f4, f5, f6, H1, hi, sy]
        exact ih _ _ ⟨f1, by rw [hm]; first | rfl | simp, f5, rfl, by rw [St.cs_eq]; exact H1⟩
      · rintro f H ⟨f1, f4, f5, f6, H1⟩
        rw [List.take_length] at f4
        have al := hacc F.length
        rw [List.take_length] at al
        rw [St.cs_eq] at H1
        have al2 : (accR s w F).length ≤ 900000 := by omega
        generalize accR s w F = A at *
        by_cases c1 : e = 0
        · by_cases c2 : b = s
          · rw [if_pos ⟨c1, c2⟩]
            simp -implicitDefEqProofs -dsimp +contextual (maxSteps := 9999999) (disch := first | omega | simp only [go_sem] <;> omega | refine ib ?_; kernel_rfl) only [go_sem, seval, ↓reduceIte, f1, f4, f5, f6, H1, eq_true hk, ha, rd, m, c1, c2, eq_true n2]
          · rw [if_neg (fun x => c2 x.2)]
            simp -implicitDefEqProofs -dsimp +contextual (maxSteps := 9999999) (disch := first | omega | simp only [go_sem] <;> omega | refine ib ?_; kernel_rfl) only [go_sem, seval, ↓reduceIte, f1, f4, f5, f6, H1, eq_true hk, ha, rd, m, c1, c2, eq_true n2]
        · rw [if_neg (fun x => c1 x.1)]
          simp -implicitDefEqProofs -dsimp +contextual (maxSteps := 9999999) (disch := first | omega | simp only [go_sem] <;> omega | refine ib ?_; kernel_rfl) only [go_sem, seval, ↓reduceIte, f1, f4, f5, f6, H1, eq_true hk, ha, rd, c1, eq_true n2]
    · subst n1
      simp only [Int.cast_ofNat_Int] at hk
      rw [show formR 18 = [] from rfl] at fr
      rw [fn_text Tryd.func13 rfl rfl Tryd.results13 fq13.1 rfl rfl (by kernel_rfl)]
      simp -implicitDefEqProofs -dsimp +contextual (maxSteps := 9999999) (disch := first | omega | simp only [go_sem] <;> omega | refine ib ?_; kernel_rfl) only [go_sem, seval, ↓reduceIte, hk, e1, e2, nr, fr, n2]
      refine kFor F.length (fun i f H => f 1 = .ptr 101 1 0 0 ∧ f 4 = .str (accR s w (F.take i)) ∧ f 5 = .str F ∧ f 6 = .int .i64 (i : Int) ∧ H 101 = ⟨1, .live, 10, [s.cs], false⟩) ?_ ?_ (by refine ⟨rfl, ?_, ?_, rfl, by simp [Heap.set, St.cs_eq, hk, n2]⟩ <;> first | rfl | (simp [upd, accR]; done) | (rw [hF]; rfl))
      · rintro i f H hi ⟨f1, f4, f5, f6, H1⟩ ih
        have ok1 := okF_mem okf hi
        have sy := refSay s h F[i].toNat ok1.1 ok1.2
        have sl := sayR_sm s h F[i].toNat
        have al := hacc i
        have hm := accR_more s w F i hi
        have tl : (F.take i).length ≤ 4 := by simp; omega
        generalize accR s w (F.take i) = A at *
        generalize sayR s F[i].toNat = B at *
        rw [St.cs_eq] at H1
        simp -implicitDefEqProofs -dsimp +contextual (maxSteps := 9999999) (disch := first | omega | simp only [go_sem] <;> omega | refine ib ?_; kernel_rfl) only [go_sem, seval, ↓reduceIte, f1, f4, f5, f6, H1, hi, sy]
        exact ih _ _ ⟨f1, by rw [hm]; first | rfl | simp, f5, rfl, by rw [St.cs_eq]; exact H1⟩
      · rintro f H ⟨f1, f4, f5, f6, H1⟩
        rw [List.take_length] at f4
        have al := hacc F.length
        rw [List.take_length] at al
        rw [St.cs_eq] at H1
        rw [ha] at f4
        by_cases c1 : e = 0
        · by_cases c2 : b = s
          · rw [if_pos ⟨c1, c2⟩]
            simp -implicitDefEqProofs -dsimp +contextual (maxSteps := 9999999) (disch := first | omega | simp only [go_sem] <;> omega | refine ib ?_; kernel_rfl) only [go_sem, seval, ↓reduceIte, f1, f4, f5, f6, H1, show ¬ s.kind = 1 by omega, rd, m, c1, c2]
          · rw [if_neg (fun x => c2 x.2)]
            simp -implicitDefEqProofs -dsimp +contextual (maxSteps := 9999999) (disch := first | omega | simp only [go_sem] <;> omega | refine ib ?_; kernel_rfl) only [go_sem, seval, ↓reduceIte, f1, f4, f5, f6, H1, show ¬ s.kind = 1 by omega, rd, m, c1, c2]
        · rw [if_neg (fun x => c1 x.1)]
          simp -implicitDefEqProofs -dsimp +contextual (maxSteps := 9999999) (disch := first | omega | simp only [go_sem] <;> omega | refine ib ?_; kernel_rfl) only [go_sem, seval, ↓reduceIte, f1, f4, f5, f6, H1, show ¬ s.kind = 1 by omega, rd, c1]

end Go.Proofs.YtbnlbdhepbbaoaaDoor
namespace Go.Proofs.YtbnlbdhepbbaoaaDoor
open Go.Am
set_option linter.unusedSimpArgs false
set_option linter.unusedVariables false
set_option maxRecDepth 100000
/-! Layer 38: Short; ScriptWrites. -/
theorem min9 (a : Nat) : (if 9000 < a then (9000 : Int) else (a : Int)) = ((min a 9000 : Nat) : Int) := by split <;> omega
def sumT (s : St) : Nat := min s.key.length 9000 + min s.val.length 9000 + min s.bs.length 9000
def sumS (l : List St) : Nat := (l.map sumT).sum
def shortR (l : List St) : Bool := decide (l.length ≤ 80) && decide (sumS l ≤ 8000)
theorem sumS_cons (s : St) (l : List St) : sumS (s :: l) = sumT s + sumS l := by simp [sumS]
theorem st_row (l : List St) (i : Nat) (h : i < l.length) : (l.map St.cs)[i]? = some l[i].cs := by
  rw [List.getElem?_map, List.getElem?_eq_getElem h]; rfl
structure St.fit (s : St) : Prop where
  g1 : s.key.length ≤ 9223372036854775807
  g2 : s.val.length ≤ 9223372036854775807
  g3 : s.bs.length ≤ 9223372036854775807
set_option maxHeartbeats 4000000 in
@[go_sem] theorem e11 (l : List St) (hl : l.length ≤ 9223372036854775807) (hf : ∀ s ∈ l, s.fit) : fn C 11 [] [.slice 10 (l.map St.cs)] = some (.bool (shortR l), []) := by
  by_cases h : 80 < l.length
  · rw [show shortR l = false by simp only [shortR, Bool.and_eq_false_iff, decide_eq_false_iff_not]; omega]
    rw [fn_text Tryd.func11 rfl rfl Tryd.results11 fq11.1 rfl rfl (by kernel_rfl)]
    simp -implicitDefEqProofs -dsimp +contextual (maxSteps := 9999999) (disch := first | omega | simp only [go_sem] <;> omega | refine ib ?_; kernel_rfl) only [go_sem, seval, ↓reduceIte, h]
  · rw [show shortR l = decide (sumS l ≤ 8000) by simp only [shortR]; rw [decide_eq_true (by omega), Bool.true_and]]
    rw [fn_text Tryd.func11 rfl rfl Tryd.results11 fq11.1 rfl rfl (by kernel_rfl)]
    simp -implicitDefEqProofs -dsimp +contextual (maxSteps := 9999999) (disch := first | omega | simp only [go_sem] <;> omega | refine ib ?_; kernel_rfl) only [go_sem, seval, ↓reduceIte, h]
    refine (kLoop_rec (fun (a : Nat × Nat) f H => a.1 ≤ l.length ∧ a.2 ≤ 8000 ∧ f 0 = .slice 10 (l.map St.cs) ∧ f 3 = .int .i64 (a.2 : Int) ∧ f 4 = .int .i64 (a.1 : Int))
      (fun a => l.length - a.1) (fun a => some (.bool (decide (a.2 + sumS (l.drop a.1) ≤ 8000)), [])) ?_ (0, 0) _ _ (by exact ⟨Nat.zero_le _, Nat.zero_le _, rfl, rfl, rfl⟩)).trans (by simp)
    rintro ⟨i, n⟩ f H ⟨hi, hn, f0, f3, f4⟩ ih
    simp only at hi hn f3 f4 ih
    by_cases hlt : i < l.length
    · have row := st_row l i hlt
      have fi := hf _ (List.getElem_mem hlt)
      obtain ⟨g1, g2, g3⟩ := fi
      have ih' := ih (i + 1, n + sumT l[i])
      simp only at ih'
      clear ih
      rw [List.drop_eq_getElem_cons hlt, sumS_cons]
      generalize List.drop (i + 1) l = rest at *
      have st : sumT l[i] ≤ 27000 := by unfold sumT; omega
      rw [St.cs_eq] at row
      by_cases z : 8000 < n + sumT l[i]
      · rw [show decide (n + (sumT l[i] + sumS rest) ≤ 8000) = false from decide_eq_false (by omega)]
        have z' : 8000 < n + (min l[i].key.length 9000 + min l[i].val.length 9000 + min l[i].bs.length 9000) := z
        simp -implicitDefEqProofs -dsimp +contextual (maxSteps := 9999999) (disch := first | omega | simp only [go_sem] <;> omega | refine ib ?_; kernel_rfl) only [go_sem, seval, ↓reduceIte, f0, f3, f4, hlt, row, min9, z']
      · rw [show n + (sumT l[i] + sumS rest) = n + sumT l[i] + sumS rest by omega]
        have z' : ¬ 8000 < n + (min l[i].key.length 9000 + min l[i].val.length 9000 + min l[i].bs.length 9000) := z
        generalize hR : decide (n + sumT l[i] + sumS rest ≤ 8000) = RZ at *
        simp -implicitDefEqProofs -dsimp +contextual (maxSteps := 9999999) (disch := first | omega | simp only [go_sem] <;> omega | refine ib ?_; kernel_rfl) only [go_sem, seval, ↓reduceIte, f0, f3, f4, hlt, row, min9, z']
        refine ih' _ _ (by exact ⟨hlt, by omega, f0, by first | rfl | exact congrArg (AVal.int .i64) (by unfold sumT; omega) | (unfold sumT; rfl), rfl⟩) (by omega)
    · obtain rfl : i = l.length := by omega
      clear ih
      rw [List.drop_length]
      rw [show decide (n + sumS [] ≤ 8000) = true from decide_eq_true (by simp [sumS]; omega)]
      simp -implicitDefEqProofs -dsimp +contextual (maxSteps := 9999999) (disch := first | omega | simp only [go_sem] <;> omega | refine ib ?_; kernel_rfl) only [go_sem, seval, ↓reduceIte, f0, f3, f4]
theorem short_one {s : St} (h : shortR [s] = true) : sumT s ≤ 8000 := by
  simp only [shortR, sumS, List.map_cons, List.map_nil, List.sum_cons, List.sum_nil, Bool.and_eq_true, decide_eq_true_eq] at h
  omega
theorem short_mem : ∀ {l : List St}, sumS l ≤ 8000 → ∀ s ∈ l, sumT s ≤ 8000
  | [], _, s, h => by cases h
  | a :: l, hl, s, h => by
    rw [sumS_cons] at hl
    rcases List.mem_cons.1 h with rfl | h
    · omega
    · exact short_mem (by omega) s h
theorem sumT_le {s : St} (h : sumT s ≤ 8000) : s.key.length ≤ 8000 ∧ s.val.length ≤ 8000 ∧ s.bs.length ≤ 8000 := by unfold sumT at h; omega
/-- What the numbers of a step may be. -/
structure St.num (s : St) : Prop where
  k : -9223372036854775808 ≤ s.kind ∧ s.kind ≤ 9223372036854775807
  a : -9223372036854775808 ≤ s.node ∧ s.node ≤ 9223372036854775807
  b : -9223372036854775808 ≤ s.other ∧ s.other ≤ 9223372036854775807
  c : -9223372036854775808 ≤ s.n ∧ s.n ≤ 9223372036854775807
  d : -9223372036854775808 ≤ s.fr ∧ s.fr ≤ 9223372036854775807
  e : -9223372036854775808 ≤ s.un ∧ s.un ≤ 9223372036854775807
  f : s.id ≤ 18446744073709551615
theorem St.num.ok {s : St} (h : s.num) (t : sumT s ≤ 8000) : s.ok := by
  have := sumT_le t
  exact ⟨h.k.1, h.k.2, h.a.1, h.a.2, h.b.1, h.b.2, h.c.1, h.c.2, h.d.1, h.d.2, h.e.1, h.e.2, h.f, by omega, by omega, by omega⟩

set_option maxHeartbeats 4000000 in
theorem e4 (s : St) (hn : s.num) (hf : s.fit) : fn C 4 [] [.agg [.int .i64 s.kind, .int .i64 s.node, .int .i64 s.other, .int .i64 s.n, .int .i64 s.fr, .int .i64 s.un, .int .u64 (s.id : Int), .str s.key, .str s.val, .slice 1 (s.bs.map byteRow)]] = some (.bool true, []) := by
  have sh := e11 [s] (by simp) (fun x hx => by simp only [List.mem_singleton] at hx; rw [hx]; exact hf)
  simp only [List.map_cons, List.map_nil, St.cs_eq] at sh
  obtain ⟨g1, g2, g3⟩ := hf
  cases h : shortR [s] with
  | false =>
    rw [h] at sh
    rw [fn_text Tryd.func4 rfl rfl Tryd.results4 fq4.1 rfl rfl (by kernel_rfl)]
    simp -implicitDefEqProofs -dsimp +contextual (maxSteps := 9999999) (disch := first | omega | simp only [go_sem] <;> omega | refine ib ?_; kernel_rfl) only [go_sem, seval, ↓reduceIte, sh]
  | true =>
    rw [h] at sh
    have ok := hn.ok (short_one h)
    have l1 := e12 s ok
    have l2 := e13 s ok
    have l3 := e14 s ok
    generalize lineR s = q at *
    rw [fn_text Tryd.func4 rfl rfl Tryd.results4 fq4.1 rfl rfl (by kernel_rfl)]
    simp -implicitDefEqProofs -dsimp +contextual (maxSteps := 9999999) (disch := first | omega | simp only [go_sem] <;> omega | refine ib ?_; kernel_rfl) only [go_sem, seval, ↓reduceIte, sh, l1, l2, l3]

end Go.Proofs.YtbnlbdhepbbaoaaDoor
namespace Go.Proofs.YtbnlbdhepbbaoaaDoor
open Go.Am
set_option linter.unusedSimpArgs false
set_option linter.unusedVariables false
set_option maxRecDepth 100000
/-! Layer 43: the document's Print; steps one by one. -/
def printAll : List St → List UInt8 → List UInt8 × Int
  | [], acc => (acc, 0)
  | s :: l, acc => if (lineR s).2 = 0 then printAll l (acc ++ (lineR s).1 ++ [10]) else ([], 2)
theorem lineR_e (s : St) : (lineR s).2 = 0 ∨ lineR s = ([], 2) := by
  unfold lineR; split
  · exact .inl rfl
  · exact .inr rfl
theorem lineR_le (s : St) (h : s.ok) : (lineR s).1.length ≤ 900000 := by
  unfold lineR; split
  · exact (lineW_le s h).1
  · simp
set_option maxHeartbeats 4000000 in
@[go_sem] theorem e18 (l : List St) (hl : l.length ≤ 1000) (hok : ∀ s ∈ l, s.ok) : fn C 18 [] [.slice 10 (l.map St.cs)] = some (.tup [.str (printAll l []).1, .int .i64 (printAll l []).2], []) := by
  rw [fn_text Tryd.func18 rfl rfl Tryd.results18 fq18.1 rfl rfl (by kernel_rfl)]
  simp -implicitDefEqProofs -dsimp +contextual (maxSteps := 9999999) (disch := first | omega | simp only [go_sem] <;> omega | refine ib ?_; kernel_rfl) only [go_sem, seval, ↓reduceIte]
  refine kLoop_rec (fun (a : Nat × List UInt8) f H => a.1 ≤ l.length ∧ a.2.length ≤ a.1 * 900001 ∧ f 0 = .slice 10 (l.map St.cs) ∧ f 4 = .str a.2 ∧ f 5 = .int .i64 (a.1 : Int))
    (fun a => l.length - a.1) (fun a => some (.tup [.str (printAll (l.drop a.1) a.2).1, .int .i64 (printAll (l.drop a.1) a.2).2], [])) ?_ (0, []) _ _ (by exact ⟨Nat.zero_le _, Nat.zero_le _, rfl, rfl, rfl⟩)
  rintro ⟨i, acc⟩ f H ⟨hi, ha, f0, f4, f5⟩ ih
  simp only at hi ha f4 f5 ih
  by_cases hlt : i < l.length
  · have row := st_row l i hlt
    have ok := hok _ (List.getElem_mem hlt)
    have ln := e13 l[i] ok
    have le := lineR_le l[i] ok
    have le2 := lineR_e l[i]
    have ih' := ih (i + 1, acc ++ (lineR l[i]).1 ++ [10])
    simp only at ih'
    clear ih
    rw [List.drop_eq_getElem_cons hlt, printAll]
    generalize List.drop (i + 1) l = rest at *
    generalize lineR l[i] = q at *
    rw [St.cs_eq] at row
    have hb : acc.length ≤ 900001000 := Nat.le_trans ha (Nat.le_trans (Nat.mul_le_mul_right 900001 (show i ≤ 1000 by omega)) (by decide))
    by_cases z : q.2 = 0
    · rw [if_pos z]
      generalize printAll rest (acc ++ q.1 ++ [10]) = RZ at *
      simp -implicitDefEqProofs -dsimp +contextual (maxSteps := 9999999) (disch := first | omega | simp only [go_sem] <;> omega | refine ib ?_; kernel_rfl) only [go_sem, seval, ↓reduceIte, f0, f4, f5, hlt, row, ln, z]
      exact ih' _ _ (by exact ⟨hlt, by simp only [List.length_append, List.length_singleton]; omega, f0, by first | rfl | simp [upd], rfl⟩) (by omega)
    · rw [if_neg z]
      simp -implicitDefEqProofs -dsimp +contextual (maxSteps := 9999999) (disch := first | omega | simp only [go_sem] <;> omega | refine ib ?_; kernel_rfl) only [go_sem, seval, ↓reduceIte, f0, f4, f5, hlt, row, ln, z]
  · obtain rfl : i = l.length := by omega
    clear ih
    rw [List.drop_length, printAll]
    simp -implicitDefEqProofs -dsimp +contextual (maxSteps := 9999999) (disch := first | omega | simp only [go_sem] <;> omega | refine ib ?_; kernel_rfl) only [go_sem, seval, ↓reduceIte, f0, f4, f5]

set_option maxHeartbeats 4000000 in
@[go_sem] theorem e19 (a b : List St) (ha : a.length ≤ 1000000) (hb : b.length ≤ 1000000) (h1 : ∀ s ∈ a, s.bs.length ≤ 1000000) (h2 : ∀ s ∈ b, s.bs.length ≤ 1000000) : fn C 19 [] [.slice 10 (a.map St.cs), .slice 10 (b.map St.cs)] = some (.bool (decide (a = b)), []) := by
  by_cases hl : a.length = b.length
  · rw [fn_text Tryd.func19 rfl rfl Tryd.results19 fq19.1 rfl rfl (by kernel_rfl)]
    simp -implicitDefEqProofs -dsimp +contextual (maxSteps := 9999999) (disch := first | omega | simp only [go_sem] <;> omega | refine ib ?_; kernel_rfl) only [go_sem, seval, ↓reduceIte, hl]
    refine kLoop_rec (fun (i : Nat) f H => i ≤ a.length ∧ a.take i = b.take i ∧ f 0 = .slice 10 (a.map St.cs) ∧ f 1 = .slice 10 (b.map St.cs) ∧ f 5 = .int .i64 (i : Int))
      (fun i => a.length - i) (fun _ => some (.bool (decide (a = b)), [])) ?_ 0 _ _ (by exact ⟨Nat.zero_le _, rfl, rfl, rfl, rfl⟩)
    rintro i f H ⟨hi, ht, f0, f1, f5⟩ ih
    by_cases hlt : i < a.length
    · have hlb : i < b.length := by omega
      have r1 := st_row a i hlt
      have r2 := st_row b i hlb
      have m := e10 a[i] b[i] (h1 _ (List.getElem_mem hlt)) (h2 _ (List.getElem_mem hlb))
      rw [St.cs_eq] at r1 r2
      by_cases e : a[i] = b[i]
      · have ht' := take_eq_step hlt hlb ht e
        rw [decide_eq_true e] at m
        generalize decide (a = b) = RZ at *
        simp -implicitDefEqProofs -dsimp +contextual (maxSteps := 9999999) (disch := first | omega | simp only [go_sem] <;> omega | refine ib ?_; kernel_rfl) only [go_sem, seval, ↓reduceIte, f0, f1, f5, hlt, hlb, r1, r2, m]
        exact ih (i + 1) _ _ (by exact ⟨hlt, ht', f0, f1, rfl⟩) (by omega)
      · rw [decide_eq_false e] at m
        rw [decide_eq_false (take_ne hlt hlb e)]
        simp -implicitDefEqProofs -dsimp +contextual (maxSteps := 9999999) (disch := first | omega | simp only [go_sem] <;> omega | refine ib ?_; kernel_rfl) only [go_sem, seval, ↓reduceIte, f0, f1, f5, hlt, hlb, r1, r2, m]
    · obtain rfl : i = a.length := by omega
      rw [decide_eq_true (take_eq_end hl ht)]
      simp -implicitDefEqProofs -dsimp +contextual (maxSteps := 9999999) (disch := first | omega | simp only [go_sem] <;> omega | refine ib ?_; kernel_rfl) only [go_sem, seval, ↓reduceIte, f0, f1, f5]
  · rw [decide_eq_false (fun e => hl (by rw [e]))]
    rw [fn_text Tryd.func19 rfl rfl Tryd.results19 fq19.1 rfl rfl (by kernel_rfl)]
    simp -implicitDefEqProofs -dsimp +contextual (maxSteps := 9999999) (disch := first | omega | simp only [go_sem] <;> omega | refine ib ?_; kernel_rfl) only [go_sem, seval, ↓reduceIte, hl]

end Go.Proofs.YtbnlbdhepbbaoaaDoor
namespace Go.Proofs.YtbnlbdhepbbaoaaDoor
open Go.Am
set_option linter.unusedSimpArgs false
set_option linter.unusedVariables false
set_option maxRecDepth 100000

/-! Layer 43: Print by its walk; the statements' configuration. -/
theorem below_keep {U : Nat → Prop} {w w' : World} (h : Keep U w w') (hU : ∀ k, ¬ U k) : RowKit.Below w.heap.size w w' := ⟨h.os, h.tape, h.output, h.size, fun k hk => h.block k hk (hU k)⟩
def stOf : List AVal → Option St
  | [.int .i64 a, .int .i64 b, .int .i64 c, .int .i64 d, .int .i64 e, .int .i64 f, .int .u64 g, .str k, .str v, .slice 1 es] => (unbyte es).bind fun bs => if 0 ≤ g then some ⟨a, b, c, d, e, f, g.toNat, k, v, bs⟩ else none
  | _ => none
theorem stOf_cs (s : St) : stOf s.cs = some s := by
  rw [St.cs_eq]
  simp [stOf, unbyte_map]
theorem stOf_spec (r : List AVal) (s : St) (h : stOf r = some s) : r = s.cs := by
  unfold stOf at h
  split at h
  · rw [Option.bind_eq_some_iff] at h
    obtain ⟨bs, h1, h2⟩ := h
    split at h2
    · rename_i hg
      simp only [Option.some.injEq] at h2
      subst h2
      rw [unbyte_spec _ _ h1, St.cs_eq]
      simp only [Int.toNat_of_nonneg hg]
    · cases h2
  · cases h
def stsOf : List (List AVal) → Option (List St)
  | [] => some []
  | r :: rs => (stOf r).bind fun s => (stsOf rs).bind fun l => some (s :: l)
theorem stsOf_cs (l : List St) : stsOf (l.map St.cs) = some l := by
  induction l with
  | nil => rfl
  | cons s l ih => simp only [List.map_cons, stsOf, stOf_cs, ih]; rfl
theorem stsOf_spec : ∀ (rs : List (List AVal)) (l : List St), stsOf rs = some l → rs = l.map St.cs
  | [], l, h => by simp only [stsOf, Option.some.injEq] at h; subst h; rfl
  | r :: rs, l, h => by
    simp only [stsOf, Option.bind_eq_some_iff, Option.some.injEq] at h
    obtain ⟨s, h1, l', h2, rfl⟩ := h
    rw [stOf_spec r s h1, stsOf_spec rs l' h2]; rfl
theorem prn_print : ∀ (l : List St) (acc : List UInt8), prnAll (l.map lineR) acc = printAll l acc
  | [], _ => rfl
  | s :: l, acc => by
    rw [List.map_cons, prnAll, printAll]
    rcases lineR_e s with h | h
    · rw [if_pos h, if_pos h, prn_print l]
    · rw [h]; rfl
/-- The values in memory of a step. -/
def stVals (s : St) (x : Value) : List Value := [.int .i64 s.kind, .int .i64 s.node, .int .i64 s.other, .int .i64 s.n, .int .i64 s.fr, .int .i64 s.un, .int .u64 (s.id : Int), .string ⟨s.key.toArray⟩, .string ⟨s.val.toArray⟩, x]
set_option maxHeartbeats 1000000 in
theorem line_calls (s : St) (ok : s.ok) {S : Nat → Prop} {w wr : World} {x : Value} (hG : GlobOk E.Γ S w) (hst : ∀ b, S b → b < w.heap.size) (hx : CRel S w (.slice 1 (s.bs.map byteRow)) x) (hbl : RowKit.Below w.heap.size w wr) :
    Calls E.P 12 #[.agg (stVals s x).toArray] wr fun e w' => e = .returned (.tuple #[.string ⟨(lineR s).1.toArray⟩, .int .i64 (lineR s).2]) ∧ RowKit.Below wr.heap.size wr w' := by
  have sp : SpecX E [] 12 [.agg [.int .i64 s.kind, .int .i64 s.node, .int .i64 s.other, .int .i64 s.n, .int .i64 s.fr, .int .i64 s.un, .int .u64 (s.id : Int), .str s.key, .str s.val, .slice 1 (s.bs.map byteRow)]] (.tup [.str (lineR s).1, .int .i64 (lineR s).2]) [] := fnE_sound mixed own_ok (e12 s ok)
  have hS : ∀ b, S b → wr.heap[b]? = w.heap[b]? := fun b hb => hbl.block b (hst b hb)
  have hx' : CRel S wr (.slice 1 (s.bs.map byteRow)) x := CRel.mono (fun _ h => h) hS _ _ hx
  have c := sp S wr [.agg (stVals s x).toArray] [] (fun _ h => by cases h) (hG.mono (fun _ h => h) hS) (fun b hb => Nat.lt_of_lt_of_le (hst b hb) hbl.size)
    ⟨_, [], [], [], rfl, rfl, ⟨_, rfl, ⟨_, _, [], [], rfl, rfl, ⟨rfl, rfl⟩, ⟨_, _, [], [], rfl, rfl, ⟨rfl, rfl⟩, ⟨_, _, [], [], rfl, rfl, ⟨rfl, rfl⟩, ⟨_, _, [], [], rfl, rfl, ⟨rfl, rfl⟩, ⟨_, _, [], [], rfl, rfl, ⟨rfl, rfl⟩, ⟨_, _, [], [], rfl, rfl, ⟨rfl, rfl⟩,
      ⟨_, _, [], [], rfl, rfl, ⟨rfl, rfl⟩, ⟨_, _, [], [], rfl, rfl, ⟨rfl, rfl⟩, ⟨_, _, [], [], rfl, rfl, ⟨rfl, rfl⟩, ⟨_, _, [], [], rfl, rfl, ⟨hx', rfl⟩, ⟨rfl, rfl⟩⟩⟩⟩⟩⟩⟩⟩⟩⟩⟩⟩, ⟨rfl, rfl⟩⟩ List.nodup_nil (fun b hb => by cases hb)
  refine c.mono ?_
  rintro e w' ⟨y, U', rfl, hk, hor, _, _⟩
  obtain ⟨y', ys, U1, U2, hy, _, ⟨xs, rfl, hxs⟩, _⟩ := hor
  obtain ⟨y1, ys1, _, _, h1, _, ⟨rfl, _⟩, ⟨y2, ys2, _, _, rfl, _, ⟨rfl, _⟩, ⟨rfl, _⟩⟩⟩ := hxs
  simp only [List.cons.injEq] at hy
  refine ⟨?_, below_keep hk (fun k h => by cases h)⟩
  have hxs : xs = #[.string ⟨(lineR s).1.toArray⟩, .int .i64 (lineR s).2] := Array.toList_inj.1 h1
  rw [hy.1, hxs]

set_option maxHeartbeats 1000000 in
theorem print_spec (l : List St) (hl : l.length ≤ 1000) (hok : ∀ s ∈ l, s.ok) : Am.Spec E 17 [.slice 10 (l.map St.cs)] (.tup [.str (printAll l []).1, .int .i64 (printAll l []).2]) [] := by
  refine spec_below rfl (const_tup (xs := [.string ⟨(printAll l []).1.toArray⟩, .int .i64 (printAll l []).2]) (const_cons (const_str _) (const_cons (const_int _ _) const_nil))) fun S w xs U hG hst hor hnd hb => ?_
  obtain ⟨y, ys, U1, U2, rfl, rfl, ⟨⟨a, cap, rfl, hcap, hc⟩, rfl⟩, ⟨rfl, rfl⟩⟩ := hor
  have hq : ∀ q ∈ l.map lineR, q.1.length ≤ 900000 := fun q hq => by
    obtain ⟨s, hs, rfl⟩ := List.mem_map.1 hq
    exact lineR_le s (hok s hs)
  have key : ∃ cells : Nat → List Value, (l.map lineR ≠ [] → ∃ b off, a = some ⟨b, off, none⟩ ∧ b < w.heap.size ∧ ∀ i, i < (l.map lineR).length → w.rangeAt b (off + i * 10) (cells i)) ∧ (∀ i, i < (l.map lineR).length → ∃ (a0 a1 a2 a3 a4 a5 a6 : Int) (a7 a8 : ByteArray) (ad : Option Addr) (n1 n2 : Nat), cells i = [.int .i64 a0, .int .i64 a1, .int .i64 a2, .int .i64 a3, .int .i64 a4, .int .i64 a5, .int .u64 a6, .string a7, .string a8, .slice ad n1 n2]) ∧
      ∀ i (h : i < l.length), ∃ x, CRel S w (.slice 1 (l[i].bs.map byteRow)) x ∧ cells i = stVals l[i] x := by
    by_cases hne : l = []
    · subst hne
      exact ⟨fun _ => [], fun h => absurd rfl h, fun i h => by simp at h, fun i h => by simp at h⟩
    · obtain ⟨b, off, rfl, hS, hr⟩ := hc (by simpa using hne)
      rw [CRows_iff] at hr
      have hx : ∀ i (h : i < l.length), ∃ x, CRel S w (.slice 1 (l[i].bs.map byteRow)) x ∧ w.rangeAt b (off + i * 10) (stVals l[i] x) := fun i h => by
        obtain ⟨_, h2⟩ := hr i l[i].cs (by rw [List.getElem?_map, List.getElem?_eq_getElem h]; rfl)
        rw [St.cs_eq] at h2
        obtain ⟨⟨x0, c0, r0⟩, ⟨x1, c1, r1⟩, ⟨x2, c2, r2⟩, ⟨x3, c3, r3⟩, ⟨x4, c4, r4⟩, ⟨x5, c5, r5⟩, ⟨x6, c6, r6⟩, ⟨x7, c7, r7⟩, ⟨x8, c8, r8⟩, ⟨x9, c9, r9⟩, _⟩ := h2
        refine ⟨x9, r9, fun j v hj => ?_⟩
        simp only [CRel] at r0 r1 r2 r3 r4 r5 r6 r7 r8
        subst r0 r1 r2 r3 r4 r5 r6 r7 r8
        match j, hj with
        | 0, hj => simp [stVals] at hj; rw [← hj]; exact c0
        | 1, hj => simp [stVals] at hj; rw [← hj]; exact c1
        | 2, hj => simp [stVals] at hj; rw [← hj]; exact c2
        | 3, hj => simp [stVals] at hj; rw [← hj]; exact c3
        | 4, hj => simp [stVals] at hj; rw [← hj]; exact c4
        | 5, hj => simp [stVals] at hj; rw [← hj]; exact c5
        | 6, hj => simp [stVals] at hj; rw [← hj]; exact c6
        | 7, hj => simp [stVals] at hj; rw [← hj]; exact c7
        | 8, hj => simp [stVals] at hj; rw [← hj]; exact c8
        | 9, hj => simp [stVals] at hj; rw [← hj]; exact c9
        | j + 10, hj => simp [stVals] at hj
      classical
      refine ⟨fun i => if h : i < l.length then stVals l[i] (Classical.choose (hx i h)) else [], fun _ => ⟨b, off, rfl, hst b hS, fun i h => ?_⟩, fun i h => ?_, fun i h => ?_⟩
      · have h' : i < l.length := by simpa using h
        simp only [h', dif_pos]
        exact (Classical.choose_spec (hx i h')).2
      · have h' : i < l.length := by simpa using h
        simp only [h', dif_pos]
        obtain ⟨a, cap, hs, _⟩ := (Classical.choose_spec (hx i h')).1
        exact ⟨_, _, _, _, _, _, _, _, _, _, _, _, by rw [hs]; rfl⟩
      · exact ⟨_, (Classical.choose_spec (hx i h)).1, by simp only [h, dif_pos]⟩
  obtain ⟨cells, k1, k2, k3⟩ := key
  have pw := print_walk a cap (l.map lineR) cells w hq (by rw [List.length_map]; exact hl) k1 k2 (fun i h wr hbl => by
    have h' : i < l.length := by simpa using h
    obtain ⟨x, hx, hcx⟩ := k3 i h'
    rw [hcx, List.getElem_map]
    exact line_calls l[i] (hok _ (List.getElem_mem h')) hG hst hx hbl)
  rw [prn_print, List.length_map] at pw
  rw [List.length_map]
  exact pw

end Go.Proofs.YtbnlbdhepbbaoaaDoor
namespace Go.Proofs.YtbnlbdhepbbaoaaDoor
open Go.Am
set_option linter.unusedSimpArgs false
set_option linter.unusedVariables false
set_option maxRecDepth 100000
/-! Layer 43: ScriptTexts. -/
noncomputable def printO : List Nat → List AVal → Option Res := fun _ ds => match ds with
  | [.slice 10 rows] => (stsOf rows).bind fun l => @ite _ (l.length ≤ 1000 ∧ ∀ s ∈ l, s.ok) (Classical.propDecidable _) (some (.tup [.str (printAll l []).1, .int .i64 (printAll l []).2], [])) none
  | _ => none
theorem printO_ok : ∀ ex ds q, printO ex ds = some q → SpecX E ex 17 ds q.1 q.2 := by
  intro ex ds q hq
  unfold printO at hq
  split at hq
  · rw [Option.bind_eq_some_iff] at hq
    obtain ⟨l, h1, h2⟩ := hq
    split at h2
    · rename_i hc
      simp only [Option.some.injEq] at h2
      subst h2
      rw [stsOf_spec _ _ h1]
      exact specX_of_spec (print_spec l hc.1 hc.2)
    · cases h2
  · cases hq
noncomputable def own2 : Own := fun f => if f = 17 then some printO else if f = 5 then none else if f = 6 then none else some (fun ex ds => fn C f ex ds)
theorem own2_ok : OwnOk E own2 := by
  intro f g ex ds q hf hg
  unfold own2 at hf
  split at hf
  · rename_i e
    subst e
    simp only [Option.some.injEq] at hf
    subst hf
    exact printO_ok ex ds q hg
  · split at hf
    · cases hf
    · split at hf
      · cases hf
      · simp only [Option.some.injEq] at hf
        subst hf
        exact fnE_sound mixed own_ok hg
noncomputable def C2 : Cf := ⟨E, M, own2⟩
@[go_sem] theorem C2_E : C2.E = E := rfl
@[go_sem] theorem C2_M : C2.M = M := rfl
theorem c2_fn (f : FuncId) (h1 : f ≠ 17) (h2 : f ≠ 5) (h3 : f ≠ 6) (ex ds) : fn C2 f ex ds = fn C f ex ds :=
  fn_own (g := fun ex ds => fn C f ex ds) (by show own2 f = _; unfold own2; rw [if_neg h1, if_neg h2, if_neg h3]) ex ds
@[go_sem] theorem c2_works (ex ds) : fn C2 7 ex ds = fn C 7 ex ds := c2_fn _ (by decide) (by decide) (by decide) ex ds
@[go_sem] theorem c2_Short (ex ds) : fn C2 11 ex ds = fn C 11 ex ds := c2_fn _ (by decide) (by decide) (by decide) ex ds
@[go_sem] theorem c2_Parse (ex ds) : fn C2 15 ex ds = fn C 15 ex ds := c2_fn _ (by decide) (by decide) (by decide) ex ds
@[go_sem] theorem c2_RParse (ex ds) : fn C2 16 ex ds = fn C 16 ex ds := c2_fn _ (by decide) (by decide) (by decide) ex ds
@[go_sem] theorem c2_RPrint (ex ds) : fn C2 18 ex ds = fn C 18 ex ds := c2_fn _ (by decide) (by decide) (by decide) ex ds
@[go_sem] theorem c2_Sames (ex ds) : fn C2 19 ex ds = fn C 19 ex ds := c2_fn _ (by decide) (by decide) (by decide) ex ds
@[go_sem] theorem c2_Same (ex ds) : fn C2 10 ex ds = fn C 10 ex ds := c2_fn _ (by decide) (by decide) (by decide) ex ds
@[go_sem] theorem c2_Read (ex ds) : fn C2 8 ex ds = fn C 8 ex ds := c2_fn _ (by decide) (by decide) (by decide) ex ds
@[go_sem] theorem c2_Line (ex ds) : fn C2 12 ex ds = fn C 12 ex ds := c2_fn _ (by decide) (by decide) (by decide) ex ds
@[go_sem] theorem c2_Print (l : List St) (hl : l.length ≤ 1000) (hok : ∀ s ∈ l, s.ok) : fn C2 17 [] [.slice 10 (l.map St.cs)] = some (.tup [.str (printAll l []).1, .int .i64 (printAll l []).2], []) := by
  rw [fn_own (g := printO) (by show own2 17 = some printO; unfold own2; rw [if_pos rfl])]
  unfold printO
  simp only [stsOf_cs, Option.bind_some]
  rw [if_pos ⟨hl, hok⟩]

theorem parseAll_ok : ∀ (ls : List (List UInt8)) (row : Nat) (out : List St), (∀ s ∈ out, s.ok) → out.length ≤ 200 → (∀ s ∈ (parseAll ls row out).1, s.ok) ∧ (parseAll ls row out).1.length ≤ 200
  | [], _, out, h, hl => ⟨h, hl⟩
  | l :: ls, row, out, h, hl => by
    unfold parseAll
    split
    · exact parseAll_ok ls _ _ h hl
    · split
      · exact ⟨fun s hs => (by simp at hs), by simp⟩
      · split
        · refine parseAll_ok ls _ _ (fun s hs => ?_) (by rw [List.length_append, List.length_singleton]; omega)
          rcases List.mem_append.1 hs with hs | hs
          · exact h s hs
          · rw [List.mem_singleton] at hs
            rw [hs]
            exact readR_ok l
        · exact ⟨fun s hs => (by simp at hs), by simp⟩
theorem parseR_ok (text : List UInt8) : (∀ s ∈ (parseR text).1, s.ok) ∧ (parseR text).1.length ≤ 200 := by
  unfold parseR
  split
  · exact ⟨fun s hs => (by simp at hs), by simp⟩
  · exact parseAll_ok _ _ _ (fun s hs => (by simp at hs)) (by simp)

set_option maxHeartbeats 8000000 in
theorem e5 (text : List UInt8) (l : List St) (ht : text.length ≤ 9223372036854775807) (hl : l.length ≤ 9223372036854775807) (hn : ∀ s ∈ l, s.num) (hf : ∀ s ∈ l, s.fit) : fn C2 5 [] [.str text, .slice 10 (l.map St.cs)] = some (.bool true, []) := by
  have sh := e11 l hl hf
  by_cases h1 : 5000 < text.length ∧ text.length ≤ 20000
  · obtain ⟨h1, h2⟩ := h1
    rw [fn_text Tryd.func5 rfl rfl Tryd.results5 fq5.1 rfl rfl (by kernel_rfl)]
    simp -implicitDefEqProofs -dsimp +contextual (maxSteps := 9999999) (disch := first | omega | simp only [go_sem] <;> omega | refine ib ?_; kernel_rfl) only [go_sem, seval, ↓reduceIte, h1, h2]
  · have h1' : ¬ 5000 < text.length ∨ ¬ text.length ≤ 20000 := by omega
    cases hs : shortR l with
    | false =>
      rw [hs] at sh
      by_cases h5 : 5000 < text.length
      · rw [fn_text Tryd.func5 rfl rfl Tryd.results5 fq5.1 rfl rfl (by kernel_rfl)]
        simp -implicitDefEqProofs -dsimp +contextual (maxSteps := 9999999) (disch := first | omega | simp only [go_sem] <;> omega | refine ib ?_; kernel_rfl) only [go_sem, seval, ↓reduceIte, h5, show ¬ text.length ≤ 20000 by omega, sh]
      · rw [fn_text Tryd.func5 rfl rfl Tryd.results5 fq5.1 rfl rfl (by kernel_rfl)]
        simp -implicitDefEqProofs -dsimp +contextual (maxSteps := 9999999) (disch := first | omega | simp only [go_sem] <;> omega | refine ib ?_; kernel_rfl) only [go_sem, seval, ↓reduceIte, h5, sh]
    | true =>
      rw [hs] at sh
      simp only [shortR, Bool.and_eq_true, decide_eq_true_eq] at hs
      have ok : ∀ s ∈ l, s.ok := fun s hm => (hn s hm).ok (short_mem hs.2 s hm)
      have p1 := e15 text ht
      have p2 := e16 text ht
      have p3 := c2_Print l (by omega) ok
      have p4 := e18 l (by omega) ok
      have po := parseR_ok text
      have m := e19 (parseR text).1 (parseR text).1 (by omega) (by omega) (fun s h => by have := (po.1 s h).g3; omega) (fun s h => by have := (po.1 s h).g3; omega)
      rw [decide_eq_true rfl] at m
      rw [pV] at p1 p2
      generalize parseR text = q at *
      generalize printAll l [] = p at *
      by_cases h5 : 5000 < text.length
      · rw [fn_text Tryd.func5 rfl rfl Tryd.results5 fq5.1 rfl rfl (by kernel_rfl)]
        simp -implicitDefEqProofs -dsimp +contextual (maxSteps := 9999999) (disch := first | omega | simp only [go_sem] <;> omega | refine ib ?_; kernel_rfl) only [go_sem, seval, ↓reduceIte, h5, show ¬ text.length ≤ 20000 by omega, sh, p1, p2, p3, p4, m]
      · rw [fn_text Tryd.func5 rfl rfl Tryd.results5 fq5.1 rfl rfl (by kernel_rfl)]
        simp -implicitDefEqProofs -dsimp +contextual (maxSteps := 9999999) (disch := first | omega | simp only [go_sem] <;> omega | refine ib ?_; kernel_rfl) only [go_sem, seval, ↓reduceIte, h5, sh, p1, p2, p3, p4, m]

end Go.Proofs.YtbnlbdhepbbaoaaDoor
namespace Go.Proofs.YtbnlbdhepbbaoaaDoor
open Go.Am
set_option linter.unusedSimpArgs false
set_option linter.unusedVariables false
set_option maxRecDepth 100000
/-! Layer 43: a line that is read is the line of its step. -/
theorem num_inv (w : List UInt8) (m : Int) (h : (numR w m).2 = 0) : Lib.itoa (numR w m).1 = w := by
  unfold numR at h ⊢
  cases hn : readNumR (signOf w) (digsOf w) with
  | none => rw [hn] at h; simp at h
  | some n =>
    rw [hn] at h
    simp only at h ⊢
    split at h
    · simp at h
    · rename_i hc
      rw [if_neg hc]
      unfold readNumR at hn
      split at hn
      · rename_i hd
        simp only [Option.some.injEq] at hn
        rw [← hn]
        exact ((itoa_back _ _ (head_of w)).2 ⟨hd.2.1, hd.2.2.2⟩).trans (text_of w)
      · cases hn
theorem dig_hexd (c : UInt8) (h : digV c < 16) : hexd (digV c) = c := UInt8.toNat_inj.1 ((hexd_dig c (digV c) h).2 rfl)
theorem pairs_unp : ∀ (l m : List UInt8), unpR l = some m → l.length % 2 = 0 → pairsR m = l
  | [], m, h, _ => by simp [unpR] at h; subst h; rfl
  | [_], _, _, h => by simp at h
  | a :: b :: r, m, h, hl => by
    unfold unpR at h
    split at h
    · rename_i hd
      rw [Option.map_eq_some_iff] at h
      obtain ⟨m', h1, rfl⟩ := h
      have ih := pairs_unp r m' h1 (by simp only [List.length_cons] at hl; omega)
      have e : (UInt8.ofNat (16 * digV a + digV b)).toNat = 16 * digV a + digV b := by rw [UInt8.toNat_ofNat']; omega
      rw [pairsR, List.flatMap_cons, e, show (16 * digV a + digV b) / 16 = digV a by omega, show (16 * digV a + digV b) % 16 = digV b by omega, dig_hexd a hd.1, dig_hexd b hd.2]
      show a :: b :: pairsR m' = _
      rw [ih]
    · cases h
theorem bytes_inv (w b : List UInt8) (h : bytesOf w = some b) : bytesR b = w := by
  unfold bytesOf at h
  split at h
  · rename_i hw
    simp only [Option.some.injEq] at h
    rw [← h, hw]; rfl
  · split at h
    · cases h
    · rename_i hc
      have hp := pairs_unp w b h (by omega)
      unfold bytesR
      rw [if_neg (fun e => hc (.inl (by rw [← hp, e]; rfl)))]
      exact hp
theorem be_fold (m : List UInt8) (h : m.length = 8) : beN 8 (m.foldl (fun n c => n * 256 + c.toNat) 0) = m := by
  match m, h with
  | [a, b, c, d, e, f, g, k], _ =>
    have h1 := a.toNat_lt; have h2 := b.toNat_lt; have h3 := c.toNat_lt; have h4 := d.toNat_lt; have h5 := e.toNat_lt; have h6 := f.toNat_lt; have h7 := g.toNat_lt; have h8 := k.toNat_lt
    rw [beN_8]
    simp only [List.foldl_cons, List.foldl_nil]
    congr 1
    · exact UInt8.toNat_inj.1 (by rw [UInt8.toNat_ofNat']; omega)
    congr 1
    · exact UInt8.toNat_inj.1 (by rw [UInt8.toNat_ofNat']; omega)
    congr 1
    · exact UInt8.toNat_inj.1 (by rw [UInt8.toNat_ofNat']; omega)
    congr 1
    · exact UInt8.toNat_inj.1 (by rw [UInt8.toNat_ofNat']; omega)
    congr 1
    · exact UInt8.toNat_inj.1 (by rw [UInt8.toNat_ofNat']; omega)
    congr 1
    · exact UInt8.toNat_inj.1 (by rw [UInt8.toNat_ofNat']; omega)
    congr 1
    · exact UInt8.toNat_inj.1 (by rw [UInt8.toNat_ofNat']; omega)
    congr 1
    · exact UInt8.toNat_inj.1 (by rw [UInt8.toNat_ofNat']; omega)
theorem hex_inv (w : List UInt8) (h : (hexN w).2 = 0) : hexR (hexN w).1 = w := by
  unfold hexN at h ⊢
  split at h
  · rename_i hc
    rw [if_pos hc]
    rcases unp_cases _ w (Nat.le_refl _) (by rw [hc.1]) with ⟨_, m, h1, h2, h3⟩ | ⟨h1, _⟩
    · show hexR (hexV w) = w
      rw [hexR, show hexV w = m.foldl (fun n c => n * 256 + c.toNat) 0 from (h3 0).symm, be_fold m (by omega)]
      exact pairs_unp w m h1 (by rw [hc.1])
    · rw [hc.2] at h1; cases h1
  · simp at h
theorem text_inv (b : Bool) (w : List UInt8) (h : (textR b w).2 = 0) : (textR b w).1 = w := by
  cases b
  · simp [textR] at h
  · rfl
theorem raw_inv (w : List UInt8) (m : Nat) (h : (rawR w m).2 = 0) : bytesR (rawR w m).1 = w := by
  have h1 := rawR_e w m h
  rw [h1]
  unfold rawR at h
  split at h
  · rename_i b hb
    rw [hb]
    exact bytes_inv w b hb
  · simp at h
theorem S110 (w : List UInt8) (s : St) : stepR (UInt8.toNat 110) w s = ({ s with node := (numR w 7).1 }, (numR w 7).2) := by
  show stepR 110 w s = _
  unfold stepR
  rw [if_pos rfl]
theorem S111 (w : List UInt8) (s : St) : stepR (UInt8.toNat 111) w s = ({ s with other := (numR w 7).1 }, (numR w 7).2) := by
  show stepR 111 w s = _
  unfold stepR
  rw [if_neg (by decide), if_pos rfl]
theorem S112 (w : List UInt8) (s : St) : stepR (UInt8.toNat 112) w s = ({ s with n := (numR w 255).1 }, (numR w 255).2) := by
  show stepR 112 w s = _
  unfold stepR
  rw [if_neg (by decide), if_neg (by decide), if_pos rfl]
theorem S102 (w : List UInt8) (s : St) : stepR (UInt8.toNat 102) w s = ({ s with fr := (numR w 1073741824).1 }, (numR w 1073741824).2) := by
  show stepR 102 w s = _
  unfold stepR
  rw [if_neg (by decide), if_neg (by decide), if_neg (by decide), if_pos rfl]
theorem S117 (w : List UInt8) (s : St) : stepR (UInt8.toNat 117) w s = ({ s with un := (numR w 1073741824).1 }, (numR w 1073741824).2) := by
  show stepR 117 w s = _
  unfold stepR
  rw [if_neg (by decide), if_neg (by decide), if_neg (by decide), if_neg (by decide), if_pos rfl]
theorem S97 (w : List UInt8) (s : St) : stepR (UInt8.toNat 97) w s = ({ s with fr := (numR w 2047).1 }, (numR w 2047).2) := by
  show stepR 97 w s = _
  unfold stepR
  rw [if_neg (by decide), if_neg (by decide), if_neg (by decide), if_neg (by decide), if_neg (by decide), if_pos rfl]
theorem S98 (w : List UInt8) (s : St) : stepR (UInt8.toNat 98) w s = ({ s with un := (numR w 255).1 }, (numR w 255).2) := by
  show stepR 98 w s = _
  unfold stepR
  rw [if_neg (by decide), if_neg (by decide), if_neg (by decide), if_neg (by decide), if_neg (by decide), if_neg (by decide), if_pos rfl]
theorem S105 (w : List UInt8) (s : St) : stepR (UInt8.toNat 105) w s = ({ s with id := (hexN w).1 }, (hexN w).2) := by
  show stepR 105 w s = _
  exact stepR_105 w s
theorem S109 (w : List UInt8) (s : St) : stepR (UInt8.toNat 109) w s = ({ s with key := (textR (nameR w) w).1 }, (textR (nameR w) w).2) := by
  show stepR 109 w s = _
  exact stepR_109 w s
theorem S107 (w : List UInt8) (s : St) : stepR (UInt8.toNat 107) w s = ({ s with key := (textR (keyR w) w).1 }, (textR (keyR w) w).2) := by
  show stepR 107 w s = _
  exact stepR_107 w s
theorem S115 (w : List UInt8) (s : St) : stepR (UInt8.toNat 115) w s = ({ s with val := (textR (nameR w) w).1 }, (textR (nameR w) w).2) := by
  show stepR 115 w s = _
  exact stepR_115 w s
theorem S118 (w : List UInt8) (s : St) : stepR (UInt8.toNat 118) w s = ({ s with val := (rawR w 32).1 }, (rawR w 32).2) := by
  show stepR 118 w s = _
  exact stepR_118 w s
theorem S114 (w : List UInt8) (s : St) : stepR (UInt8.toNat 114) w s = ({ s with bs := (rawR w 2048).1 }, (rawR w 2048).2) := by
  show stepR 114 w s = _
  exact stepR_114 w s
theorem S49 (w : List UInt8) (s : St) : stepR (UInt8.toNat 49) w s = ({ s with n := 1 }, 0) := stepR_49 w s
theorem told_1 (x y : List UInt8) (s : St) (h : readAll [110, 109] [x, y] { stZ with kind := 1 } = (s, 0)) : s.kind = 1 ∧ toldR s = [x, y] := by
  simp only [readAll, nextR, List.headD_cons, List.tail_cons, S110, S109] at h
  by_cases c0 : (numR x 7).2 = 0
  rotate_left
  · rw [if_neg c0] at h
    exact absurd (congrArg Prod.snd h) c0
  rw [if_pos c0] at h
  by_cases c1 : (textR (nameR y) y).2 = 0
  rotate_left
  · rw [if_neg c1] at h
    exact absurd (congrArg Prod.snd h) c1
  rw [if_pos c1] at h
  obtain rfl := (Prod.mk.inj h).1
  refine ⟨rfl, ?_⟩
  simp [toldR, stZ, num_inv _ _ c0, text_inv _ _ c1]
theorem told_2 (x y : List UInt8) (s : St) (h : readAll [110, 111] [x, y] { stZ with kind := 2 } = (s, 0)) : s.kind = 2 ∧ toldR s = [x, y] := by
  simp only [readAll, nextR, List.headD_cons, List.tail_cons, S110, S111] at h
  by_cases c0 : (numR x 7).2 = 0
  rotate_left
  · rw [if_neg c0] at h
    exact absurd (congrArg Prod.snd h) c0
  rw [if_pos c0] at h
  by_cases c1 : (numR y 7).2 = 0
  rotate_left
  · rw [if_neg c1] at h
    exact absurd (congrArg Prod.snd h) c1
  rw [if_pos c1] at h
  obtain rfl := (Prod.mk.inj h).1
  refine ⟨rfl, ?_⟩
  simp [toldR, stZ, num_inv _ _ c0, num_inv _ _ c1]
theorem told_3 (x : List UInt8) (s : St) (h : readAll [110] [x] { stZ with kind := 3 } = (s, 0)) : s.kind = 3 ∧ toldR s = [x] := by
  simp only [readAll, nextR, List.headD_cons, List.tail_cons, S110] at h
  by_cases c0 : (numR x 7).2 = 0
  rotate_left
  · rw [if_neg c0] at h
    exact absurd (congrArg Prod.snd h) c0
  rw [if_pos c0] at h
  obtain rfl := (Prod.mk.inj h).1
  refine ⟨rfl, ?_⟩
  simp [toldR, stZ, num_inv _ _ c0]
theorem told_4 (x : List UInt8) (s : St) (h : readAll [110] [x] { stZ with kind := 4 } = (s, 0)) : s.kind = 4 ∧ toldR s = [x] := by
  simp only [readAll, nextR, List.headD_cons, List.tail_cons, S110] at h
  by_cases c0 : (numR x 7).2 = 0
  rotate_left
  · rw [if_neg c0] at h
    exact absurd (congrArg Prod.snd h) c0
  rw [if_pos c0] at h
  obtain rfl := (Prod.mk.inj h).1
  refine ⟨rfl, ?_⟩
  simp [toldR, stZ, num_inv _ _ c0]
theorem told_5 (x : List UInt8) (s : St) (h : readAll [110] [x] { stZ with kind := 5 } = (s, 0)) : s.kind = 5 ∧ toldR s = [x] := by
  simp only [readAll, nextR, List.headD_cons, List.tail_cons, S110] at h
  by_cases c0 : (numR x 7).2 = 0
  rotate_left
  · rw [if_neg c0] at h
    exact absurd (congrArg Prod.snd h) c0
  rw [if_pos c0] at h
  obtain rfl := (Prod.mk.inj h).1
  refine ⟨rfl, ?_⟩
  simp [toldR, stZ, num_inv _ _ c0]
theorem told_6 (x : List UInt8) (s : St) (h : readAll [110] [x] { stZ with kind := 6 } = (s, 0)) : s.kind = 6 ∧ toldR s = [x] := by
  simp only [readAll, nextR, List.headD_cons, List.tail_cons, S110] at h
  by_cases c0 : (numR x 7).2 = 0
  rotate_left
  · rw [if_neg c0] at h
    exact absurd (congrArg Prod.snd h) c0
  rw [if_pos c0] at h
  obtain rfl := (Prod.mk.inj h).1
  refine ⟨rfl, ?_⟩
  simp [toldR, stZ, num_inv _ _ c0]
theorem told_7 (x y z : List UInt8) (s : St) (h : readAll [110, 107, 118] [x, y, z] { stZ with kind := 7 } = (s, 0)) : s.kind = 7 ∧ toldR s = [x, y, z] := by
  simp only [readAll, nextR, List.headD_cons, List.tail_cons, S110, S107, S118] at h
  by_cases c0 : (numR x 7).2 = 0
  rotate_left
  · rw [if_neg c0] at h
    exact absurd (congrArg Prod.snd h) c0
  rw [if_pos c0] at h
  by_cases c1 : (textR (keyR y) y).2 = 0
  rotate_left
  · rw [if_neg c1] at h
    exact absurd (congrArg Prod.snd h) c1
  rw [if_pos c1] at h
  by_cases c2 : (rawR z 32).2 = 0
  rotate_left
  · rw [if_neg c2] at h
    exact absurd (congrArg Prod.snd h) c2
  rw [if_pos c2] at h
  obtain rfl := (Prod.mk.inj h).1
  refine ⟨rfl, ?_⟩
  simp [toldR, stZ, num_inv _ _ c0, text_inv _ _ c1, raw_inv _ _ c2]
theorem told_8 (x y : List UInt8) (s : St) (h : readAll [110, 107] [x, y] { stZ with kind := 8 } = (s, 0)) : s.kind = 8 ∧ toldR s = [x, y] := by
  simp only [readAll, nextR, List.headD_cons, List.tail_cons, S110, S107] at h
  by_cases c0 : (numR x 7).2 = 0
  rotate_left
  · rw [if_neg c0] at h
    exact absurd (congrArg Prod.snd h) c0
  rw [if_pos c0] at h
  by_cases c1 : (textR (keyR y) y).2 = 0
  rotate_left
  · rw [if_neg c1] at h
    exact absurd (congrArg Prod.snd h) c1
  rw [if_pos c1] at h
  obtain rfl := (Prod.mk.inj h).1
  refine ⟨rfl, ?_⟩
  simp [toldR, stZ, num_inv _ _ c0, text_inv _ _ c1]
theorem told_9 (x y : List UInt8) (s : St) (h : readAll [110, 107] [x, y] { stZ with kind := 9 } = (s, 0)) : s.kind = 9 ∧ toldR s = [x, y] := by
  simp only [readAll, nextR, List.headD_cons, List.tail_cons, S110, S107] at h
  by_cases c0 : (numR x 7).2 = 0
  rotate_left
  · rw [if_neg c0] at h
    exact absurd (congrArg Prod.snd h) c0
  rw [if_pos c0] at h
  by_cases c1 : (textR (keyR y) y).2 = 0
  rotate_left
  · rw [if_neg c1] at h
    exact absurd (congrArg Prod.snd h) c1
  rw [if_pos c1] at h
  obtain rfl := (Prod.mk.inj h).1
  refine ⟨rfl, ?_⟩
  simp [toldR, stZ, num_inv _ _ c0, text_inv _ _ c1]
theorem told_10 (s : St) (h : readAll [] [] { stZ with kind := 10 } = (s, 0)) : s.kind = 10 ∧ toldR s = [] := by
  simp only [readAll, nextR, List.headD_cons, List.tail_cons] at h
  obtain rfl := (Prod.mk.inj h).1
  refine ⟨rfl, ?_⟩
  simp [toldR, stZ]
theorem told_11 (x : List UInt8) (s : St) (h : readAll [112] [x] { stZ with kind := 11 } = (s, 0)) : s.kind = 11 ∧ toldR s = [x] := by
  simp only [readAll, nextR, List.headD_cons, List.tail_cons, S112] at h
  by_cases c0 : (numR x 255).2 = 0
  rotate_left
  · rw [if_neg c0] at h
    exact absurd (congrArg Prod.snd h) c0
  rw [if_pos c0] at h
  obtain rfl := (Prod.mk.inj h).1
  refine ⟨rfl, ?_⟩
  simp [toldR, stZ, num_inv _ _ c0]
theorem told_12 (x : List UInt8) (s : St) (h : readAll [112] [x] { stZ with kind := 12 } = (s, 0)) : s.kind = 12 ∧ toldR s = [x] := by
  simp only [readAll, nextR, List.headD_cons, List.tail_cons, S112] at h
  by_cases c0 : (numR x 255).2 = 0
  rotate_left
  · rw [if_neg c0] at h
    exact absurd (congrArg Prod.snd h) c0
  rw [if_pos c0] at h
  obtain rfl := (Prod.mk.inj h).1
  refine ⟨rfl, ?_⟩
  simp [toldR, stZ, num_inv _ _ c0]
theorem told_13 (x : List UInt8) (s : St) (h : readAll [112] [x] { stZ with kind := 13 } = (s, 0)) : s.kind = 13 ∧ toldR s = [x] := by
  simp only [readAll, nextR, List.headD_cons, List.tail_cons, S112] at h
  by_cases c0 : (numR x 255).2 = 0
  rotate_left
  · rw [if_neg c0] at h
    exact absurd (congrArg Prod.snd h) c0
  rw [if_pos c0] at h
  obtain rfl := (Prod.mk.inj h).1
  refine ⟨rfl, ?_⟩
  simp [toldR, stZ, num_inv _ _ c0]
theorem told_14 (x y z : List UInt8) (s : St) (h : readAll [109, 115, 114] [x, y, z] { stZ with kind := 14 } = (s, 0)) : s.kind = 14 ∧ toldR s = [x, y, z] := by
  simp only [readAll, nextR, List.headD_cons, List.tail_cons, S109, S115, S114] at h
  by_cases c0 : (textR (nameR x) x).2 = 0
  rotate_left
  · rw [if_neg c0] at h
    exact absurd (congrArg Prod.snd h) c0
  rw [if_pos c0] at h
  by_cases c1 : (textR (nameR y) y).2 = 0
  rotate_left
  · rw [if_neg c1] at h
    exact absurd (congrArg Prod.snd h) c1
  rw [if_pos c1] at h
  by_cases c2 : (rawR z 2048).2 = 0
  rotate_left
  · rw [if_neg c2] at h
    exact absurd (congrArg Prod.snd h) c2
  rw [if_pos c2] at h
  obtain rfl := (Prod.mk.inj h).1
  refine ⟨rfl, ?_⟩
  simp [toldR, stZ, text_inv _ _ c0, text_inv _ _ c1, raw_inv _ _ c2]
theorem told_15 (x y z : List UInt8) (s : St) (h : readAll [112, 97, 98] [x, y, z] { stZ with kind := 15 } = (s, 0)) : s.kind = 15 ∧ toldR s = [x, y, z] := by
  simp only [readAll, nextR, List.headD_cons, List.tail_cons, S112, S97, S98] at h
  by_cases c0 : (numR x 255).2 = 0
  rotate_left
  · rw [if_neg c0] at h
    exact absurd (congrArg Prod.snd h) c0
  rw [if_pos c0] at h
  by_cases c1 : (numR y 2047).2 = 0
  rotate_left
  · rw [if_neg c1] at h
    exact absurd (congrArg Prod.snd h) c1
  rw [if_pos c1] at h
  by_cases c2 : (numR z 255).2 = 0
  rotate_left
  · rw [if_neg c2] at h
    exact absurd (congrArg Prod.snd h) c2
  rw [if_pos c2] at h
  obtain rfl := (Prod.mk.inj h).1
  refine ⟨rfl, ?_⟩
  simp [toldR, stZ, num_inv _ _ c0, num_inv _ _ c1, num_inv _ _ c2]
theorem told_16 (x : List UInt8) (s : St) (h : readAll [105] [x] { stZ with kind := 16 } = (s, 0)) : s.kind = 16 ∧ toldR s = [x] := by
  simp only [readAll, nextR, List.headD_cons, List.tail_cons, S105] at h
  by_cases c0 : (hexN x).2 = 0
  rotate_left
  · rw [if_neg c0] at h
    exact absurd (congrArg Prod.snd h) c0
  rw [if_pos c0] at h
  obtain rfl := (Prod.mk.inj h).1
  refine ⟨rfl, ?_⟩
  simp [toldR, stZ, hex_inv _ c0]
theorem told_17 (x y z u : List UInt8) (s : St) (h : readAll [109, 105, 102, 117] [x, y, z, u] { stZ with kind := 17 } = (s, 0)) : s.kind = 17 ∧ toldR s = [x, y, z, u] := by
  simp only [readAll, nextR, List.headD_cons, List.tail_cons, S109, S105, S102, S117] at h
  by_cases c0 : (textR (nameR x) x).2 = 0
  rotate_left
  · rw [if_neg c0] at h
    exact absurd (congrArg Prod.snd h) c0
  rw [if_pos c0] at h
  by_cases c1 : (hexN y).2 = 0
  rotate_left
  · rw [if_neg c1] at h
    exact absurd (congrArg Prod.snd h) c1
  rw [if_pos c1] at h
  by_cases c2 : (numR z 1073741824).2 = 0
  rotate_left
  · rw [if_neg c2] at h
    exact absurd (congrArg Prod.snd h) c2
  rw [if_pos c2] at h
  by_cases c3 : (numR u 1073741824).2 = 0
  rotate_left
  · rw [if_neg c3] at h
    exact absurd (congrArg Prod.snd h) c3
  rw [if_pos c3] at h
  obtain rfl := (Prod.mk.inj h).1
  refine ⟨rfl, ?_⟩
  simp [toldR, stZ, text_inv _ _ c0, hex_inv _ c1, num_inv _ _ c2, num_inv _ _ c3]
theorem told_19 (x : List UInt8) (s : St) (h : readAll [110] [x] { stZ with kind := 19 } = (s, 0)) : s.kind = 19 ∧ toldR s = [x] := by
  simp only [readAll, nextR, List.headD_cons, List.tail_cons, S110] at h
  by_cases c0 : (numR x 7).2 = 0
  rotate_left
  · rw [if_neg c0] at h
    exact absurd (congrArg Prod.snd h) c0
  rw [if_pos c0] at h
  obtain rfl := (Prod.mk.inj h).1
  refine ⟨rfl, ?_⟩
  simp [toldR, stZ, num_inv _ _ c0]
theorem told_1a (x y : List UInt8) (s : St) (h : readAll [110, 109, 49] [x, y, [97, 108, 111, 110, 101]] { stZ with kind := 1 } = (s, 0)) : s.kind = 1 ∧ toldR s = [x, y, [97, 108, 111, 110, 101]] := by
  simp only [readAll, nextR, List.headD_cons, List.tail_cons, S110, S109, S49] at h
  by_cases c0 : (numR x 7).2 = 0
  rotate_left
  · rw [if_neg c0] at h
    exact absurd (congrArg Prod.snd h) c0
  rw [if_pos c0] at h
  by_cases c1 : (textR (nameR y) y).2 = 0
  rotate_left
  · rw [if_neg c1] at h
    exact absurd (congrArg Prod.snd h) c1
  rw [if_pos c1] at h
  simp only [if_true] at h
  obtain rfl := (Prod.mk.inj h).1
  refine ⟨rfl, ?_⟩
  simp [toldR, stZ, num_inv _ _ c0, text_inv _ _ c1]
theorem told_18a (x : List UInt8) (s : St) (h : readAll [109] [x] { stZ with kind := 18 } = (s, 0)) : s.kind = 18 ∧ toldR s = [x] := by
  simp only [readAll, nextR, List.headD_cons, List.tail_cons, S109] at h
  by_cases c0 : (textR (nameR x) x).2 = 0
  rotate_left
  · rw [if_neg c0] at h
    exact absurd (congrArg Prod.snd h) c0
  rw [if_pos c0] at h
  obtain rfl := (Prod.mk.inj h).1
  refine ⟨rfl, ?_⟩
  have hx : ¬ x = [] := fun e => by
    rw [e] at c0
    simp [textR, nameR] at c0
  simp [toldR, stZ, text_inv _ _ c0, hx]
theorem told_18 (s : St) (h : readAll [] [] { stZ with kind := 18 } = (s, 0)) : s.kind = 18 ∧ toldR s = [] := by
  simp only [readAll, nextR, List.headD_cons, List.tail_cons] at h
  obtain rfl := (Prod.mk.inj h).1
  refine ⟨rfl, ?_⟩
  simp [toldR, stZ]

end Go.Proofs.YtbnlbdhepbbaoaaDoor
