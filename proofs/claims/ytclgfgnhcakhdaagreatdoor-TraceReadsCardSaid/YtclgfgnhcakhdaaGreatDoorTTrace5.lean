import Derived.Test.YtclgfgnhcakhdaaGreatDoorTScript10
namespace Go.Proofs.YtclgfgnhcakhdaaGreatDoor
set_option maxHeartbeats 64000000
open Go.Am
set_option linter.unusedSimpArgs false
set_option linter.unusedVariables false
set_option maxRecDepth 100000
theorem checkK_none {l : List UInt8} {ls : List (List UInt8)} {sum : List UInt8} (h : readL l = none) : checkK (l :: ls) sum = 0 := by rw [checkK, h]
theorem checkK_some {l a d : List UInt8} {e : Int} {ls : List (List UInt8)} {sum : List UInt8} (h : readL l = some (a, e, d)) : checkK (l :: ls) sum = if digT (nextT sum (textT a e)) = d then checkK ls (nextT sum (textT a e)) + 1 else 0 := by rw [checkK, h]
theorem readL_num {l a d : List UInt8} {e : Int} (h : readL l = some (a, e, d)) : 0 ≤ e ∧ e ≤ 99 ∧ a.length ≤ l.length := by
  unfold readL at h
  split at h
  · rename_i a' n s hq
    split at h
    · simp only [Option.some.injEq, Prod.mk.injEq] at h
      obtain ⟨rfl, rfl, rfl⟩ := h
      obtain ⟨r1, r2, _⟩ := (lineQ_iff numG hexG numG_chars hexG_chars l a' n s).1 hq
      refine ⟨?_, ?_, by rw [r1]; simp⟩
      all_goals
        cases hn : numO n with
        | none => exact absurd r2 (by unfold numG; rw [hn]; simp)
        | some k =>
          obtain ⟨q1, q2⟩ := numG_of hn
          rw [q1, Bool.and_eq_true, decide_eq_true_eq, decide_eq_true_eq] at r2
          rw [q2]
          omega
    · cases h
  · cases h
theorem e22 (t : List UInt8) (ls : List (List UInt8)) (h : t.length ≤ 1000) (hl : ls.length ≤ 100000) (hs : ∀ l ∈ ls, l.length ≤ 100000) : fn C 22 [] [.str t, .slice 1 (ls.map strRow)] = some (.int .i64 (checkK ls (sumB (titS ++ t)) : Int), []) := by
  have e0 := e25 t (by omega)
  have hS : (sumB (titS ++ t)).length = 32 := sumB_len _
  generalize sumB (titS ++ t) = S0 at *
  rw [fn_text Tryz.func22 rfl rfl Tryz.results22 fq22.1 rfl rfl (by kernel_rfl)]
  simp -implicitDefEqProofs -dsimp +contextual (maxSteps := 9999999) (disch := first | omega | simp only [go_sem] <;> omega | refine ib ?_; kernel_rfl) only [go_sem, seval, ↓reduceIte, e0]
  refine kFor ls.length (fun i f H => ∃ s g : _, (s : List UInt8).length = 32 ∧ checkK ls S0 = i + checkK (ls.drop i) s ∧ f 1 = .slice 1 (ls.map strRow) ∧ f 5 = .ptr 105 g 0 0 ∧ f 14 = .slice 1 (ls.map strRow) ∧ f 15 = .int .i64 ls.length ∧ f 16 = .int .i64 (i : Nat) ∧ H 105 = ⟨g, .live, 1, [[.slice 1 (s.map byteRow)]], false⟩) ?_ ?_ (by exact ⟨S0, 1, hS, by simp, rfl, rfl, rfl, rfl, rfl, rfl⟩)
  · rintro i f H hi ⟨s, g, hs32, hc, f1, f5, f14, f15, f16, hO⟩ ih
    have row : (ls.map strRow)[i]? = some [.str ls[i]] := by rw [List.getElem?_map, List.getElem?_eq_getElem hi]; rfl
    have hli := hs _ (List.getElem_mem hi)
    have e1 := e17 ls[i] hli
    rw [List.drop_eq_getElem_cons hi] at hc
    cases hr : readL ls[i] with
    | none =>
      rw [checkK_none hr] at hc
      rw [hr, rdV] at e1
      simp -implicitDefEqProofs -dsimp +contextual (maxSteps := 9999999) (disch := first | omega | simp only [go_sem] <;> omega | refine ib ?_; kernel_rfl) only [go_sem, seval, ↓reduceIte, f1, f5, f14, f15, f16, hO, hi, row, e1]
      rw [hc]; rfl
    | some q =>
      obtain ⟨a, e, d⟩ := q
      rw [checkK_some hr] at hc
      obtain ⟨b1, b2, b3⟩ := readL_num hr
      rw [hr, rdV] at e1
      have e2 := e32 a e (by omega) (by omega) (by omega)
      have ht : (textT a e).length ≤ 500000 := by
        have := Lib.itoa_length_le e (by omega) (by omega)
        unfold textT; simp; omega
      have e3 := e33 s (textT a e) (by omega) ht
      have hn : (nextT s (textT a e)).length = 32 := sumB_len _
      generalize nextT s (textT a e) = s' at *
      generalize textT a e = tx at *
      by_cases hd : digT s' = d
      · rw [if_pos hd] at hc
        have hd' := eq_true hd
        simp -implicitDefEqProofs -dsimp +contextual (maxSteps := 9999999) (disch := first | omega | simp only [go_sem] <;> omega | refine ib ?_; kernel_rfl) only [go_sem, seval, ↓reduceIte, f1, f5, f14, f15, f16, hO, hi, row, e1, e2, e3, hd']
        refine ih _ _ ?_
        exact ⟨s', g, hn, by omega, f1, f5, f14, f15, rfl, rfl⟩
      · rw [if_neg hd] at hc
        have hd' := eq_false hd
        simp -implicitDefEqProofs -dsimp +contextual (maxSteps := 9999999) (disch := first | omega | simp only [go_sem] <;> omega | refine ib ?_; kernel_rfl) only [go_sem, seval, ↓reduceIte, f1, f5, f14, f15, f16, hO, hi, row, e1, e2, e3, hd']
        rw [hc]; rfl
  · rintro f H ⟨s, g, hs32, hc, f1, f5, f14, f15, f16, hO⟩
    rw [List.drop_length] at hc
    simp -implicitDefEqProofs -dsimp +contextual (maxSteps := 9999999) (disch := first | omega | simp only [go_sem] <;> omega | refine ib ?_; kernel_rfl) only [go_sem, seval, ↓reduceIte, f1, f5, f14, f15, f16, hO]
    rw [hc]; rfl
theorem e23 (t : List UInt8) (ls : List (List UInt8)) (h : t.length ≤ 1000) (hl : ls.length ≤ 100000) (hs : ∀ l ∈ ls, l.length ≤ 100000) : fn C 23 [] [.str t, .slice 1 (ls.map strRow)] = some (.int .i64 (checkK ls (sumB (titS ++ t)) : Int), []) := by
  have e0 := e34 t (by omega)
  have hS : (sumB (titS ++ t)).length = 32 := sumB_len _
  generalize sumB (titS ++ t) = S0 at *
  rw [fn_text Tryz.func23 rfl rfl Tryz.results23 fq23.1 rfl rfl (by kernel_rfl)]
  simp -implicitDefEqProofs -dsimp +contextual (maxSteps := 9999999) (disch := first | omega | simp only [go_sem] <;> omega | refine ib ?_; kernel_rfl) only [go_sem, seval, ↓reduceIte, e0]
  refine kLoop_rec (fun (i : Nat) f H => i ≤ ls.length ∧ ∃ s : List UInt8, s.length = 32 ∧ checkK ls S0 = i + checkK (ls.drop i) s ∧ f 1 = .slice 1 (ls.map strRow) ∧ f 5 = .slice 1 (s.map byteRow) ∧ f 6 = .int .i64 (i : Nat) ∧ H = Heap.nil) (fun i => ls.length - i) (fun _ => _) ?_ 0 _ _ (by exact ⟨Nat.zero_le _, S0, hS, by simp, rfl, rfl, rfl, rfl⟩)
  rintro i f _ ⟨hi', s, hs32, hc, f1, f5, f6, rfl⟩ ih
  by_cases hi : i < ls.length
  · have row : (ls.map strRow)[i]? = some [.str ls[i]] := by rw [List.getElem?_map, List.getElem?_eq_getElem hi]; rfl
    have hli := hs _ (List.getElem_mem hi)
    have e1 := e18 ls[i] hli
    rw [List.drop_eq_getElem_cons hi] at hc
    cases hr : readL ls[i] with
    | none =>
      rw [checkK_none hr] at hc
      rw [hr, rdV] at e1
      simp -implicitDefEqProofs -dsimp +contextual (maxSteps := 9999999) (disch := first | omega | simp only [go_sem] <;> omega | refine ib ?_; kernel_rfl) only [go_sem, seval, ↓reduceIte, f1, f5, f6, hi, row, e1]
      rw [hc]; rfl
    | some q =>
      obtain ⟨a, e, d⟩ := q
      rw [checkK_some hr] at hc
      obtain ⟨b1, b2, b3⟩ := readL_num hr
      rw [hr, rdV] at e1
      have e2 := e35 e (by omega) (by omega)
      have ht : (textT a e).length ≤ 500000 := by
        have := Lib.itoa_length_le e (by omega) (by omega)
        unfold textT; simp; omega
      have e3 := e36 s (textT a e) (by omega) ht
      have hn : (nextT s (textT a e)).length = 32 := sumB_len _
      have e4 := e15 (nextT s (textT a e)) (by omega)
      have e5 := dig_len s (textT a e)
      unfold digT at hc
      generalize nextT s (textT a e) = s' at *
      have tt : textT a e = a ++ [32, 61, 32] ++ Lib.itoa e := by simp [textT, eqS]
      rw [tt] at e3
      have li := Lib.itoa_length_le e (by omega) (by omega)
      by_cases hd : (bytesR s').take 16 = d
      · rw [if_pos hd] at hc
        have hd' := eq_true hd
        simp -implicitDefEqProofs -dsimp +contextual (maxSteps := 9999999) (disch := first | omega | simp only [go_sem] <;> omega | refine ib ?_; kernel_rfl) only [go_sem, seval, ↓reduceIte, f1, f5, f6, hi, row, e1, e2, e3, e4, e5, hd']
        refine ih (i + 1) _ _ ?_ (by omega)
        exact ⟨by omega, s', hn, by omega, f1, rfl, rfl, rfl⟩
      · rw [if_neg hd] at hc
        have hd' := eq_false hd
        simp -implicitDefEqProofs -dsimp +contextual (maxSteps := 9999999) (disch := first | omega | simp only [go_sem] <;> omega | refine ib ?_; kernel_rfl) only [go_sem, seval, ↓reduceIte, f1, f5, f6, hi, row, e1, e2, e3, e4, e5, hd']
        rw [hc]; rfl
  · obtain rfl : i = ls.length := by omega
    rw [List.drop_length] at hc
    simp -implicitDefEqProofs -dsimp +contextual (maxSteps := 9999999) (disch := first | omega | simp only [go_sem] <;> omega | refine ib ?_; kernel_rfl) only [go_sem, seval, ↓reduceIte, f1, f5, f6]
    rw [hc]; rfl
def iRow (n : Int) : List AVal := [.int .i64 n]
@[go_sem] theorem iRow_clos (l : List Int) : (l.map iRow).all clos = true := allclos_map _ (fun _ => rfl) l
def atV : Option Nat → Int
  | none => -1
  | some k => k
def stepsV (q : List St × List Int × Option Nat) : AVal := .tup [.slice 10 (q.1.map St.cs), .slice 1 (q.2.1.map iRow), .int .i64 (atV q.2.2)]
def stepsA (i : Nat) (A : List St) (B : List Int) (q : List St × List Int × Option Nat) : List St × List Int × Option Nat := (A ++ q.1, B ++ q.2.1, q.2.2.map (· + i))
theorem stepsA_none {i : Nat} {A : List St} {B : List Int} {l : List UInt8} {ls : List (List UInt8)} (h : readL l = none) : stepsA i A B (stepsK (l :: ls)) = (A, B, some i) := by
  rw [stepsK, h]; simp [stepsA]
theorem stepsA_some {i : Nat} {A : List St} {B : List Int} {l a d : List UInt8} {e : Int} {ls : List (List UInt8)} (h : readL l = some (a, e, d)) : stepsA i A B (stepsK (l :: ls)) = stepsA (i + 1) (A ++ [(readR a).1]) (B ++ [e]) (stepsK ls) := by
  rw [stepsK, h]
  simp only [stepsA, List.append_assoc, List.singleton_append, Option.map_map]
  refine Prod.ext rfl (Prod.ext rfl (congrArg (fun g => Option.map g _) (funext fun x => ?_)))
  show x + 1 + i = x + (i + 1)
  omega
theorem stepsA_end {i : Nat} {A : List St} {B : List Int} : stepsA i A B (stepsK []) = (A, B, none) := by simp [stepsA, stepsK]
theorem stepsA_0 (q : List St × List Int × Option Nat) : stepsA 0 [] [] q = q := by
  obtain ⟨a, b, c⟩ := q
  cases c <;> rfl
theorem e19 (ls : List (List UInt8)) (hl : ls.length ≤ 100000) (hs : ∀ l ∈ ls, l.length ≤ 100000) : fn C 19 [] [.slice 1 (ls.map strRow)] = some (stepsV (stepsK ls), []) := by
  rw [← stepsA_0 (stepsK ls)]
  rw [fn_textN Tryz.func19 rfl rfl Tryz.results19 fq19.1 rfl rfl (by kernel_rfl)]
  simp -implicitDefEqProofs -dsimp +contextual (maxSteps := 9999999) (disch := first | omega | simp only [go_sem] <;> omega | refine ib ?_; kernel_rfl) only [go_sem, seval, ↓reduceIte]
  refine kLoop_rec (fun (q : Nat × List St × List Int) f H => q.1 ≤ ls.length ∧ q.2.1.length = q.1 ∧ q.2.2.length = q.1 ∧ f 15 = .slice 1 (ls.map strRow) ∧ f 16 = .int .i64 (ls.length : Int) ∧ f 17 = .int .i64 (q.1 : Int) ∧ AccS f H 5 105 q.2.1 ∧ ∃ g, f 6 = .osl 106 g 0 q.2.2.length ∧ H 106 = ⟨g, .live, 1, q.2.2.map iRow, false⟩) (fun q => ls.length - q.1) (fun q => some (stepsV (stepsA q.1 q.2.1 q.2.2 (stepsK (ls.drop q.1))), [])) ?_ (0, [], []) _ _ (by exact ⟨Nat.zero_le _, rfl, rfl, rfl, rfl, rfl, ⟨_, rfl, rfl⟩, ⟨_, rfl, rfl⟩⟩)
  rintro ⟨i, A, B⟩ f H ⟨hi', hA, hB, f15, f16, f17, ⟨g, f5, H5⟩, ⟨g6, f6, H6⟩⟩ ih
  simp only at hi' hA hB f15 f16 f17 f5 H5 f6 H6 ih
  by_cases hi : i < ls.length
  · have row : (ls.map strRow)[i]? = some [.str ls[i]] := by rw [List.getElem?_map, List.getElem?_eq_getElem hi]; rfl
    have hli := hs _ (List.getElem_mem hi)
    have e1 := e17 ls[i] hli
    rw [List.drop_eq_getElem_cons hi]
    have ih1 := ih (i + 1, A ++ [(readR (match readL ls[i] with | some q => q.1 | none => [])).1], B ++ [match readL ls[i] with | some q => q.2.1 | none => 0])
    clear ih
    cases hr : readL ls[i] with
    | none =>
      rw [stepsA_none hr]
      rw [hr, rdV] at e1
      clear ih1
      simp -implicitDefEqProofs -dsimp +contextual (maxSteps := 9999999) (disch := first | omega | simp only [go_sem] <;> omega | refine ib ?_; kernel_rfl) only [go_sem, seval, ↓reduceIte, f15, f16, f17, f5, f6, H5, H6, hi, row, e1, stepsV]
      first | rfl | (simp [atV]; done)
    | some q =>
      obtain ⟨a, e, d⟩ := q
      rw [stepsA_some hr]
      obtain ⟨b1, b2, b3⟩ := readL_num hr
      rw [hr, rdV] at e1
      rw [hr] at ih1
      simp only at ih1
      have e2 := e43 a (by omega)
      generalize stepsA (i + 1) _ _ _ = RZ at *
      generalize readR a = st at *
      rw [stV] at e2
      simp -implicitDefEqProofs -dsimp +contextual (maxSteps := 9999999) (disch := first | omega | simp only [go_sem] <;> omega | refine ib ?_; kernel_rfl) only [go_sem, seval, ↓reduceIte, f15, f16, f17, f5, f6, H5, H6, hi, row, e1, e2]
      refine ih1 _ _ ?_ (by omega)
      exact ⟨hi, by simp [hA], by simp [hB], f15, f16, rfl, ⟨_, by rw [List.length_append]; rfl, by rw [List.map_append]; rfl⟩, ⟨_, by rw [List.length_append]; rfl, by rw [List.map_append]; rfl⟩⟩
  · obtain rfl : i = ls.length := by omega
    clear ih
    rw [List.drop_length, stepsA_end]
    simp -implicitDefEqProofs -dsimp +contextual (maxSteps := 9999999) (disch := first | omega | simp only [go_sem] <;> omega | refine ib ?_; kernel_rfl) only [go_sem, seval, ↓reduceIte, f15, f16, f17, f5, f6, H5, H6, stepsV]
    first | rfl | (simp [atV]; done)
theorem e20 (ls : List (List UInt8)) (hl : ls.length ≤ 100000) (hs : ∀ l ∈ ls, l.length ≤ 100000) : fn C 20 [] [.slice 1 (ls.map strRow)] = some (stepsV (stepsK ls), []) := by
  rw [← stepsA_0 (stepsK ls)]
  rw [fn_textN Tryz.func20 rfl rfl Tryz.results20 fq20.1 rfl rfl (by kernel_rfl)]
  simp -implicitDefEqProofs -dsimp +contextual (maxSteps := 9999999) (disch := first | omega | simp only [go_sem] <;> omega | refine ib ?_; kernel_rfl) only [go_sem, seval, ↓reduceIte]
  refine kLoop_rec (fun (q : Nat × List St × List Int) f H => q.1 ≤ ls.length ∧ q.2.1.length = q.1 ∧ q.2.2.length = q.1 ∧ f 0 = .slice 1 (ls.map strRow) ∧ f 7 = .int .i64 (q.1 : Int) ∧ AccS f H 5 105 q.2.1 ∧ ∃ g, f 6 = .osl 106 g 0 q.2.2.length ∧ H 106 = ⟨g, .live, 1, q.2.2.map iRow, false⟩) (fun q => ls.length - q.1) (fun q => some (stepsV (stepsA q.1 q.2.1 q.2.2 (stepsK (ls.drop q.1))), [])) ?_ (0, [], []) _ _ (by exact ⟨Nat.zero_le _, rfl, rfl, rfl, rfl, ⟨_, rfl, rfl⟩, ⟨_, rfl, rfl⟩⟩)
  rintro ⟨i, A, B⟩ f H ⟨hi', hA, hB, f0, f7, ⟨g, f5, H5⟩, ⟨g6, f6, H6⟩⟩ ih
  simp only at hi' hA hB f0 f7 f5 H5 f6 H6 ih
  by_cases hi : i < ls.length
  · have row : (ls.map strRow)[i]? = some [.str ls[i]] := by rw [List.getElem?_map, List.getElem?_eq_getElem hi]; rfl
    have hli := hs _ (List.getElem_mem hi)
    have e1 := e18 ls[i] hli
    rw [List.drop_eq_getElem_cons hi]
    have ih1 := ih (i + 1, A ++ [(readR (match readL ls[i] with | some q => q.1 | none => [])).1], B ++ [match readL ls[i] with | some q => q.2.1 | none => 0])
    clear ih
    cases hr : readL ls[i] with
    | none =>
      rw [stepsA_none hr]
      rw [hr, rdV] at e1
      clear ih1
      simp -implicitDefEqProofs -dsimp +contextual (maxSteps := 9999999) (disch := first | omega | simp only [go_sem] <;> omega | refine ib ?_; kernel_rfl) only [go_sem, seval, ↓reduceIte, f0, f7, f5, f6, H5, H6, hi, row, e1, stepsV]
      first | rfl | (simp [atV]; done)
    | some q =>
      obtain ⟨a, e, d⟩ := q
      rw [stepsA_some hr]
      obtain ⟨b1, b2, b3⟩ := readL_num hr
      rw [hr, rdV] at e1
      rw [hr] at ih1
      simp only at ih1
      have e2 := e29 a (by omega)
      generalize stepsA (i + 1) _ _ _ = RZ at *
      generalize readR a = st at *
      rw [stV] at e2
      simp -implicitDefEqProofs -dsimp +contextual (maxSteps := 9999999) (disch := first | omega | simp only [go_sem] <;> omega | refine ib ?_; kernel_rfl) only [go_sem, seval, ↓reduceIte, f0, f7, f5, f6, H5, H6, hi, row, e1, e2]
      refine ih1 _ _ ?_ (by omega)
      exact ⟨hi, by simp [hA], by simp [hB], f0, rfl, ⟨_, by rw [List.length_append]; rfl, by rw [List.map_append]; rfl⟩, ⟨_, by rw [List.length_append]; rfl, by rw [List.map_append]; rfl⟩⟩
  · obtain rfl : i = ls.length := by omega
    clear ih
    rw [List.drop_length, stepsA_end]
    simp -implicitDefEqProofs -dsimp +contextual (maxSteps := 9999999) (disch := first | omega | simp only [go_sem] <;> omega | refine ib ?_; kernel_rfl) only [go_sem, seval, ↓reduceIte, f0, f7, f5, f6, H5, H6, stepsV]
    first | rfl | (simp [atV]; done)
theorem line_row8 (ls : List (List UInt8)) (i : Nat) (h : i < ls.length) : (ls.map strRow)[i]? = some [.str ls[i]] := by
  rw [List.getElem?_map, List.getElem?_eq_getElem h]; rfl
def short51 (ls : List (List UInt8)) : Bool := decide (ls.length ≤ 60) && ls.all (fun l => decide (l.length ≤ 5000))
theorem e16 (ls : List (List UInt8)) (hl : ls.length ≤ 9223372036854775807) (hs : ∀ l ∈ ls, l.length ≤ 9223372036854775807) : fn C 16 [] [.slice 1 (ls.map strRow)] = some (.bool (short51 ls), []) := by
  by_cases h : 60 < ls.length
  · rw [show short51 ls = false by simp only [short51, Bool.and_eq_false_iff, decide_eq_false_iff_not]; omega]
    rw [fn_text Tryz.func16 rfl rfl Tryz.results16 fq16.1 rfl rfl (by kernel_rfl)]
    simp -implicitDefEqProofs -dsimp +contextual (maxSteps := 9999999) (disch := first | omega | simp only [go_sem] <;> omega | refine ib ?_; kernel_rfl) only [go_sem, seval, ↓reduceIte, h]
  · rw [show short51 ls = ls.all (fun l => decide (l.length ≤ 5000)) by simp only [short51]; rw [decide_eq_true (by omega), Bool.true_and]]
    rw [fn_text Tryz.func16 rfl rfl Tryz.results16 fq16.1 rfl rfl (by kernel_rfl)]
    simp -implicitDefEqProofs -dsimp +contextual (maxSteps := 9999999) (disch := first | omega | simp only [go_sem] <;> omega | refine ib ?_; kernel_rfl) only [go_sem, seval, ↓reduceIte, h]
    refine (kLoop_rec (fun (i : Nat) f H => i ≤ ls.length ∧ f 0 = .slice 1 (ls.map strRow) ∧ f 3 = .int .i64 (i : Int)) (fun i => ls.length - i) (fun i => some (.bool ((ls.drop i).all (fun l => decide (l.length ≤ 5000))), [])) ?_ 0 _ _ (by exact ⟨Nat.zero_le _, rfl, rfl⟩)).trans (by simp)
    rintro i f H ⟨hi', f0, f3⟩ ih
    by_cases hi : i < ls.length
    · have row := line_row8 ls i hi
      have hli := hs _ (List.getElem_mem hi)
      have ih1 := ih (i + 1)
      clear ih
      rw [List.drop_eq_getElem_cons hi, List.all_cons]
      by_cases h5 : 5000 < ls[i].length
      · have h5' := eq_true h5
        rw [decide_eq_false (show ¬ ls[i].length ≤ 5000 by omega), Bool.false_and]
        simp -implicitDefEqProofs -dsimp +contextual (maxSteps := 9999999) (disch := first | omega | simp only [go_sem] <;> omega | refine ib ?_; kernel_rfl) only [go_sem, seval, ↓reduceIte, f0, f3, hi, row, h5']
      · have h5' := eq_false h5
        rw [decide_eq_true (show ls[i].length ≤ 5000 by omega), Bool.true_and]
        generalize (ls.drop (i + 1)).all _ = RZ at *
        simp -implicitDefEqProofs -dsimp +contextual (maxSteps := 9999999) (disch := first | omega | simp only [go_sem] <;> omega | refine ib ?_; kernel_rfl) only [go_sem, seval, ↓reduceIte, f0, f3, hi, row, h5']
        exact ih1 _ _ ⟨hi, f0, rfl⟩ (by omega)
    · obtain rfl : i = ls.length := by omega
      clear ih
      rw [List.drop_length, List.all_nil]
      simp -implicitDefEqProofs -dsimp +contextual (maxSteps := 9999999) (disch := first | omega | simp only [go_sem] <;> omega | refine ib ?_; kernel_rfl) only [go_sem, seval, ↓reduceIte, f0, f3]
theorem stepsK_ok : ∀ ls : List (List UInt8), ∀ s ∈ (stepsK ls).1, s.ok
  | [], s, h => by simp [stepsK] at h
  | l :: ls, s, h => by
    rw [stepsK] at h
    split at h
    · simp at h
    · simp only [List.mem_cons] at h
      rcases h with rfl | h
      · exact readR_ok _
      · exact stepsK_ok ls s h
theorem stepsK_len : ∀ ls : List (List UInt8), (stepsK ls).1.length ≤ ls.length ∧ (stepsK ls).2.1.length ≤ ls.length
  | [] => by simp [stepsK]
  | l :: ls => by
    have ih := stepsK_len ls
    rw [stepsK]
    split
    · simp
    · simp; omega
noncomputable def own6 : Own := fun f => if f ∈ [10] then none else some (fun ex ds => fn C f ex ds)
theorem own6_ok : OwnOk E own6 := by
  intro f g ex ds q hf hg
  unfold own6 at hf
  split at hf
  · cases hf
  · simp only [Option.some.injEq] at hf
    subst hf
    exact fnE_sound mixed own_ok hg
noncomputable def M6 : Mds := { M with inls := [(33, 20002)] }
noncomputable def C6 : Cf := ⟨E, M6, own6⟩
@[go_sem] theorem C6_E : C6.E = E := rfl
@[go_sem] theorem C6_M : C6.M = M6 := rfl
@[go_sem] theorem M6_par : M6.par = M.par := Eq.trans rfl rfl
@[go_sem] theorem M6_res : M6.res = M.res := Eq.trans rfl rfl
@[go_sem] theorem M6_loc : M6.loc = M.loc := Eq.trans rfl rfl
@[go_sem] theorem M6_nl : M6.nl = M.nl := Eq.trans rfl rfl
@[go_sem] theorem M6_cur : M6.cur = [] := Eq.trans rfl rfl
@[go_sem] theorem M6_base : M6.base = 0 := Eq.trans rfl rfl
@[go_sem] theorem M6_gh : M6.gh = none := Eq.trans rfl rfl
@[go_sem] theorem M6_inls : M6.inls = [(33, 20002)] := Eq.trans rfl rfl
theorem c6_c (f : FuncId) (h : f ∉ [10]) (ex ds) : fn C6 f ex ds = fn C f ex ds :=
  fn_own (g := fun ex ds => fn C f ex ds) (by show own6 f = _; unfold own6; rw [if_neg h]) ex ds
@[go_sem] theorem c6_script_Line (ex ds) : fn C6 31 ex ds = fn C 31 ex ds := c6_c _ (by decide) ex ds
@[go_sem] theorem c6_trace_text (ex ds) : fn C6 32 ex ds = fn C 32 ex ds := c6_c _ (by decide) ex ds
@[go_sem] theorem c6_digest_Two (ex ds) : fn C6 55 ex ds = fn C 55 ex ds := c6_c _ (by decide) ex ds
@[go_sem] theorem c6_label_Bytes (ex ds) : fn C6 38 ex ds = fn C 38 ex ds := c6_c _ (by decide) ex ds
@[go_sem] theorem nl_take : M.nl 33 = [] := Eq.trans rfl rfl
theorem il_take (o g : Nat) (s t : List UInt8) (L : AVal) (ho : o < 20000) (h : s.length ≤ 100) (h2 : t.length ≤ 500000) (H : Heap) (hO : H o = ⟨g, .live, 2, [[.slice 1 (s.map byteRow), L]], false⟩) (K : AVal × Heap → Option Res) (R : Option Res)
    (k : ∀ H', H' o = ⟨g, .live, 2, [[.slice 1 ((nextT s t).map byteRow), L]], false⟩ → (∀ p, p ≠ o → p ≠ 20113 → H' p = H p) → K (.str (digT (nextT s t)), H') = R) : @kB _ _ (il C6 33 [.ptr o g 0 0, .str t] H) ⟨K⟩ = R := by
  have e1 := e55 s t (by omega)
  have e2 := e38 (nextT s t) (by rw [show (nextT s t).length = 32 from sumB_len _]; decide)
  have e3 := dig_len s t
  unfold digT at k
  rw [show sumB (s ++ t) = nextT s t from rfl] at e1
  generalize nextT s t = u at *
  have ho' := eq_false (show ¬ o = 20113 by omega)
  rw [il_text (C := C6) Tryz.func33 rfl Tryz.results33 (show (C6).M.loc 33 = _ from fq33.1) (by kernel_rfl)]
  simp -implicitDefEqProofs -dsimp +contextual (maxSteps := 9999999) (disch := first | omega | simp only [go_sem] <;> omega | refine ib ?_; kernel_rfl) only [go_sem, seval, ↓reduceIte, hO, e1, e2, e3, ho']
  exact k _ (Heap.set_same _ _ _) (fun p h1 h2 => by rw [Heap.set_ne _ _ h1, Heap.set_ne _ _ h2])
theorem keep_take {o g : Nat} {x y L : AVal} {H H' : Heap} (ho : o < 20000) (hO : H o = ⟨g, .live, 2, [[x, L]], false⟩) (hO' : H' o = ⟨g, .live, 2, [[y, L]], false⟩) (hf : ∀ p, p ≠ o → p ≠ 20113 → H' p = H p) : KeepB H H' o 1 := by
  refine ⟨by decide, fun g' i => ?_, hf _ (by unfold LDC ALL; omega) (by unfold LDC ALL; omega)⟩
  unfold loadC AVal.obj
  simp only [hO, hO']
  cases i with
  | zero => by_cases hg : g = g' <;> simp [hg]
  | succ i => by_cases hg : g = g' <;> simp [hg]
theorem eNote0 (s : List UInt8) (x : St) (e : Int) (hs : s.length ≤ 100) (hx : x.ok) (hz : (lineR x).1.length ≤ 100000) (h1 : -9223372036854775808 ≤ e) (h2 : e ≤ 9223372036854775807) (h0 : (lineR x).2 = 0) : fn C6 10 [] [.uptr [.slice 1 (s.map byteRow), .sc (.slice none 0 0)], .agg [.int .i64 x.kind, .int .i64 x.node, .int .i64 x.other, .int .i64 x.n, .int .i64 x.fr, .int .i64 x.un, .int .u64 (x.id : Int), .str x.key, .str x.val, .slice 1 (x.bs.map byteRow)], .int .i64 e] = some (.int .i64 0, [.uptr [.slice 1 ((nextT s (textT (lineR x).1 e)).map byteRow), .usl 1 ([lineT s (textT (lineR x).1 e)].map strRow)]]) := by
  have e1 := e31 x hx
  rw [h0] at e1
  have e2 := e32 (lineR x).1 e h1 h2 (by omega)
  have ht : (textT (lineR x).1 e).length ≤ 200000 := by
    have := Lib.itoa_length_le e h1 h2
    unfold textT; simp; omega
  have hd : (digT (nextT s (textT (lineR x).1 e))).length ≤ 16 := by unfold digT; rw [List.length_take]; omega
  unfold lineT
  generalize textT (lineR x).1 e = t at *
  generalize (lineR x).1 = w at *
  rw [fn_textN (C := C6) Tryz.func10 rfl rfl Tryz.results10 (show (C6).M.loc 10 = _ from fq10.1) rfl rfl (by kernel_rfl)]
  simp -implicitDefEqProofs -dsimp +contextual (maxSteps := 9999999) (disch := first | omega | simp only [go_sem] <;> omega | refine ib ?_; kernel_rfl) only [go_sem, seval, ↓reduceIte, e1, e2]
  refine il_take 1 1 s t (.sc (.slice none 0 0)) (by omega) hs (by omega) _ ?_ _ _ fun H' hO' hf => ?_
  · rfl
  have hk := eq_true (keep_take (o := 1) (x := .slice 1 (s.map byteRow)) (by omega) (by rfl) hO' hf)
  have f2 := hf 137 (by omega) (by omega)
  simp -implicitDefEqProofs -dsimp +contextual (maxSteps := 9999999) (disch := first | omega | simp only [go_sem] <;> omega | refine ib ?_; kernel_rfl) only [go_sem, seval, ↓reduceIte, hO', hk, f2]
  try simp [strRow]
theorem eNoteN (x : St) (e : Int) : fn C6 10 [] [.sc (.pointer none), .agg [.int .i64 x.kind, .int .i64 x.node, .int .i64 x.other, .int .i64 x.n, .int .i64 x.fr, .int .i64 x.un, .int .u64 (x.id : Int), .str x.key, .str x.val, .slice 1 (x.bs.map byteRow)], .int .i64 e] = some (.int .i64 1, []) := by
  rw [fn_textN (C := C6) Tryz.func10 rfl rfl Tryz.results10 (show (C6).M.loc 10 = _ from fq10.1) rfl rfl (by kernel_rfl)]
  simp -implicitDefEqProofs -dsimp +contextual (maxSteps := 9999999) (disch := first | omega | simp only [go_sem] <;> omega | refine ib ?_; kernel_rfl) only [go_sem, seval, ↓reduceIte]
theorem eNew (t : List UInt8) (h : t.length ≤ 100000) : fn C 8 [] [.str t] = some (.uptr [.slice 1 ((sumB (titS ++ t)).map byteRow), .sc (.slice none 0 0)], []) := by
  have e1 := e25 t h
  rw [fn_text Tryz.func8 rfl rfl Tryz.results8 fq8.1 rfl rfl (by kernel_rfl)]
  simp -implicitDefEqProofs -dsimp +contextual (maxSteps := 9999999) (disch := first | omega | simp only [go_sem] <;> omega | refine ib ?_; kernel_rfl) only [go_sem, seval, ↓reduceIte, e1]
@[go_sem] theorem strRow_ok (l : List (List UInt8)) : okRows (l.map strRow) = decide (l.length ≤ 1073741824) := okRows_map _ (fun _ => rfl) (fun _ => rfl) l
theorem eLines (s : AVal) (ls : List (List UInt8)) (hl : ls.length ≤ 100000) : fn C 13 [] [.iptr [s, .slice 1 (ls.map strRow)]] = some (.slice 1 (ls.map strRow), []) := by
  rw [fn_text Tryz.func13 rfl rfl Tryz.results13 fq13.1 rfl rfl (by kernel_rfl)]
  simp -implicitDefEqProofs -dsimp +contextual (maxSteps := 9999999) (disch := first | omega | simp only [go_sem] <;> omega | refine ib ?_; kernel_rfl) only [go_sem, seval, ↓reduceIte]
theorem eSum (s : List UInt8) (L : AVal) (h : s.length ≤ 100) : fn C 14 [] [.iptr [.slice 1 (s.map byteRow), L]] = some (.str (bytesR s), []) := by
  have e1 := e38 s (by omega)
  rw [fn_text Tryz.func14 rfl rfl Tryz.results14 fq14.1 rfl rfl (by kernel_rfl)]
  simp -implicitDefEqProofs -dsimp +contextual (maxSteps := 9999999) (disch := first | omega | simp only [go_sem] <;> omega | refine ib ?_; kernel_rfl) only [go_sem, seval, ↓reduceIte, e1]
theorem eSumN : fn C 14 [] [.sc (.pointer none)] = some (.str [], []) := by
  rw [fn_text Tryz.func14 rfl rfl Tryz.results14 fq14.1 rfl rfl (by kernel_rfl)]
  simp -implicitDefEqProofs -dsimp +contextual (maxSteps := 9999999) (disch := first | omega | simp only [go_sem] <;> omega | refine ib ?_; kernel_rfl) only [go_sem, seval, ↓reduceIte]
theorem exDig : (digT (nextT (sumB (titS ++ [120])) (textT [116, 105, 99, 107] 0)) == digT (nextT (sumB (titS ++ [121])) (textT [116, 105, 99, 107] 0))) = false := by kernel_rfl
def laws7 : List FuncId := [7, 4, 3, 5]
noncomputable def own7 : Own := fun f => if f ∈ laws7 then none else some (fun ex ds => if f = 10 then fn C6 f ex ds else fn C f ex ds)
theorem own7_ok : OwnOk E own7 := by
  intro f g ex ds q hf hg
  unfold own7 at hf
  split at hf
  · cases hf
  simp only [Option.some.injEq] at hf
  subst hf
  by_cases h : f = 10
  · simp only [if_pos h] at hg
    exact fnE_sound mixed own6_ok hg
  · simp only [if_neg h] at hg
    exact fnE_sound mixed own_ok hg
noncomputable def C7 : Cf := ⟨E, M, own7⟩
@[go_sem] theorem C7_E : C7.E = E := rfl
@[go_sem] theorem C7_M : C7.M = M := rfl
theorem c7_n (ex ds) : fn C7 10 ex ds = fn C6 10 ex ds :=
  fn_own (g := fun ex ds => fn C6 10 ex ds) (by show own7 10 = _; unfold own7; rw [if_neg (by decide)]; simp only [if_true]) ex ds
theorem c7_c (f : FuncId) (h : f ∉ laws7 ∧ ¬ f = 10) (ex ds) : fn C7 f ex ds = fn C f ex ds :=
  fn_own (g := fun ex ds => fn C f ex ds) (by show own7 f = _; unfold own7; rw [if_neg h.1]; simp only [if_neg h.2]) ex ds
@[go_sem] theorem c7_trace_New (ex ds) : fn C7 8 ex ds = fn C 8 ex ds := c7_c _ (by decide) ex ds
@[go_sem] theorem c7_trace_Trace_Lines (ex ds) : fn C7 13 ex ds = fn C 13 ex ds := c7_c _ (by decide) ex ds
@[go_sem] theorem c7_trace_Trace_Sum (ex ds) : fn C7 14 ex ds = fn C 14 ex ds := c7_c _ (by decide) ex ds
@[go_sem] theorem c7_trace_Check (ex ds) : fn C7 22 ex ds = fn C 22 ex ds := c7_c _ (by decide) ex ds
@[go_sem] theorem c7_r51_Check (ex ds) : fn C7 23 ex ds = fn C 23 ex ds := c7_c _ (by decide) ex ds
@[go_sem] theorem c7_r43_Sames (ex ds) : fn C7 21 ex ds = fn C 21 ex ds := c7_c _ (by decide) ex ds
@[go_sem] theorem c7_trace_Steps (ex ds) : fn C7 19 ex ds = fn C 19 ex ds := c7_c _ (by decide) ex ds
@[go_sem] theorem nl_works : M.nl 7 = [] := Eq.trans rfl rfl
theorem tick_line : lineR ⟨10, 0, 0, 0, 0, 0, 0, [], [], []⟩ = ([116, 105, 99, 107], 0) := by kernel_rfl
theorem works51 : fn C7 7 [] [] = some (.bool true, []) := by
  have e1 := eNew [120] (by decide)
  have hS : (sumB (titS ++ [120])).length = 32 := sumB_len _
  have tl := tick_line
  have e2 := eNote0 (sumB (titS ++ [120])) ⟨10, 0, 0, 0, 0, 0, 0, [], [], []⟩ 0 (by omega) (by constructor <;> decide) (by rw [tl]; decide) (by decide) (by decide) (by rw [tl])
  rw [tl] at e2
  simp only [List.map_nil] at e2
  have z : ((0 : Nat) : Int) = 0 := rfl
  rw [z] at e2
  rw [fn_textN (C := C7) Tryz.func7 rfl rfl Tryz.results7 (show (C7).M.loc 7 = _ from fq7.1) rfl rfl (by kernel_rfl)]
  have hr := readL_line (s := ⟨10, 0, 0, 0, 0, 0, 0, [], [], []⟩) (e := 0) (by rw [tl]) (by decide) (by decide) (sumB (titS ++ [120]))
  rw [tl] at hr
  simp only at hr
  have k1 : checkK [lineT (sumB (titS ++ [120])) (textT [116, 105, 99, 107] 0)] (sumB (titS ++ [120])) = 1 := by rw [checkK_some hr, if_pos rfl]; rfl
  have k2 : checkK [lineT (sumB (titS ++ [120])) (textT [116, 105, 99, 107] 0)] (sumB (titS ++ [121])) = 0 := by
    rw [checkK_some hr, if_neg (fun h => by have := exDig; rw [h] at this; simp at this)]
  have t1 : textT [116, 105, 99, 107] 0 = [116, 105, 99, 107, 32, 61, 32, 48] := by kernel_rfl
  have dl : (digT (nextT (sumB (titS ++ [120])) (textT [116, 105, 99, 107] 0))).length = 16 := by unfold digT; rw [List.length_take, dig_len]; rfl
  have sl : (nextT (sumB (titS ++ [120])) (textT [116, 105, 99, 107] 0)).length = 32 := sumB_len _
  have b1 := dig_len (sumB (titS ++ [120])) (textT [116, 105, 99, 107] 0)
  have ll : (lineT (sumB (titS ++ [120])) (textT [116, 105, 99, 107] 0)).length = 25 := by unfold lineT; rw [List.length_append, List.length_cons, dl, t1]; rfl
  have lt : (lineT (sumB (titS ++ [120])) (textT [116, 105, 99, 107] 0)).take 9 = [116, 105, 99, 107, 32, 61, 32, 48, 32] := by unfold lineT; rw [t1]; rfl
  have e3 := eLines (.slice 1 ((nextT (sumB (titS ++ [120])) (textT [116, 105, 99, 107] 0)).map byteRow)) [lineT (sumB (titS ++ [120])) (textT [116, 105, 99, 107] 0)] (by simp)
  have e4 := e22 [120] [lineT (sumB (titS ++ [120])) (textT [116, 105, 99, 107] 0)] (by decide) (by simp) (fun l h => by rw [List.mem_singleton] at h; rw [h, ll]; decide)
  have e5 := e22 [121] [lineT (sumB (titS ++ [120])) (textT [116, 105, 99, 107] 0)] (by decide) (by simp) (fun l h => by rw [List.mem_singleton] at h; rw [h, ll]; decide)
  rw [k1, show ((1 : Nat) : Int) = 1 from rfl] at e4
  rw [k2, z] at e5
  have e6 := eSum (nextT (sumB (titS ++ [120])) (textT [116, 105, 99, 107] 0)) (.slice 1 [strRow (lineT (sumB (titS ++ [120])) (textT [116, 105, 99, 107] 0))]) (by omega)
  have e7 := eNoteN stZ 0
  have e8 := eSumN
  simp only [stZ, List.map_nil, z] at e7
  simp only [List.map_cons, List.map_nil, strRow] at e2 e3 e4 e5 e6
  clear hr k1 k2 tl t1 dl
  generalize nextT (sumB (titS ++ [120])) (textT [116, 105, 99, 107] 0) = s1 at *
  generalize lineT (sumB (titS ++ [120])) (textT [116, 105, 99, 107] 0) = ln at *
  simp -implicitDefEqProofs -dsimp +contextual (maxSteps := 9999999) (disch := first | omega | simp only [go_sem] <;> omega | refine ib ?_; kernel_rfl) only [go_sem, seval, ↓reduceIte, e1, c7_n, e2, e3, e4, e5, e6, e7, e8, ll, lt, b1]
@[go_sem] theorem nl_reads : M.nl 4 = [] := Eq.trans rfl rfl
@[go_sem] theorem c7_trace_Read (ex ds) : fn C7 17 ex ds = fn C 17 ex ds := c7_c _ (by decide) ex ds
@[go_sem] theorem c7_r51_Read (ex ds) : fn C7 18 ex ds = fn C 18 ex ds := c7_c _ (by decide) ex ds
@[go_sem] theorem c7_r51_Steps (ex ds) : fn C7 20 ex ds = fn C 20 ex ds := c7_c _ (by decide) ex ds
@[go_sem] theorem c7_l51_short (ex ds) : fn C7 16 ex ds = fn C 16 ex ds := c7_c _ (by decide) ex ds
theorem reads51 (t line : List UInt8) (ls : List (List UInt8)) (ht : t.length ≤ 9223372036854775807) (hn : line.length ≤ 9223372036854775807) (hl : ls.length ≤ 9223372036854775807) (hs : ∀ l ∈ ls, l.length ≤ 9223372036854775807) : fn C7 4 [] [.str t, .slice 1 (ls.map strRow), .str line] = some (.bool true, []) := by
  have w := works51
  have e1 := e16 ls hl hs
  by_cases h1 : 300 < t.length
  · rw [fn_textN (C := C7) Tryz.func4 rfl rfl Tryz.results4 (show (C7).M.loc 4 = _ from fq4.1) rfl rfl (by kernel_rfl)]
    simp -implicitDefEqProofs -dsimp +contextual (maxSteps := 9999999) (disch := first | omega | simp only [go_sem] <;> omega | refine ib ?_; kernel_rfl) only [go_sem, seval, ↓reduceIte, h1, w]
  by_cases h2 : short51 ls = true
  rotate_left
  · rw [show short51 ls = false by simpa using h2] at e1
    rw [fn_textN (C := C7) Tryz.func4 rfl rfl Tryz.results4 (show (C7).M.loc 4 = _ from fq4.1) rfl rfl (by kernel_rfl)]
    simp -implicitDefEqProofs -dsimp +contextual (maxSteps := 9999999) (disch := first | omega | simp only [go_sem] <;> omega | refine ib ?_; kernel_rfl) only [go_sem, seval, ↓reduceIte, h1, e1, w]
  rw [h2] at e1
  by_cases h3 : 5000 < line.length
  · rw [fn_textN (C := C7) Tryz.func4 rfl rfl Tryz.results4 (show (C7).M.loc 4 = _ from fq4.1) rfl rfl (by kernel_rfl)]
    simp -implicitDefEqProofs -dsimp +contextual (maxSteps := 9999999) (disch := first | omega | simp only [go_sem] <;> omega | refine ib ?_; kernel_rfl) only [go_sem, seval, ↓reduceIte, h1, e1, h3, w]
  simp only [short51, Bool.and_eq_true, decide_eq_true_eq, List.all_eq_true] at h2
  obtain ⟨l1, l2⟩ := h2
  have l3 : ∀ l ∈ ls, l.length ≤ 100000 := fun l h => by have := l2 l h; omega
  have e2 := e17 line (by omega)
  have e3 := e18 line (by omega)
  have e4 := e19 ls (by omega) l3
  have e5 := e20 ls (by omega) l3
  have e6 := e22 t ls (by omega) (by omega) l3
  have e7 := e23 t ls (by omega) (by omega) l3
  obtain ⟨k1, k2⟩ := stepsK_len ls
  have ok := stepsK_ok ls
  generalize stepsK ls = q at *
  obtain ⟨A, B, o⟩ := q
  simp only at k1 k2 ok
  have e8 := e21 A A (by omega) (by omega) (fun s h => by have := (ok s h).g3; omega) (fun s h => by have := (ok s h).g3; omega)
  rw [stepsV] at e4 e5
  simp only at e4 e5
  generalize checkK ls _ = ck at *
  generalize atV o = ov at *
  rw [decide_eq_true rfl] at e8
  obtain ⟨a, e, d, b, hr⟩ : ∃ a e d b, rdV (readL line) = .tup [.str a, .int .i64 e, .str d, .bool b] := by
    cases readL line with
    | none => exact ⟨_, _, _, _, rfl⟩
    | some r => obtain ⟨a, e, d⟩ := r; exact ⟨_, _, _, _, rfl⟩
  rw [hr] at e2 e3
  rw [fn_textN (C := C7) Tryz.func4 rfl rfl Tryz.results4 (show (C7).M.loc 4 = _ from fq4.1) rfl rfl (by kernel_rfl)]
  simp -implicitDefEqProofs -dsimp +contextual (maxSteps := 9999999) (disch := first | omega | simp only [go_sem] <;> omega | refine ib ?_; kernel_rfl) only [go_sem, seval, ↓reduceIte, h1, e1, h3, e2, e3, e4, e5, e8]
  refine kFor B.length (fun i f H => f 0 = .str t ∧ f 1 = .slice 1 (ls.map strRow) ∧ f 16 = .slice 1 (B.map iRow) ∧ f 19 = .slice 1 (B.map iRow) ∧ f 99 = .int .i64 (B.length : Nat) ∧ f 100 = .int .i64 (i : Nat)) ?_ ?_ (by exact ⟨rfl, rfl, rfl, rfl, rfl, rfl⟩)
  · rintro i f H hi ⟨f0, f1, f16, f19, f99, f100⟩ ih
    have row : (B.map iRow)[i]? = some [.int .i64 B[i]] := by rw [List.getElem?_map, List.getElem?_eq_getElem hi]; rfl
    simp -implicitDefEqProofs -dsimp +contextual (maxSteps := 9999999) (disch := first | omega | simp only [go_sem] <;> omega | refine ib ?_; kernel_rfl) only [go_sem, seval, ↓reduceIte, f0, f1, f16, f19, f99, f100, hi, row]
    exact ih _ _ ⟨f0, f1, f16, f19, f99, rfl⟩
  · rintro f H ⟨f0, f1, f16, f19, f99, f100⟩
    simp -implicitDefEqProofs -dsimp +contextual (maxSteps := 9999999) (disch := first | omega | simp only [go_sem] <;> omega | refine ib ?_; kernel_rfl) only [go_sem, seval, ↓reduceIte, f0, f1, f16, f19, f99, f100, e6, e7, w]
end Go.Proofs.YtclgfgnhcakhdaaGreatDoor
