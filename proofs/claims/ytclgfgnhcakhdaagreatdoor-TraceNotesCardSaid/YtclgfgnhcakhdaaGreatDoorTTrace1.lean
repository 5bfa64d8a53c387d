import Derived.Test.YtclgfgnhcakhdaaGreatDoorTScript10
namespace Go.Proofs.YtclgfgnhcakhdaaGreatDoor
set_option maxHeartbeats 64000000
open Go.Am
set_option linter.unusedSimpArgs false
set_option linter.unusedVariables false
set_option maxRecDepth 100000
theorem e55 (a b : List UInt8) (h : a.length + b.length ≤ 1000000) : fn C 55 [] [.slice 1 (a.map byteRow), .slice 1 (b.map byteRow)] = some (.slice 1 ((sumB (a ++ b)).map byteRow), []) := by
  rw [fn_text Tryz.func55 rfl rfl Tryz.results55 fq55.1 rfl rfl (by kernel_rfl)]
  simp -implicitDefEqProofs -dsimp +contextual (maxSteps := 9999999) (disch := first | omega | simp only [go_sem] <;> omega | refine ib ?_; kernel_rfl) only [go_sem, seval, ↓reduceIte]
def titS : List UInt8 := [99, 97, 114, 99, 97, 110, 101, 116, 32, 116, 114, 97, 99, 101, 32]
theorem e25 (t : List UInt8) (h : t.length ≤ 100000) : fn C 25 [] [.str t] = some (.agg [.slice 1 ((sumB (titS ++ t)).map byteRow)], []) := by
  have e1 : fn C 46 [] [.slice 1 ([.int .u8 99] :: [.int .u8 97] :: [.int .u8 114] :: [.int .u8 99] :: [.int .u8 97] :: [.int .u8 110] :: [.int .u8 101] :: [.int .u8 116] :: [.int .u8 32] :: [.int .u8 116] :: [.int .u8 114] :: [.int .u8 97] :: [.int .u8 99] :: [.int .u8 101] :: [.int .u8 32] :: t.map byteRow)] = _ := e46 (titS ++ t) (by simp [titS]; omega)
  rw [fn_text Tryz.func25 rfl rfl Tryz.results25 fq25.1 rfl rfl (by kernel_rfl)]
  simp -implicitDefEqProofs -dsimp +contextual (maxSteps := 9999999) (disch := first | omega | simp only [go_sem] <;> omega | refine ib ?_; kernel_rfl) only [go_sem, seval, ↓reduceIte, e1]
theorem e34 (t : List UInt8) (h : t.length ≤ 100000) : fn C 34 [] [.str t] = some (.slice 1 ((sumB (titS ++ t)).map byteRow), []) := by
  have e1 : fn C 56 [] [.slice 1 ([.int .u8 99] :: [.int .u8 97] :: [.int .u8 114] :: [.int .u8 99] :: [.int .u8 97] :: [.int .u8 110] :: [.int .u8 101] :: [.int .u8 116] :: [.int .u8 32] :: [.int .u8 116] :: [.int .u8 114] :: [.int .u8 97] :: [.int .u8 99] :: [.int .u8 101] :: [.int .u8 32] :: t.map byteRow)] = _ := e56 (titS ++ t) (by simp [titS]; omega)
  rw [fn_text Tryz.func34 rfl rfl Tryz.results34 fq34.1 rfl rfl (by kernel_rfl)]
  simp -implicitDefEqProofs -dsimp +contextual (maxSteps := 9999999) (disch := first | omega | simp only [go_sem] <;> omega | refine ib ?_; kernel_rfl) only [go_sem, seval, ↓reduceIte, e1]
theorem e36 (s t : List UInt8) (h : s.length ≤ 100) (h2 : t.length ≤ 500000) : fn C 36 [] [.slice 1 (s.map byteRow), .str t] = some (.slice 1 ((nextT s t).map byteRow), []) := by
  have e1 := e56 (s ++ t) (by simp; omega)
  unfold nextT
  rw [fn_text Tryz.func36 rfl rfl Tryz.results36 fq36.1 rfl rfl (by kernel_rfl)]
  simp -implicitDefEqProofs -dsimp +contextual (maxSteps := 9999999) (disch := first | omega | simp only [go_sem] <;> omega | refine ib ?_; kernel_rfl) only [go_sem, seval, ↓reduceIte, e1]
theorem e32 (a : List UInt8) (e : Int) (h1 : -9223372036854775808 ≤ e) (h2 : e ≤ 9223372036854775807) (ha : a.length ≤ 1000000) : fn C 32 [] [.str a, .int .i64 e] = some (.str (textT a e), []) := by
  have e1 := e54 e h1 h2
  have e2 := Lib.itoa_length_le e h1 h2
  rw [fn_text Tryz.func32 rfl rfl Tryz.results32 fq32.1 rfl rfl (by kernel_rfl)]
  simp -implicitDefEqProofs -dsimp +contextual (maxSteps := 9999999) (disch := first | omega | simp only [go_sem] <;> omega | refine ib ?_; kernel_rfl) only [go_sem, seval, ↓reduceIte, e1]
  simp [textT]
theorem dig_len (s t : List UInt8) : (bytesR (nextT s t)).length = 64 := by
  have hl : (nextT s t).length = 32 := sumB_len _
  have hne : ¬ nextT s t = [] := fun e => by rw [e] at hl; simp at hl
  unfold bytesR; rw [if_neg hne, pairsR_len, hl]
theorem e33 (s t : List UInt8) (h : s.length ≤ 100) (h2 : t.length ≤ 500000) : fn C 33 [] [.uptr [.slice 1 (s.map byteRow)], .str t] = some (.str (digT (nextT s t)), [.uptr [.slice 1 ((nextT s t).map byteRow)]]) := by
  have e1 := e55 s t (by omega)
  have e2 := e38 (nextT s t) (by rw [show (nextT s t).length = 32 from sumB_len _]; decide)
  have e3 := dig_len s t
  unfold digT
  rw [show sumB (s ++ t) = nextT s t from rfl] at e1
  generalize nextT s t = u at *
  rw [fn_text Tryz.func33 rfl rfl Tryz.results33 fq33.1 rfl rfl (by kernel_rfl)]
  simp -implicitDefEqProofs -dsimp +contextual (maxSteps := 9999999) (disch := first | omega | simp only [go_sem] <;> omega | refine ib ?_; kernel_rfl) only [go_sem, seval, ↓reduceIte, e1, e2, e3]
def rdV : Option (List UInt8 × Int × List UInt8) → AVal
  | some (a, n, s) => .tup [.str a, .int .i64 n, .str s, .bool true]
  | none => .tup [.str [], .int .i64 0, .str [], .bool false]
theorem cut_len (x p : List UInt8) : (Lib.cut x p).1.length ≤ x.length ∧ (Lib.cut x p).2.1.length ≤ x.length := by
  unfold Lib.cut
  split
  · simp; omega
  · simp
theorem hexG_V (b : List UInt8) : readHexR b = if hexG b = true then .tup [.int .u64 (hexV b : Int), .bool true] else .tup [.int .u64 0, .bool false] := by
  unfold readHexR hexG
  simp only [Bool.and_eq_true, decide_eq_true_eq]
theorem numG_of {w : List UInt8} {n : Int} (h : numO w = some n) : numG w = (decide (0 ≤ n) && decide (n ≤ 99)) ∧ numV w = n := by
  unfold numG numV; rw [h]; exact ⟨rfl, rfl⟩
theorem e17 (line : List UInt8) (hl : line.length ≤ 100000) : fn C 17 [] [.str line] = some (rdV (readL line), []) := by
  have e1 := e39 line eqS (by omega)
  have hP : lineP numG hexG line = lineQ numG hexG line := lineP_Q numG hexG numG_chars hexG_chars line
  unfold readL
  rw [← hP]
  unfold lineP
  by_cases h0 : 0 ≤ Lib.lastIndex line eqS
  · rw [if_pos h0]
    obtain ⟨i, hi⟩ : ∃ i : Nat, Lib.lastIndex line eqS = (i : Int) := ⟨(Lib.lastIndex line eqS).toNat, by omega⟩
    have hs := congrArg List.length (last_split line i hi)
    have hb : i + 3 ≤ line.length := by
      rw [List.length_append, List.length_append, List.length_take, List.length_drop] at hs
      simp only [List.length_cons, List.length_nil] at hs
      omega
    rw [hi] at e1 ⊢
    rw [Int.toNat_natCast]
    have e2 := e40 (line.drop (i + 3)) [32] (by rw [List.length_drop]; omega)
    have hc := cut_len (line.drop (i + 3)) [32]
    rw [List.length_drop] at hc
    generalize Lib.cut (line.drop (i + 3)) [32] = q at *
    obtain ⟨a, b, c⟩ := q
    simp only at e2 hc ⊢
    have e3 : fn C 41 [] [.str a] = some (rnV (numO a), []) := e41 a (by omega)
    have e4 := e42 b (by omega)
    rw [hexG_V] at e4
    have e5 := e43 (line.take i) (by rw [List.length_take]; omega)
    generalize hr : readR (line.take i) = r at *
    cases hn : numO a with
    | none =>
      have hg : numG a = false := by unfold numG; rw [hn]
      rw [hn, rnV] at e3
      rw [hg, if_neg (by simp)]
      cases c <;> (by_cases hh : hexG b = true <;> (first | rw [if_pos hh] at e4 | rw [if_neg hh] at e4) <;> (rw [fn_text Tryz.func17 rfl rfl Tryz.results17 fq17.1 rfl rfl (by kernel_rfl)]; simp -implicitDefEqProofs -dsimp +contextual (maxSteps := 9999999) (disch := first | omega | simp only [go_sem] <;> omega | refine ib ?_; kernel_rfl) only [go_sem, seval, ↓reduceIte, e1, e2, e3, e4, rdV]))
    | some n =>
      obtain ⟨hg, hv⟩ := numG_of hn
      rw [hn, rnV] at e3
      rw [hg]
      by_cases hh : hexG b = true
      · rw [if_pos hh] at e4
        cases c with
        | false =>
          rw [if_neg (by simp)]
          rw [fn_text Tryz.func17 rfl rfl Tryz.results17 fq17.1 rfl rfl (by kernel_rfl)]
          simp -implicitDefEqProofs -dsimp +contextual (maxSteps := 9999999) (disch := first | omega | simp only [go_sem] <;> omega | refine ib ?_; kernel_rfl) only [go_sem, seval, ↓reduceIte, e1, e2, e3, e4, rdV]
        | true =>
          by_cases n0 : 0 ≤ n
          · by_cases n9 : n ≤ 99
            · rw [if_pos ⟨rfl, by simp [n0, n9], hh⟩]
              simp only [hv]
              have n0' := eq_false (show ¬ n < 0 by omega)
              have n9' := eq_false (show ¬ 99 < n by omega)
              obtain ⟨st, f⟩ := r
              rw [stV] at e5
              by_cases hf : f = 0
              · subst hf
                rw [fn_text Tryz.func17 rfl rfl Tryz.results17 fq17.1 rfl rfl (by kernel_rfl)]
                simp -implicitDefEqProofs -dsimp +contextual (maxSteps := 9999999) (disch := first | omega | simp only [go_sem] <;> omega | refine ib ?_; kernel_rfl) only [go_sem, seval, ↓reduceIte, e1, e2, e3, e4, e5, rdV, n0', n9']
                rw [hr]
                rfl
              · have hf' := eq_false hf
                rw [fn_text Tryz.func17 rfl rfl Tryz.results17 fq17.1 rfl rfl (by kernel_rfl)]
                simp -implicitDefEqProofs -dsimp +contextual (maxSteps := 9999999) (disch := first | omega | simp only [go_sem] <;> omega | refine ib ?_; kernel_rfl) only [go_sem, seval, ↓reduceIte, e1, e2, e3, e4, e5, hf', rdV, n0', n9']
                rw [hr]
                simp only [hf', if_false]
            · rw [if_neg (by simp [n9])]
              have n0' := eq_false (show ¬ n < 0 by omega)
              have n9' := eq_true (show 99 < n by omega)
              rw [fn_text Tryz.func17 rfl rfl Tryz.results17 fq17.1 rfl rfl (by kernel_rfl)]
              simp -implicitDefEqProofs -dsimp +contextual (maxSteps := 9999999) (disch := first | omega | simp only [go_sem] <;> omega | refine ib ?_; kernel_rfl) only [go_sem, seval, ↓reduceIte, e1, e2, e3, e4, rdV, n0', n9']
          · rw [if_neg (by simp [n0])]
            have n0' := eq_true (show n < 0 by omega)
            rw [fn_text Tryz.func17 rfl rfl Tryz.results17 fq17.1 rfl rfl (by kernel_rfl)]
            simp -implicitDefEqProofs -dsimp +contextual (maxSteps := 9999999) (disch := first | omega | simp only [go_sem] <;> omega | refine ib ?_; kernel_rfl) only [go_sem, seval, ↓reduceIte, e1, e2, e3, e4, rdV, n0']
      · rw [if_neg hh] at e4
        rw [if_neg (by simp [hh])]
        cases c <;> (rw [fn_text Tryz.func17 rfl rfl Tryz.results17 fq17.1 rfl rfl (by kernel_rfl)]; simp -implicitDefEqProofs -dsimp +contextual (maxSteps := 9999999) (disch := first | omega | simp only [go_sem] <;> omega | refine ib ?_; kernel_rfl) only [go_sem, seval, ↓reduceIte, e1, e2, e3, e4, rdV])
  · rw [if_neg h0]
    have h0' : Lib.lastIndex line eqS < 0 := by omega
    rw [fn_text Tryz.func17 rfl rfl Tryz.results17 fq17.1 rfl rfl (by kernel_rfl)]
    simp -implicitDefEqProofs -dsimp +contextual (maxSteps := 9999999) (disch := first | omega | simp only [go_sem] <;> omega | refine ib ?_; kernel_rfl) only [go_sem, seval, ↓reduceIte, e1, h0', rdV]
theorem checkK_none {l : List UInt8} {ls : List (List UInt8)} {sum : List UInt8} (h : readL l = none) : checkK (l :: ls) sum = 0 := by rw [checkK, h]
theorem checkK_some {l a d : List UInt8} {e : Int} {ls : List (List UInt8)} {sum : List UInt8} (h : readL l = some (a, e, d)) : checkK (l :: ls) sum = if digT (nextT sum (textT a e)) = d then checkK ls (nextT sum (textT a e)) + 1 else 0 := by rw [checkK, h]
theorem readL_num {l a d : List UInt8} {e : Int} (h : readL l = some (a, e, d)) : 0 ≤ e ∧ e ≤ 99 ∧ a.length ≤ l.length := by
  unfold readL at h
  split at h
  · rename_i a' n s hq
    split at h
    · simp only [Option.some.injEq, Prod.mk.injEq] at h
      obtain ⟨rfl, rfl, rfl⟩ := h
      obtain ⟨r1, r2, _⟩ := (lineQ_iff numG hexG numG_chars hexG_chars l a' n s).1 hq
      refine ⟨?_, ?_, by rw [r1]; simp⟩
      all_goals
        cases hn : numO n with
        | none => exact absurd r2 (by unfold numG; rw [hn]; simp)
        | some k =>
          obtain ⟨q1, q2⟩ := numG_of hn
          rw [q1, Bool.and_eq_true, decide_eq_true_eq, decide_eq_true_eq] at r2
          rw [q2]
          omega
    · cases h
  · cases h
theorem e22 (t : List UInt8) (ls : List (List UInt8)) (h : t.length ≤ 1000) (hl : ls.length ≤ 100000) (hs : ∀ l ∈ ls, l.length ≤ 100000) : fn C 22 [] [.str t, .slice 1 (ls.map strRow)] = some (.int .i64 (checkK ls (sumB (titS ++ t)) : Int), []) := by
  have e0 := e25 t (by omega)
  have hS : (sumB (titS ++ t)).length = 32 := sumB_len _
  generalize sumB (titS ++ t) = S0 at *
  rw [fn_text Tryz.func22 rfl rfl Tryz.results22 fq22.1 rfl rfl (by kernel_rfl)]
  simp -implicitDefEqProofs -dsimp +contextual (maxSteps := 9999999) (disch := first | omega | simp only [go_sem] <;> omega | refine ib ?_; kernel_rfl) only [go_sem, seval, ↓reduceIte, e0]
  refine kFor ls.length (fun i f H => ∃ s g : _, (s : List UInt8).length = 32 ∧ checkK ls S0 = i + checkK (ls.drop i) s ∧ f 1 = .slice 1 (ls.map strRow) ∧ f 5 = .ptr 105 g 0 0 ∧ f 14 = .slice 1 (ls.map strRow) ∧ f 15 = .int .i64 ls.length ∧ f 16 = .int .i64 (i : Nat) ∧ H 105 = ⟨g, .live, 1, [[.slice 1 (s.map byteRow)]], false⟩) ?_ ?_ (by exact ⟨S0, 1, hS, by simp, rfl, rfl, rfl, rfl, rfl, rfl⟩)
  · rintro i f H hi ⟨s, g, hs32, hc, f1, f5, f14, f15, f16, hO⟩ ih
    have row : (ls.map strRow)[i]? = some [.str ls[i]] := by rw [List.getElem?_map, List.getElem?_eq_getElem hi]; rfl
    have hli := hs _ (List.getElem_mem hi)
    have e1 := e17 ls[i] hli
    rw [List.drop_eq_getElem_cons hi] at hc
    cases hr : readL ls[i] with
    | none =>
      rw [checkK_none hr] at hc
      rw [hr, rdV] at e1
      simp -implicitDefEqProofs -dsimp +contextual (maxSteps := 9999999) (disch := first | omega | simp only [go_sem] <;> omega | refine ib ?_; kernel_rfl) only [go_sem, seval, ↓reduceIte, f1, f5, f14, f15, f16, hO, hi, row, e1]
      rw [hc]; rfl
    | some q =>
      obtain ⟨a, e, d⟩ := q
      rw [checkK_some hr] at hc
      obtain ⟨b1, b2, b3⟩ := readL_num hr
      rw [hr, rdV] at e1
      have e2 := e32 a e (by omega) (by omega) (by omega)
      have ht : (textT a e).length ≤ 500000 := by
        have := Lib.itoa_length_le e (by omega) (by omega)
        unfold textT; simp; omega
      have e3 := e33 s (textT a e) (by omega) ht
      have hn : (nextT s (textT a e)).length = 32 := sumB_len _
      generalize nextT s (textT a e) = s' at *
      generalize textT a e = tx at *
      by_cases hd : digT s' = d
      · rw [if_pos hd] at hc
        have hd' := eq_true hd
        simp -implicitDefEqProofs -dsimp +contextual (maxSteps := 9999999) (disch := first | omega | simp only [go_sem] <;> omega | refine ib ?_; kernel_rfl) only [go_sem, seval, ↓reduceIte, f1, f5, f14, f15, f16, hO, hi, row, e1, e2, e3, hd']
        refine ih _ _ ?_
        exact ⟨s', g, hn, by omega, f1, f5, f14, f15, rfl, rfl⟩
      · rw [if_neg hd] at hc
        have hd' := eq_false hd
        simp -implicitDefEqProofs -dsimp +contextual (maxSteps := 9999999) (disch := first | omega | simp only [go_sem] <;> omega | refine ib ?_; kernel_rfl) only [go_sem, seval, ↓reduceIte, f1, f5, f14, f15, f16, hO, hi, row, e1, e2, e3, hd']
        rw [hc]; rfl
  · rintro f H ⟨s, g, hs32, hc, f1, f5, f14, f15, f16, hO⟩
    rw [List.drop_length] at hc
    simp -implicitDefEqProofs -dsimp +contextual (maxSteps := 9999999) (disch := first | omega | simp only [go_sem] <;> omega | refine ib ?_; kernel_rfl) only [go_sem, seval, ↓reduceIte, f1, f5, f14, f15, f16, hO]
    rw [hc]; rfl
def iRow (n : Int) : List AVal := [.int .i64 n]
theorem linesK_cons (x : St × Int) (l : List (St × Int)) (sum : List UInt8) : linesK (x :: l) sum = if (lineR x.1).2 = 0 then lineT sum (textT (lineR x.1).1 x.2) :: linesK l (nextT sum (textT (lineR x.1).1 x.2)) else linesK l sum := rfl
theorem endK_cons (x : St × Int) (l : List (St × Int)) (sum : List UInt8) : endK (x :: l) sum = if (lineR x.1).2 = 0 then endK l (nextT sum (textT (lineR x.1).1 x.2)) else endK l sum := rfl
theorem e11 (t : List UInt8) (ss : List St) (es : List Int) (h : t.length ≤ 1000) (hl : ss.length ≤ 1000) (hm : es.length ≤ 1000) (hs : ∀ s ∈ ss, s.ok ∧ (lineR s).1.length ≤ 100000) (he : ∀ e ∈ es, -9223372036854775808 ≤ e ∧ e ≤ 9223372036854775807) : fn C 11 [] [.str t, .slice 10 (ss.map St.cs), .slice 1 (es.map iRow)] = some (.tup [.slice 1 ((linesK (ss.zip es) (sumB (titS ++ t))).map strRow), .slice 1 ((endK (ss.zip es) (sumB (titS ++ t))).map byteRow)], []) := by
  have e0 := e34 t (by omega)
  have hS : (sumB (titS ++ t)).length = 32 := sumB_len _
  generalize sumB (titS ++ t) = S0 at *
  rw [fn_textN Tryz.func11 rfl rfl Tryz.results11 fq11.1 rfl rfl (by kernel_rfl)]
  simp -implicitDefEqProofs -dsimp +contextual (maxSteps := 9999999) (disch := first | omega | simp only [go_sem] <;> omega | refine ib ?_; kernel_rfl) only [go_sem, seval, ↓reduceIte, e0]
  refine kLoop_rec (fun (i : Nat) f H => i ≤ (ss.zip es).length ∧ f 1 = .slice 10 (ss.map St.cs) ∧ f 2 = .slice 1 (es.map iRow) ∧ f 10 = .int .i64 (i : Int) ∧ ∃ (s : List UInt8) (L : List (List UInt8)), s.length = 32 ∧ L.length ≤ i ∧ L ++ linesK ((ss.zip es).drop i) s = linesK (ss.zip es) S0 ∧ endK ((ss.zip es).drop i) s = endK (ss.zip es) S0 ∧ f 8 = .slice 1 (s.map byteRow) ∧ ∃ g, f 9 = .osl 109 g 0 L.length ∧ H 109 = ⟨g, .live, 1, L.map strRow, false⟩) (fun i => (ss.zip es).length - i) (fun _ => _) ?_ 0 _ _ (by exact ⟨Nat.zero_le _, rfl, rfl, rfl, S0, [], hS, Nat.zero_le _, rfl, rfl, rfl, ⟨_, rfl, rfl⟩⟩)
  rintro i f H ⟨hi', f1, f2, f10, s, L, hs32, hL, c1, c2, f8, g, f9, H9⟩ ih
  have zl : (ss.zip es).length = min ss.length es.length := List.length_zip
  by_cases hi : i < (ss.zip es).length
  · have i1 : i < ss.length := by omega
    have i2 : i < es.length := by omega
    have row1 : (ss.map St.cs)[i]? = some ss[i].cs := by rw [List.getElem?_map, List.getElem?_eq_getElem i1]; rfl
    have row2 : (es.map iRow)[i]? = some [.int .i64 es[i]] := by rw [List.getElem?_map, List.getElem?_eq_getElem i2]; rfl
    obtain ⟨ok, ll⟩ := hs _ (List.getElem_mem i1)
    obtain ⟨n1, n2⟩ := he _ (List.getElem_mem i2)
    rw [List.drop_eq_getElem_cons hi, List.getElem_zip] at c1 c2
    rw [linesK_cons] at c1
    rw [endK_cons] at c2
    simp only at c1 c2
    generalize ss[i] = x at *
    generalize es[i] = e at *
    have e1 := e9 x ok
    have e2 := e35 e n1 n2
    have li := Lib.itoa_length_le e n1 n2
    have ht : (textT (lineR x).1 e).length ≤ 500000 := by unfold textT; simp; omega
    have e3 := e36 s (textT (lineR x).1 e) (by omega) ht
    have hn : (nextT s (textT (lineR x).1 e)).length = 32 := sumB_len _
    have e4 := e15 (nextT s (textT (lineR x).1 e)) (by omega)
    have e5 := dig_len s (textT (lineR x).1 e)
    unfold lineT digT at c1
    generalize nextT s (textT (lineR x).1 e) = s' at *
    have tt : textT (lineR x).1 e = (lineR x).1 ++ [32, 61, 32] ++ Lib.itoa e := by simp [textT, eqS]
    rw [tt] at e3 c1
    rw [St.cs_eq] at row1
    generalize (lineR x) = q at *
    obtain ⟨w, fl⟩ := q
    simp only at *
    by_cases hf : fl = 0
    · rw [if_pos hf] at c1 c2
      subst hf
      simp -implicitDefEqProofs -dsimp +contextual (maxSteps := 9999999) (disch := first | omega | simp only [go_sem] <;> omega | refine ib ?_; kernel_rfl) only [go_sem, seval, ↓reduceIte, f1, f2, f8, f9, f10, H9, i1, i2, row1, row2, e1, e2, e3, e4, e5]
      refine ih (i + 1) _ _ ?_ (by omega)
      refine ⟨hi, f1, f2, rfl, s', L ++ [w ++ [32, 61, 32] ++ Lib.itoa e ++ [32] ++ (bytesR s').take 16], hn, by simp; omega, by rw [← c1]; simp, c2, rfl, ⟨g + 1, ?_, ?_⟩⟩
      · rw [List.length_append]; rfl
      · rw [List.map_append]; rfl
    · rw [if_neg hf] at c1 c2
      have hf' := eq_false hf
      simp -implicitDefEqProofs -dsimp +contextual (maxSteps := 9999999) (disch := first | omega | simp only [go_sem] <;> omega | refine ib ?_; kernel_rfl) only [go_sem, seval, ↓reduceIte, f1, f2, f8, f9, f10, H9, i1, i2, row1, row2, e1, hf']
      refine ih (i + 1) _ _ ?_ (by omega)
      exact ⟨hi, f1, f2, rfl, s, L, hs32, by omega, c1, c2, f8, ⟨_, f9, H9⟩⟩
  · obtain rfl : i = (ss.zip es).length := by omega
    rw [List.drop_length] at c1 c2
    simp only [linesK, endK, List.append_nil] at c1 c2
    rw [← c1, ← c2]
    clear ih c1 c2
    by_cases i1 : (ss.zip es).length < ss.length
    · have i2 := eq_false (show ¬ (ss.zip es).length < es.length by omega)
      simp -implicitDefEqProofs -dsimp +contextual (maxSteps := 9999999) (disch := first | omega | simp only [go_sem] <;> omega | refine ib ?_; kernel_rfl) only [go_sem, seval, ↓reduceIte, f1, f2, f8, f9, f10, H9, i1, i2]
    · have i1' := eq_false i1
      simp -implicitDefEqProofs -dsimp +contextual (maxSteps := 9999999) (disch := first | omega | simp only [go_sem] <;> omega | refine ib ?_; kernel_rfl) only [go_sem, seval, ↓reduceIte, f1, f2, f8, f9, f10, H9, i1']
@[go_sem] theorem e12 (a b : List (List UInt8)) (hl : a.length ≤ 9223372036854775807) : fn C 12 [] [.slice 1 (a.map strRow), .slice 1 (b.map strRow)] = some (.bool (decide (a = b)), []) := by
  rw [fn_text Tryz.func12 rfl rfl Tryz.results12 fq12.1 rfl rfl (by kernel_rfl)]
  by_cases h1 : a.length = b.length
  · simp -implicitDefEqProofs -dsimp +contextual (maxSteps := 9999999) (disch := first | omega | simp only [go_sem] <;> omega | refine ib ?_; kernel_rfl) only [go_sem, seval, ↓reduceIte, h1]
    refine kFor a.length (fun i f H => f 0 = .slice 1 (a.map strRow) ∧ f 1 = .slice 1 (b.map strRow) ∧ f 5 = .int .i64 (i : Nat) ∧ H = Heap.nil ∧ a.take i = b.take i) ?_ ?_ (by exact ⟨rfl, rfl, rfl, rfl, rfl⟩)
    · rintro i f _ hi ⟨f0, f1, f5, rfl, ht⟩ ih
      have hi2 : i < b.length := by omega
      simp -implicitDefEqProofs -dsimp +contextual (maxSteps := 9999999) (disch := first | omega | simp only [go_sem] <;> omega | refine ib ?_; kernel_rfl) only [go_sem, seval, ↓reduceIte, f0, f1, f5, hi, hi2]
      (repeat' (refine kD_intro (fun _ => ?_) (fun _ => ?_)))
      · rename_i he; exact ih _ _ ⟨f0, f1, rfl, rfl, take_eq_step hi hi2 ht he⟩
      · rename_i he; exact Res_bool (by simp [take_ne hi hi2 he])
    · rintro f _ ⟨f0, f1, f5, rfl, ht⟩
      simp -implicitDefEqProofs -dsimp +contextual (maxSteps := 9999999) (disch := first | omega | simp only [go_sem] <;> omega | refine ib ?_; kernel_rfl) only [go_sem, seval, ↓reduceIte, f0, f1, f5, h1]
      exact Res_bool (by simp [take_eq_end h1 ht])
  · simp -implicitDefEqProofs -dsimp +contextual (maxSteps := 9999999) (disch := first | omega | simp only [go_sem] <;> omega | refine ib ?_; kernel_rfl) only [go_sem, seval, ↓reduceIte, h1]
    exact Res_bool (by simp; intro e; exact h1 (by rw [e]))
noncomputable def own6 : Own := fun f => if f ∈ [10] then none else some (fun ex ds => fn C f ex ds)
theorem own6_ok : OwnOk E own6 := by
  intro f g ex ds q hf hg
  unfold own6 at hf
  split at hf
  · cases hf
  · simp only [Option.some.injEq] at hf
    subst hf
    exact fnE_sound mixed own_ok hg
noncomputable def M6 : Mds := { M with inls := [(33, 20002)] }
noncomputable def C6 : Cf := ⟨E, M6, own6⟩
@[go_sem] theorem C6_E : C6.E = E := rfl
@[go_sem] theorem C6_M : C6.M = M6 := rfl
@[go_sem] theorem M6_par : M6.par = M.par := Eq.trans rfl rfl
@[go_sem] theorem M6_res : M6.res = M.res := Eq.trans rfl rfl
@[go_sem] theorem M6_loc : M6.loc = M.loc := Eq.trans rfl rfl
@[go_sem] theorem M6_nl : M6.nl = M.nl := Eq.trans rfl rfl
@[go_sem] theorem M6_cur : M6.cur = [] := Eq.trans rfl rfl
@[go_sem] theorem M6_base : M6.base = 0 := Eq.trans rfl rfl
@[go_sem] theorem M6_gh : M6.gh = none := Eq.trans rfl rfl
@[go_sem] theorem M6_inls : M6.inls = [(33, 20002)] := Eq.trans rfl rfl
theorem c6_c (f : FuncId) (h : f ∉ [10]) (ex ds) : fn C6 f ex ds = fn C f ex ds :=
  fn_own (g := fun ex ds => fn C f ex ds) (by show own6 f = _; unfold own6; rw [if_neg h]) ex ds
@[go_sem] theorem c6_script_Line (ex ds) : fn C6 31 ex ds = fn C 31 ex ds := c6_c _ (by decide) ex ds
@[go_sem] theorem c6_trace_text (ex ds) : fn C6 32 ex ds = fn C 32 ex ds := c6_c _ (by decide) ex ds
@[go_sem] theorem c6_digest_Two (ex ds) : fn C6 55 ex ds = fn C 55 ex ds := c6_c _ (by decide) ex ds
@[go_sem] theorem c6_label_Bytes (ex ds) : fn C6 38 ex ds = fn C 38 ex ds := c6_c _ (by decide) ex ds
@[go_sem] theorem nl_take : M.nl 33 = [] := Eq.trans rfl rfl
theorem il_take (o g : Nat) (s t : List UInt8) (L : AVal) (ho : o < 20000) (h : s.length ≤ 100) (h2 : t.length ≤ 500000) (H : Heap) (hO : H o = ⟨g, .live, 2, [[.slice 1 (s.map byteRow), L]], false⟩) (K : AVal × Heap → Option Res) (R : Option Res)
    (k : ∀ H', H' o = ⟨g, .live, 2, [[.slice 1 ((nextT s t).map byteRow), L]], false⟩ → (∀ p, p ≠ o → p ≠ 20113 → H' p = H p) → K (.str (digT (nextT s t)), H') = R) : @kB _ _ (il C6 33 [.ptr o g 0 0, .str t] H) ⟨K⟩ = R := by
  have e1 := e55 s t (by omega)
  have e2 := e38 (nextT s t) (by rw [show (nextT s t).length = 32 from sumB_len _]; decide)
  have e3 := dig_len s t
  unfold digT at k
  rw [show sumB (s ++ t) = nextT s t from rfl] at e1
  generalize nextT s t = u at *
  have ho' := eq_false (show ¬ o = 20113 by omega)
  rw [il_text (C := C6) Tryz.func33 rfl Tryz.results33 (show (C6).M.loc 33 = _ from fq33.1) (by kernel_rfl)]
  simp -implicitDefEqProofs -dsimp +contextual (maxSteps := 9999999) (disch := first | omega | simp only [go_sem] <;> omega | refine ib ?_; kernel_rfl) only [go_sem, seval, ↓reduceIte, hO, e1, e2, e3, ho']
  exact k _ (Heap.set_same _ _ _) (fun p h1 h2 => by rw [Heap.set_ne _ _ h1, Heap.set_ne _ _ h2])
theorem keep_take {o g : Nat} {x y L : AVal} {H H' : Heap} (ho : o < 20000) (hO : H o = ⟨g, .live, 2, [[x, L]], false⟩) (hO' : H' o = ⟨g, .live, 2, [[y, L]], false⟩) (hf : ∀ p, p ≠ o → p ≠ 20113 → H' p = H p) : KeepB H H' o 1 := by
  refine ⟨by decide, fun g' i => ?_, hf _ (by unfold LDC ALL; omega) (by unfold LDC ALL; omega)⟩
  unfold loadC AVal.obj
  simp only [hO, hO']
  cases i with
  | zero => by_cases hg : g = g' <;> simp [hg]
  | succ i => by_cases hg : g = g' <;> simp [hg]
theorem eNote1 (s : List UInt8) (ls : List (List UInt8)) (x : St) (e : Int) (hs : s.length ≤ 100) (hl : ls.length ≤ 1000) (hx : x.ok) (hz : (lineR x).1.length ≤ 100000) (h1 : -9223372036854775808 ≤ e) (h2 : e ≤ 9223372036854775807) (h0 : (lineR x).2 = 0) : fn C6 10 [] [.uptr [.slice 1 (s.map byteRow), .usl 1 (ls.map strRow)], .agg [.int .i64 x.kind, .int .i64 x.node, .int .i64 x.other, .int .i64 x.n, .int .i64 x.fr, .int .i64 x.un, .int .u64 (x.id : Int), .str x.key, .str x.val, .slice 1 (x.bs.map byteRow)], .int .i64 e] = some (.int .i64 0, [.uptr [.slice 1 ((nextT s (textT (lineR x).1 e)).map byteRow), .usl 1 ((ls ++ [lineT s (textT (lineR x).1 e)]).map strRow)]]) := by
  have e1 := e31 x hx
  rw [h0] at e1
  have e2 := e32 (lineR x).1 e h1 h2 (by omega)
  have ht : (textT (lineR x).1 e).length ≤ 200000 := by
    have := Lib.itoa_length_le e h1 h2
    unfold textT; simp; omega
  have hd : (digT (nextT s (textT (lineR x).1 e))).length ≤ 16 := by unfold digT; rw [List.length_take]; omega
  unfold lineT
  generalize textT (lineR x).1 e = t at *
  generalize (lineR x).1 = w at *
  rw [fn_textN (C := C6) Tryz.func10 rfl rfl Tryz.results10 (show (C6).M.loc 10 = _ from fq10.1) rfl rfl (by kernel_rfl)]
  simp -implicitDefEqProofs -dsimp +contextual (maxSteps := 9999999) (disch := first | omega | simp only [go_sem] <;> omega | refine ib ?_; kernel_rfl) only [go_sem, seval, ↓reduceIte, e1, e2]
  refine il_take 1 1 s t (.osl 1002 1 0 ls.length) (by omega) hs (by omega) _ ?_ _ _ fun H' hO' hf => ?_
  · rfl
  have hk := eq_true (keep_take (o := 1) (x := .slice 1 (s.map byteRow)) (by omega) (by rfl) hO' hf)
  have f2 := hf 1002 (by omega) (by omega)
  simp -implicitDefEqProofs -dsimp +contextual (maxSteps := 9999999) (disch := first | omega | simp only [go_sem] <;> omega | refine ib ?_; kernel_rfl) only [go_sem, seval, ↓reduceIte, hO', hk, f2]
  simp [strRow]
theorem eNote0 (s : List UInt8) (x : St) (e : Int) (hs : s.length ≤ 100) (hx : x.ok) (hz : (lineR x).1.length ≤ 100000) (h1 : -9223372036854775808 ≤ e) (h2 : e ≤ 9223372036854775807) (h0 : (lineR x).2 = 0) : fn C6 10 [] [.uptr [.slice 1 (s.map byteRow), .sc (.slice none 0 0)], .agg [.int .i64 x.kind, .int .i64 x.node, .int .i64 x.other, .int .i64 x.n, .int .i64 x.fr, .int .i64 x.un, .int .u64 (x.id : Int), .str x.key, .str x.val, .slice 1 (x.bs.map byteRow)], .int .i64 e] = some (.int .i64 0, [.uptr [.slice 1 ((nextT s (textT (lineR x).1 e)).map byteRow), .usl 1 ([lineT s (textT (lineR x).1 e)].map strRow)]]) := by
  have e1 := e31 x hx
  rw [h0] at e1
  have e2 := e32 (lineR x).1 e h1 h2 (by omega)
  have ht : (textT (lineR x).1 e).length ≤ 200000 := by
    have := Lib.itoa_length_le e h1 h2
    unfold textT; simp; omega
  have hd : (digT (nextT s (textT (lineR x).1 e))).length ≤ 16 := by unfold digT; rw [List.length_take]; omega
  unfold lineT
  generalize textT (lineR x).1 e = t at *
  generalize (lineR x).1 = w at *
  rw [fn_textN (C := C6) Tryz.func10 rfl rfl Tryz.results10 (show (C6).M.loc 10 = _ from fq10.1) rfl rfl (by kernel_rfl)]
  simp -implicitDefEqProofs -dsimp +contextual (maxSteps := 9999999) (disch := first | omega | simp only [go_sem] <;> omega | refine ib ?_; kernel_rfl) only [go_sem, seval, ↓reduceIte, e1, e2]
  refine il_take 1 1 s t (.sc (.slice none 0 0)) (by omega) hs (by omega) _ ?_ _ _ fun H' hO' hf => ?_
  · rfl
  have hk := eq_true (keep_take (o := 1) (x := .slice 1 (s.map byteRow)) (by omega) (by rfl) hO' hf)
  have f2 := hf 137 (by omega) (by omega)
  simp -implicitDefEqProofs -dsimp +contextual (maxSteps := 9999999) (disch := first | omega | simp only [go_sem] <;> omega | refine ib ?_; kernel_rfl) only [go_sem, seval, ↓reduceIte, hO', hk, f2]
  try simp [strRow]
theorem eNoteF (x : St) (e f : Int) (U : AVal) (hU : U = .usl 1 [] ∨ True) (s : List UInt8) (ls : List (List UInt8)) (hx : x.ok) (hf : (lineR x).2 = f) (h0 : ¬ f = 0) : fn C6 10 [] [.uptr [.slice 1 (s.map byteRow), .usl 1 (ls.map strRow)], .agg [.int .i64 x.kind, .int .i64 x.node, .int .i64 x.other, .int .i64 x.n, .int .i64 x.fr, .int .i64 x.un, .int .u64 (x.id : Int), .str x.key, .str x.val, .slice 1 (x.bs.map byteRow)], .int .i64 e] = some (.int .i64 f, [.uptr [.slice 1 (s.map byteRow), .usl 1 (ls.map strRow)]]) := by
  have e1 := e31 x hx
  rw [hf] at e1
  have h0' := eq_false h0
  rw [fn_textN (C := C6) Tryz.func10 rfl rfl Tryz.results10 (show (C6).M.loc 10 = _ from fq10.1) rfl rfl (by kernel_rfl)]
  simp -implicitDefEqProofs -dsimp +contextual (maxSteps := 9999999) (disch := first | omega | simp only [go_sem] <;> omega | refine ib ?_; kernel_rfl) only [go_sem, seval, ↓reduceIte, e1, h0']
theorem eNoteF0 (x : St) (e f : Int) (s : List UInt8) (hx : x.ok) (hf : (lineR x).2 = f) (h0 : ¬ f = 0) : fn C6 10 [] [.uptr [.slice 1 (s.map byteRow), .sc (.slice none 0 0)], .agg [.int .i64 x.kind, .int .i64 x.node, .int .i64 x.other, .int .i64 x.n, .int .i64 x.fr, .int .i64 x.un, .int .u64 (x.id : Int), .str x.key, .str x.val, .slice 1 (x.bs.map byteRow)], .int .i64 e] = some (.int .i64 f, [.uptr [.slice 1 (s.map byteRow), .sc (.slice none 0 0)]]) := by
  have e1 := e31 x hx
  rw [hf] at e1
  have h0' := eq_false h0
  rw [fn_textN (C := C6) Tryz.func10 rfl rfl Tryz.results10 (show (C6).M.loc 10 = _ from fq10.1) rfl rfl (by kernel_rfl)]
  simp -implicitDefEqProofs -dsimp +contextual (maxSteps := 9999999) (disch := first | omega | simp only [go_sem] <;> omega | refine ib ?_; kernel_rfl) only [go_sem, seval, ↓reduceIte, e1, h0']
theorem eNoteN (x : St) (e : Int) : fn C6 10 [] [.sc (.pointer none), .agg [.int .i64 x.kind, .int .i64 x.node, .int .i64 x.other, .int .i64 x.n, .int .i64 x.fr, .int .i64 x.un, .int .u64 (x.id : Int), .str x.key, .str x.val, .slice 1 (x.bs.map byteRow)], .int .i64 e] = some (.int .i64 1, []) := by
  rw [fn_textN (C := C6) Tryz.func10 rfl rfl Tryz.results10 (show (C6).M.loc 10 = _ from fq10.1) rfl rfl (by kernel_rfl)]
  simp -implicitDefEqProofs -dsimp +contextual (maxSteps := 9999999) (disch := first | omega | simp only [go_sem] <;> omega | refine ib ?_; kernel_rfl) only [go_sem, seval, ↓reduceIte]
theorem eNew (t : List UInt8) (h : t.length ≤ 100000) : fn C 8 [] [.str t] = some (.uptr [.slice 1 ((sumB (titS ++ t)).map byteRow), .sc (.slice none 0 0)], []) := by
  have e1 := e25 t h
  rw [fn_text Tryz.func8 rfl rfl Tryz.results8 fq8.1 rfl rfl (by kernel_rfl)]
  simp -implicitDefEqProofs -dsimp +contextual (maxSteps := 9999999) (disch := first | omega | simp only [go_sem] <;> omega | refine ib ?_; kernel_rfl) only [go_sem, seval, ↓reduceIte, e1]
@[go_sem] theorem strRow_ok (l : List (List UInt8)) : okRows (l.map strRow) = decide (l.length ≤ 1073741824) := okRows_map _ (fun _ => rfl) (fun _ => rfl) l
theorem eLines (s : AVal) (ls : List (List UInt8)) (hl : ls.length ≤ 100000) : fn C 13 [] [.iptr [s, .slice 1 (ls.map strRow)]] = some (.slice 1 (ls.map strRow), []) := by
  rw [fn_text Tryz.func13 rfl rfl Tryz.results13 fq13.1 rfl rfl (by kernel_rfl)]
  simp -implicitDefEqProofs -dsimp +contextual (maxSteps := 9999999) (disch := first | omega | simp only [go_sem] <;> omega | refine ib ?_; kernel_rfl) only [go_sem, seval, ↓reduceIte]
theorem eSum (s : List UInt8) (L : AVal) (h : s.length ≤ 100) : fn C 14 [] [.iptr [.slice 1 (s.map byteRow), L]] = some (.str (bytesR s), []) := by
  have e1 := e38 s (by omega)
  rw [fn_text Tryz.func14 rfl rfl Tryz.results14 fq14.1 rfl rfl (by kernel_rfl)]
  simp -implicitDefEqProofs -dsimp +contextual (maxSteps := 9999999) (disch := first | omega | simp only [go_sem] <;> omega | refine ib ?_; kernel_rfl) only [go_sem, seval, ↓reduceIte, e1]
theorem eSumN : fn C 14 [] [.sc (.pointer none)] = some (.str [], []) := by
  rw [fn_text Tryz.func14 rfl rfl Tryz.results14 fq14.1 rfl rfl (by kernel_rfl)]
  simp -implicitDefEqProofs -dsimp +contextual (maxSteps := 9999999) (disch := first | omega | simp only [go_sem] <;> omega | refine ib ?_; kernel_rfl) only [go_sem, seval, ↓reduceIte]
theorem exDig : (digT (nextT (sumB (titS ++ [120])) (textT [116, 105, 99, 107] 0)) == digT (nextT (sumB (titS ++ [121])) (textT [116, 105, 99, 107] 0))) = false := by kernel_rfl
def laws7 : List FuncId := [7, 4, 3, 5]
noncomputable def own7 : Own := fun f => if f ∈ laws7 then none else some (fun ex ds => if f = 10 then fn C6 f ex ds else fn C f ex ds)
theorem own7_ok : OwnOk E own7 := by
  intro f g ex ds q hf hg
  unfold own7 at hf
  split at hf
  · cases hf
  simp only [Option.some.injEq] at hf
  subst hf
  by_cases h : f = 10
  · simp only [if_pos h] at hg
    exact fnE_sound mixed own6_ok hg
  · simp only [if_neg h] at hg
    exact fnE_sound mixed own_ok hg
noncomputable def C7 : Cf := ⟨E, M, own7⟩
@[go_sem] theorem C7_E : C7.E = E := rfl
@[go_sem] theorem C7_M : C7.M = M := rfl
theorem c7_n (ex ds) : fn C7 10 ex ds = fn C6 10 ex ds :=
  fn_own (g := fun ex ds => fn C6 10 ex ds) (by show own7 10 = _; unfold own7; rw [if_neg (by decide)]; simp only [if_true]) ex ds
theorem c7_c (f : FuncId) (h : f ∉ laws7 ∧ ¬ f = 10) (ex ds) : fn C7 f ex ds = fn C f ex ds :=
  fn_own (g := fun ex ds => fn C f ex ds) (by show own7 f = _; unfold own7; rw [if_neg h.1]; simp only [if_neg h.2]) ex ds
@[go_sem] theorem c7_trace_New (ex ds) : fn C7 8 ex ds = fn C 8 ex ds := c7_c _ (by decide) ex ds
@[go_sem] theorem c7_trace_Trace_Lines (ex ds) : fn C7 13 ex ds = fn C 13 ex ds := c7_c _ (by decide) ex ds
@[go_sem] theorem c7_trace_Trace_Sum (ex ds) : fn C7 14 ex ds = fn C 14 ex ds := c7_c _ (by decide) ex ds
@[go_sem] theorem c7_trace_Check (ex ds) : fn C7 22 ex ds = fn C 22 ex ds := c7_c _ (by decide) ex ds
@[go_sem] theorem c7_r51_Lines (ex ds) : fn C7 11 ex ds = fn C 11 ex ds := c7_c _ (by decide) ex ds
@[go_sem] theorem c7_r44_Same (ex ds) : fn C7 12 ex ds = fn C 12 ex ds := c7_c _ (by decide) ex ds
@[go_sem] theorem c7_l38_Short (ex ds) : fn C7 6 ex ds = fn C 6 ex ds := c7_c _ (by decide) ex ds
@[go_sem] theorem c7_r43_Line (ex ds) : fn C7 9 ex ds = fn C 9 ex ds := c7_c _ (by decide) ex ds
@[go_sem] theorem c7_r10_Bytes (ex ds) : fn C7 15 ex ds = fn C 15 ex ds := c7_c _ (by decide) ex ds
@[go_sem] theorem nl_works : M.nl 7 = [] := Eq.trans rfl rfl
theorem tick_line : lineR ⟨10, 0, 0, 0, 0, 0, 0, [], [], []⟩ = ([116, 105, 99, 107], 0) := by kernel_rfl
theorem works51 : fn C7 7 [] [] = some (.bool true, []) := by
  have e1 := eNew [120] (by decide)
  have hS : (sumB (titS ++ [120])).length = 32 := sumB_len _
  have tl := tick_line
  have e2 := eNote0 (sumB (titS ++ [120])) ⟨10, 0, 0, 0, 0, 0, 0, [], [], []⟩ 0 (by omega) (by constructor <;> decide) (by rw [tl]; decide) (by decide) (by decide) (by rw [tl])
  rw [tl] at e2
  simp only [List.map_nil] at e2
  have z : ((0 : Nat) : Int) = 0 := rfl
  rw [z] at e2
  rw [fn_textN (C := C7) Tryz.func7 rfl rfl Tryz.results7 (show (C7).M.loc 7 = _ from fq7.1) rfl rfl (by kernel_rfl)]
  have hr := readL_line (s := ⟨10, 0, 0, 0, 0, 0, 0, [], [], []⟩) (e := 0) (by rw [tl]) (by decide) (by decide) (sumB (titS ++ [120]))
  rw [tl] at hr
  simp only at hr
  have k1 : checkK [lineT (sumB (titS ++ [120])) (textT [116, 105, 99, 107] 0)] (sumB (titS ++ [120])) = 1 := by rw [checkK_some hr, if_pos rfl]; rfl
  have k2 : checkK [lineT (sumB (titS ++ [120])) (textT [116, 105, 99, 107] 0)] (sumB (titS ++ [121])) = 0 := by
    rw [checkK_some hr, if_neg (fun h => by have := exDig; rw [h] at this; simp at this)]
  have t1 : textT [116, 105, 99, 107] 0 = [116, 105, 99, 107, 32, 61, 32, 48] := by kernel_rfl
  have dl : (digT (nextT (sumB (titS ++ [120])) (textT [116, 105, 99, 107] 0))).length = 16 := by unfold digT; rw [List.length_take, dig_len]; rfl
  have sl : (nextT (sumB (titS ++ [120])) (textT [116, 105, 99, 107] 0)).length = 32 := sumB_len _
  have b1 := dig_len (sumB (titS ++ [120])) (textT [116, 105, 99, 107] 0)
  have ll : (lineT (sumB (titS ++ [120])) (textT [116, 105, 99, 107] 0)).length = 25 := by unfold lineT; rw [List.length_append, List.length_cons, dl, t1]; rfl
  have lt : (lineT (sumB (titS ++ [120])) (textT [116, 105, 99, 107] 0)).take 9 = [116, 105, 99, 107, 32, 61, 32, 48, 32] := by unfold lineT; rw [t1]; rfl
  have e3 := eLines (.slice 1 ((nextT (sumB (titS ++ [120])) (textT [116, 105, 99, 107] 0)).map byteRow)) [lineT (sumB (titS ++ [120])) (textT [116, 105, 99, 107] 0)] (by simp)
  have e4 := e22 [120] [lineT (sumB (titS ++ [120])) (textT [116, 105, 99, 107] 0)] (by decide) (by simp) (fun l h => by rw [List.mem_singleton] at h; rw [h, ll]; decide)
  have e5 := e22 [121] [lineT (sumB (titS ++ [120])) (textT [116, 105, 99, 107] 0)] (by decide) (by simp) (fun l h => by rw [List.mem_singleton] at h; rw [h, ll]; decide)
  rw [k1, show ((1 : Nat) : Int) = 1 from rfl] at e4
  rw [k2, z] at e5
  have e6 := eSum (nextT (sumB (titS ++ [120])) (textT [116, 105, 99, 107] 0)) (.slice 1 [strRow (lineT (sumB (titS ++ [120])) (textT [116, 105, 99, 107] 0))]) (by omega)
  have e7 := eNoteN stZ 0
  have e8 := eSumN
  simp only [stZ, List.map_nil, z] at e7
  simp only [List.map_cons, List.map_nil, strRow] at e2 e3 e4 e5 e6
  clear hr k1 k2 tl t1 dl
  generalize nextT (sumB (titS ++ [120])) (textT [116, 105, 99, 107] 0) = s1 at *
  generalize lineT (sumB (titS ++ [120])) (textT [116, 105, 99, 107] 0) = ln at *
  simp -implicitDefEqProofs -dsimp +contextual (maxSteps := 9999999) (disch := first | omega | simp only [go_sem] <;> omega | refine ib ?_; kernel_rfl) only [go_sem, seval, ↓reduceIte, e1, c7_n, e2, e3, e4, e5, e6, e7, e8, ll, lt, b1]
@[go_sem] theorem nl_reads : M.nl 4 = [] := Eq.trans rfl rfl
def smA (L : List (List UInt8)) : Prop := L.length ≤ 4 ∧ Lib.lens L ≤ 60000
theorem smA_ite {p : Prop} [Decidable p] {a b : List (List UInt8)} (ha : smA a) (hb : smA b) : smA (if p then a else b) := by split <;> assumption
theorem told_a (s : St) (h : s.ok) (t : sumT s ≤ 8000) : smA (toldR s) := by
  have ht := sumT_le t
  have n1 := itoa_le s.node h.a1 h.a2
  have n2 := itoa_le s.other h.b1 h.b2
  have n3 := itoa_le s.n h.c1 h.c2
  have n4 := itoa_le s.fr h.d1 h.d2
  have n5 := itoa_le s.un h.e1 h.e2
  have n6 : (hexR s.id).length ≤ 16 := by rw [hexR, pairsR_len, beN_len]; omega
  have n7 : (bytesR s.val).length ≤ 16001 := by
    unfold bytesR; split
    · simp
    · rw [pairsR_len]; omega
  have n8 : (bytesR s.bs).length ≤ 16001 := by
    unfold bytesR; split
    · simp
    · rw [pairsR_len]; omega
  unfold toldR
  refine smA_ite ?_ (smA_ite (smA_ite ?_ ?_) (smA_ite ?_ (smA_ite ?_ (smA_ite ?_ (smA_ite ?_ (smA_ite ?_ (smA_ite ?_ (smA_ite ?_ (smA_ite ?_ (smA_ite ?_ ?_))))))))))
  all_goals (simp only [smA, Lib.lens, List.map_cons, List.map_nil, List.sum_cons, List.sum_nil, List.length_cons, List.length_nil]; omega)
theorem line_60 (s : St) (h : s.ok) (t : sumT s ≤ 8000) : (lineR s).1.length ≤ 60100 := by
  unfold lineR; split
  · have h1 := told_a s h t
    have h2 := wordK_le s.kind
    unfold lineW
    rw [Lib.join_length]
    simp only [smA, Lib.lens, List.map_cons, List.sum_cons, List.length_cons, List.length_nil] at h1 ⊢
    omega
  · simp
theorem foldK (l : List (St × Int)) (sum : List UInt8) : l.foldl noteK ([], sum) = (linesK l sum, endK l sum) := by rw [noteK_foldl]; simp
theorem appK (l : List (St × Int)) (x : St × Int) (sum : List UInt8) : (linesK (l ++ [x]) sum, endK (l ++ [x]) sum) = noteK (linesK l sum, endK l sum) x := by
  have h := foldK (l ++ [x]) sum
  rw [List.foldl_append, foldK l sum] at h
  exact h.symm
theorem appK_yes (l : List (St × Int)) (x : St) (e : Int) (sum : List UInt8) (h : (lineR x).2 = 0) : linesK (l ++ [(x, e)]) sum = linesK l sum ++ [lineT (endK l sum) (textT (lineR x).1 e)] ∧ endK (l ++ [(x, e)]) sum = nextT (endK l sum) (textT (lineR x).1 e) := by
  have h1 := appK l (x, e) sum
  unfold noteK at h1
  rw [if_pos h] at h1
  exact Prod.mk.inj h1
theorem appK_no (l : List (St × Int)) (x : St) (e : Int) (sum : List UInt8) (h : ¬ (lineR x).2 = 0) : linesK (l ++ [(x, e)]) sum = linesK l sum ∧ endK (l ++ [(x, e)]) sum = endK l sum := by
  have h1 := appK l (x, e) sum
  unfold noteK at h1
  rw [if_neg h] at h1
  exact Prod.mk.inj h1
theorem linesK_le : ∀ (l : List (St × Int)) (sum : List UInt8), (linesK l sum).length ≤ l.length
  | [], _ => Nat.le_refl _
  | x :: l, sum => by
    rw [linesK_cons]
    split
    · have := linesK_le l (nextT sum (textT (lineR x.1).1 x.2)); simp only [List.length_cons]; omega
    · have := linesK_le l sum; simp only [List.length_cons]; omega
theorem endK_len : ∀ (l : List (St × Int)) (sum : List UInt8), sum.length = 32 → (endK l sum).length = 32
  | [], _, h => h
  | x :: l, sum, h => by
    rw [endK_cons]
    split
    · exact endK_len l _ (sumB_len _)
    · exact endK_len l sum h
theorem take_step {A : Type} (l : List A) (i : Nat) (h : i < l.length) : l.take (i + 1) = l.take i ++ [l[i]] := by
  rw [List.take_add_one, List.getElem?_eq_getElem h]; rfl
def LsAt (o : Nat) (H : Heap) (L : AVal) (ls : List (List UInt8)) : Prop := (ls = [] ∧ L = .sc (.slice none 0 0)) ∨ ∃ g, L = .osl o g 0 ls.length ∧ H o = ⟨g, .live, 1, ls.map strRow, false⟩
def Held (o p : Nat) (f : Nat → AVal) (H : Heap) (l : List (St × Int)) (S : List UInt8) : Prop := ∃ g, f 7 = .ptr o g 0 0 ∧ ∃ L, H o = ⟨g, .live, 2, [[.slice 1 ((endK l S).map byteRow), L]], false⟩ ∧ LsAt p H L (linesK l S)
@[go_sem] theorem nl_notes : M.nl 3 = [] := Eq.trans rfl rfl
theorem eLinesN (s : AVal) : fn C 13 [] [.iptr [s, .sc (.slice none 0 0)]] = some (.slice 1 [], []) := by
  have o0 : okRows [] = true := by decide
  rw [fn_text Tryz.func13 rfl rfl Tryz.results13 fq13.1 rfl rfl (by kernel_rfl)]
  simp -implicitDefEqProofs -dsimp +contextual (maxSteps := 9999999) (disch := first | omega | simp only [go_sem] <;> omega | refine ib ?_; kernel_rfl) only [go_sem, seval, ↓reduceIte, o0]
theorem notes51 (t : List UInt8) (ss : List St) (es : List Int) (ht : t.length ≤ 9223372036854775807) (hl : ss.length ≤ 9223372036854775807) (hm : es.length ≤ 9223372036854775807) (hn : ∀ s ∈ ss, s.num) (hf : ∀ s ∈ ss, s.fit) (he : ∀ e ∈ es, -9223372036854775808 ≤ e ∧ e ≤ 9223372036854775807) : fn C7 3 [] [.str t, .slice 10 (ss.map St.cs), .slice 1 (es.map iRow)] = some (.bool true, []) := by
  have w := works51
  have sh := e6 ss hl hf
  by_cases h1 : 300 < t.length
  · rw [fn_textN (C := C7) Tryz.func3 rfl rfl Tryz.results3 (show (C7).M.loc 3 = _ from fq3.1) rfl rfl (by kernel_rfl)]
    simp -implicitDefEqProofs -dsimp +contextual (maxSteps := 9999999) (disch := first | omega | simp only [go_sem] <;> omega | refine ib ?_; kernel_rfl) only [go_sem, seval, ↓reduceIte, h1, w]
  cases hs : shortR ss with
  | false =>
    rw [hs] at sh
    rw [fn_textN (C := C7) Tryz.func3 rfl rfl Tryz.results3 (show (C7).M.loc 3 = _ from fq3.1) rfl rfl (by kernel_rfl)]
    simp -implicitDefEqProofs -dsimp +contextual (maxSteps := 9999999) (disch := first | omega | simp only [go_sem] <;> omega | refine ib ?_; kernel_rfl) only [go_sem, seval, ↓reduceIte, h1, sh, w]
  | true =>
    rw [hs] at sh
    by_cases h3 : 100 < es.length
    · rw [fn_textN (C := C7) Tryz.func3 rfl rfl Tryz.results3 (show (C7).M.loc 3 = _ from fq3.1) rfl rfl (by kernel_rfl)]
      simp -implicitDefEqProofs -dsimp +contextual (maxSteps := 9999999) (disch := first | omega | simp only [go_sem] <;> omega | refine ib ?_; kernel_rfl) only [go_sem, seval, ↓reduceIte, h1, sh, h3, w]
    simp only [shortR, Bool.and_eq_true, decide_eq_true_eq] at hs
    have okS : ∀ s ∈ ss, s.ok := fun s hm => (hn s hm).ok (short_mem hs.2 s hm)
    have ok : ∀ s ∈ ss, s.ok ∧ (lineR s).1.length ≤ 100000 := fun s hm => ⟨okS s hm, by have := line_60 s (okS s hm) (short_mem hs.2 s hm); omega⟩
    have e0 := eNew t (by omega)
    have eL := e11 t ss es (by omega) (by omega) (by omega) ok he
    have hS : (sumB (titS ++ t)).length = 32 := sumB_len _
    generalize sumB (titS ++ t) = S0 at *
    have zl : (ss.zip es).length = min ss.length es.length := List.length_zip
    rw [fn_textN (C := C7) Tryz.func3 rfl rfl Tryz.results3 (show (C7).M.loc 3 = _ from fq3.1) rfl rfl (by kernel_rfl)]
    simp -implicitDefEqProofs -dsimp +contextual (maxSteps := 9999999) (disch := first | omega | simp only [go_sem] <;> omega | refine ib ?_; kernel_rfl) only [go_sem, seval, ↓reduceIte, h1, sh, h3, e0]
    refine kLoop_rec (fun (i : Nat) f H => i ≤ (ss.zip es).length ∧ f 0 = .str t ∧ f 1 = .slice 10 (ss.map St.cs) ∧ f 2 = .slice 1 (es.map iRow) ∧ f 8 = .int .i64 (i : Int) ∧ Held 128 128002 f H ((ss.zip es).take i) S0) (fun i => (ss.zip es).length - i) (fun _ => _) ?_ 0 _ _ (by exact ⟨Nat.zero_le _, rfl, rfl, rfl, rfl, ⟨_, rfl, _, rfl, .inl ⟨rfl, rfl⟩⟩⟩)
    rintro i f H ⟨hi', f0, f1, f2, f8, g, f7, L, hO, hL⟩ ih
    have ln := linesK_le ((ss.zip es).take i) S0
    have en := endK_len ((ss.zip es).take i) S0 hS
    rw [List.length_take] at ln
    by_cases hi : i < (ss.zip es).length
    · have i1 : i < ss.length := by omega
      have i2 : i < es.length := by omega
      have row1 : (ss.map St.cs)[i]? = some ss[i].cs := by rw [List.getElem?_map, List.getElem?_eq_getElem i1]; rfl
      have row2 : (es.map iRow)[i]? = some [.int .i64 es[i]] := by rw [List.getElem?_map, List.getElem?_eq_getElem i2]; rfl
      obtain ⟨okx, ll⟩ := ok _ (List.getElem_mem i1)
      obtain ⟨n1, n2⟩ := he _ (List.getElem_mem i2)
      have tk := take_step (ss.zip es) i hi
      rw [List.getElem_zip] at tk
      have ih1 := ih (i + 1)
      clear ih
      unfold Held at ih1
      rw [tk] at ih1
      generalize ss[i] = x at *
      generalize es[i] = e at *
      have e1 := e9 x okx
      have yes := appK_yes ((ss.zip es).take i) x e S0
      have no := appK_no ((ss.zip es).take i) x e S0
      generalize hq : linesK ((ss.zip es).take i) S0 = ls at *
      generalize endK ((ss.zip es).take i) S0 = s at *
      rw [St.cs_eq] at row1
      by_cases hz : (lineR x).2 = 0
      · obtain ⟨y1, y2⟩ := yes hz
        rw [y1, y2] at ih1
        clear yes no y1 y2
        rw [hz] at e1
        rcases hL with ⟨l0, rfl⟩ | ⟨gl, rfl, hl2⟩
        · subst l0
          have e2 := eNote0 s x e (by omega) okx ll n1 n2 hz
          simp -implicitDefEqProofs -dsimp +contextual (maxSteps := 9999999) (disch := first | omega | simp only [go_sem] <;> omega | refine ib ?_; kernel_rfl) only [go_sem, seval, ↓reduceIte, f0, f1, f2, f7, f8, hO, i1, i2, row1, row2, e1, c7_n, e2]
          exact ih1 _ _ ⟨hi, f0, f1, f2, rfl, _, f7, _, rfl, .inr ⟨_, rfl, rfl⟩⟩ (by omega)
        · have e2 := eNote1 s ls x e (by omega) (by omega) okx ll n1 n2 hz
          simp -implicitDefEqProofs -dsimp +contextual (maxSteps := 9999999) (disch := first | omega | simp only [go_sem] <;> omega | refine ib ?_; kernel_rfl) only [go_sem, seval, ↓reduceIte, f0, f1, f2, f7, f8, hO, hl2, i1, i2, row1, row2, e1, c7_n, e2]
          exact ih1 _ _ ⟨hi, f0, f1, f2, rfl, _, f7, _, rfl, .inr ⟨_, by rw [List.length_append]; rfl, rfl⟩⟩ (by omega)
      · obtain ⟨y1, y2⟩ := no hz
        rw [y1, y2] at ih1
        clear yes no y1 y2
        rcases hL with ⟨l0, rfl⟩ | ⟨gl, rfl, hl2⟩
        · subst l0
          have e2 := eNoteF0 x e _ s okx rfl hz
          generalize (lineR x).2 = fl at *
          simp -implicitDefEqProofs -dsimp +contextual (maxSteps := 9999999) (disch := first | omega | simp only [go_sem] <;> omega | refine ib ?_; kernel_rfl) only [go_sem, seval, ↓reduceIte, f0, f1, f2, f7, f8, hO, i1, i2, row1, row2, e1, c7_n, e2]
          exact ih1 _ _ ⟨hi, f0, f1, f2, rfl, _, f7, _, rfl, .inl ⟨rfl, rfl⟩⟩ (by omega)
        · have e2 := eNoteF x e _ (.bool true) (.inr trivial) s ls okx rfl hz
          generalize (lineR x).2 = fl at *
          simp -implicitDefEqProofs -dsimp +contextual (maxSteps := 9999999) (disch := first | omega | simp only [go_sem] <;> omega | refine ib ?_; kernel_rfl) only [go_sem, seval, ↓reduceIte, f0, f1, f2, f7, f8, hO, hl2, i1, i2, row1, row2, e1, c7_n, e2]
          exact ih1 _ _ ⟨hi, f0, f1, f2, rfl, _, f7, _, rfl, .inr ⟨_, rfl, rfl⟩⟩ (by omega)
    · obtain rfl : i = (ss.zip es).length := by omega
      clear ih
      rw [List.take_length] at hO hL ln en
      have e4 := e15 (endK (ss.zip es) S0) (by omega)
      have e6 := e12 (linesK (ss.zip es) S0) (linesK (ss.zip es) S0) (by omega)
      rw [decide_eq_true rfl] at e6
      generalize linesK (ss.zip es) S0 = ls at *
      generalize endK (ss.zip es) S0 = s at *
      by_cases i1 : (ss.zip es).length < ss.length
      · have i2 := eq_false (show ¬ (ss.zip es).length < es.length by omega)
        rcases hL with ⟨l0, rfl⟩ | ⟨gl, rfl, hl2⟩
        · subst l0
          have e3 := eSum s (.sc (.slice none 0 0)) (by omega)
          have e5 := eLinesN (.slice 1 (s.map byteRow))
          simp only [List.map_nil] at e6 eL
          simp -implicitDefEqProofs -dsimp +contextual (maxSteps := 9999999) (disch := first | omega | simp only [go_sem] <;> omega | refine ib ?_; kernel_rfl) only [go_sem, seval, ↓reduceIte, f0, f1, f2, f7, f8, hO, i1, i2, eL, e3, e4, e5, e6, w]
        · have e3 := eSum s (.slice 1 (ls.map strRow)) (by omega)
          have e5 := eLines (.slice 1 (s.map byteRow)) ls (by omega)
          simp -implicitDefEqProofs -dsimp +contextual (maxSteps := 9999999) (disch := first | omega | simp only [go_sem] <;> omega | refine ib ?_; kernel_rfl) only [go_sem, seval, ↓reduceIte, f0, f1, f2, f7, f8, hO, hl2, i1, i2, eL, e3, e4, e5, e6, w]
      · have i1' := eq_false i1
        rcases hL with ⟨l0, rfl⟩ | ⟨gl, rfl, hl2⟩
        · subst l0
          have e3 := eSum s (.sc (.slice none 0 0)) (by omega)
          have e5 := eLinesN (.slice 1 (s.map byteRow))
          simp only [List.map_nil] at e6 eL
          simp -implicitDefEqProofs -dsimp +contextual (maxSteps := 9999999) (disch := first | omega | simp only [go_sem] <;> omega | refine ib ?_; kernel_rfl) only [go_sem, seval, ↓reduceIte, f0, f1, f2, f7, f8, hO, i1', eL, e3, e4, e5, e6, w]
        · have e3 := eSum s (.slice 1 (ls.map strRow)) (by omega)
          have e5 := eLines (.slice 1 (s.map byteRow)) ls (by omega)
          simp -implicitDefEqProofs -dsimp +contextual (maxSteps := 9999999) (disch := first | omega | simp only [go_sem] <;> omega | refine ib ?_; kernel_rfl) only [go_sem, seval, ↓reduceIte, f0, f1, f2, f7, f8, hO, hl2, i1', eL, e3, e4, e5, e6, w]
end Go.Proofs.YtclgfgnhcakhdaaGreatDoor
