import Derived.Test.YtclgfgnhcakhdaaGreatDoorTScript3
namespace Go.Proofs.YtclgfgnhcakhdaaGreatDoor
set_option maxHeartbeats 64000000
open Go.Am
set_option linter.unusedSimpArgs false
set_option linter.unusedVariables false
set_option maxRecDepth 100000
noncomputable def own6 : Own := fun f => if f ∈ [10] then none else some (fun ex ds => fn C f ex ds)
theorem own6_ok : OwnOk E own6 := by
  intro f g ex ds q hf hg
  unfold own6 at hf
  split at hf
  · cases hf
  · simp only [Option.some.injEq] at hf
    subst hf
    exact fnE_sound mixed own_ok hg
noncomputable def M6 : Mds := { M with inls := [(33, 20002)] }
noncomputable def C6 : Cf := ⟨E, M6, own6⟩
@[go_sem] theorem C6_E : C6.E = E := rfl
@[go_sem] theorem C6_M : C6.M = M6 := rfl
@[go_sem] theorem M6_par : M6.par = M.par := Eq.trans rfl rfl
@[go_sem] theorem M6_res : M6.res = M.res := Eq.trans rfl rfl
@[go_sem] theorem M6_loc : M6.loc = M.loc := Eq.trans rfl rfl
@[go_sem] theorem M6_nl : M6.nl = M.nl := Eq.trans rfl rfl
@[go_sem] theorem M6_cur : M6.cur = [] := Eq.trans rfl rfl
@[go_sem] theorem M6_base : M6.base = 0 := Eq.trans rfl rfl
@[go_sem] theorem M6_gh : M6.gh = none := Eq.trans rfl rfl
@[go_sem] theorem M6_inls : M6.inls = [(33, 20002)] := Eq.trans rfl rfl
theorem c6_c (f : FuncId) (h : f ∉ [10]) (ex ds) : fn C6 f ex ds = fn C f ex ds :=
  fn_own (g := fun ex ds => fn C f ex ds) (by show own6 f = _; unfold own6; rw [if_neg h]) ex ds
@[go_sem] theorem c6_script_Line (ex ds) : fn C6 31 ex ds = fn C 31 ex ds := c6_c _ (by decide) ex ds
@[go_sem] theorem c6_trace_text (ex ds) : fn C6 32 ex ds = fn C 32 ex ds := c6_c _ (by decide) ex ds
@[go_sem] theorem c6_digest_Two (ex ds) : fn C6 55 ex ds = fn C 55 ex ds := c6_c _ (by decide) ex ds
@[go_sem] theorem c6_label_Bytes (ex ds) : fn C6 38 ex ds = fn C 38 ex ds := c6_c _ (by decide) ex ds
@[go_sem] theorem nl_take : M.nl 33 = [] := Eq.trans rfl rfl
theorem il_take (o g : Nat) (s t : List UInt8) (L : AVal) (ho : o < 20000) (h : s.length ≤ 100) (h2 : t.length ≤ 500000) (H : Heap) (hO : H o = ⟨g, .live, 2, [[.slice 1 (s.map byteRow), L]], false⟩) (K : AVal × Heap → Option Res) (R : Option Res)
    (k : ∀ H', H' o = ⟨g, .live, 2, [[.slice 1 ((nextT s t).map byteRow), L]], false⟩ → (∀ p, p ≠ o → p ≠ 20113 → H' p = H p) → K (.str (digT (nextT s t)), H') = R) : @kB _ _ (il C6 33 [.ptr o g 0 0, .str t] H) ⟨K⟩ = R := by
  have e1 := e55 s t (by omega)
  have e2 := e38 (nextT s t) (by rw [show (nextT s t).length = 32 from sumB_len _]; decide)
  have e3 := dig_len s t
  unfold digT at k
  rw [show sumB (s ++ t) = nextT s t from rfl] at e1
  generalize nextT s t = u at *
  have ho' := eq_false (show ¬ o = 20113 by omega)
  rw [il_text (C := C6) Tryz.func33 rfl Tryz.results33 (show (C6).M.loc 33 = _ from fq33.1) (by kernel_rfl)]
  simp -implicitDefEqProofs -dsimp +contextual (maxSteps := 9999999) (disch := first | omega | simp only [go_sem] <;> omega | refine ib ?_; kernel_rfl) only [go_sem, seval, ↓reduceIte, hO, e1, e2, e3, ho']
  exact k _ (Heap.set_same _ _ _) (fun p h1 h2 => by rw [Heap.set_ne _ _ h1, Heap.set_ne _ _ h2])
theorem keep_take {o g : Nat} {x y L : AVal} {H H' : Heap} (ho : o < 20000) (hO : H o = ⟨g, .live, 2, [[x, L]], false⟩) (hO' : H' o = ⟨g, .live, 2, [[y, L]], false⟩) (hf : ∀ p, p ≠ o → p ≠ 20113 → H' p = H p) : KeepB H H' o 1 := by
  refine ⟨by decide, fun g' i => ?_, hf _ (by unfold LDC ALL; omega) (by unfold LDC ALL; omega)⟩
  unfold loadC AVal.obj
  simp only [hO, hO']
  cases i with
  | zero => by_cases hg : g = g' <;> simp [hg]
  | succ i => by_cases hg : g = g' <;> simp [hg]
theorem eNote1 (s : List UInt8) (ls : List (List UInt8)) (x : St) (e : Int) (hs : s.length ≤ 100) (hl : ls.length ≤ 1000) (hx : x.ok) (hz : (lineR x).1.length ≤ 100000) (h1 : -9223372036854775808 ≤ e) (h2 : e ≤ 9223372036854775807) (h0 : (lineR x).2 = 0) : fn C6 10 [] [.uptr [.slice 1 (s.map byteRow), .usl 1 (ls.map strRow)], .agg [.int .i64 x.kind, .int .i64 x.node, .int .i64 x.other, .int .i64 x.n, .int .i64 x.fr, .int .i64 x.un, .int .u64 (x.id : Int), .str x.key, .str x.val, .slice 1 (x.bs.map byteRow)], .int .i64 e] = some (.int .i64 0, [.uptr [.slice 1 ((nextT s (textT (lineR x).1 e)).map byteRow), .usl 1 ((ls ++ [lineT s (textT (lineR x).1 e)]).map strRow)]]) := by
  have e1 := e31 x hx
  rw [h0] at e1
  have e2 := e32 (lineR x).1 e h1 h2 (by omega)
  have ht : (textT (lineR x).1 e).length ≤ 200000 := by
    have := Lib.itoa_length_le e h1 h2
    unfold textT; simp; omega
  have hd : (digT (nextT s (textT (lineR x).1 e))).length ≤ 16 := by unfold digT; rw [List.length_take]; omega
  unfold lineT
  generalize textT (lineR x).1 e = t at *
  generalize (lineR x).1 = w at *
  rw [fn_textN (C := C6) Tryz.func10 rfl rfl Tryz.results10 (show (C6).M.loc 10 = _ from fq10.1) rfl rfl (by kernel_rfl)]
  simp -implicitDefEqProofs -dsimp +contextual (maxSteps := 9999999) (disch := first | omega | simp only [go_sem] <;> omega | refine ib ?_; kernel_rfl) only [go_sem, seval, ↓reduceIte, e1, e2]
  refine il_take 1 1 s t (.osl 1002 1 0 ls.length) (by omega) hs (by omega) _ ?_ _ _ fun H' hO' hf => ?_
  · rfl
  have hk := eq_true (keep_take (o := 1) (x := .slice 1 (s.map byteRow)) (by omega) (by rfl) hO' hf)
  have f2 := hf 1002 (by omega) (by omega)
  simp -implicitDefEqProofs -dsimp +contextual (maxSteps := 9999999) (disch := first | omega | simp only [go_sem] <;> omega | refine ib ?_; kernel_rfl) only [go_sem, seval, ↓reduceIte, hO', hk, f2]
  simp [strRow]
theorem eNote0 (s : List UInt8) (x : St) (e : Int) (hs : s.length ≤ 100) (hx : x.ok) (hz : (lineR x).1.length ≤ 100000) (h1 : -9223372036854775808 ≤ e) (h2 : e ≤ 9223372036854775807) (h0 : (lineR x).2 = 0) : fn C6 10 [] [.uptr [.slice 1 (s.map byteRow), .sc (.slice none 0 0)], .agg [.int .i64 x.kind, .int .i64 x.node, .int .i64 x.other, .int .i64 x.n, .int .i64 x.fr, .int .i64 x.un, .int .u64 (x.id : Int), .str x.key, .str x.val, .slice 1 (x.bs.map byteRow)], .int .i64 e] = some (.int .i64 0, [.uptr [.slice 1 ((nextT s (textT (lineR x).1 e)).map byteRow), .usl 1 ([lineT s (textT (lineR x).1 e)].map strRow)]]) := by
  have e1 := e31 x hx
  rw [h0] at e1
  have e2 := e32 (lineR x).1 e h1 h2 (by omega)
  have ht : (textT (lineR x).1 e).length ≤ 200000 := by
    have := Lib.itoa_length_le e h1 h2
    unfold textT; simp; omega
  have hd : (digT (nextT s (textT (lineR x).1 e))).length ≤ 16 := by unfold digT; rw [List.length_take]; omega
  unfold lineT
  generalize textT (lineR x).1 e = t at *
  generalize (lineR x).1 = w at *
  rw [fn_textN (C := C6) Tryz.func10 rfl rfl Tryz.results10 (show (C6).M.loc 10 = _ from fq10.1) rfl rfl (by kernel_rfl)]
  simp -implicitDefEqProofs -dsimp +contextual (maxSteps := 9999999) (disch := first | omega | simp only [go_sem] <;> omega | refine ib ?_; kernel_rfl) only [go_sem, seval, ↓reduceIte, e1, e2]
  refine il_take 1 1 s t (.sc (.slice none 0 0)) (by omega) hs (by omega) _ ?_ _ _ fun H' hO' hf => ?_
  · rfl
  have hk := eq_true (keep_take (o := 1) (x := .slice 1 (s.map byteRow)) (by omega) (by rfl) hO' hf)
  have f2 := hf 137 (by omega) (by omega)
  simp -implicitDefEqProofs -dsimp +contextual (maxSteps := 9999999) (disch := first | omega | simp only [go_sem] <;> omega | refine ib ?_; kernel_rfl) only [go_sem, seval, ↓reduceIte, hO', hk, f2]
  try simp [strRow]
theorem eNoteN (x : St) (e : Int) : fn C6 10 [] [.sc (.pointer none), .agg [.int .i64 x.kind, .int .i64 x.node, .int .i64 x.other, .int .i64 x.n, .int .i64 x.fr, .int .i64 x.un, .int .u64 (x.id : Int), .str x.key, .str x.val, .slice 1 (x.bs.map byteRow)], .int .i64 e] = some (.int .i64 1, []) := by
  rw [fn_textN (C := C6) Tryz.func10 rfl rfl Tryz.results10 (show (C6).M.loc 10 = _ from fq10.1) rfl rfl (by kernel_rfl)]
  simp -implicitDefEqProofs -dsimp +contextual (maxSteps := 9999999) (disch := first | omega | simp only [go_sem] <;> omega | refine ib ?_; kernel_rfl) only [go_sem, seval, ↓reduceIte]
theorem eNew (t : List UInt8) (h : t.length ≤ 100000) : fn C 8 [] [.str t] = some (.uptr [.slice 1 ((sumB (titS ++ t)).map byteRow), .sc (.slice none 0 0)], []) := by
  have e1 := e25 t h
  rw [fn_text Tryz.func8 rfl rfl Tryz.results8 fq8.1 rfl rfl (by kernel_rfl)]
  simp -implicitDefEqProofs -dsimp +contextual (maxSteps := 9999999) (disch := first | omega | simp only [go_sem] <;> omega | refine ib ?_; kernel_rfl) only [go_sem, seval, ↓reduceIte, e1]
@[go_sem] theorem strRow_ok (l : List (List UInt8)) : okRows (l.map strRow) = decide (l.length ≤ 1073741824) := okRows_map _ (fun _ => rfl) (fun _ => rfl) l
theorem eLines (s : AVal) (ls : List (List UInt8)) (hl : ls.length ≤ 100000) : fn C 13 [] [.iptr [s, .slice 1 (ls.map strRow)]] = some (.slice 1 (ls.map strRow), []) := by
  rw [fn_text Tryz.func13 rfl rfl Tryz.results13 fq13.1 rfl rfl (by kernel_rfl)]
  simp -implicitDefEqProofs -dsimp +contextual (maxSteps := 9999999) (disch := first | omega | simp only [go_sem] <;> omega | refine ib ?_; kernel_rfl) only [go_sem, seval, ↓reduceIte]
theorem eSum (s : List UInt8) (L : AVal) (h : s.length ≤ 100) : fn C 14 [] [.iptr [.slice 1 (s.map byteRow), L]] = some (.str (bytesR s), []) := by
  have e1 := e38 s (by omega)
  rw [fn_text Tryz.func14 rfl rfl Tryz.results14 fq14.1 rfl rfl (by kernel_rfl)]
  simp -implicitDefEqProofs -dsimp +contextual (maxSteps := 9999999) (disch := first | omega | simp only [go_sem] <;> omega | refine ib ?_; kernel_rfl) only [go_sem, seval, ↓reduceIte, e1]
theorem eSumN : fn C 14 [] [.sc (.pointer none)] = some (.str [], []) := by
  rw [fn_text Tryz.func14 rfl rfl Tryz.results14 fq14.1 rfl rfl (by kernel_rfl)]
  simp -implicitDefEqProofs -dsimp +contextual (maxSteps := 9999999) (disch := first | omega | simp only [go_sem] <;> omega | refine ib ?_; kernel_rfl) only [go_sem, seval, ↓reduceIte]
theorem exDig : (digT (nextT (sumB (titS ++ [120])) (textT [116, 105, 99, 107] 0)) == digT (nextT (sumB (titS ++ [121])) (textT [116, 105, 99, 107] 0))) = false := by kernel_rfl
def laws7 : List FuncId := [7, 4, 3, 5]
noncomputable def own7 : Own := fun f => if f ∈ laws7 then none else some (fun ex ds => if f = 10 then fn C6 f ex ds else fn C f ex ds)
theorem own7_ok : OwnOk E own7 := by
  intro f g ex ds q hf hg
  unfold own7 at hf
  split at hf
  · cases hf
  simp only [Option.some.injEq] at hf
  subst hf
  by_cases h : f = 10
  · simp only [if_pos h] at hg
    exact fnE_sound mixed own6_ok hg
  · simp only [if_neg h] at hg
    exact fnE_sound mixed own_ok hg
noncomputable def C7 : Cf := ⟨E, M, own7⟩
@[go_sem] theorem C7_E : C7.E = E := rfl
@[go_sem] theorem C7_M : C7.M = M := rfl
theorem c7_n (ex ds) : fn C7 10 ex ds = fn C6 10 ex ds :=
  fn_own (g := fun ex ds => fn C6 10 ex ds) (by show own7 10 = _; unfold own7; rw [if_neg (by decide)]; simp only [if_true]) ex ds
theorem c7_c (f : FuncId) (h : f ∉ laws7 ∧ ¬ f = 10) (ex ds) : fn C7 f ex ds = fn C f ex ds :=
  fn_own (g := fun ex ds => fn C f ex ds) (by show own7 f = _; unfold own7; rw [if_neg h.1]; simp only [if_neg h.2]) ex ds
@[go_sem] theorem c7_trace_New (ex ds) : fn C7 8 ex ds = fn C 8 ex ds := c7_c _ (by decide) ex ds
@[go_sem] theorem c7_trace_Trace_Lines (ex ds) : fn C7 13 ex ds = fn C 13 ex ds := c7_c _ (by decide) ex ds
@[go_sem] theorem c7_trace_Trace_Sum (ex ds) : fn C7 14 ex ds = fn C 14 ex ds := c7_c _ (by decide) ex ds
@[go_sem] theorem c7_trace_Check (ex ds) : fn C7 22 ex ds = fn C 22 ex ds := c7_c _ (by decide) ex ds
@[go_sem] theorem c7_r43_Sames (ex ds) : fn C7 21 ex ds = fn C 21 ex ds := c7_c _ (by decide) ex ds
@[go_sem] theorem c7_l38_Short (ex ds) : fn C7 6 ex ds = fn C 6 ex ds := c7_c _ (by decide) ex ds
@[go_sem] theorem c7_script_Right (ex ds) : fn C7 24 ex ds = fn C 24 ex ds := c7_c _ (by decide) ex ds
@[go_sem] theorem c7_trace_Steps (ex ds) : fn C7 19 ex ds = fn C 19 ex ds := c7_c _ (by decide) ex ds
@[go_sem] theorem nl_works : M.nl 7 = [] := Eq.trans rfl rfl
theorem tick_line : lineR ⟨10, 0, 0, 0, 0, 0, 0, [], [], []⟩ = ([116, 105, 99, 107], 0) := by kernel_rfl
theorem works51 : fn C7 7 [] [] = some (.bool true, []) := by
  have e1 := eNew [120] (by decide)
  have hS : (sumB (titS ++ [120])).length = 32 := sumB_len _
  have tl := tick_line
  have e2 := eNote0 (sumB (titS ++ [120])) ⟨10, 0, 0, 0, 0, 0, 0, [], [], []⟩ 0 (by omega) (by constructor <;> decide) (by rw [tl]; decide) (by decide) (by decide) (by rw [tl])
  rw [tl] at e2
  simp only [List.map_nil] at e2
  have z : ((0 : Nat) : Int) = 0 := rfl
  rw [z] at e2
  rw [fn_textN (C := C7) Tryz.func7 rfl rfl Tryz.results7 (show (C7).M.loc 7 = _ from fq7.1) rfl rfl (by kernel_rfl)]
  have hr := readL_line (s := ⟨10, 0, 0, 0, 0, 0, 0, [], [], []⟩) (e := 0) (by rw [tl]) (by decide) (by decide) (sumB (titS ++ [120]))
  rw [tl] at hr
  simp only at hr
  have k1 : checkK [lineT (sumB (titS ++ [120])) (textT [116, 105, 99, 107] 0)] (sumB (titS ++ [120])) = 1 := by rw [checkK_some hr, if_pos rfl]; rfl
  have k2 : checkK [lineT (sumB (titS ++ [120])) (textT [116, 105, 99, 107] 0)] (sumB (titS ++ [121])) = 0 := by
    rw [checkK_some hr, if_neg (fun h => by have := exDig; rw [h] at this; simp at this)]
  have t1 : textT [116, 105, 99, 107] 0 = [116, 105, 99, 107, 32, 61, 32, 48] := by kernel_rfl
  have dl : (digT (nextT (sumB (titS ++ [120])) (textT [116, 105, 99, 107] 0))).length = 16 := by unfold digT; rw [List.length_take, dig_len]; rfl
  have sl : (nextT (sumB (titS ++ [120])) (textT [116, 105, 99, 107] 0)).length = 32 := sumB_len _
  have b1 := dig_len (sumB (titS ++ [120])) (textT [116, 105, 99, 107] 0)
  have ll : (lineT (sumB (titS ++ [120])) (textT [116, 105, 99, 107] 0)).length = 25 := by unfold lineT; rw [List.length_append, List.length_cons, dl, t1]; rfl
  have lt : (lineT (sumB (titS ++ [120])) (textT [116, 105, 99, 107] 0)).take 9 = [116, 105, 99, 107, 32, 61, 32, 48, 32] := by unfold lineT; rw [t1]; rfl
  have e3 := eLines (.slice 1 ((nextT (sumB (titS ++ [120])) (textT [116, 105, 99, 107] 0)).map byteRow)) [lineT (sumB (titS ++ [120])) (textT [116, 105, 99, 107] 0)] (by simp)
  have e4 := e22 [120] [lineT (sumB (titS ++ [120])) (textT [116, 105, 99, 107] 0)] (by decide) (by simp) (fun l h => by rw [List.mem_singleton] at h; rw [h, ll]; decide)
  have e5 := e22 [121] [lineT (sumB (titS ++ [120])) (textT [116, 105, 99, 107] 0)] (by decide) (by simp) (fun l h => by rw [List.mem_singleton] at h; rw [h, ll]; decide)
  rw [k1, show ((1 : Nat) : Int) = 1 from rfl] at e4
  rw [k2, z] at e5
  have e6 := eSum (nextT (sumB (titS ++ [120])) (textT [116, 105, 99, 107] 0)) (.slice 1 [strRow (lineT (sumB (titS ++ [120])) (textT [116, 105, 99, 107] 0))]) (by omega)
  have e7 := eNoteN stZ 0
  have e8 := eSumN
  simp only [stZ, List.map_nil, z] at e7
  simp only [List.map_cons, List.map_nil, strRow] at e2 e3 e4 e5 e6
  clear hr k1 k2 tl t1 dl
  generalize nextT (sumB (titS ++ [120])) (textT [116, 105, 99, 107] 0) = s1 at *
  generalize lineT (sumB (titS ++ [120])) (textT [116, 105, 99, 107] 0) = ln at *
  simp -implicitDefEqProofs -dsimp +contextual (maxSteps := 9999999) (disch := first | omega | simp only [go_sem] <;> omega | refine ib ?_; kernel_rfl) only [go_sem, seval, ↓reduceIte, e1, c7_n, e2, e3, e4, e5, e6, e7, e8, ll, lt, b1]
@[go_sem] theorem nl_reads : M.nl 4 = [] := Eq.trans rfl rfl
def smA (L : List (List UInt8)) : Prop := L.length ≤ 4 ∧ Lib.lens L ≤ 60000
theorem smA_ite {p : Prop} [Decidable p] {a b : List (List UInt8)} (ha : smA a) (hb : smA b) : smA (if p then a else b) := by split <;> assumption
theorem told_a (s : St) (h : s.ok) (t : sumT s ≤ 8000) : smA (toldR s) := by
  have ht := sumT_le t
  have n1 := itoa_le s.node h.a1 h.a2
  have n2 := itoa_le s.other h.b1 h.b2
  have n3 := itoa_le s.n h.c1 h.c2
  have n4 := itoa_le s.fr h.d1 h.d2
  have n5 := itoa_le s.un h.e1 h.e2
  have n6 : (hexR s.id).length ≤ 16 := by rw [hexR, pairsR_len, beN_len]; omega
  have n7 : (bytesR s.val).length ≤ 16001 := by
    unfold bytesR; split
    · simp
    · rw [pairsR_len]; omega
  have n8 : (bytesR s.bs).length ≤ 16001 := by
    unfold bytesR; split
    · simp
    · rw [pairsR_len]; omega
  unfold toldR
  refine smA_ite ?_ (smA_ite (smA_ite ?_ ?_) (smA_ite ?_ (smA_ite ?_ (smA_ite ?_ (smA_ite ?_ (smA_ite ?_ (smA_ite ?_ (smA_ite ?_ (smA_ite ?_ (smA_ite ?_ ?_))))))))))
  all_goals (simp only [smA, Lib.lens, List.map_cons, List.map_nil, List.sum_cons, List.sum_nil, List.length_cons, List.length_nil]; omega)
theorem line_60 (s : St) (h : s.ok) (t : sumT s ≤ 8000) : (lineR s).1.length ≤ 60100 := by
  unfold lineR; split
  · have h1 := told_a s h t
    have h2 := wordK_le s.kind
    unfold lineW
    rw [Lib.join_length]
    simp only [smA, Lib.lens, List.map_cons, List.sum_cons, List.length_cons, List.length_nil] at h1 ⊢
    omega
  · simp
theorem foldK (l : List (St × Int)) (sum : List UInt8) : l.foldl noteK ([], sum) = (linesK l sum, endK l sum) := by rw [noteK_foldl]; simp
theorem appK (l : List (St × Int)) (x : St × Int) (sum : List UInt8) : (linesK (l ++ [x]) sum, endK (l ++ [x]) sum) = noteK (linesK l sum, endK l sum) x := by
  have h := foldK (l ++ [x]) sum
  rw [List.foldl_append, foldK l sum] at h
  exact h.symm
theorem appK_yes (l : List (St × Int)) (x : St) (e : Int) (sum : List UInt8) (h : (lineR x).2 = 0) : linesK (l ++ [(x, e)]) sum = linesK l sum ++ [lineT (endK l sum) (textT (lineR x).1 e)] ∧ endK (l ++ [(x, e)]) sum = nextT (endK l sum) (textT (lineR x).1 e) := by
  have h1 := appK l (x, e) sum
  unfold noteK at h1
  rw [if_pos h] at h1
  exact Prod.mk.inj h1
theorem linesK_le : ∀ (l : List (St × Int)) (sum : List UInt8), (linesK l sum).length ≤ l.length
  | [], _ => Nat.le_refl _
  | x :: l, sum => by
    rw [linesK_cons]
    split
    · have := linesK_le l (nextT sum (textT (lineR x.1).1 x.2)); simp only [List.length_cons]; omega
    · have := linesK_le l sum; simp only [List.length_cons]; omega
theorem endK_len : ∀ (l : List (St × Int)) (sum : List UInt8), sum.length = 32 → (endK l sum).length = 32
  | [], _, h => h
  | x :: l, sum, h => by
    rw [endK_cons]
    split
    · exact endK_len l _ (sumB_len _)
    · exact endK_len l sum h
theorem line_short (x : St) (e : Int) (sum : List UInt8) (h : (lineR x).1.length ≤ 60100) (h0 : 0 ≤ e) (h1 : e ≤ 99) : (lineT sum (textT (lineR x).1 e)).length ≤ 100000 := by
  have li := itoa_le e (by omega) (by omega)
  have hd : (digT (nextT sum (textT (lineR x).1 e))).length ≤ 16 := by unfold digT; rw [List.length_take]; omega
  unfold lineT
  rw [List.length_append, List.length_cons]
  generalize digT _ = d at *
  unfold textT
  rw [List.length_append, List.length_append, show eqS.length = 3 from rfl]
  omega
theorem linesK_each : ∀ (A : List (St × Int)) (sum : List UInt8), (∀ x ∈ A, (lineR x.1).1.length ≤ 60100 ∧ 0 ≤ x.2 ∧ x.2 ≤ 99) → ∀ l ∈ linesK A sum, l.length ≤ 100000
  | [], _, _, l, hl => by simp [linesK] at hl
  | x :: A, sum, h, l, hl => by
    obtain ⟨h1, h2, h3⟩ := h x (List.mem_cons_self ..)
    rw [linesK_cons] at hl
    split at hl
    · rcases List.mem_cons.1 hl with rfl | hl
      · exact line_short _ _ _ h1 h2 h3
      · exact linesK_each A _ (fun y hy => h y (List.mem_cons_of_mem _ hy)) l hl
    · exact linesK_each A _ (fun y hy => h y (List.mem_cons_of_mem _ hy)) l hl
def LsAt (o : Nat) (H : Heap) (L : AVal) (ls : List (List UInt8)) : Prop := (ls = [] ∧ L = .sc (.slice none 0 0)) ∨ ∃ g, L = .osl o g 0 ls.length ∧ H o = ⟨g, .live, 1, ls.map strRow, false⟩
def Held (o p : Nat) (f : Nat → AVal) (H : Heap) (l : List (St × Int)) (S : List UInt8) : Prop := ∃ g, f 7 = .ptr o g 0 0 ∧ ∃ L, H o = ⟨g, .live, 2, [[.slice 1 ((endK l S).map byteRow), L]], false⟩ ∧ LsAt p H L (linesK l S)
@[go_sem] theorem nl_notes : M.nl 3 = [] := Eq.trans rfl rfl
theorem eLinesN (s : AVal) : fn C 13 [] [.iptr [s, .sc (.slice none 0 0)]] = some (.slice 1 [], []) := by
  have o0 : okRows [] = true := by decide
  rw [fn_text Tryz.func13 rfl rfl Tryz.results13 fq13.1 rfl rfl (by kernel_rfl)]
  simp -implicitDefEqProofs -dsimp +contextual (maxSteps := 9999999) (disch := first | omega | simp only [go_sem] <;> omega | refine ib ?_; kernel_rfl) only [go_sem, seval, ↓reduceIte, o0]
end Go.Proofs.YtclgfgnhcakhdaaGreatDoor
