import Derived.Test.YtgbmhicpkbmeaaaDoorTOwng3
namespace Go.Proofs.YtgbmhicpkbmeaaaDoor
open Go.Am
set_option linter.unusedSimpArgs false
set_option linter.unusedVariables false
set_option maxRecDepth 100000
/-! Layer 50: changes. -/
structure Ch where
  what : Int
  name : List UInt8
  fr : Int
  to : Int
deriving DecidableEq
def Ch.cs (c : Ch) : List AVal := [.int .i64 c.what, .str c.name, .int .i64 c.fr, .int .i64 c.to]
@[go_sem] theorem Ch.cs_eq (c : Ch) : c.cs = [.int .i64 c.what, .str c.name, .int .i64 c.fr, .int .i64 c.to] := rfl
@[go_sem] theorem Ch_ones (l : List Ch) : ones (l.map Ch.cs) = true := ones_map _ _ fun _ => rfl
@[go_sem] theorem Ch_clos (l : List Ch) : (l.map Ch.cs).all clos = true := allclos_map _ (fun _ => rfl) l
@[go_sem] theorem Ch_flat (l : List Ch) : flatss (l.map Ch.cs) = true := flatss_map _ (fun _ => rfl) l
theorem Ch_eta (a b d : Int) (n : List UInt8) : [AVal.int .i64 a, .str n, .int .i64 b, .int .i64 d] = (⟨a, n, b, d⟩ : Ch).cs := rfl
/-- A variable that holds changes. -/
def Acc4 (f : Nat → AVal) (H : Heap) (t o : Nat) (r : List Ch) : Prop := ∃ g, f t = .osl o g 0 r.length ∧ H o = ⟨g, .live, 4, r.map Ch.cs, false⟩
theorem more_opt {α β : Type} (pre : List β) (g : α → Option β) (l : List α) (i : Nat) (hi : i < l.length) : pre ++ (l.take (i + 1)).filterMap g = pre ++ (l.take i).filterMap g ++ (g l[i]).toList := by
  rw [List.take_succ_eq_append_getElem hi, List.filterMap_append, List.append_assoc]
  have : List.filterMap g [l[i]] = (g l[i]).toList := by simp only [List.filterMap_cons, List.filterMap_nil]; cases g l[i] <;> rfl
  rw [this]
theorem fm_le {α β : Type} (g : α → Option β) (l : List α) (i : Nat) : ((l.take i).filterMap g).length ≤ l.length := Nat.le_trans (List.length_filterMap_le ..) (by simp; omega)
def wentR (b : List Pr) (p : Pr) : Option Ch := if placeG (prN p.e.name) b < 0 then some ⟨2, p.e.name, p.e.ix, 0⟩ else none
def cameR (a : List Pr) (p : Pr) : Option Ch := if placeG (prN p.e.name) a < 0 then some ⟨1, p.e.name, 0, p.e.ix⟩ else none
def turnR (a : List Pr) (p : Pr) : Option Ch := match a[(placeG (prN p.e.name) a).toNat]? with
  | some q => if 0 ≤ placeG (prN p.e.name) a ∧ q.e ≠ p.e then some ⟨3, p.e.name, q.e.ix, p.e.ix⟩ else none
  | none => none
def lostR (b : List It) (x : It) : Option Ch := if placeR b x.k < 0 then some ⟨5, x.k, x.n, 0⟩ else none
def putC (a : List It) (x : It) : Option Ch := if (getR a x.k).2 = false ∨ (getR a x.k).1 ≠ x then some ⟨4, x.k, (getR a x.k).1.n, x.n⟩ else none
def listsR (a b : List Pr) : List Ch := a.filterMap (wentR b) ++ b.filterMap (cameR a) ++ b.filterMap (turnR a)
def itemsR (a b : List It) : List Ch := a.filterMap (lostR b) ++ b.filterMap (putC a)
def stateR (a b : Bool) : List Ch := if a = b then [] else [⟨6, [], if a = true then 1 else 0, if b = true then 1 else 0⟩]
def betweenR (a b : Nd) : List Ch := listsR a.list b.list ++ itemsR a.items b.items ++ stateR a.ready b.ready
theorem listsR_len (a b : List Pr) : (listsR a b).length ≤ a.length + b.length + b.length := by
  have h1 := List.length_filterMap_le (wentR b) a
  have h2 := List.length_filterMap_le (cameR a) b
  have h3 := List.length_filterMap_le (turnR a) b
  simp [listsR]; omega
theorem itemsR_len (a b : List It) : (itemsR a b).length ≤ a.length + b.length := by
  have h1 := List.length_filterMap_le (lostR b) a
  have h2 := List.length_filterMap_le (putC a) b
  simp [itemsR]; omega
theorem En.eq_iff (x y : En) : x = y ↔ (x.name = y.name ∧ x.id = y.id ∧ x.fr = y.fr ∧ x.un = y.un ∧ x.ix = y.ix ∧ x.tag = y.tag) := by
  cases x; cases y; simp

@[go_sem] theorem eGrowCh (n : Nat) (h : n ≤ 1000000) : fn C 80 [0] [.usl 4 [], .int .i64 (n : Int)] = some (.usl 4 [], []) := by
  rw [fn_text Tryd.func80 rfl rfl Tryd.results80 fq80.1 rfl rfl (by kernel_rfl)]
  by_cases h0 : 0 < n
  · simp -implicitDefEqProofs -dsimp +contextual (maxSteps := 9999999) (disch := first | omega | simp only [go_sem] <;> omega | refine ib ?_; kernel_rfl) only [go_sem, seval, ↓reduceIte, h0]
  · obtain rfl : n = 0 := by omega
    simp -implicitDefEqProofs -dsimp +contextual (maxSteps := 9999999) (disch := first | omega | simp only [go_sem] <;> omega | refine ib ?_; kernel_rfl) only [go_sem, seval, ↓reduceIte]

set_option maxHeartbeats 2000000 in
@[go_sem] theorem eConcat3 (a b c : List Ch) (h1 : a.length ≤ 1000) (h2 : b.length ≤ 1000) (h3 : c.length ≤ 1000) : fn C 67 [] [.slice 1 [[.slice 4 (a.map Ch.cs)], [.slice 4 (b.map Ch.cs)], [.slice 4 (c.map Ch.cs)]]] = some (.usl 4 ((a ++ b ++ c).map Ch.cs), []) := by
  rw [fn_text Tryd.func67 rfl rfl Tryd.results67 fq67.1 rfl rfl (by kernel_rfl)]
  simp -implicitDefEqProofs -dsimp +contextual (maxSteps := 9999999) (disch := first | omega | simp only [go_sem] <;> omega | refine ib ?_; kernel_rfl) only [go_sem, seval, ↓reduceIte]
  rw [kLoop_eq]
  simp -implicitDefEqProofs -dsimp +contextual (maxSteps := 9999999) (disch := first | omega | simp only [go_sem] <;> omega | refine ib ?_; kernel_rfl) only [go_sem, seval, ↓reduceIte]
  rw [kLoop_eq]
  simp -implicitDefEqProofs -dsimp +contextual (maxSteps := 9999999) (disch := first | omega | simp only [go_sem] <;> omega | refine ib ?_; kernel_rfl) only [go_sem, seval, ↓reduceIte]
  rw [kLoop_eq]
  simp -implicitDefEqProofs -dsimp +contextual (maxSteps := 9999999) (disch := first | omega | simp only [go_sem] <;> omega | refine ib ?_; kernel_rfl) only [go_sem, seval, ↓reduceIte]
  rw [kLoop_eq]
  simp -implicitDefEqProofs -dsimp +contextual (maxSteps := 9999999) (disch := first | omega | simp only [go_sem] <;> omega | refine ib ?_; kernel_rfl) only [go_sem, seval, ↓reduceIte]
  rw [kLoop_eq]
  simp -implicitDefEqProofs -dsimp +contextual (maxSteps := 9999999) (disch := first | omega | simp only [go_sem] <;> omega | refine ib ?_; kernel_rfl) only [go_sem, seval, ↓reduceIte]
  rw [kLoop_eq]
  simp -implicitDefEqProofs -dsimp +contextual (maxSteps := 9999999) (disch := first | omega | simp only [go_sem] <;> omega | refine ib ?_; kernel_rfl) only [go_sem, seval, ↓reduceIte]
  rw [kLoop_eq]
  simp -implicitDefEqProofs -dsimp +contextual (maxSteps := 9999999) (disch := first | omega | simp only [go_sem] <;> omega | refine ib ?_; kernel_rfl) only [go_sem, seval, ↓reduceIte]
  rw [kLoop_eq]
  simp -implicitDefEqProofs -dsimp +contextual (maxSteps := 9999999) (disch := first | omega | simp only [go_sem] <;> omega | refine ib ?_; kernel_rfl) only [go_sem, seval, ↓reduceIte]

set_option maxHeartbeats 2000000 in
@[go_sem] theorem e49 (a b : List Pr) (ha : a.length ≤ 40) (hb : b.length ≤ 40) : fn C 49 [] [.slice 8 (a.map Pr.cs), .slice 8 (b.map Pr.cs)] = some (.usl 4 ((listsR a b).map Ch.cs), []) := by
  rw [fn_textN Tryd.func49 rfl rfl Tryd.results49 fq49.1 rfl rfl (by kernel_rfl)]
  simp -implicitDefEqProofs -dsimp +contextual (maxSteps := 9999999) (disch := first | omega | simp only [go_sem] <;> omega | refine ib ?_; kernel_rfl) only [go_sem, seval, ↓reduceIte]
  refine kFor a.length (fun i f H => f 0 = .slice 8 (a.map Pr.cs) ∧ f 1 = .slice 8 (b.map Pr.cs) ∧ f 13 = .slice 8 (a.map Pr.cs) ∧ f 14 = .int .i64 a.length ∧ f 15 = .int .i64 (i : Nat) ∧ Acc4 f H 5 105 ([] ++ (a.take i).filterMap (wentR b)) ∧ Acc4 f H 6 106 [] ∧ Acc4 f H 7 107 []) ?_ ?_ (by exact ⟨rfl, rfl, rfl, rfl, rfl, ⟨_, rfl, rfl⟩, ⟨_, rfl, rfl⟩, ⟨_, rfl, rfl⟩⟩)
  · rintro i f H hi ⟨f0, f1, f13, f14, f15, ⟨g5, f5, h5⟩, ⟨g6, f6, h6⟩, ⟨g7, f7, h7⟩⟩ ih
    have hm := more_opt [] (wentR b) a i hi
    have hl := fm_le (wentR b) a i
    rw [List.nil_append] at hm f5 h5
    rw [List.nil_append] at hm
    generalize (a.take i).filterMap (wentR b) = r at *
    simp -implicitDefEqProofs -dsimp +contextual (maxSteps := 9999999) (disch := first | omega | simp only [go_sem] <;> omega | refine ib ?_; kernel_rfl) only [go_sem, seval, ↓reduceIte, f0, f1, f13, f14, f15, f5, f6, f7, h5, h6, h7, hi]
    (repeat' (refine kD_intro (fun _ => ?_) (fun _ => ?_)))
    · rename_i hc
      refine ih _ _ ⟨f0, f1, f13, f14, rfl, ?_, ⟨g6, f6, by simp [Heap.set, h6]⟩, ⟨g7, f7, by simp [Heap.set, h7]⟩⟩
      rw [hm, wentR, if_pos hc]; exact ⟨_, by simp; rfl, by simp [Heap.set, h5]; rfl⟩
    · rename_i hc
      refine ih _ _ ⟨f0, f1, f13, f14, rfl, ?_, ⟨g6, f6, by simp [Heap.set, h6]⟩, ⟨g7, f7, by simp [Heap.set, h7]⟩⟩
      rw [hm, wentR, if_neg hc]; rw [Option.toList_none, List.append_nil]; exact ⟨g5, f5, by simp [Heap.set, h5]⟩
  rintro f H ⟨f0, f1, f13, f14, f15, ⟨g5, f5, h5⟩, ⟨g6, f6, h6⟩, ⟨g7, f7, h7⟩⟩
  rw [List.take_length, List.nil_append] at f5 h5
  have l5 : (a.filterMap (wentR b)).length ≤ 40 := Nat.le_trans (List.length_filterMap_le ..) ha
  simp -implicitDefEqProofs -dsimp +contextual (maxSteps := 9999999) (disch := first | omega | simp only [go_sem] <;> omega | refine ib ?_; kernel_rfl) only [go_sem, seval, ↓reduceIte, f0, f1, f13, f14, f15, f5, f6, f7, h5, h6, h7]
  refine kFor b.length (fun i f H => f 0 = .slice 8 (a.map Pr.cs) ∧ f 1 = .slice 8 (b.map Pr.cs) ∧ f 36 = .slice 8 (b.map Pr.cs) ∧ f 37 = .int .i64 b.length ∧ f 38 = .int .i64 (i : Nat) ∧ Acc4 f H 5 105 (a.filterMap (wentR b)) ∧ Acc4 f H 6 106 ([] ++ (b.take i).filterMap (cameR a)) ∧ Acc4 f H 7 107 ([] ++ (b.take i).filterMap (turnR a))) ?_ ?_ (by exact ⟨f0, f1, rfl, rfl, rfl, ⟨g5, f5, h5⟩, ⟨g6, f6, h6⟩, ⟨g7, f7, h7⟩⟩)
  · rintro i f H hi ⟨f0, f1, f13, f14, f15, ⟨g5, f5, h5⟩, ⟨g6, f6, h6⟩, ⟨g7, f7, h7⟩⟩ ih
    have hm := more_opt [] (cameR a) b i hi
    have hl := fm_le (cameR a) b i
    have hm' := more_opt [] (turnR a) b i hi
    have hl' := fm_le (turnR a) b i
    rw [List.nil_append] at hm f6 h6 hm' f7 h7
    rw [List.nil_append] at hm hm'
    generalize (b.take i).filterMap (cameR a) = r at *
    generalize (b.take i).filterMap (turnR a) = s at *
    rcases placeG_cases (prN b[i].e.name) a with ⟨j, hj, hq, hn, hp⟩ | ⟨hn, hp⟩
    · have hcame : cameR a b[i] = none := by simp [cameR, hp] <;> omega
      simp -implicitDefEqProofs -dsimp +contextual (maxSteps := 9999999) (disch := first | omega | simp only [go_sem] <;> omega | refine ib ?_; kernel_rfl) only [go_sem, seval, ↓reduceIte, f0, f1, f13, f14, f15, f5, f6, f7, h5, h6, h7, hi, hp, hj]
      (repeat' (refine kD_intro (fun _ => ?_) (fun _ => ?_)))
      · rename_i hc
        have he : a[j].e = b[i].e := (En.eq_iff _ _).2 hc
        have hturn : turnR a b[i] = none := by simp [turnR, hp, hj, he]
        refine ih _ _ ⟨f0, f1, f13, f14, rfl, ⟨g5, f5, by simp [Heap.set, h5]⟩, ?_, ?_⟩
        · rw [hm, hcame]; rw [Option.toList_none, List.append_nil]; exact ⟨g6, f6, by simp [Heap.set, h6]⟩
        · rw [hm', hturn]; rw [Option.toList_none, List.append_nil]; exact ⟨g7, f7, by simp [Heap.set, h7]⟩
      · rename_i hc
        have he : ¬ a[j].e = b[i].e := fun e => hc ((En.eq_iff _ _).1 e)
        have hturn : turnR a b[i] = some ⟨3, b[i].e.name, a[j].e.ix, b[i].e.ix⟩ := by simp [turnR, hp, hj, he]
        refine ih _ _ ⟨f0, f1, f13, f14, rfl, ⟨g5, f5, by simp [Heap.set, h5]⟩, ?_, ?_⟩
        · rw [hm, hcame]; rw [Option.toList_none, List.append_nil]; exact ⟨g6, f6, by simp [Heap.set, h6]⟩
        · rw [hm', hturn]; exact ⟨_, by simp; rfl, by simp [Heap.set, h7]; rfl⟩
    · have hcame : cameR a b[i] = some ⟨1, b[i].e.name, 0, b[i].e.ix⟩ := by simp [cameR, hp]
      have hturn : turnR a b[i] = none := by simp only [turnR, hp]; split <;> simp
      simp -implicitDefEqProofs -dsimp +contextual (maxSteps := 9999999) (disch := first | omega | simp only [go_sem] <;> omega | refine ib ?_; kernel_rfl) only [go_sem, seval, ↓reduceIte, f0, f1, f13, f14, f15, f5, f6, f7, h5, h6, h7, hi, hp]
      refine ih _ _ ⟨f0, f1, f13, f14, rfl, ⟨g5, f5, by simp [Heap.set, h5]⟩, ?_, ?_⟩
      · rw [hm, hcame]; exact ⟨_, by simp; rfl, by simp [Heap.set, h6]; rfl⟩
      · rw [hm', hturn]; rw [Option.toList_none, List.append_nil]; exact ⟨g7, f7, by simp [Heap.set, h7]⟩
  rintro f H ⟨f0, f1, f13, f14, f15, ⟨g5, f5, h5⟩, ⟨g6, f6, h6⟩, ⟨g7, f7, h7⟩⟩
  rw [List.take_length, List.nil_append] at f6 h6 f7 h7
  have l6 : (b.filterMap (cameR a)).length ≤ 40 := Nat.le_trans (List.length_filterMap_le ..) hb
  have l7 : (b.filterMap (turnR a)).length ≤ 40 := Nat.le_trans (List.length_filterMap_le ..) hb
  simp -implicitDefEqProofs -dsimp +contextual (maxSteps := 9999999) (disch := first | omega | simp only [go_sem] <;> omega | refine ib ?_; kernel_rfl) only [go_sem, seval, ↓reduceIte, f0, f1, f13, f14, f15, f5, f6, f7, h5, h6, h7]
  rfl

set_option maxHeartbeats 2000000 in
@[go_sem] theorem e50 (a b : List It) (ha : a.length ≤ 60) (hb : b.length ≤ 60) : fn C 50 [] [.slice 4 (a.map It.cs), .slice 4 (b.map It.cs)] = some (.slice 4 ((itemsR a b).map Ch.cs), []) := by
  rw [fn_textN Tryd.func50 rfl rfl Tryd.results50 fq50.1 rfl rfl (by kernel_rfl)]
  simp -implicitDefEqProofs -dsimp +contextual (maxSteps := 9999999) (disch := first | omega | simp only [go_sem] <;> omega | refine ib ?_; kernel_rfl) only [go_sem, seval, ↓reduceIte]
  refine kFor a.length (fun i f H => f 0 = .slice 4 (a.map It.cs) ∧ f 1 = .slice 4 (b.map It.cs) ∧ f 12 = .slice 4 (a.map It.cs) ∧ f 13 = .int .i64 a.length ∧ f 14 = .int .i64 (i : Nat) ∧ Acc4 f H 5 105 ([] ++ (a.take i).filterMap (lostR b))) ?_ ?_ (by exact ⟨rfl, rfl, rfl, rfl, rfl, ⟨_, rfl, rfl⟩⟩)
  · rintro i f H hi ⟨f0, f1, f13, f14, f15, ⟨g5, f5, h5⟩⟩ ih
    have hm := more_opt [] (lostR b) a i hi
    have hl := fm_le (lostR b) a i
    rw [List.nil_append] at hm f5 h5
    rw [List.nil_append] at hm
    generalize (a.take i).filterMap (lostR b) = r at *
    simp -implicitDefEqProofs -dsimp +contextual (maxSteps := 9999999) (disch := first | omega | simp only [go_sem] <;> omega | refine ib ?_; kernel_rfl) only [go_sem, seval, ↓reduceIte, f0, f1, f13, f14, f15, f5, h5, hi]
    (repeat' (refine kD_intro (fun _ => ?_) (fun _ => ?_)))
    · rename_i hc
      refine ih _ _ ⟨f0, f1, f13, f14, rfl, ?_⟩
      rw [hm, lostR, if_pos hc]; exact ⟨_, by simp; rfl, by simp [Heap.set, h5]; rfl⟩
    · rename_i hc
      refine ih _ _ ⟨f0, f1, f13, f14, rfl, ?_⟩
      rw [hm, lostR, if_neg hc]; rw [Option.toList_none, List.append_nil]; exact ⟨g5, f5, by simp [Heap.set, h5]⟩
  rintro f H ⟨f0, f1, f13, f14, f15, ⟨g5, f5, h5⟩⟩
  rw [List.take_length, List.nil_append] at f5 h5
  have l5 : (a.filterMap (lostR b)).length ≤ 60 := Nat.le_trans (List.length_filterMap_le ..) ha
  simp -implicitDefEqProofs -dsimp +contextual (maxSteps := 9999999) (disch := first | omega | simp only [go_sem] <;> omega | refine ib ?_; kernel_rfl) only [go_sem, seval, ↓reduceIte, f0, f1, f13, f14, f15, f5, h5]
  refine kFor b.length (fun i f H => f 0 = .slice 4 (a.map It.cs) ∧ f 32 = .slice 4 (b.map It.cs) ∧ f 33 = .int .i64 b.length ∧ f 34 = .int .i64 (i : Nat) ∧ Acc4 f H 5 105 (a.filterMap (lostR b) ++ (b.take i).filterMap (putC a))) ?_ ?_ (by refine ⟨f0, rfl, rfl, rfl, ?_⟩; rw [List.take_zero, List.filterMap_nil, List.append_nil]; exact ⟨g5, f5, h5⟩)
  · rintro i f H hi ⟨f0, f13, f14, f15, ⟨g5, f5, h5⟩⟩ ih
    have hm := more_opt (a.filterMap (lostR b)) (putC a) b i hi
    have hl := fm_le (putC a) b i
    have hl2 : (a.filterMap (lostR b) ++ (b.take i).filterMap (putC a)).length ≤ 200 := by rw [List.length_append]; omega
    generalize a.filterMap (lostR b) ++ (b.take i).filterMap (putC a) = r at *
    have hpc : putC a b[i] = if (getR a b[i].k).2 = false ∨ (getR a b[i].k).1 ≠ b[i] then some ⟨4, b[i].k, (getR a b[i].k).1.n, b[i].n⟩ else none := rfl
    simp -implicitDefEqProofs -dsimp +contextual (maxSteps := 9999999) (disch := first | omega | simp only [go_sem] <;> omega | refine ib ?_; kernel_rfl) only [go_sem, seval, ↓reduceIte, f0, f13, f14, f15, f5, h5, hi]
    (repeat' (refine kD_intro (fun _ => ?_) (fun _ => ?_)))
    · rename_i hc1 hc2
      rw [if_neg (by simp [hc1, hc2])] at hpc
      refine ih _ _ ⟨f0, f13, f14, rfl, ?_⟩
      rw [hm, hpc]; rw [Option.toList_none, List.append_nil]; exact ⟨g5, f5, by simp [Heap.set, h5]⟩
    · rename_i hc1 hc2
      rw [if_pos (.inr hc2)] at hpc
      refine ih _ _ ⟨f0, f13, f14, rfl, ?_⟩
      rw [hm, hpc]; exact ⟨_, by simp; rfl, by simp [Heap.set, h5]; rfl⟩
    · rename_i hc1
      rw [if_pos (by left; simpa using hc1)] at hpc
      refine ih _ _ ⟨f0, f13, f14, rfl, ?_⟩
      rw [hm, hpc]; exact ⟨_, by simp; rfl, by simp [Heap.set, h5]; rfl⟩
  rintro f H ⟨f0, f13, f14, f15, ⟨g5, f5, h5⟩⟩
  rw [List.take_length] at f5 h5
  have l6 : (b.filterMap (putC a)).length ≤ 60 := Nat.le_trans (List.length_filterMap_le ..) hb
  simp -implicitDefEqProofs -dsimp +contextual (maxSteps := 9999999) (disch := first | omega | simp only [go_sem] <;> omega | refine ib ?_; kernel_rfl) only [go_sem, seval, ↓reduceIte, f0, f13, f14, f15, f5, h5]
  simp [itemsR]

end Go.Proofs.YtgbmhicpkbmeaaaDoor
namespace Go.Proofs.YtgbmhicpkbmeaaaDoor
open Go.Am
set_option linter.unusedSimpArgs false
set_option linter.unusedVariables false
set_option maxRecDepth 100000
/-! Layer 50: changes, more. -/
theorem join_1 (a : List UInt8) : Lib.join [a] [32] = a := by simp [Lib.join_cons, Lib.joinTail]
@[go_sem] theorem eJ1 (a : List UInt8) (hl : a.length ≤ 1000000000) : fn C 57 [] [.slice 1 [[.str a]], .str [32]] = some (.str a, []) := by
  have h := eJoin [a] [32] (by simp) (by rw [join_1]; omega)
  rw [join_1] at h
  exact h
@[go_sem] theorem eJ3 (a b c : List UInt8) (hl : a.length + b.length + c.length ≤ 1000000000) : fn C 57 [] [.slice 1 [[.str a], [.str b], [.str c]], .str [32]] = some (.str (a ++ [32] ++ b ++ [32] ++ c), []) := by
  have e : Lib.join [a, b, c] [32] = a ++ [32] ++ b ++ [32] ++ c := by simp [Lib.join_cons, Lib.joinTail]
  have h := eJoin [a, b, c] [32] (by simp) (by rw [e]; simp; omega)
  rw [e] at h
  exact h
@[go_sem] theorem eJ4 (a b c d : List UInt8) (hl : a.length + b.length + c.length + d.length ≤ 1000000000) : fn C 57 [] [.slice 1 [[.str a], [.str b], [.str c], [.str d]], .str [32]] = some (.str (a ++ [32] ++ b ++ [32] ++ c ++ [32] ++ d), []) := by
  have e : Lib.join [a, b, c, d] [32] = a ++ [32] ++ b ++ [32] ++ c ++ [32] ++ d := by simp [Lib.join_cons, Lib.joinTail]
  have h := eJoin [a, b, c, d] [32] (by simp) (by rw [e]; simp; omega)
  rw [e] at h
  exact h
structure Ch.ok (c : Ch) : Prop where
  what : I64 c.what
  fr : I64 c.fr
  to : I64 c.to
@[go_sem] theorem e51 (b : Bool) : fn C 51 [] [.bool b] = some (.int .i64 (if b = true then 1 else 0), []) := by
  rw [fn_text Tryd.func51 rfl rfl Tryd.results51 fq51.1 rfl rfl (by kernel_rfl)]
  cases b <;> simp -implicitDefEqProofs -dsimp +contextual (maxSteps := 9999999) (disch := first | omega | simp only [go_sem] <;> omega | refine ib ?_; kernel_rfl) only [go_sem, seval, ↓reduceIte]
@[go_sem] theorem eqCh (n n' : List UInt8) (a b c a' b' c' : Int) : eqF E.P 8 61 (.agg [.int .i64 a, .str n, .int .i64 b, .int .i64 c]) (.agg [.int .i64 a', .str n', .int .i64 b', .int .i64 c']) = some (decide (a = a' ∧ n = n' ∧ b = b' ∧ c = c')) := by
  have u1 : E.P.underlying 61 = _ := Tryd.underlying61
  have u2 : E.P.underlying 9 = _ := Tryd.underlying9
  have u3 : E.P.underlying 3 = _ := Tryd.underlying3
  have hs : E.P.stoodInHeld 61 = false := by kernel_rfl
  simp [eqF, eqGo, u1, u2, u3, hs, tq9.1, tq9.2.1, tq3.1, tq3.2.1, mkV, beq_dec, Bool.and_assoc, ← Bool.decide_and]
theorem Ch.eq_iff (x y : Ch) : x = y ↔ (x.what = y.what ∧ x.name = y.name ∧ x.fr = y.fr ∧ x.to = y.to) := by cases x; cases y; simp
@[go_sem] theorem e21 (a b : List Ch) (hl : a.length ≤ 9223372036854775807) : fn C 21 [] [.slice 4 (a.map Ch.cs), .slice 4 (b.map Ch.cs)] = some (.bool (decide (a = b)), []) := by
  rw [fn_text Tryd.func21 rfl rfl Tryd.results21 fq21.1 rfl rfl (by kernel_rfl)]
  by_cases h1 : a.length = b.length
  · simp -implicitDefEqProofs -dsimp +contextual (maxSteps := 9999999) (disch := first | omega | simp only [go_sem] <;> omega | refine ib ?_; kernel_rfl) only [go_sem, seval, ↓reduceIte, h1]
    refine kFor b.length (fun i f H => f 0 = .slice 4 (a.map Ch.cs) ∧ f 1 = .slice 4 (b.map Ch.cs) ∧ f 12 = .int .i64 b.length ∧ f 13 = .int .i64 (i : Nat) ∧ H = Heap.nil ∧ a.take i = b.take i) ?_ ?_ (by exact ⟨rfl, rfl, rfl, rfl, rfl, rfl⟩)
    · rintro i f _ hi ⟨f0, f1, f12, f5, rfl, ht⟩ ih
      have hi2 : i < a.length := by omega
      simp -implicitDefEqProofs -dsimp +contextual (maxSteps := 9999999) (disch := first | omega | simp only [go_sem] <;> omega | refine ib ?_; kernel_rfl) only [go_sem, seval, ↓reduceIte, f0, f1, f5, f12, hi, hi2]
      (repeat' (refine kD_intro (fun _ => ?_) (fun _ => ?_)))
      · rename_i he; exact ih _ _ ⟨f0, f1, f12, rfl, rfl, take_eq_step hi2 hi ht ((Ch.eq_iff _ _).2 he)⟩
      · rename_i he; exact Res_bool (by simp [take_ne hi2 hi (fun e => he ((Ch.eq_iff _ _).1 e))])
    · rintro f _ ⟨f0, f1, f12, f5, rfl, ht⟩
      simp -implicitDefEqProofs -dsimp +contextual (maxSteps := 9999999) (disch := first | omega | simp only [go_sem] <;> omega | refine ib ?_; kernel_rfl) only [go_sem, seval, ↓reduceIte, f0, f1, f5, f12]
      exact Res_bool (by simp [take_eq_end h1 (by rw [h1]; exact ht)])
  · simp -implicitDefEqProofs -dsimp +contextual (maxSteps := 9999999) (disch := first | omega | simp only [go_sem] <;> omega | refine ib ?_; kernel_rfl) only [go_sem, seval, ↓reduceIte, h1]
    exact Res_bool (by simp; intro e; exact h1 (by rw [e]))

def countC (l : List Ch) (w : Int) : Nat := l.countP fun c => decide (c.what = w)
theorem count_step (l : List Ch) (w : Int) (i : Nat) (hi : i < l.length) : countC (l.take (i + 1)) w = countC (l.take i) w + if l[i].what = w then 1 else 0 := by
  unfold countC
  rw [List.take_succ_eq_append_getElem hi, List.countP_append, List.countP_singleton]
  simp
theorem count_le (l : List Ch) (w : Int) (i : Nat) : countC (l.take i) w ≤ l.length := Nat.le_trans (List.countP_le_length ..) (by simp; omega)
@[go_sem] theorem e25 (l : List Ch) (w : Int) (hl : l.length ≤ 1000000) : fn C 25 [] [.slice 4 (l.map Ch.cs), .int .i64 w] = some (.int .i64 (countC l w : Int), []) := by
  rw [fn_text Tryd.func25 rfl rfl Tryd.results25 fq25.1 rfl rfl (by kernel_rfl)]
  simp -implicitDefEqProofs -dsimp +contextual (maxSteps := 9999999) (disch := first | omega | simp only [go_sem] <;> omega | refine ib ?_; kernel_rfl) only [go_sem, seval, ↓reduceIte]
  refine kFor l.length (fun i f H => f 1 = .int .i64 w ∧ f 8 = .slice 4 (l.map Ch.cs) ∧ f 9 = .int .i64 l.length ∧ f 10 = .int .i64 (i : Nat) ∧ f 5 = .int .i64 (countC (l.take i) w : Nat)) ?_ ?_ (by exact ⟨rfl, rfl, rfl, rfl, rfl⟩)
  · rintro i f H hi ⟨f1, f8, f9, f10, f5⟩ ih
    have hs := count_step l w i hi
    have hc := count_le l w i
    by_cases h : l[i].what = w
    · rw [if_pos h] at hs
      simp -implicitDefEqProofs -dsimp +contextual (maxSteps := 9999999) (disch := first | omega | simp only [go_sem] <;> omega | refine ib ?_; kernel_rfl) only [go_sem, seval, ↓reduceIte, f1, f8, f9, f10, f5, hi, h]
      exact ih _ _ ⟨f1, f8, f9, rfl, by rw [hs]; rfl⟩
    · rw [if_neg h] at hs
      simp -implicitDefEqProofs -dsimp +contextual (maxSteps := 9999999) (disch := first | omega | simp only [go_sem] <;> omega | refine ib ?_; kernel_rfl) only [go_sem, seval, ↓reduceIte, f1, f8, f9, f10, f5, hi, h]
      exact ih _ _ ⟨f1, f8, f9, rfl, by rw [hs]; rfl⟩
  · rintro f H ⟨f1, f8, f9, f10, f5⟩
    rw [List.take_length] at f5
    simp -implicitDefEqProofs -dsimp +contextual (maxSteps := 9999999) (disch := first | omega | simp only [go_sem] <;> omega | refine ib ?_; kernel_rfl) only [go_sem, seval, ↓reduceIte, f1, f8, f9, f10, f5]
@[go_sem] theorem e26 (l : List Ch) (w : Int) (hl : l.length ≤ 1000000) : fn C 26 [] [.slice 4 (l.map Ch.cs), .int .i64 w] = some (.int .i64 (countC l w : Int), []) := by
  rw [fn_text Tryd.func26 rfl rfl Tryd.results26 fq26.1 rfl rfl (by kernel_rfl)]
  simp -implicitDefEqProofs -dsimp +contextual (maxSteps := 9999999) (disch := first | omega | simp only [go_sem] <;> omega | refine ib ?_; kernel_rfl) only [go_sem, seval, ↓reduceIte]
  refine kFor l.length (fun i f H => f 0 = .slice 4 (l.map Ch.cs) ∧ f 1 = .int .i64 w ∧ f 6 = .int .i64 (i : Nat) ∧ f 5 = .int .i64 (countC (l.take i) w : Nat)) ?_ ?_ (by exact ⟨rfl, rfl, rfl, rfl⟩)
  · rintro i f H hi ⟨f0, f1, f6, f5⟩ ih
    have hs := count_step l w i hi
    have hc := count_le l w i
    by_cases h : l[i].what = w
    · rw [if_pos h] at hs
      simp -implicitDefEqProofs -dsimp +contextual (maxSteps := 9999999) (disch := first | omega | simp only [go_sem] <;> omega | refine ib ?_; kernel_rfl) only [go_sem, seval, ↓reduceIte, f1, f0, f6, f5, hi, h]
      exact ih _ _ ⟨f0, f1, rfl, by rw [hs]; rfl⟩
    · rw [if_neg h] at hs
      simp -implicitDefEqProofs -dsimp +contextual (maxSteps := 9999999) (disch := first | omega | simp only [go_sem] <;> omega | refine ib ?_; kernel_rfl) only [go_sem, seval, ↓reduceIte, f1, f0, f6, f5, hi, h]
      exact ih _ _ ⟨f0, f1, rfl, by rw [hs]; exact f5⟩
  · rintro f H ⟨f0, f1, f6, f5⟩
    rw [List.take_length] at f5
    simp -implicitDefEqProofs -dsimp +contextual (maxSteps := 9999999) (disch := first | omega | simp only [go_sem] <;> omega | refine ib ?_; kernel_rfl) only [go_sem, seval, ↓reduceIte, f1, f0, f6, f5]

def backC (c : Ch) : Ch := ⟨if c.what = 1 then 2 else if c.what = 2 then 1 else if c.what = 4 ∧ c.fr = 0 then 5 else if c.what = 5 then 4 else c.what, c.name, c.to, c.fr⟩
@[go_sem] theorem e55 (c : Ch) : fn C 55 [] [.agg [.int .i64 c.what, .str c.name, .int .i64 c.fr, .int .i64 c.to]] = some (.agg (backC c).cs, []) := by
  rw [fn_text Tryd.func55 rfl rfl Tryd.results55 fq55.1 rfl rfl (by kernel_rfl)]
  by_cases h1 : c.what = 1
  · simp -implicitDefEqProofs -dsimp +contextual (maxSteps := 9999999) (disch := first | omega | simp only [go_sem] <;> omega | refine ib ?_; kernel_rfl) only [go_sem, seval, ↓reduceIte, h1]; simp [backC, h1]
  by_cases h2 : c.what = 2
  · simp -implicitDefEqProofs -dsimp +contextual (maxSteps := 9999999) (disch := first | omega | simp only [go_sem] <;> omega | refine ib ?_; kernel_rfl) only [go_sem, seval, ↓reduceIte, h1, h2]; simp [backC, h2]
  by_cases h4 : c.what = 4
  · by_cases h5 : c.fr = 0
    · simp -implicitDefEqProofs -dsimp +contextual (maxSteps := 9999999) (disch := first | omega | simp only [go_sem] <;> omega | refine ib ?_; kernel_rfl) only [go_sem, seval, ↓reduceIte, h4, h5]; simp [backC, h4, h5]
    · simp -implicitDefEqProofs -dsimp +contextual (maxSteps := 9999999) (disch := first | omega | simp only [go_sem] <;> omega | refine ib ?_; kernel_rfl) only [go_sem, seval, ↓reduceIte, h4, h5]; simp [backC, h4, h5]
  by_cases h5 : c.what = 5
  · simp -implicitDefEqProofs -dsimp +contextual (maxSteps := 9999999) (disch := first | omega | simp only [go_sem] <;> omega | refine ib ?_; kernel_rfl) only [go_sem, seval, ↓reduceIte, h5]; simp [backC, h5]
  simp -implicitDefEqProofs -dsimp +contextual (maxSteps := 9999999) (disch := first | omega | simp only [go_sem] <;> omega | refine ib ?_; kernel_rfl) only [go_sem, seval, ↓reduceIte, h1, h2, h4, h5]; simp [backC, h1, h2, h4, h5]
set_option maxHeartbeats 1000000 in
@[go_sem] theorem e27 (l : List Ch) (hl : l.length ≤ 100000) : fn C 27 [] [.slice 4 (l.map Ch.cs)] = some (.slice 4 ((l.map backC).map Ch.cs), []) := by
  rw [fn_textN Tryd.func27 rfl rfl Tryd.results27 fq27.1 rfl rfl (by kernel_rfl)]
  simp -implicitDefEqProofs -dsimp +contextual (maxSteps := 9999999) (disch := first | omega | simp only [go_sem] <;> omega | refine ib ?_; kernel_rfl) only [go_sem, seval, ↓reduceIte]
  refine kFor l.length (fun i f H => f 6 = .slice 4 (l.map Ch.cs) ∧ f 7 = .int .i64 l.length ∧ f 8 = .int .i64 (i : Nat) ∧ Acc4 f H 3 103 ((l.take i).map backC)) ?_ ?_ (by exact ⟨rfl, rfl, rfl, ⟨_, rfl, rfl⟩⟩)
  · rintro i f H hi ⟨f6, f7, f8, g, f3, h3⟩ ih
    have hs : (l.take (i + 1)).map backC = (l.take i).map backC ++ [backC l[i]] := by rw [List.take_succ_eq_append_getElem hi, List.map_append]; rfl
    have hc : ((l.take i).map backC).length ≤ 100000 := by simp; omega
    generalize (l.take i).map backC = r at *
    simp -implicitDefEqProofs -dsimp +contextual (maxSteps := 9999999) (disch := first | omega | simp only [go_sem] <;> omega | refine ib ?_; kernel_rfl) only [go_sem, seval, ↓reduceIte, f6, f7, f8, f3, h3, hi]
    refine ih _ _ ⟨f6, f7, rfl, ?_⟩
    rw [hs]; exact ⟨_, by rw [List.length_append]; rfl, by rw [List.map_append]; rfl⟩
  · rintro f H ⟨f6, f7, f8, g, f3, h3⟩
    rw [List.take_length] at f3 h3
    simp -implicitDefEqProofs -dsimp +contextual (maxSteps := 9999999) (disch := first | omega | simp only [go_sem] <;> omega | refine ib ?_; kernel_rfl) only [go_sem, seval, ↓reduceIte, f6, f7, f8, f3, h3]
set_option maxHeartbeats 1000000 in
@[go_sem] theorem e28 (l : List Ch) (hl : l.length ≤ 100000) : fn C 28 [] [.slice 4 (l.map Ch.cs)] = some (.slice 4 ((l.map backC).map Ch.cs), []) := by
  rw [fn_textN Tryd.func28 rfl rfl Tryd.results28 fq28.1 rfl rfl (by kernel_rfl)]
  simp -implicitDefEqProofs -dsimp +contextual (maxSteps := 9999999) (disch := first | omega | simp only [go_sem] <;> omega | refine ib ?_; kernel_rfl) only [go_sem, seval, ↓reduceIte]
  refine kFor l.length (fun i f H => f 0 = .slice 4 (l.map Ch.cs) ∧ f 4 = .int .i64 (i : Nat) ∧ Acc4 f H 3 103 ((l.take i).map backC)) ?_ ?_ (by exact ⟨rfl, rfl, ⟨_, rfl, rfl⟩⟩)
  · rintro i f H hi ⟨f0, f4, g, f3, h3⟩ ih
    have hs : (l.take (i + 1)).map backC = (l.take i).map backC ++ [backC l[i]] := by rw [List.take_succ_eq_append_getElem hi, List.map_append]; rfl
    have hc : ((l.take i).map backC).length ≤ 100000 := by simp; omega
    generalize (l.take i).map backC = r at *
    have fin : ∀ w, backC l[i] = ⟨w, l[i].name, l[i].to, l[i].fr⟩ → Acc4 (fun k => if k = 3 then .osl 103 (g + 1) 0 (r.length + 1) else .junk) (fun k => ⟨g + 1, .live, 4, r.map Ch.cs ++ [[.int .i64 w, .str l[i].name, .int .i64 l[i].to, .int .i64 l[i].fr]], false⟩) 3 103 (r ++ [backC l[i]]) := fun w e => by
      rw [e]; exact ⟨_, by simp; rfl, by simp; rfl⟩
    by_cases h1 : l[i].what = 1
    · simp -implicitDefEqProofs -dsimp +contextual (maxSteps := 9999999) (disch := first | omega | simp only [go_sem] <;> omega | refine ib ?_; kernel_rfl) only [go_sem, seval, ↓reduceIte, f0, f4, f3, h3, hi, h1]
      refine ih _ _ ⟨f0, rfl, ?_⟩
      rw [hs]; exact fin 2 (by simp [backC, h1])
    by_cases h2 : l[i].what = 2
    · simp -implicitDefEqProofs -dsimp +contextual (maxSteps := 9999999) (disch := first | omega | simp only [go_sem] <;> omega | refine ib ?_; kernel_rfl) only [go_sem, seval, ↓reduceIte, f0, f4, f3, h3, hi, h1, h2]
      refine ih _ _ ⟨f0, rfl, ?_⟩
      rw [hs]; exact fin 1 (by simp [backC, h2])
    by_cases h4 : l[i].what = 4
    · by_cases h5 : l[i].fr = 0
      · simp -implicitDefEqProofs -dsimp +contextual (maxSteps := 9999999) (disch := first | omega | simp only [go_sem] <;> omega | refine ib ?_; kernel_rfl) only [go_sem, seval, ↓reduceIte, f0, f4, f3, h3, hi, h4, h5]
        refine ih _ _ ⟨f0, rfl, ?_⟩
        rw [hs]; have := fin 5 (by simp [backC, h4, h5]); rw [h5] at this; exact this
      · simp -implicitDefEqProofs -dsimp +contextual (maxSteps := 9999999) (disch := first | omega | simp only [go_sem] <;> omega | refine ib ?_; kernel_rfl) only [go_sem, seval, ↓reduceIte, f0, f4, f3, h3, hi, h4, h5]
        refine ih _ _ ⟨f0, rfl, ?_⟩
        rw [hs]; exact fin 4 (by simp [backC, h4, h5])
    by_cases h5 : l[i].what = 5
    · simp -implicitDefEqProofs -dsimp +contextual (maxSteps := 9999999) (disch := first | omega | simp only [go_sem] <;> omega | refine ib ?_; kernel_rfl) only [go_sem, seval, ↓reduceIte, f0, f4, f3, h3, hi, h5]
      refine ih _ _ ⟨f0, rfl, ?_⟩
      rw [hs]; exact fin 4 (by simp [backC, h5])
    simp -implicitDefEqProofs -dsimp +contextual (maxSteps := 9999999) (disch := first | omega | simp only [go_sem] <;> omega | refine ib ?_; kernel_rfl) only [go_sem, seval, ↓reduceIte, f0, f4, f3, h3, hi, h1, h2, h4, h5]
    refine ih _ _ ⟨f0, rfl, ?_⟩
    rw [hs]; exact fin _ (by simp [backC, h1, h2, h4, h5])
  · rintro f H ⟨f0, f4, g, f3, h3⟩
    rw [List.take_length] at f3 h3
    simp -implicitDefEqProofs -dsimp +contextual (maxSteps := 9999999) (disch := first | omega | simp only [go_sem] <;> omega | refine ib ?_; kernel_rfl) only [go_sem, seval, ↓reduceIte, f0, f4, f3, h3]

def textC (c : Ch) : List UInt8 := if c.what = 1 then [43, 32] ++ c.name ++ [32] ++ Lib.itoa c.to else if c.what = 2 then [45, 32] ++ c.name ++ [32] ++ Lib.itoa c.fr else
  if c.what = 3 then [61, 32] ++ c.name ++ [32] ++ Lib.itoa c.fr ++ [32] ++ Lib.itoa c.to else if c.what = 4 then [112, 117, 116, 32] ++ c.name ++ [32] ++ Lib.itoa c.fr ++ [32] ++ Lib.itoa c.to else
  if c.what = 5 then [108, 111, 115, 116, 32] ++ c.name ++ [32] ++ Lib.itoa c.fr else if c.what = 6 then [114, 101, 97, 100, 121, 32] ++ Lib.itoa c.fr ++ [32] ++ Lib.itoa c.to else [63]
set_option maxHeartbeats 1000000 in
@[go_sem] theorem e29 (c : Ch) (h : c.ok) (hn : c.name.length ≤ 1000000) : fn C 29 [] [.agg [.int .i64 c.what, .str c.name, .int .i64 c.fr, .int .i64 c.to]] = some (.str (textC c), []) := by
  rw [fn_text Tryd.func29 rfl rfl Tryd.results29 fq29.1 rfl rfl (by kernel_rfl)]
  obtain ⟨o1, o2, o3⟩ := h
  have h1 := itoa_le c.fr o2.1 o2.2
  have h2 := itoa_le c.to o3.1 o3.2
  simp -implicitDefEqProofs -dsimp +contextual (maxSteps := 9999999) (disch := first | omega | simp only [go_sem] <;> omega | refine ib ?_; kernel_rfl) only [go_sem, seval, ↓reduceIte]
  (repeat' (refine kD_intro (fun _ => ?_) (fun _ => ?_))) <;> simp [textC, *]
set_option maxHeartbeats 1000000 in
@[go_sem] theorem e30 (c : Ch) (h : c.ok) (hn : c.name.length ≤ 1000000) : fn C 30 [] [.agg [.int .i64 c.what, .str c.name, .int .i64 c.fr, .int .i64 c.to]] = some (.str (textC c), []) := by
  rw [fn_text Tryd.func30 rfl rfl Tryd.results30 fq30.1 rfl rfl (by kernel_rfl)]
  obtain ⟨o1, o2, o3⟩ := h
  have h1 := itoa_le c.fr o2.1 o2.2
  have h2 := itoa_le c.to o3.1 o3.2
  simp -implicitDefEqProofs -dsimp +contextual (maxSteps := 9999999) (disch := first | omega | simp only [go_sem] <;> omega | refine ib ?_; kernel_rfl) only [go_sem, seval, ↓reduceIte]
  (repeat' (refine kD_intro (fun _ => ?_) (fun _ => ?_))) <;> simp [textC, *]

end Go.Proofs.YtgbmhicpkbmeaaaDoor
namespace Go.Proofs.YtgbmhicpkbmeaaaDoor
open Go.Am
set_option linter.unusedSimpArgs false
set_option linter.unusedVariables false
set_option maxRecDepth 100000
/-! Layer 50: how two nodes differ. -/
set_option maxHeartbeats 2000000 in
@[go_sem] theorem e22 (a b : Nd) (ha : a.small) (hb : b.small) : fn C 22 [] [.agg [.str a.me.name, .int .u64 (a.me.id : Int), .int .i64 a.me.fr, .int .i64 a.me.un, .int .i64 a.me.ix, .str a.me.tag, .int .i64 a.clock, .str a.psk, .int .i64 a.gateI, .str a.gateK, .bool a.ready, .slice 8 (a.pred.map Pr.cs), .slice 8 (a.list.map Pr.cs), .slice 9 (a.fingers.map Fg.cs), .slice 20 (a.sessions.map Se.cs), .slice 23 (a.pends.map Pd.cs), .slice 4 (a.items.map It.cs), .slice 29 (a.jobs.map Jb.cs), .int .i64 a.rid, .int .i64 a.jobId, .slice 1 (a.draws.map u64Row), .slice 8 (a.results.map Rs.cs)], .agg [.str b.me.name, .int .u64 (b.me.id : Int), .int .i64 b.me.fr, .int .i64 b.me.un, .int .i64 b.me.ix, .str b.me.tag, .int .i64 b.clock, .str b.psk, .int .i64 b.gateI, .str b.gateK, .bool b.ready, .slice 8 (b.pred.map Pr.cs), .slice 8 (b.list.map Pr.cs), .slice 9 (b.fingers.map Fg.cs), .slice 20 (b.sessions.map Se.cs), .slice 23 (b.pends.map Pd.cs), .slice 4 (b.items.map It.cs), .slice 29 (b.jobs.map Jb.cs), .int .i64 b.rid, .int .i64 b.jobId, .slice 1 (b.draws.map u64Row), .slice 8 (b.results.map Rs.cs)]] = some (.slice 4 ((betweenR a b).map Ch.cs), []) := by
  rw [fn_text Tryd.func22 rfl rfl Tryd.results22 fq22.1 rfl rfl (by kernel_rfl)]
  have a1 := ha.ll; have a2 := ha.il; have b1 := hb.ll; have b2 := hb.il
  have l1 := listsR_len a.list b.list
  have l2 := itemsR_len a.items b.items
  by_cases h : a.ready = b.ready
  · simp -implicitDefEqProofs -dsimp +contextual (maxSteps := 9999999) (disch := first | omega | simp only [go_sem] <;> omega | refine ib ?_; kernel_rfl) only [go_sem, seval, ↓reduceIte, l1, l2, h]
    simp [betweenR, stateR, h]
  · simp -implicitDefEqProofs -dsimp +contextual (maxSteps := 9999999) (disch := first | omega | simp only [go_sem] <;> omega | refine ib ?_; kernel_rfl) only [go_sem, seval, ↓reduceIte, l1, l2, h]
    cases ha' : a.ready <;> cases hb' : b.ready <;> simp [betweenR, stateR, ha', hb'] <;> first | rfl | (exact absurd (ha'.trans hb'.symm) h)
set_option maxHeartbeats 8000000 in
@[go_sem] theorem e23 (a b : Nd) (ha : a.small) (hb : b.small) : fn C 23 [] [.agg [.str a.me.name, .int .u64 (a.me.id : Int), .int .i64 a.me.fr, .int .i64 a.me.un, .int .i64 a.me.ix, .str a.me.tag, .int .i64 a.clock, .str a.psk, .int .i64 a.gateI, .str a.gateK, .bool a.ready, .slice 8 (a.pred.map Pr.cs), .slice 8 (a.list.map Pr.cs), .slice 9 (a.fingers.map Fg.cs), .slice 20 (a.sessions.map Se.cs), .slice 23 (a.pends.map Pd.cs), .slice 4 (a.items.map It.cs), .slice 29 (a.jobs.map Jb.cs), .int .i64 a.rid, .int .i64 a.jobId, .slice 1 (a.draws.map u64Row), .slice 8 (a.results.map Rs.cs)], .agg [.str b.me.name, .int .u64 (b.me.id : Int), .int .i64 b.me.fr, .int .i64 b.me.un, .int .i64 b.me.ix, .str b.me.tag, .int .i64 b.clock, .str b.psk, .int .i64 b.gateI, .str b.gateK, .bool b.ready, .slice 8 (b.pred.map Pr.cs), .slice 8 (b.list.map Pr.cs), .slice 9 (b.fingers.map Fg.cs), .slice 20 (b.sessions.map Se.cs), .slice 23 (b.pends.map Pd.cs), .slice 4 (b.items.map It.cs), .slice 29 (b.jobs.map Jb.cs), .int .i64 b.rid, .int .i64 b.jobId, .slice 1 (b.draws.map u64Row), .slice 8 (b.results.map Rs.cs)]] = some (.slice 4 ((betweenR a b).map Ch.cs), []) := by
  rw [fn_textN Tryd.func23 rfl rfl Tryd.results23 fq23.1 rfl rfl (by kernel_rfl)]
  have a1 := ha.ll; have a2 := ha.il; have b1 := hb.ll; have b2 := hb.il
  simp -implicitDefEqProofs -dsimp +contextual (maxSteps := 9999999) (disch := first | omega | simp only [go_sem] <;> omega | refine ib ?_; kernel_rfl) only [go_sem, seval, ↓reduceIte]
  refine kFor a.list.length (fun i f H => f 2 = .ptr 102 1 0 0 ∧ f 3 = .ptr 103 1 0 0 ∧ H 102 = ⟨1, .live, 22, [a.cs], false⟩ ∧ H 103 = ⟨1, .live, 22, [b.cs], false⟩ ∧ f 6 = .int .i64 (i : Nat) ∧ Acc4 f H 5 105 ([] ++ (a.list.take i).filterMap (wentR b.list))) ?_ ?_ (by refine ⟨rfl, rfl, rfl, rfl, rfl, ?_⟩; exact ⟨_, rfl, rfl⟩)
  · rintro i f H hi ⟨f2, f3, hA, hB, fi, ⟨g5, f5, h5⟩⟩ ih
    have hm := more_opt ([]) (wentR b.list) a.list i hi
    have hl : ([] ++ (a.list.take i).filterMap (wentR b.list)).length ≤ 1000 := by
      have q1 := fm_le (wentR b.list) a.list i
      simp only [List.length_append, List.length_nil]; omega
    generalize [] ++ (a.list.take i).filterMap (wentR b.list) = r at *
    by_cases hc : placeG (prN a.list[i].e.name) b.list < 0
    · have hv : wentR b.list a.list[i] = some ⟨2, a.list[i].e.name, a.list[i].e.ix, 0⟩ := if_pos hc
      simp -implicitDefEqProofs -dsimp +contextual (maxSteps := 9999999) (disch := first | omega | simp only [go_sem] <;> omega | refine ib ?_; kernel_rfl) only [go_sem, seval, ↓reduceIte, f2, f3, fi, f5, hA, hB, h5, hi, Nd.cs, hc]
      refine ih _ _ ⟨f2, f3, by simp [Heap.set, hA, Nd.cs], by simp [Heap.set, hB, Nd.cs], rfl, ?_⟩
      rw [hm, hv]; exact ⟨_, by simp; rfl, by simp [Heap.set, h5]; rfl⟩
    · have hv : wentR b.list a.list[i] = none := if_neg hc
      simp -implicitDefEqProofs -dsimp +contextual (maxSteps := 9999999) (disch := first | omega | simp only [go_sem] <;> omega | refine ib ?_; kernel_rfl) only [go_sem, seval, ↓reduceIte, f2, f3, fi, f5, hA, hB, h5, hi, Nd.cs, hc]
      refine ih _ _ ⟨f2, f3, by simp [Heap.set, hA, Nd.cs], by simp [Heap.set, hB, Nd.cs], rfl, ?_⟩
      rw [hm, hv, Option.toList_none, List.append_nil]; exact ⟨g5, f5, by simp [Heap.set, h5]⟩
  rintro f H ⟨f2, f3, hA, hB, fi, ⟨g5, f5, h5⟩⟩
  rw [List.take_length] at f5 h5
  simp -implicitDefEqProofs -dsimp +contextual (maxSteps := 9999999) (disch := first | omega | simp only [go_sem] <;> omega | refine ib ?_; kernel_rfl) only [go_sem, seval, ↓reduceIte, f2, f3, fi, f5, hA, hB, h5, Nd.cs]
  refine kFor b.list.length (fun i f H => f 2 = .ptr 102 1 0 0 ∧ f 3 = .ptr 103 1 0 0 ∧ H 102 = ⟨1, .live, 22, [a.cs], false⟩ ∧ H 103 = ⟨1, .live, 22, [b.cs], false⟩ ∧ f 8 = .int .i64 (i : Nat) ∧ Acc4 f H 5 105 ([] ++ a.list.filterMap (wentR b.list) ++ (b.list.take i).filterMap (cameR a.list))) ?_ ?_ (by refine ⟨f2, f3, hA, hB, rfl, ?_⟩; rw [List.take_zero, List.filterMap_nil, List.append_nil]; exact ⟨g5, f5, h5⟩)
  · rintro i f H hi ⟨f2, f3, hA, hB, fi, ⟨g5, f5, h5⟩⟩ ih
    have hm := more_opt ([] ++ a.list.filterMap (wentR b.list)) (cameR a.list) b.list i hi
    have hl : ([] ++ a.list.filterMap (wentR b.list) ++ (b.list.take i).filterMap (cameR a.list)).length ≤ 1000 := by
      have q1 := fm_le (cameR a.list) b.list i
      have p0 := List.length_filterMap_le (wentR b.list) a.list
      simp only [List.length_append, List.length_nil]; omega
    generalize [] ++ a.list.filterMap (wentR b.list) ++ (b.list.take i).filterMap (cameR a.list) = r at *
    by_cases hc : placeG (prN b.list[i].e.name) a.list < 0
    · have hv : cameR a.list b.list[i] = some ⟨1, b.list[i].e.name, 0, b.list[i].e.ix⟩ := if_pos hc
      simp -implicitDefEqProofs -dsimp +contextual (maxSteps := 9999999) (disch := first | omega | simp only [go_sem] <;> omega | refine ib ?_; kernel_rfl) only [go_sem, seval, ↓reduceIte, f2, f3, fi, f5, hA, hB, h5, hi, Nd.cs, hc]
      refine ih _ _ ⟨f2, f3, by simp [Heap.set, hA, Nd.cs], by simp [Heap.set, hB, Nd.cs], rfl, ?_⟩
      rw [hm, hv]; exact ⟨_, by simp; rfl, by simp [Heap.set, h5]; rfl⟩
    · have hv : cameR a.list b.list[i] = none := if_neg hc
      simp -implicitDefEqProofs -dsimp +contextual (maxSteps := 9999999) (disch := first | omega | simp only [go_sem] <;> omega | refine ib ?_; kernel_rfl) only [go_sem, seval, ↓reduceIte, f2, f3, fi, f5, hA, hB, h5, hi, Nd.cs, hc]
      refine ih _ _ ⟨f2, f3, by simp [Heap.set, hA, Nd.cs], by simp [Heap.set, hB, Nd.cs], rfl, ?_⟩
      rw [hm, hv, Option.toList_none, List.append_nil]; exact ⟨g5, f5, by simp [Heap.set, h5]⟩
  rintro f H ⟨f2, f3, hA, hB, fi, ⟨g5, f5, h5⟩⟩
  rw [List.take_length] at f5 h5
  simp -implicitDefEqProofs -dsimp +contextual (maxSteps := 9999999) (disch := first | omega | simp only [go_sem] <;> omega | refine ib ?_; kernel_rfl) only [go_sem, seval, ↓reduceIte, f2, f3, fi, f5, hA, hB, h5, Nd.cs]
  refine kFor b.list.length (fun i f H => f 2 = .ptr 102 1 0 0 ∧ f 3 = .ptr 103 1 0 0 ∧ H 102 = ⟨1, .live, 22, [a.cs], false⟩ ∧ H 103 = ⟨1, .live, 22, [b.cs], false⟩ ∧ f 10 = .int .i64 (i : Nat) ∧ Acc4 f H 5 105 ([] ++ a.list.filterMap (wentR b.list) ++ b.list.filterMap (cameR a.list) ++ (b.list.take i).filterMap (turnR a.list))) ?_ ?_ (by refine ⟨f2, f3, hA, hB, rfl, ?_⟩; rw [List.take_zero, List.filterMap_nil, List.append_nil]; exact ⟨g5, f5, h5⟩)
  · rintro i f H hi ⟨f2, f3, hA, hB, fi, ⟨g5, f5, h5⟩⟩ ih
    have hm := more_opt ([] ++ a.list.filterMap (wentR b.list) ++ b.list.filterMap (cameR a.list)) (turnR a.list) b.list i hi
    have hl : ([] ++ a.list.filterMap (wentR b.list) ++ b.list.filterMap (cameR a.list) ++ (b.list.take i).filterMap (turnR a.list)).length ≤ 1000 := by
      have q1 := fm_le (turnR a.list) b.list i
      have p0 := List.length_filterMap_le (wentR b.list) a.list
      have p1 := List.length_filterMap_le (cameR a.list) b.list
      simp only [List.length_append, List.length_nil]; omega
    generalize [] ++ a.list.filterMap (wentR b.list) ++ b.list.filterMap (cameR a.list) ++ (b.list.take i).filterMap (turnR a.list) = r at *
    rcases placeG_cases (prN b.list[i].e.name) a.list with ⟨j, hj, hq, hn, hp⟩ | ⟨hn, hp⟩
    · by_cases he : a.list[j].e = b.list[i].e
      · have hv : turnR a.list b.list[i] = none := by simp [turnR, hp, hj, he]
        have he2 := (En.eq_iff _ _).1 he
        simp -implicitDefEqProofs -dsimp +contextual (maxSteps := 9999999) (disch := first | omega | simp only [go_sem] <;> omega | refine ib ?_; kernel_rfl) only [go_sem, seval, ↓reduceIte, f2, f3, fi, f5, hA, hB, h5, hi, Nd.cs, hp, hj, he2]
        refine ih _ _ ⟨f2, f3, by simp [Heap.set, hA, Nd.cs], by simp [Heap.set, hB, Nd.cs], rfl, ?_⟩
        rw [hm, hv, Option.toList_none, List.append_nil]; exact ⟨g5, f5, by simp [Heap.set, h5]⟩
      · have hv : turnR a.list b.list[i] = some ⟨3, b.list[i].e.name, a.list[j].e.ix, b.list[i].e.ix⟩ := by simp [turnR, hp, hj, he]
        have he2 := fun e => he ((En.eq_iff _ _).2 e)
        simp -implicitDefEqProofs -dsimp +contextual (maxSteps := 9999999) (disch := first | omega | simp only [go_sem] <;> omega | refine ib ?_; kernel_rfl) only [go_sem, seval, ↓reduceIte, f2, f3, fi, f5, hA, hB, h5, hi, Nd.cs, hp, hj, he2]
        refine ih _ _ ⟨f2, f3, by simp [Heap.set, hA, Nd.cs], by simp [Heap.set, hB, Nd.cs], rfl, ?_⟩
        rw [hm, hv]; exact ⟨_, by simp; rfl, by simp [Heap.set, h5]; rfl⟩
    · have hv : turnR a.list b.list[i] = none := by simp only [turnR, hp]; split <;> simp
      simp -implicitDefEqProofs -dsimp +contextual (maxSteps := 9999999) (disch := first | omega | simp only [go_sem] <;> omega | refine ib ?_; kernel_rfl) only [go_sem, seval, ↓reduceIte, f2, f3, fi, f5, hA, hB, h5, hi, Nd.cs, hp]
      refine ih _ _ ⟨f2, f3, by simp [Heap.set, hA, Nd.cs], by simp [Heap.set, hB, Nd.cs], rfl, ?_⟩
      rw [hm, hv, Option.toList_none, List.append_nil]; exact ⟨g5, f5, by simp [Heap.set, h5]⟩
  rintro f H ⟨f2, f3, hA, hB, fi, ⟨g5, f5, h5⟩⟩
  rw [List.take_length] at f5 h5
  simp -implicitDefEqProofs -dsimp +contextual (maxSteps := 9999999) (disch := first | omega | simp only [go_sem] <;> omega | refine ib ?_; kernel_rfl) only [go_sem, seval, ↓reduceIte, f2, f3, fi, f5, hA, hB, h5, Nd.cs]
  refine kFor a.items.length (fun i f H => f 2 = .ptr 102 1 0 0 ∧ f 3 = .ptr 103 1 0 0 ∧ H 102 = ⟨1, .live, 22, [a.cs], false⟩ ∧ H 103 = ⟨1, .live, 22, [b.cs], false⟩ ∧ f 13 = .int .i64 (i : Nat) ∧ Acc4 f H 5 105 ([] ++ a.list.filterMap (wentR b.list) ++ b.list.filterMap (cameR a.list) ++ b.list.filterMap (turnR a.list) ++ (a.items.take i).filterMap (lostR b.items))) ?_ ?_ (by refine ⟨f2, f3, hA, hB, rfl, ?_⟩; rw [List.take_zero, List.filterMap_nil, List.append_nil]; exact ⟨g5, f5, h5⟩)
  · rintro i f H hi ⟨f2, f3, hA, hB, fi, ⟨g5, f5, h5⟩⟩ ih
    have hm := more_opt ([] ++ a.list.filterMap (wentR b.list) ++ b.list.filterMap (cameR a.list) ++ b.list.filterMap (turnR a.list)) (lostR b.items) a.items i hi
    have hl : ([] ++ a.list.filterMap (wentR b.list) ++ b.list.filterMap (cameR a.list) ++ b.list.filterMap (turnR a.list) ++ (a.items.take i).filterMap (lostR b.items)).length ≤ 1000 := by
      have q1 := fm_le (lostR b.items) a.items i
      have p0 := List.length_filterMap_le (wentR b.list) a.list
      have p1 := List.length_filterMap_le (cameR a.list) b.list
      have p2 := List.length_filterMap_le (turnR a.list) b.list
      simp only [List.length_append, List.length_nil]; omega
    generalize [] ++ a.list.filterMap (wentR b.list) ++ b.list.filterMap (cameR a.list) ++ b.list.filterMap (turnR a.list) ++ (a.items.take i).filterMap (lostR b.items) = r at *
    by_cases hc : placeR b.items a.items[i].k < 0
    · have hv : lostR b.items a.items[i] = some ⟨5, a.items[i].k, a.items[i].n, 0⟩ := if_pos hc
      simp -implicitDefEqProofs -dsimp +contextual (maxSteps := 9999999) (disch := first | omega | simp only [go_sem] <;> omega | refine ib ?_; kernel_rfl) only [go_sem, seval, ↓reduceIte, f2, f3, fi, f5, hA, hB, h5, hi, Nd.cs, hc]
      refine ih _ _ ⟨f2, f3, by simp [Heap.set, hA, Nd.cs], by simp [Heap.set, hB, Nd.cs], rfl, ?_⟩
      rw [hm, hv]; exact ⟨_, by simp; rfl, by simp [Heap.set, h5]; rfl⟩
    · have hv : lostR b.items a.items[i] = none := if_neg hc
      simp -implicitDefEqProofs -dsimp +contextual (maxSteps := 9999999) (disch := first | omega | simp only [go_sem] <;> omega | refine ib ?_; kernel_rfl) only [go_sem, seval, ↓reduceIte, f2, f3, fi, f5, hA, hB, h5, hi, Nd.cs, hc]
      refine ih _ _ ⟨f2, f3, by simp [Heap.set, hA, Nd.cs], by simp [Heap.set, hB, Nd.cs], rfl, ?_⟩
      rw [hm, hv, Option.toList_none, List.append_nil]; exact ⟨g5, f5, by simp [Heap.set, h5]⟩
  rintro f H ⟨f2, f3, hA, hB, fi, ⟨g5, f5, h5⟩⟩
  rw [List.take_length] at f5 h5
  simp -implicitDefEqProofs -dsimp +contextual (maxSteps := 9999999) (disch := first | omega | simp only [go_sem] <;> omega | refine ib ?_; kernel_rfl) only [go_sem, seval, ↓reduceIte, f2, f3, fi, f5, hA, hB, h5, Nd.cs]
  refine kFor b.items.length (fun i f H => f 2 = .ptr 102 1 0 0 ∧ f 3 = .ptr 103 1 0 0 ∧ H 102 = ⟨1, .live, 22, [a.cs], false⟩ ∧ H 103 = ⟨1, .live, 22, [b.cs], false⟩ ∧ f 14 = .int .i64 (i : Nat) ∧ Acc4 f H 5 105 ([] ++ a.list.filterMap (wentR b.list) ++ b.list.filterMap (cameR a.list) ++ b.list.filterMap (turnR a.list) ++ a.items.filterMap (lostR b.items) ++ (b.items.take i).filterMap (putC a.items))) ?_ ?_ (by refine ⟨f2, f3, hA, hB, rfl, ?_⟩; rw [List.take_zero, List.filterMap_nil, List.append_nil]; exact ⟨g5, f5, h5⟩)
  · rintro i f H hi ⟨f2, f3, hA, hB, fi, ⟨g5, f5, h5⟩⟩ ih
    have hm := more_opt ([] ++ a.list.filterMap (wentR b.list) ++ b.list.filterMap (cameR a.list) ++ b.list.filterMap (turnR a.list) ++ a.items.filterMap (lostR b.items)) (putC a.items) b.items i hi
    have hl : ([] ++ a.list.filterMap (wentR b.list) ++ b.list.filterMap (cameR a.list) ++ b.list.filterMap (turnR a.list) ++ a.items.filterMap (lostR b.items) ++ (b.items.take i).filterMap (putC a.items)).length ≤ 1000 := by
      have q1 := fm_le (putC a.items) b.items i
      have p0 := List.length_filterMap_le (wentR b.list) a.list
      have p1 := List.length_filterMap_le (cameR a.list) b.list
      have p2 := List.length_filterMap_le (turnR a.list) b.list
      have p3 := List.length_filterMap_le (lostR b.items) a.items
      simp only [List.length_append, List.length_nil]; omega
    generalize [] ++ a.list.filterMap (wentR b.list) ++ b.list.filterMap (cameR a.list) ++ b.list.filterMap (turnR a.list) ++ a.items.filterMap (lostR b.items) ++ (b.items.take i).filterMap (putC a.items) = r at *
    have hpc : putC a.items b.items[i] = if (getR a.items b.items[i].k).2 = false ∨ (getR a.items b.items[i].k).1 ≠ b.items[i] then some ⟨4, b.items[i].k, (getR a.items b.items[i].k).1.n, b.items[i].n⟩ else none := rfl
    simp -implicitDefEqProofs -dsimp +contextual (maxSteps := 9999999) (disch := first | omega | simp only [go_sem] <;> omega | refine ib ?_; kernel_rfl) only [go_sem, seval, ↓reduceIte, f2, f3, fi, f5, hA, hB, h5, hi, Nd.cs]
    (repeat' (refine kD_intro (fun _ => ?_) (fun _ => ?_)))
    · rename_i hc1 hc2
      have hv := hpc.trans (if_neg (by simp [hc1, hc2]))
      refine ih _ _ ⟨f2, f3, by simp [Heap.set, hA, Nd.cs], by simp [Heap.set, hB, Nd.cs], rfl, ?_⟩
      rw [hm, hv, Option.toList_none, List.append_nil]; exact ⟨g5, f5, by simp [Heap.set, h5]⟩
    · rename_i hc1 hc2
      have hv := hpc.trans (if_pos (.inr hc2))
      refine ih _ _ ⟨f2, f3, by simp [Heap.set, hA, Nd.cs], by simp [Heap.set, hB, Nd.cs], rfl, ?_⟩
      rw [hm, hv]; exact ⟨_, by simp; rfl, by simp [Heap.set, h5]; rfl⟩
    · rename_i hc1
      have hv := hpc.trans (if_pos (by left; simpa using hc1))
      refine ih _ _ ⟨f2, f3, by simp [Heap.set, hA, Nd.cs], by simp [Heap.set, hB, Nd.cs], rfl, ?_⟩
      rw [hm, hv]; exact ⟨_, by simp; rfl, by simp [Heap.set, h5]; rfl⟩
  rintro f H ⟨f2, f3, hA, hB, fi, ⟨g5, f5, h5⟩⟩
  rw [List.take_length] at f5 h5
  have hl : ([] ++ a.list.filterMap (wentR b.list) ++ b.list.filterMap (cameR a.list) ++ b.list.filterMap (turnR a.list) ++ a.items.filterMap (lostR b.items) ++ b.items.filterMap (putC a.items)).length ≤ 1000 := by
    have p0 := List.length_filterMap_le (wentR b.list) a.list
    have p1 := List.length_filterMap_le (cameR a.list) b.list
    have p2 := List.length_filterMap_le (turnR a.list) b.list
    have p3 := List.length_filterMap_le (lostR b.items) a.items
    have p4 := List.length_filterMap_le (putC a.items) b.items
    simp only [List.length_append, List.length_nil]; omega
  have e : betweenR a b = [] ++ a.list.filterMap (wentR b.list) ++ b.list.filterMap (cameR a.list) ++ b.list.filterMap (turnR a.list) ++ a.items.filterMap (lostR b.items) ++ b.items.filterMap (putC a.items) ++ stateR a.ready b.ready := by simp [betweenR, listsR, itemsR]
  rw [e]
  generalize [] ++ a.list.filterMap (wentR b.list) ++ b.list.filterMap (cameR a.list) ++ b.list.filterMap (turnR a.list) ++ a.items.filterMap (lostR b.items) ++ b.items.filterMap (putC a.items) = r at *
  cases ha' : a.ready <;> cases hb' : b.ready
  · simp -implicitDefEqProofs -dsimp +contextual (maxSteps := 9999999) (disch := first | omega | simp only [go_sem] <;> omega | refine ib ?_; kernel_rfl) only [go_sem, seval, ↓reduceIte, f2, f3, fi, f5, hA, hB, h5, Nd.cs, ha', hb']
    simp [stateR]
  · simp -implicitDefEqProofs -dsimp +contextual (maxSteps := 9999999) (disch := first | omega | simp only [go_sem] <;> omega | refine ib ?_; kernel_rfl) only [go_sem, seval, ↓reduceIte, f2, f3, fi, f5, hA, hB, h5, Nd.cs, ha', hb']
    simp [stateR]; rfl
  · simp -implicitDefEqProofs -dsimp +contextual (maxSteps := 9999999) (disch := first | omega | simp only [go_sem] <;> omega | refine ib ?_; kernel_rfl) only [go_sem, seval, ↓reduceIte, f2, f3, fi, f5, hA, hB, h5, Nd.cs, ha', hb']
    simp [stateR]; rfl
  · simp -implicitDefEqProofs -dsimp +contextual (maxSteps := 9999999) (disch := first | omega | simp only [go_sem] <;> omega | refine ib ?_; kernel_rfl) only [go_sem, seval, ↓reduceIte, f2, f3, fi, f5, hA, hB, h5, Nd.cs, ha', hb']
    simp [stateR]

end Go.Proofs.YtgbmhicpkbmeaaaDoor
namespace Go.Proofs.YtgbmhicpkbmeaaaDoor
open Go.Am
set_option linter.unusedSimpArgs false
set_option linter.unusedVariables false
set_option maxRecDepth 100000
/-! Layer 50: the plain laws. -/
theorem beforeP {me : En} {l : List Pr} (h : RightP me l) {j : Nat} (hj : j < l.length) : ∀ i (hi : i < l.length), i < j → l[i].e.name ≠ l[j].e.name := by
  intro i hi hij hn
  have h1 := h.1 j hj
  simp only [rightAt, Bool.and_eq_true, decide_eq_true_eq] at h1
  rcases placeG_cases (prN l[j].e.name) l with ⟨k, hk, _, hno, hp⟩ | ⟨hno, hp⟩
  · have : (k : Int) = j := by rw [← hp]; exact h1.1.2
    obtain rfl : k = j := by omega
    have := any_mem hno l[i] (by rw [List.mem_take_iff_getElem]; exact ⟨i, by omega, rfl⟩)
    simp only [prN, decide_eq_false_iff_not] at this
    exact this hn
  · have := h1.1.2; rw [hp] at this; omega
/-- No two of one name. -/
def Unl (l : List Pr) : Prop := l.Pairwise fun p q => p.e.name ≠ q.e.name
theorem unl_of {me : En} {l : List Pr} (h : RightP me l) : Unl l := by
  rw [Unl, List.pairwise_iff_getElem]
  intro i j hi hj hij
  exact beforeP h hj i hi hij
theorem place_of {me : En} {l : List Pr} (h : RightP me l) (j : Nat) (hj : j < l.length) : placeG (prN l[j].e.name) l = j := by
  have h1 := h.1 j hj
  simp only [rightAt, Bool.and_eq_true, decide_eq_true_eq] at h1
  exact h1.1.2
theorem lists_self {me : En} {l : List Pr} (h : RightP me l) : listsR l l = [] := by
  have hp : ∀ p ∈ l, 0 ≤ placeG (prN p.e.name) l ∧ turnR l p = none := by
    intro p hm
    obtain ⟨j, hj, rfl⟩ := List.getElem_of_mem hm
    have := place_of h j hj
    exact ⟨by rw [this]; omega, by simp [turnR, this, hj]⟩
  have e1 : l.filterMap (wentR l) = [] := by
    rw [List.filterMap_eq_nil_iff]; intro p hm; have := (hp p hm).1; simp [wentR]; omega
  have e2 : l.filterMap (cameR l) = [] := by
    rw [List.filterMap_eq_nil_iff]; intro p hm; have := (hp p hm).1; simp [cameR]; omega
  have e3 : l.filterMap (turnR l) = [] := by
    rw [List.filterMap_eq_nil_iff]; intro p hm; exact (hp p hm).2
  simp [listsR, e1, e2, e3]
theorem items_self {l : List It} (h : rightR l = true) : itemsR l l = [] := by
  have hs := ((right_iff l).1 h).2.1
  have e1 : l.filterMap (lostR l) = [] := by
    rw [List.filterMap_eq_nil_iff]; intro x hm
    rcases place_cases l x.k with ⟨j, hj, _, _, hp, _⟩ | ⟨hn, hp, hg⟩
    · simp [lostR, hp] <;> omega
    · rw [getR_mem hs hm] at hg; simp at hg
  have e2 : l.filterMap (putC l) = [] := by
    rw [List.filterMap_eq_nil_iff]; intro x hm
    simp [putC, getR_mem hs hm]
  simp [itemsR, e1, e2]
theorem count_app (a b : List Ch) (w : Int) : countC (a ++ b) w = countC a w + countC b w := by simp [countC]
theorem count_fm {α : Type} (g : α → Option Ch) (w0 w : Int) (h : ∀ x c, g x = some c → c.what = w0) (l : List α) : countC (l.filterMap g) w = if w0 = w then (l.filterMap g).length else 0 := by
  unfold countC
  split
  · rename_i e; subst e
    rw [List.countP_eq_length]
    intro c hc
    rw [List.mem_filterMap] at hc
    obtain ⟨x, _, hx⟩ := hc
    simpa using h x c hx
  · rename_i e
    rw [List.countP_eq_zero]
    intro c hc
    rw [List.mem_filterMap] at hc
    obtain ⟨x, _, hx⟩ := hc
    simp only [decide_eq_true_eq]
    rw [h x c hx]; exact e
theorem went_what (b : List Pr) (p : Pr) (c : Ch) (h : wentR b p = some c) : c.what = 2 := by
  unfold wentR at h; split at h
  · cases h; rfl
  · cases h
theorem came_what (b : List Pr) (p : Pr) (c : Ch) (h : cameR b p = some c) : c.what = 1 := by
  unfold cameR at h; split at h
  · cases h; rfl
  · cases h
theorem turn_what (b : List Pr) (p : Pr) (c : Ch) (h : turnR b p = some c) : c.what = 3 := by
  unfold turnR at h; split at h
  · split at h
    · cases h; rfl
    · cases h
  · cases h
theorem lost_what (b : List It) (p : It) (c : Ch) (h : lostR b p = some c) : c.what = 5 := by
  unfold lostR at h; split at h
  · cases h; rfl
  · cases h
theorem put_what (b : List It) (p : It) (c : Ch) (h : putC b p = some c) : c.what = 4 := by
  unfold putC at h; split at h
  · cases h; rfl
  · cases h
theorem count_state (a b : Bool) (w : Int) : countC (stateR a b) w = if a ≠ b ∧ w = 6 then 1 else 0 := by
  cases a <;> cases b <;> simp [stateR, countC, eq_comm]
theorem count_between (a b : Nd) (w : Int) : countC (betweenR a b) w = (if 2 = w then (a.list.filterMap (wentR b.list)).length else 0) + (if 1 = w then (b.list.filterMap (cameR a.list)).length else 0) + (if 3 = w then (b.list.filterMap (turnR a.list)).length else 0) +
    ((if 5 = w then (a.items.filterMap (lostR b.items)).length else 0) + (if 4 = w then (b.items.filterMap (putC a.items)).length else 0)) + (if a.ready ≠ b.ready ∧ w = 6 then 1 else 0) := by
  simp only [betweenR, listsR, itemsR, count_app, count_state, count_fm _ 2 w (went_what _), count_fm _ 1 w (came_what _), count_fm _ 3 w (turn_what _), count_fm _ 5 w (lost_what _), count_fm _ 4 w (put_what _)]
theorem went_came (a b : List Pr) : (a.filterMap (wentR b)).length = (a.filterMap (cameR b)).length := by
  induction a with
  | nil => rfl
  | cons p a ih =>
    by_cases h : placeG (prN p.e.name) b < 0
    · have e1 : wentR b p = some ⟨2, p.e.name, p.e.ix, 0⟩ := if_pos h
      have e2 : cameR b p = some ⟨1, p.e.name, 0, p.e.ix⟩ := if_pos h
      rw [List.filterMap_cons_some e1, List.filterMap_cons_some e2, List.length_cons, List.length_cons, ih]
    · have e1 : wentR b p = none := if_neg h
      have e2 : cameR b p = none := if_neg h
      rw [List.filterMap_cons_none e1, List.filterMap_cons_none e2, ih]
def turned (p q : Pr) : Bool := decide (p.e.name = q.e.name) && !decide (p.e = q.e)
theorem turned_comm (p q : Pr) : turned p q = turned q p := by unfold turned; rw [decide_eq_decide.2 (eq_comm (a := p.e.name)), decide_eq_decide.2 (eq_comm (a := p.e))]
theorem turn_one (l : List Pr) (h : Unl l) (q : Pr) : l.countP (fun p => turned p q) = if (turnR l q).isSome = true then 1 else 0 := by
  rcases placeG_cases (prN q.e.name) l with ⟨j, hj, hq, hno, hp⟩ | ⟨hno, hp⟩
  · have hname : l[j].e.name = q.e.name := by simpa [prN] using hq
    have hothers : ∀ p ∈ l.take j ++ l.drop (j + 1), turned p q = false := by
      intro p hm
      rw [List.mem_append] at hm
      rcases hm with hm | hm
      · have := any_mem hno p hm
        simp only [prN, decide_eq_false_iff_not] at this
        simp [turned, this]
      · rw [List.mem_drop_iff_getElem] at hm
        obtain ⟨k, hk, rfl⟩ := hm
        rw [Unl, List.pairwise_iff_getElem] at h
        have := h j (j + 1 + k) hj (by omega) (by omega)
        rw [hname] at this
        simp [turned, Ne.symm this]
    have hl : l = l.take j ++ l[j] :: l.drop (j + 1) := by rw [← List.drop_eq_getElem_cons hj, List.take_append_drop]
    have e1 : (l.take j).countP (fun p => turned p q) = 0 := List.countP_eq_zero.2 fun p hm => by rw [hothers p (List.mem_append_left _ hm)]; simp
    have e2 : (l.drop (j + 1)).countP (fun p => turned p q) = 0 := List.countP_eq_zero.2 fun p hm => by rw [hothers p (List.mem_append_right _ hm)]; simp
    have e3 : l.countP (fun p => turned p q) = (l.take j).countP (fun p => turned p q) + ((if turned l[j] q = true then 1 else 0) + (l.drop (j + 1)).countP (fun p => turned p q)) := by
      conv => lhs; rw [hl]
      rw [List.countP_append, List.countP_cons]; omega
    rw [e3, e1, e2]
    by_cases he : l[j].e = q.e
    · simp [turned, turnR, hp, hj, he]
    · simp [turned, turnR, hp, hj, he, hname]
  · have e0 : l.countP (fun p => turned p q) = 0 := List.countP_eq_zero.2 fun p hm => by
      have := any_mem hno p hm
      simp only [prN, decide_eq_false_iff_not] at this
      simp [turned, this]
    have hv : turnR l q = none := by simp only [turnR, hp]; split <;> simp
    rw [e0, hv]; rfl
theorem fm_sum {α : Type} (g : α → Option Ch) (l : List α) : (l.filterMap g).length = (l.map fun x => if (g x).isSome = true then 1 else 0).sum := by
  induction l with
  | nil => rfl
  | cons x l ih =>
    rw [List.filterMap_cons, List.map_cons, List.sum_cons, ← ih]
    cases h : g x <;> simp; omega
theorem sum_swap (a b : List Pr) : (b.map fun q => a.countP fun p => turned p q).sum = (a.map fun p => b.countP fun q => turned q p).sum := by
  induction b with
  | nil =>
    induction a with
    | nil => rfl
    | cons p a ih => rw [List.map_cons, List.sum_cons, ← ih]; rfl
  | cons q b ih =>
    rw [List.map_cons, List.sum_cons, ih]
    have : ∀ a : List Pr, (a.map fun p => (q :: b).countP fun q => turned q p).sum = (a.countP fun p => turned p q) + (a.map fun p => b.countP fun q => turned q p).sum := by
      intro a
      induction a with
      | nil => rfl
      | cons p a ih2 =>
        rw [List.map_cons, List.sum_cons, ih2, List.map_cons, List.sum_cons, List.countP_cons, List.countP_cons, turned_comm q p]; omega
    rw [this]
theorem turn_turn (a b : List Pr) (ha : Unl a) (hb : Unl b) : (b.filterMap (turnR a)).length = (a.filterMap (turnR b)).length := by
  rw [fm_sum, fm_sum]
  have e1 : (fun q => if (turnR a q).isSome = true then 1 else 0) = fun q => a.countP fun p => turned p q := funext fun q => (turn_one a ha q).symm
  have e2 : (fun q => if (turnR b q).isSome = true then 1 else 0) = fun q => b.countP fun p => turned p q := funext fun q => (turn_one b hb q).symm
  rw [e1, e2]
  exact sum_swap a b
theorem count_back (l : List Ch) : countC (l.map backC) 1 = countC l 2 := by
  unfold countC
  rw [List.countP_map]
  congr 1
  funext c
  refine decide_eq_decide.2 ?_
  show (if c.what = 1 then (2 : Int) else if c.what = 2 then 1 else if c.what = 4 ∧ c.fr = 0 then 5 else if c.what = 5 then 4 else c.what) = 1 ↔ c.what = 2
  split
  · omega
  split
  · omega
  split
  · omega
  split <;> omega

end Go.Proofs.YtgbmhicpkbmeaaaDoor
namespace Go.Proofs.YtgbmhicpkbmeaaaDoor
open Go.Am
set_option linter.unusedSimpArgs false
set_option linter.unusedVariables false
set_option maxRecDepth 100000
/-! Layer 50: the statements. -/
def nd0 : Nd := ⟨⟨[], 0, 0, 0, 0, []⟩, 0, [], 0, [], false, [], [], [], [], [], [], [], 0, 0, [], []⟩
def ndB : Nd := ⟨⟨[], 0, 0, 0, 0, []⟩, 0, [], 0, [], false, [], [⟨⟨[98], 0, 0, 0, 0, []⟩, 0, 0⟩], [], [], [], [], [], 0, 0, [], []⟩
def chB : Ch := ⟨1, [98], 0, 0⟩
theorem chB_text : textC chB = [43, 32, 98, 32, 48] := by simp [textC, chB, itoa0]
set_option maxHeartbeats 4000000 in
@[go_sem] theorem e24 : fn C 24 [] [] = some (.bool true, []) := by
  rw [fn_text Tryd.func24 rfl rfl Tryd.results24 fq24.1 rfl rfl (by kernel_rfl)]
  have h1 := e22 nd0 ndB (greatN_no rfl) (greatN_no rfl)
  rw [show betweenR nd0 ndB = [chB] from rfl] at h1
  simp only [nd0, ndB, chB, List.map_nil, List.map_cons, Ch.cs_eq, Pr.cs_eq, Int.cast_ofNat_Int] at h1
  have h2 := e29 chB ⟨by decide, by decide, by decide⟩ (by decide)
  rw [chB_text] at h2
  simp only [chB] at h2
  have h3 := e25 [chB] 1 (by decide)
  rw [show countC [chB] 1 = 1 from rfl] at h3
  simp only [chB, List.map_nil, List.map_cons, Ch.cs_eq] at h3
  have h4 := e27 [chB] (by decide)
  rw [show [chB].map backC = [⟨2, [98], 0, 0⟩] from rfl] at h4
  simp only [chB, List.map_nil, List.map_cons, Ch.cs_eq] at h4
  have h5 := e25 [⟨2, [98], 0, 0⟩] 2 (by decide)
  rw [show countC [⟨2, [98], 0, 0⟩] 2 = 1 from rfl] at h5
  simp only [List.map_nil, List.map_cons, Ch.cs_eq] at h5
  simp -implicitDefEqProofs -dsimp +contextual (maxSteps := 9999999) (disch := first | omega | simp only [go_sem] <;> omega | refine ib ?_; kernel_rfl) only [go_sem, seval, ↓reduceIte, h1, h2, h3, h4, h5]

theorem between_le (a b : Nd) (ha : a.small) (hb : b.small) : (betweenR a b).length ≤ 1000 := by
  have l1 := listsR_len a.list b.list
  have l2 := itemsR_len a.items b.items
  have a1 := ha.ll; have a2 := ha.il; have b1 := hb.ll; have b2 := hb.il
  have l3 : (stateR a.ready b.ready).length ≤ 1 := by unfold stateR; split <;> simp
  simp only [betweenR, List.length_append]; omega
set_option maxHeartbeats 4000000 in
theorem e6 (a b : Nd) (hfa : a.fit) (hfb : b.fit) : fn C 6 [] [.agg [.str a.me.name, .int .u64 (a.me.id : Int), .int .i64 a.me.fr, .int .i64 a.me.un, .int .i64 a.me.ix, .str a.me.tag, .int .i64 a.clock, .str a.psk, .int .i64 a.gateI, .str a.gateK, .bool a.ready, .slice 8 (a.pred.map Pr.cs), .slice 8 (a.list.map Pr.cs), .slice 9 (a.fingers.map Fg.cs), .slice 20 (a.sessions.map Se.cs), .slice 23 (a.pends.map Pd.cs), .slice 4 (a.items.map It.cs), .slice 29 (a.jobs.map Jb.cs), .int .i64 a.rid, .int .i64 a.jobId, .slice 1 (a.draws.map u64Row), .slice 8 (a.results.map Rs.cs)], .agg [.str b.me.name, .int .u64 (b.me.id : Int), .int .i64 b.me.fr, .int .i64 b.me.un, .int .i64 b.me.ix, .str b.me.tag, .int .i64 b.clock, .str b.psk, .int .i64 b.gateI, .str b.gateK, .bool b.ready, .slice 8 (b.pred.map Pr.cs), .slice 8 (b.list.map Pr.cs), .slice 9 (b.fingers.map Fg.cs), .slice 20 (b.sessions.map Se.cs), .slice 23 (b.pends.map Pd.cs), .slice 4 (b.items.map It.cs), .slice 29 (b.jobs.map Jb.cs), .int .i64 b.rid, .int .i64 b.jobId, .slice 1 (b.draws.map u64Row), .slice 8 (b.results.map Rs.cs)]] = some (.bool true, []) := by
  rw [fn_text Tryd.func6 rfl rfl Tryd.results6 fq6.1 rfl rfl (by kernel_rfl)]
  rcases Bool.eq_false_or_eq_true (greatN a) with g1 | g1
  · simp -implicitDefEqProofs -dsimp +contextual (maxSteps := 9999999) (disch := first | omega | simp only [go_sem] <;> omega | refine ib ?_; kernel_rfl) only [go_sem, seval, ↓reduceIte, g1, hfa]
  rcases Bool.eq_false_or_eq_true (greatN b) with g2 | g2
  · simp -implicitDefEqProofs -dsimp +contextual (maxSteps := 9999999) (disch := first | omega | simp only [go_sem] <;> omega | refine ib ?_; kernel_rfl) only [go_sem, seval, ↓reduceIte, g1, g2, hfa, hfb]
  have sa := greatN_no g1
  have sb := greatN_no g2
  have hl := between_le a b sa sb
  simp -implicitDefEqProofs -dsimp +contextual (maxSteps := 9999999) (disch := first | omega | simp only [go_sem] <;> omega | refine ib ?_; kernel_rfl) only [go_sem, seval, ↓reduceIte, g1, g2, hfa, hfb, sa, sb]

set_option maxHeartbeats 4000000 in
theorem e8 (a b : Nd) (hfa : a.fit) (hfb : b.fit) (oa : a.ok) (ob : b.ok) : fn C 8 [] [.agg [.str a.me.name, .int .u64 (a.me.id : Int), .int .i64 a.me.fr, .int .i64 a.me.un, .int .i64 a.me.ix, .str a.me.tag, .int .i64 a.clock, .str a.psk, .int .i64 a.gateI, .str a.gateK, .bool a.ready, .slice 8 (a.pred.map Pr.cs), .slice 8 (a.list.map Pr.cs), .slice 9 (a.fingers.map Fg.cs), .slice 20 (a.sessions.map Se.cs), .slice 23 (a.pends.map Pd.cs), .slice 4 (a.items.map It.cs), .slice 29 (a.jobs.map Jb.cs), .int .i64 a.rid, .int .i64 a.jobId, .slice 1 (a.draws.map u64Row), .slice 8 (a.results.map Rs.cs)], .agg [.str b.me.name, .int .u64 (b.me.id : Int), .int .i64 b.me.fr, .int .i64 b.me.un, .int .i64 b.me.ix, .str b.me.tag, .int .i64 b.clock, .str b.psk, .int .i64 b.gateI, .str b.gateK, .bool b.ready, .slice 8 (b.pred.map Pr.cs), .slice 8 (b.list.map Pr.cs), .slice 9 (b.fingers.map Fg.cs), .slice 20 (b.sessions.map Se.cs), .slice 23 (b.pends.map Pd.cs), .slice 4 (b.items.map It.cs), .slice 29 (b.jobs.map Jb.cs), .int .i64 b.rid, .int .i64 b.jobId, .slice 1 (b.draws.map u64Row), .slice 8 (b.results.map Rs.cs)]] = some (.bool true, []) := by
  rw [fn_text Tryd.func8 rfl rfl Tryd.results8 fq8.1 rfl rfl (by kernel_rfl)]
  have ha := oa.me.id; have hb := ob.me.id
  have ha2 : ∀ p ∈ a.list, U64 p.e.id := fun p hp => (oa.list p hp).e.id
  have hb2 : ∀ p ∈ b.list, U64 p.e.id := fun p hp => (ob.list p hp).e.id
  have ka : ∀ x ∈ a.items, x.k.length ≤ 9223372036854775807 := fun x hx => (hfa.i x hx).k
  have kb : ∀ x ∈ b.items, x.k.length ≤ 9223372036854775807 := fun x hx => (hfb.i x hx).k
  rcases Bool.eq_false_or_eq_true (greatN a) with g1 | g1
  · simp -implicitDefEqProofs -dsimp +contextual (maxSteps := 9999999) (disch := first | omega | simp only [go_sem] <;> omega | refine ib ?_; kernel_rfl) only [go_sem, seval, ↓reduceIte, g1, hfa]
  rcases Bool.eq_false_or_eq_true (greatN b) with g2 | g2
  · simp -implicitDefEqProofs -dsimp +contextual (maxSteps := 9999999) (disch := first | omega | simp only [go_sem] <;> omega | refine ib ?_; kernel_rfl) only [go_sem, seval, ↓reduceIte, g1, g2, hfa, hfb]
  have sa := greatN_no g1
  have sb := greatN_no g2
  have qa := sa.ll; have qb := sb.ll; have qa2 := sa.il; have qb2 := sb.il
  rcases Bool.eq_false_or_eq_true (rightP a.me a.list) with g3 | g3
  rcases Bool.eq_false_or_eq_true (rightP b.me b.list) with g4 | g4
  rcases Bool.eq_false_or_eq_true (rightR a.items) with g5 | g5
  rcases Bool.eq_false_or_eq_true (rightR b.items) with g6 | g6
  · have r1 := (rightP_iff _ _).1 g3
    have r2 := (rightP_iff _ _).1 g4
    have l1 := between_le a b sa sb
    have l2 := between_le b a sb sa
    have z : betweenR a a = [] := by simp [betweenR, lists_self r1, items_self g5, stateR]
    have z0 := e22 a a sa sa
    rw [z] at z0
    have c1 : countC (betweenR a b) 1 = countC (betweenR b a) 2 := by rw [count_between, count_between]; simp; rw [went_came]
    have c2 : countC (betweenR a b) 2 = countC (betweenR b a) 1 := by rw [count_between, count_between]; simp; rw [went_came]
    have c3 : countC (betweenR a b) 3 = countC (betweenR b a) 3 := by rw [count_between, count_between]; simp; exact turn_turn _ _ (unl_of r1) (unl_of r2)
    have c6 : countC (betweenR a b) 6 = countC (betweenR b a) 6 := by rw [count_between, count_between]; simp [eq_comm]
    have c7 := count_back (betweenR a b)
    simp -implicitDefEqProofs -dsimp +contextual (maxSteps := 9999999) (disch := first | omega | simp only [go_sem] <;> omega | refine ib ?_; kernel_rfl) only [go_sem, seval, ↓reduceIte, g1, g2, g3, g4, g5, g6, hfa, hfb, sa, sb, z0, c1, c2, c3, c6, c7, ha2, hb2, ka, kb]
  · simp -implicitDefEqProofs -dsimp +contextual (maxSteps := 9999999) (disch := first | omega | simp only [go_sem] <;> omega | refine ib ?_; kernel_rfl) only [go_sem, seval, ↓reduceIte, g1, g2, g3, g4, g5, g6, hfa, hfb, sa, sb, ha2, hb2, ka, kb]
  · simp -implicitDefEqProofs -dsimp +contextual (maxSteps := 9999999) (disch := first | omega | simp only [go_sem] <;> omega | refine ib ?_; kernel_rfl) only [go_sem, seval, ↓reduceIte, g1, g2, g3, g4, g5, hfa, hfb, sa, sb, ha2, hb2, ka]
  · simp -implicitDefEqProofs -dsimp +contextual (maxSteps := 9999999) (disch := first | omega | simp only [go_sem] <;> omega | refine ib ?_; kernel_rfl) only [go_sem, seval, ↓reduceIte, g1, g2, g3, g4, hfa, hfb, sa, sb, ha2, hb2]
  · simp -implicitDefEqProofs -dsimp +contextual (maxSteps := 9999999) (disch := first | omega | simp only [go_sem] <;> omega | refine ib ?_; kernel_rfl) only [go_sem, seval, ↓reduceIte, g1, g2, g3, hfa, hfb, sa, sb, ha2]

set_option maxHeartbeats 4000000 in
theorem e7 (l : List Ch) (c : Ch) (hl : l.length ≤ 9223372036854775807) (hc : c.ok) (hn : c.name.length ≤ 9223372036854775807) (hln : ∀ x ∈ l, x.name.length ≤ 9223372036854775807) : fn C 7 [] [.slice 4 (l.map Ch.cs), .agg [.int .i64 c.what, .str c.name, .int .i64 c.fr, .int .i64 c.to]] = some (.bool true, []) := by
  rw [fn_textN Tryd.func7 rfl rfl Tryd.results7 fq7.1 rfl rfl (by kernel_rfl)]
  by_cases g1 : 100 < l.length
  · simp -implicitDefEqProofs -dsimp +contextual (maxSteps := 9999999) (disch := first | omega | simp only [go_sem] <;> omega | refine ib ?_; kernel_rfl) only [go_sem, seval, ↓reduceIte, g1]
  by_cases g2 : 300 < c.name.length
  · simp -implicitDefEqProofs -dsimp +contextual (maxSteps := 9999999) (disch := first | omega | simp only [go_sem] <;> omega | refine ib ?_; kernel_rfl) only [go_sem, seval, ↓reduceIte, g1, g2]
  simp -implicitDefEqProofs -dsimp +contextual (maxSteps := 9999999) (disch := first | omega | simp only [go_sem] <;> omega | refine ib ?_; kernel_rfl) only [go_sem, seval, ↓reduceIte, g1, g2]
  refine kFor l.length (fun i f H => f 0 = .slice 4 (l.map Ch.cs) ∧ f 3 = .ptr 103 1 0 0 ∧ H 103 = ⟨1, .live, 4, [c.cs], false⟩ ∧ f 18 = .slice 4 (l.map Ch.cs) ∧ f 19 = .int .i64 l.length ∧ f 20 = .int .i64 (i : Nat) ∧ Acc4 f H 5 105 (l.take i)) ?_ ?_ (by exact ⟨rfl, rfl, rfl, rfl, rfl, rfl, ⟨_, rfl, rfl⟩⟩)
  · rintro i f H hi ⟨f0, f3, hC, f18, f19, f20, g, f5, h5⟩ ih
    have k := hln _ (List.getElem_mem hi)
    have hs : l.take (i + 1) = l.take i ++ [l[i]] := List.take_succ_eq_append_getElem hi
    have hll : (l.take i).length ≤ 100 := by simp; omega
    generalize l.take i = r at *
    by_cases g3 : 300 < l[i].name.length
    · simp -implicitDefEqProofs -dsimp +contextual (maxSteps := 9999999) (disch := first | omega | simp only [go_sem] <;> omega | refine ib ?_; kernel_rfl) only [go_sem, seval, ↓reduceIte, f0, f3, hC, f18, f19, f20, f5, h5, hi, g3]
    · simp -implicitDefEqProofs -dsimp +contextual (maxSteps := 9999999) (disch := first | omega | simp only [go_sem] <;> omega | refine ib ?_; kernel_rfl) only [go_sem, seval, ↓reduceIte, f0, f3, hC, f18, f19, f20, f5, h5, hi, g3]
      refine ih _ _ ⟨f0, f3, by simp [Heap.set, hC], f18, f19, rfl, ?_⟩
      rw [hs]; exact ⟨_, by rw [List.length_append]; rfl, by rw [List.map_append]; rfl⟩
  · rintro f H ⟨f0, f3, hC, f18, f19, f20, g, f5, h5⟩
    rw [List.take_length] at f5 h5
    simp -implicitDefEqProofs -dsimp +contextual (maxSteps := 9999999) (disch := first | omega | simp only [go_sem] <;> omega | refine ib ?_; kernel_rfl) only [go_sem, seval, ↓reduceIte, f0, f3, hC, f18, f19, f20, f5, h5, hc]

end Go.Proofs.YtgbmhicpkbmeaaaDoor
