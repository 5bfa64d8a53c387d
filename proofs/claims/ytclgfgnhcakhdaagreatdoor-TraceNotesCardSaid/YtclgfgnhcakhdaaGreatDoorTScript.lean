import Derived.Test.YtclgfgnhcakhdaaGreatDoorTTracelaw
namespace Go.Proofs.YtclgfgnhcakhdaaGreatDoor
set_option maxHeartbeats 64000000
open Go.Am
set_option linter.unusedSimpArgs false
set_option linter.unusedVariables false
set_option maxRecDepth 100000
structure St where
  kind : Int
  node : Int
  other : Int
  n : Int
  fr : Int
  un : Int
  id : Nat
  key : List UInt8
  val : List UInt8
  bs : List UInt8
deriving DecidableEq
def St.cs (s : St) : List AVal := [.int .i64 s.kind, .int .i64 s.node, .int .i64 s.other, .int .i64 s.n, .int .i64 s.fr, .int .i64 s.un, .int .u64 (s.id : Int), .str s.key, .str s.val, .slice 1 (s.bs.map byteRow)]
@[go_sem] theorem St.cs_eq (s : St) : s.cs = [.int .i64 s.kind, .int .i64 s.node, .int .i64 s.other, .int .i64 s.n, .int .i64 s.fr, .int .i64 s.un, .int .u64 (s.id : Int), .str s.key, .str s.val, .slice 1 (s.bs.map byteRow)] := rfl
def stZ : St := ⟨0, 0, 0, 0, 0, 0, 0, [], [], []⟩
def numR (w : List UInt8) (most : Int) : Int × Int := match readNumR (signOf w) (digsOf w) with
  | some n => if n < 0 ∨ most < n then (0, 51) else (n, 0)
  | none => (0, 51)
def failE (m e : Int) : Int := if m = 0 then e else m
inductive BsC : AVal → Prop
  | nil : BsC (.sc (.slice none 0 0))
  | sl (x : List UInt8) : BsC (.slice 1 (x.map byteRow))
@[go_sem] theorem BsC_nil : BsC (.sc (.slice none 0 0)) := .nil
@[go_sem] theorem BsC_sl (x : List UInt8) : BsC (.slice 1 (x.map byteRow)) := .sl x
@[go_sem] theorem e115 (r : List (List UInt8)) (s : St) (b : AVal) (hb : BsC b) (m e : Int) : fn C 115 [] [.uptr [.slice 1 (r.map strRow), .int .i64 s.kind, .int .i64 s.node, .int .i64 s.other, .int .i64 s.n, .int .i64 s.fr, .int .i64 s.un, .int .u64 (s.id : Int), .str s.key, .str s.val, b, .int .i64 m], .int .i64 e] = some (.tup [], [.uptr [.slice 1 (r.map strRow), .int .i64 s.kind, .int .i64 s.node, .int .i64 s.other, .int .i64 s.n, .int .i64 s.fr, .int .i64 s.un, .int .u64 (s.id : Int), .str s.key, .str s.val, b, .int .i64 (failE m e)]]) := by
  cases hb
  all_goals
    rw [fn_text Tryz.func115 rfl rfl Tryz.results115 fq115.1 rfl rfl (by kernel_rfl)]
    by_cases h : m = 0
    · simp -implicitDefEqProofs -dsimp +contextual (maxSteps := 9999999) (disch := first | omega | simp only [go_sem] <;> omega | refine ib ?_; kernel_rfl) only [go_sem, seval, ↓reduceIte, h]
      simp [failE]
    · simp -implicitDefEqProofs -dsimp +contextual (maxSteps := 9999999) (disch := first | omega | simp only [go_sem] <;> omega | refine ib ?_; kernel_rfl) only [go_sem, seval, ↓reduceIte, h]
      simp [failE, h]
def nextR (r : List (List UInt8)) : List UInt8 := r.headD []
@[go_sem] theorem e93 (r : List (List UInt8)) (s : St) (b : AVal) (hb : BsC b) (m : Int) (hr : r.length ≤ 1000000) : fn C 93 [] [.uptr [.slice 1 (r.map strRow), .int .i64 s.kind, .int .i64 s.node, .int .i64 s.other, .int .i64 s.n, .int .i64 s.fr, .int .i64 s.un, .int .u64 (s.id : Int), .str s.key, .str s.val, b, .int .i64 m]] = some (.str (nextR r), [.uptr [.slice 1 (r.tail.map strRow), .int .i64 s.kind, .int .i64 s.node, .int .i64 s.other, .int .i64 s.n, .int .i64 s.fr, .int .i64 s.un, .int .u64 (s.id : Int), .str s.key, .str s.val, b, .int .i64 m]]) := by
  cases hb
  all_goals
    rw [fn_text Tryz.func93 rfl rfl Tryz.results93 fq93.1 rfl rfl (by kernel_rfl)]
    cases r with
    | nil =>
      simp -implicitDefEqProofs -dsimp +contextual (maxSteps := 9999999) (disch := first | omega | simp only [go_sem] <;> omega | refine ib ?_; kernel_rfl) only [go_sem, seval, ↓reduceIte]
      rfl
    | cons w r =>
      simp only [List.length_cons] at hr
      simp -implicitDefEqProofs -dsimp +contextual (maxSteps := 9999999) (disch := first | omega | simp only [go_sem] <;> omega | refine ib ?_; kernel_rfl) only [go_sem, seval, ↓reduceIte]
      rfl
def hexN (w : List UInt8) : Nat × Int := if w.length = 16 ∧ w.all digOk = true then (hexV w, 0) else (0, 52)
def textR (ok : Bool) (w : List UInt8) : List UInt8 × Int := if ok = true then (w, 0) else ([], 52)
def bytesOf (w : List UInt8) : Option (List UInt8) := if w = [45] then some [] else if w.length = 0 ∨ w.length % 2 = 1 ∨ 8192 < w.length then none else unpR w
def rawR (w : List UInt8) (most : Nat) : List UInt8 × Int := match bytesOf w with
  | some b => if most < b.length then ([], 52) else (b, 0)
  | none => ([], 52)
def rbV : Option (List UInt8) → AVal
  | some m => .tup [.slice 1 (m.map byteRow), .bool true]
  | none => .tup [.slice 1 [], .bool false]
theorem readBytesR_eq (w : List UInt8) : readBytesR w = rbV (bytesOf w) := by
  unfold readBytesR bytesOf
  split
  · rfl
  · split
    · rfl
    · cases unpR w <;> rfl
theorem failE_zero (m : Int) : failE m 0 = m := by unfold failE; split <;> omega
theorem unpR_len : ∀ (n : Nat) (l m : List UInt8), l.length ≤ n → unpR l = some m → m.length ≤ l.length
  | _, [], m, _, h => by simp [unpR] at h; subst h; simp
  | _, [_], m, _, h => by simp [unpR] at h; subst h; simp
  | n + 1, a :: b :: r, m, hn, h => by
    unfold unpR at h
    split at h
    · rw [Option.map_eq_some_iff] at h
      obtain ⟨m', h1, rfl⟩ := h
      have := unpR_len n r m' (by simp at hn; omega) h1
      simp; omega
    · cases h
theorem bytesOf_len (w b : List UInt8) (h : bytesOf w = some b) : b.length ≤ 8192 := by
  unfold bytesOf at h
  split at h
  · simp only [Option.some.injEq] at h; subst h; simp
  · split at h
    · cases h
    · have := unpR_len _ w b (Nat.le_refl _) h
      omega
@[go_sem] theorem e114 (r : List (List UInt8)) (s : St) (b : AVal) (hb : BsC b) (m most : Int) (hr : r.length ≤ 1000000) (hw : (nextR r).length ≤ 1000000) : fn C 114 [] [.uptr [.slice 1 (r.map strRow), .int .i64 s.kind, .int .i64 s.node, .int .i64 s.other, .int .i64 s.n, .int .i64 s.fr, .int .i64 s.un, .int .u64 (s.id : Int), .str s.key, .str s.val, b, .int .i64 m], .int .i64 most] = some (.int .i64 (numR (nextR r) most).1, [.uptr [.slice 1 (r.tail.map strRow), .int .i64 s.kind, .int .i64 s.node, .int .i64 s.other, .int .i64 s.n, .int .i64 s.fr, .int .i64 s.un, .int .u64 (s.id : Int), .str s.key, .str s.val, b, .int .i64 (failE m (numR (nextR r) most).2)]]) := by
  cases hb
  all_goals
    rw [fn_text Tryz.func114 rfl rfl Tryz.results114 fq114.1 rfl rfl (by kernel_rfl)]
    unfold numR
    cases hn : readNumR (signOf (nextR r)) (digsOf (nextR r)) with
    | none => simp -implicitDefEqProofs -dsimp +contextual (maxSteps := 9999999) (disch := first | omega | simp only [go_sem] <;> omega | refine ib ?_; kernel_rfl) only [go_sem, seval, ↓reduceIte, hn, rnV]
    | some k =>
      by_cases h1 : k < 0
      · simp -implicitDefEqProofs -dsimp +contextual (maxSteps := 9999999) (disch := first | omega | simp only [go_sem] <;> omega | refine ib ?_; kernel_rfl) only [go_sem, seval, ↓reduceIte, hn, rnV, h1, true_or]
      · by_cases h2 : most < k
        · simp -implicitDefEqProofs -dsimp +contextual (maxSteps := 9999999) (disch := first | omega | simp only [go_sem] <;> omega | refine ib ?_; kernel_rfl) only [go_sem, seval, ↓reduceIte, hn, rnV, h1, h2, or_true]
        · simp -implicitDefEqProofs -dsimp +contextual (maxSteps := 9999999) (disch := first | omega | simp only [go_sem] <;> omega | refine ib ?_; kernel_rfl) only [go_sem, seval, ↓reduceIte, hn, rnV, h1, h2, failE_zero, or_self]
@[go_sem] theorem e88 (r : List (List UInt8)) (s : St) (b : AVal) (hb : BsC b) (m : Int) (hr : r.length ≤ 1000000) (hw : (nextR r).length ≤ 1000000) : fn C 88 [] [.uptr [.slice 1 (r.map strRow), .int .i64 s.kind, .int .i64 s.node, .int .i64 s.other, .int .i64 s.n, .int .i64 s.fr, .int .i64 s.un, .int .u64 (s.id : Int), .str s.key, .str s.val, b, .int .i64 m]] = some (.int .u64 ((hexN (nextR r)).1 : Int), [.uptr [.slice 1 (r.tail.map strRow), .int .i64 s.kind, .int .i64 s.node, .int .i64 s.other, .int .i64 s.n, .int .i64 s.fr, .int .i64 s.un, .int .u64 (s.id : Int), .str s.key, .str s.val, b, .int .i64 (failE m (hexN (nextR r)).2)]]) := by
  cases hb
  all_goals
    rw [fn_text Tryz.func88 rfl rfl Tryz.results88 fq88.1 rfl rfl (by kernel_rfl)]
    unfold hexN
    by_cases h : (nextR r).length = 16 ∧ (nextR r).all digOk = true
    · simp -implicitDefEqProofs -dsimp +contextual (maxSteps := 9999999) (disch := first | omega | simp only [go_sem] <;> omega | refine ib ?_; kernel_rfl) only [go_sem, seval, ↓reduceIte, readHexR, h, failE_zero]
    · simp -implicitDefEqProofs -dsimp +contextual (maxSteps := 9999999) (disch := first | omega | simp only [go_sem] <;> omega | refine ib ?_; kernel_rfl) only [go_sem, seval, ↓reduceIte, readHexR, h]
theorem textName (r : List (List UInt8)) (s : St) (b : AVal) (hb : BsC b) (m : Int) (hr : r.length ≤ 1000000) (hw : (nextR r).length ≤ 1000000) : fn C 89 [] [.uptr [.slice 1 (r.map strRow), .int .i64 s.kind, .int .i64 s.node, .int .i64 s.other, .int .i64 s.n, .int .i64 s.fr, .int .i64 s.un, .int .u64 (s.id : Int), .str s.key, .str s.val, b, .int .i64 m], .fn (.func 90) [] []] = some (.str (textR (nameR (nextR r)) (nextR r)).1, [.uptr [.slice 1 (r.tail.map strRow), .int .i64 s.kind, .int .i64 s.node, .int .i64 s.other, .int .i64 s.n, .int .i64 s.fr, .int .i64 s.un, .int .u64 (s.id : Int), .str s.key, .str s.val, b, .int .i64 (failE m (textR (nameR (nextR r)) (nextR r)).2)]]) := by
  cases hb
  all_goals
    rw [fn_text Tryz.func89 rfl rfl Tryz.results89 fq89.1 rfl rfl (by kernel_rfl)]
    unfold textR
    by_cases h : nameR (nextR r) = true
    · simp -implicitDefEqProofs -dsimp +contextual (maxSteps := 9999999) (disch := first | omega | simp only [go_sem] <;> omega | refine ib ?_; kernel_rfl) only [go_sem, seval, ↓reduceIte, h, failE_zero]
    · simp -implicitDefEqProofs -dsimp +contextual (maxSteps := 9999999) (disch := first | omega | simp only [go_sem] <;> omega | refine ib ?_; kernel_rfl) only [go_sem, seval, ↓reduceIte, h]
theorem textKey (r : List (List UInt8)) (s : St) (b : AVal) (hb : BsC b) (m : Int) (hr : r.length ≤ 1000000) (hw : (nextR r).length ≤ 1000000) : fn C 89 [] [.uptr [.slice 1 (r.map strRow), .int .i64 s.kind, .int .i64 s.node, .int .i64 s.other, .int .i64 s.n, .int .i64 s.fr, .int .i64 s.un, .int .u64 (s.id : Int), .str s.key, .str s.val, b, .int .i64 m], .fn (.func 91) [] []] = some (.str (textR (keyR (nextR r)) (nextR r)).1, [.uptr [.slice 1 (r.tail.map strRow), .int .i64 s.kind, .int .i64 s.node, .int .i64 s.other, .int .i64 s.n, .int .i64 s.fr, .int .i64 s.un, .int .u64 (s.id : Int), .str s.key, .str s.val, b, .int .i64 (failE m (textR (keyR (nextR r)) (nextR r)).2)]]) := by
  cases hb
  all_goals
    rw [fn_text Tryz.func89 rfl rfl Tryz.results89 fq89.1 rfl rfl (by kernel_rfl)]
    unfold textR
    by_cases h : keyR (nextR r) = true
    · simp -implicitDefEqProofs -dsimp +contextual (maxSteps := 9999999) (disch := first | omega | simp only [go_sem] <;> omega | refine ib ?_; kernel_rfl) only [go_sem, seval, ↓reduceIte, h, failE_zero]
    · simp -implicitDefEqProofs -dsimp +contextual (maxSteps := 9999999) (disch := first | omega | simp only [go_sem] <;> omega | refine ib ?_; kernel_rfl) only [go_sem, seval, ↓reduceIte, h]
theorem wordsRaw (r : List (List UInt8)) (s : St) (b : AVal) (hb : BsC b) (m : Int) (most : Nat) (hr : r.length ≤ 1000000) (hw : (nextR r).length ≤ 1000000) (hm : most ≤ 10000) : fn C 92 [] [.uptr [.slice 1 (r.map strRow), .int .i64 s.kind, .int .i64 s.node, .int .i64 s.other, .int .i64 s.n, .int .i64 s.fr, .int .i64 s.un, .int .u64 (s.id : Int), .str s.key, .str s.val, b, .int .i64 m], .int .i64 (most : Int)] = some (.slice 1 ((rawR (nextR r) most).1.map byteRow), [.uptr [.slice 1 (r.tail.map strRow), .int .i64 s.kind, .int .i64 s.node, .int .i64 s.other, .int .i64 s.n, .int .i64 s.fr, .int .i64 s.un, .int .u64 (s.id : Int), .str s.key, .str s.val, b, .int .i64 (failE m (rawR (nextR r) most).2)]]) := by
  cases hb
  all_goals
    rw [fn_text Tryz.func92 rfl rfl Tryz.results92 fq92.1 rfl rfl (by kernel_rfl)]
    unfold rawR
    cases hb : bytesOf (nextR r) with
    | none => simp -implicitDefEqProofs -dsimp +contextual (maxSteps := 9999999) (disch := first | omega | simp only [go_sem] <;> omega | refine ib ?_; kernel_rfl) only [go_sem, seval, ↓reduceIte, readBytesR_eq, hb, rbV]
    | some b =>
      have := bytesOf_len _ _ hb
      by_cases h2 : most < b.length
      · simp -implicitDefEqProofs -dsimp +contextual (maxSteps := 9999999) (disch := first | omega | simp only [go_sem] <;> omega | refine ib ?_; kernel_rfl) only [go_sem, seval, ↓reduceIte, readBytesR_eq, hb, rbV, h2]
      · simp -implicitDefEqProofs -dsimp +contextual (maxSteps := 9999999) (disch := first | omega | simp only [go_sem] <;> omega | refine ib ?_; kernel_rfl) only [go_sem, seval, ↓reduceIte, readBytesR_eq, hb, rbV, h2, failE_zero]
def stepR (c : Nat) (w : List UInt8) (s : St) : St × Int :=
  if c = 110 then ({ s with node := (numR w 7).1 }, (numR w 7).2)
  else if c = 111 then ({ s with other := (numR w 7).1 }, (numR w 7).2)
  else if c = 112 then ({ s with n := (numR w 255).1 }, (numR w 255).2)
  else if c = 102 then ({ s with fr := (numR w 1073741824).1 }, (numR w 1073741824).2)
  else if c = 117 then ({ s with un := (numR w 1073741824).1 }, (numR w 1073741824).2)
  else if c = 97 then ({ s with fr := (numR w 2047).1 }, (numR w 2047).2)
  else if c = 98 then ({ s with un := (numR w 255).1 }, (numR w 255).2)
  else if c = 105 then ({ s with id := (hexN w).1 }, (hexN w).2)
  else if c = 109 then ({ s with key := (textR (nameR w) w).1 }, (textR (nameR w) w).2)
  else if c = 107 then ({ s with key := (textR (keyR w) w).1 }, (textR (keyR w) w).2)
  else if c = 115 then ({ s with val := (textR (nameR w) w).1 }, (textR (nameR w) w).2)
  else if c = 118 then ({ s with val := (rawR w 32).1 }, (rawR w 32).2)
  else if c = 114 then ({ s with bs := (rawR w 2048).1 }, (rawR w 2048).2)
  else ({ s with n := 1 }, 0)
def bcR (c : Nat) (b : AVal) (w : List UInt8) : AVal := if c = 114 then .slice 1 ((rawR w 2048).1.map byteRow) else b
def okL (c : Nat) : Prop := c = 110 ∨ c = 111 ∨ c = 112 ∨ c = 102 ∨ c = 117 ∨ c = 97 ∨ c = 98 ∨ c = 105 ∨ c = 109 ∨ c = 107 ∨ c = 115 ∨ c = 118 ∨ c = 114 ∨ c = 49
theorem numbersYes (r : List (List UInt8)) (s : St) (b : AVal) (hb : BsC b) (c : Nat) (hr : r.length ≤ 1000000) (hw : (nextR r).length ≤ 1000000) (hc : c = 110 ∨ c = 111 ∨ c = 112 ∨ c = 102 ∨ c = 117 ∨ c = 97 ∨ c = 98) : fn C 87 [] [.uptr [.slice 1 (r.map strRow), .int .i64 s.kind, .int .i64 s.node, .int .i64 s.other, .int .i64 s.n, .int .i64 s.fr, .int .i64 s.un, .int .u64 (s.id : Int), .str s.key, .str s.val, b, .int .i64 0], .int .u8 (c : Int)] = some (.bool true, [.uptr [.slice 1 (r.tail.map strRow), .int .i64 (stepR c (nextR r) s).1.kind, .int .i64 (stepR c (nextR r) s).1.node, .int .i64 (stepR c (nextR r) s).1.other, .int .i64 (stepR c (nextR r) s).1.n, .int .i64 (stepR c (nextR r) s).1.fr, .int .i64 (stepR c (nextR r) s).1.un, .int .u64 ((stepR c (nextR r) s).1.id : Int), .str (stepR c (nextR r) s).1.key, .str (stepR c (nextR r) s).1.val, (bcR c b (nextR r)), .int .i64 (stepR c (nextR r) s).2]]) := by
  cases hb
  all_goals
    rw [fn_text Tryz.func87 rfl rfl Tryz.results87 fq87.1 rfl rfl (by kernel_rfl)]
    rcases hc with rfl | rfl | rfl | rfl | rfl | rfl | rfl <;> simp -implicitDefEqProofs -dsimp +contextual (maxSteps := 9999999) (disch := first | omega | simp only [go_sem] <;> omega | refine ib ?_; kernel_rfl) only [go_sem, seval, ↓reduceIte, stepR, bcR, failE]
theorem numbersNo (r : List (List UInt8)) (s : St) (b : AVal) (hb : BsC b) (m : Int) (c : Nat) (hc : c = 105 ∨ c = 109 ∨ c = 107 ∨ c = 115 ∨ c = 118 ∨ c = 114 ∨ c = 49) : fn C 87 [] [.uptr [.slice 1 (r.map strRow), .int .i64 s.kind, .int .i64 s.node, .int .i64 s.other, .int .i64 s.n, .int .i64 s.fr, .int .i64 s.un, .int .u64 (s.id : Int), .str s.key, .str s.val, b, .int .i64 m], .int .u8 (c : Int)] = some (.bool false, [.uptr [.slice 1 (r.map strRow), .int .i64 s.kind, .int .i64 s.node, .int .i64 s.other, .int .i64 s.n, .int .i64 s.fr, .int .i64 s.un, .int .u64 (s.id : Int), .str s.key, .str s.val, b, .int .i64 m]]) := by
  cases hb
  all_goals
    rw [fn_text Tryz.func87 rfl rfl Tryz.results87 fq87.1 rfl rfl (by kernel_rfl)]
    rcases hc with rfl | rfl | rfl | rfl | rfl | rfl | rfl <;> simp -implicitDefEqProofs -dsimp +contextual (maxSteps := 9999999) (disch := first | omega | simp only [go_sem] <;> omega | refine ib ?_; kernel_rfl) only [go_sem, seval, ↓reduceIte]
theorem stepR_105 (w : List UInt8) (s : St) : stepR 105 w s = ({ s with id := (hexN w).1 }, (hexN w).2) := by
  unfold stepR
  rw [if_neg (by decide), if_neg (by decide), if_neg (by decide), if_neg (by decide), if_neg (by decide), if_neg (by decide), if_neg (by decide), if_pos rfl]
theorem stepR_109 (w : List UInt8) (s : St) : stepR 109 w s = ({ s with key := (textR (nameR w) w).1 }, (textR (nameR w) w).2) := by
  unfold stepR
  rw [if_neg (by decide), if_neg (by decide), if_neg (by decide), if_neg (by decide), if_neg (by decide), if_neg (by decide), if_neg (by decide), if_neg (by decide), if_pos rfl]
theorem stepR_107 (w : List UInt8) (s : St) : stepR 107 w s = ({ s with key := (textR (keyR w) w).1 }, (textR (keyR w) w).2) := by
  unfold stepR
  rw [if_neg (by decide), if_neg (by decide), if_neg (by decide), if_neg (by decide), if_neg (by decide), if_neg (by decide), if_neg (by decide), if_neg (by decide), if_neg (by decide), if_pos rfl]
theorem stepR_115 (w : List UInt8) (s : St) : stepR 115 w s = ({ s with val := (textR (nameR w) w).1 }, (textR (nameR w) w).2) := by
  unfold stepR
  rw [if_neg (by decide), if_neg (by decide), if_neg (by decide), if_neg (by decide), if_neg (by decide), if_neg (by decide), if_neg (by decide), if_neg (by decide), if_neg (by decide), if_neg (by decide), if_pos rfl]
theorem stepR_118 (w : List UInt8) (s : St) : stepR 118 w s = ({ s with val := (rawR w 32).1 }, (rawR w 32).2) := by
  unfold stepR
  rw [if_neg (by decide), if_neg (by decide), if_neg (by decide), if_neg (by decide), if_neg (by decide), if_neg (by decide), if_neg (by decide), if_neg (by decide), if_neg (by decide), if_neg (by decide), if_neg (by decide), if_pos rfl]
theorem stepR_114 (w : List UInt8) (s : St) : stepR 114 w s = ({ s with bs := (rawR w 2048).1 }, (rawR w 2048).2) := by
  unfold stepR
  rw [if_neg (by decide), if_neg (by decide), if_neg (by decide), if_neg (by decide), if_neg (by decide), if_neg (by decide), if_neg (by decide), if_neg (by decide), if_neg (by decide), if_neg (by decide), if_neg (by decide), if_neg (by decide), if_pos rfl]
theorem stepR_49 (w : List UInt8) (s : St) : stepR 49 w s = ({ s with n := 1 }, 0) := by
  unfold stepR
  rw [if_neg (by decide), if_neg (by decide), if_neg (by decide), if_neg (by decide), if_neg (by decide), if_neg (by decide), if_neg (by decide), if_neg (by decide), if_neg (by decide), if_neg (by decide), if_neg (by decide), if_neg (by decide), if_neg (by decide)]
theorem read_105 (r : List (List UInt8)) (s : St) (b : AVal) (hb : BsC b) (hr : r.length ≤ 1000000) (hw : (nextR r).length ≤ 1000000) : fn C 65 [] [.uptr [.slice 1 (r.map strRow), .int .i64 s.kind, .int .i64 s.node, .int .i64 s.other, .int .i64 s.n, .int .i64 s.fr, .int .i64 s.un, .int .u64 (s.id : Int), .str s.key, .str s.val, b, .int .i64 0], .int .u8 105] = some (.tup [], [.uptr [.slice 1 (r.tail.map strRow), .int .i64 (stepR 105 (nextR r) s).1.kind, .int .i64 (stepR 105 (nextR r) s).1.node, .int .i64 (stepR 105 (nextR r) s).1.other, .int .i64 (stepR 105 (nextR r) s).1.n, .int .i64 (stepR 105 (nextR r) s).1.fr, .int .i64 (stepR 105 (nextR r) s).1.un, .int .u64 ((stepR 105 (nextR r) s).1.id : Int), .str (stepR 105 (nextR r) s).1.key, .str (stepR 105 (nextR r) s).1.val, (bcR 105 b (nextR r)), .int .i64 (stepR 105 (nextR r) s).2]]) := by
  have h := numbersNo r s b hb 0 105 (by omega)
  simp only [Int.cast_ofNat_Int] at h
  rw [show bcR 105 b (nextR r) = b from rfl]
  cases hb
  all_goals
    rw [stepR_105]
    rw [fn_text Tryz.func65 rfl rfl Tryz.results65 fq65.1 rfl rfl (by kernel_rfl)]
    simp -implicitDefEqProofs -dsimp +contextual (maxSteps := 9999999) (disch := first | omega | simp only [go_sem] <;> omega | refine ib ?_; kernel_rfl) only [go_sem, seval, ↓reduceIte, h, failE]
theorem read_109 (r : List (List UInt8)) (s : St) (b : AVal) (hb : BsC b) (hr : r.length ≤ 1000000) (hw : (nextR r).length ≤ 1000000) : fn C 65 [] [.uptr [.slice 1 (r.map strRow), .int .i64 s.kind, .int .i64 s.node, .int .i64 s.other, .int .i64 s.n, .int .i64 s.fr, .int .i64 s.un, .int .u64 (s.id : Int), .str s.key, .str s.val, b, .int .i64 0], .int .u8 109] = some (.tup [], [.uptr [.slice 1 (r.tail.map strRow), .int .i64 (stepR 109 (nextR r) s).1.kind, .int .i64 (stepR 109 (nextR r) s).1.node, .int .i64 (stepR 109 (nextR r) s).1.other, .int .i64 (stepR 109 (nextR r) s).1.n, .int .i64 (stepR 109 (nextR r) s).1.fr, .int .i64 (stepR 109 (nextR r) s).1.un, .int .u64 ((stepR 109 (nextR r) s).1.id : Int), .str (stepR 109 (nextR r) s).1.key, .str (stepR 109 (nextR r) s).1.val, (bcR 109 b (nextR r)), .int .i64 (stepR 109 (nextR r) s).2]]) := by
  have h := numbersNo r s b hb 0 109 (by omega)
  have n1 := textName r s b hb 0 hr hw
  simp only [Int.cast_ofNat_Int] at h
  rw [show bcR 109 b (nextR r) = b from rfl]
  cases hb
  all_goals
    rw [stepR_109]
    rw [fn_text Tryz.func65 rfl rfl Tryz.results65 fq65.1 rfl rfl (by kernel_rfl)]
    simp -implicitDefEqProofs -dsimp +contextual (maxSteps := 9999999) (disch := first | omega | simp only [go_sem] <;> omega | refine ib ?_; kernel_rfl) only [go_sem, seval, ↓reduceIte, h, n1, failE]
theorem read_107 (r : List (List UInt8)) (s : St) (b : AVal) (hb : BsC b) (hr : r.length ≤ 1000000) (hw : (nextR r).length ≤ 1000000) : fn C 65 [] [.uptr [.slice 1 (r.map strRow), .int .i64 s.kind, .int .i64 s.node, .int .i64 s.other, .int .i64 s.n, .int .i64 s.fr, .int .i64 s.un, .int .u64 (s.id : Int), .str s.key, .str s.val, b, .int .i64 0], .int .u8 107] = some (.tup [], [.uptr [.slice 1 (r.tail.map strRow), .int .i64 (stepR 107 (nextR r) s).1.kind, .int .i64 (stepR 107 (nextR r) s).1.node, .int .i64 (stepR 107 (nextR r) s).1.other, .int .i64 (stepR 107 (nextR r) s).1.n, .int .i64 (stepR 107 (nextR r) s).1.fr, .int .i64 (stepR 107 (nextR r) s).1.un, .int .u64 ((stepR 107 (nextR r) s).1.id : Int), .str (stepR 107 (nextR r) s).1.key, .str (stepR 107 (nextR r) s).1.val, (bcR 107 b (nextR r)), .int .i64 (stepR 107 (nextR r) s).2]]) := by
  have h := numbersNo r s b hb 0 107 (by omega)
  have n2 := textKey r s b hb 0 hr hw
  simp only [Int.cast_ofNat_Int] at h
  rw [show bcR 107 b (nextR r) = b from rfl]
  cases hb
  all_goals
    rw [stepR_107]
    rw [fn_text Tryz.func65 rfl rfl Tryz.results65 fq65.1 rfl rfl (by kernel_rfl)]
    simp -implicitDefEqProofs -dsimp +contextual (maxSteps := 9999999) (disch := first | omega | simp only [go_sem] <;> omega | refine ib ?_; kernel_rfl) only [go_sem, seval, ↓reduceIte, h, n2, failE]
theorem read_115 (r : List (List UInt8)) (s : St) (b : AVal) (hb : BsC b) (hr : r.length ≤ 1000000) (hw : (nextR r).length ≤ 1000000) : fn C 65 [] [.uptr [.slice 1 (r.map strRow), .int .i64 s.kind, .int .i64 s.node, .int .i64 s.other, .int .i64 s.n, .int .i64 s.fr, .int .i64 s.un, .int .u64 (s.id : Int), .str s.key, .str s.val, b, .int .i64 0], .int .u8 115] = some (.tup [], [.uptr [.slice 1 (r.tail.map strRow), .int .i64 (stepR 115 (nextR r) s).1.kind, .int .i64 (stepR 115 (nextR r) s).1.node, .int .i64 (stepR 115 (nextR r) s).1.other, .int .i64 (stepR 115 (nextR r) s).1.n, .int .i64 (stepR 115 (nextR r) s).1.fr, .int .i64 (stepR 115 (nextR r) s).1.un, .int .u64 ((stepR 115 (nextR r) s).1.id : Int), .str (stepR 115 (nextR r) s).1.key, .str (stepR 115 (nextR r) s).1.val, (bcR 115 b (nextR r)), .int .i64 (stepR 115 (nextR r) s).2]]) := by
  have h := numbersNo r s b hb 0 115 (by omega)
  have n1 := textName r s b hb 0 hr hw
  simp only [Int.cast_ofNat_Int] at h
  rw [show bcR 115 b (nextR r) = b from rfl]
  cases hb
  all_goals
    rw [stepR_115]
    rw [fn_text Tryz.func65 rfl rfl Tryz.results65 fq65.1 rfl rfl (by kernel_rfl)]
    simp -implicitDefEqProofs -dsimp +contextual (maxSteps := 9999999) (disch := first | omega | simp only [go_sem] <;> omega | refine ib ?_; kernel_rfl) only [go_sem, seval, ↓reduceIte, h, n1, failE]
theorem read_118 (r : List (List UInt8)) (s : St) (b : AVal) (hb : BsC b) (hr : r.length ≤ 1000000) (hw : (nextR r).length ≤ 1000000) : fn C 65 [] [.uptr [.slice 1 (r.map strRow), .int .i64 s.kind, .int .i64 s.node, .int .i64 s.other, .int .i64 s.n, .int .i64 s.fr, .int .i64 s.un, .int .u64 (s.id : Int), .str s.key, .str s.val, b, .int .i64 0], .int .u8 118] = some (.tup [], [.uptr [.slice 1 (r.tail.map strRow), .int .i64 (stepR 118 (nextR r) s).1.kind, .int .i64 (stepR 118 (nextR r) s).1.node, .int .i64 (stepR 118 (nextR r) s).1.other, .int .i64 (stepR 118 (nextR r) s).1.n, .int .i64 (stepR 118 (nextR r) s).1.fr, .int .i64 (stepR 118 (nextR r) s).1.un, .int .u64 ((stepR 118 (nextR r) s).1.id : Int), .str (stepR 118 (nextR r) s).1.key, .str (stepR 118 (nextR r) s).1.val, (bcR 118 b (nextR r)), .int .i64 (stepR 118 (nextR r) s).2]]) := by
  have h := numbersNo r s b hb 0 118 (by omega)
  have n3 := wordsRaw r s b hb 0 32 hr hw (by omega)
  simp only [Int.cast_ofNat_Int] at h n3
  rw [show bcR 118 b (nextR r) = b from rfl]
  cases hb
  all_goals
    rw [stepR_118]
    rw [fn_text Tryz.func65 rfl rfl Tryz.results65 fq65.1 rfl rfl (by kernel_rfl)]
    simp -implicitDefEqProofs -dsimp +contextual (maxSteps := 9999999) (disch := first | omega | simp only [go_sem] <;> omega | refine ib ?_; kernel_rfl) only [go_sem, seval, ↓reduceIte, h, n3, failE]
theorem read_114 (r : List (List UInt8)) (s : St) (b : AVal) (hb : BsC b) (hr : r.length ≤ 1000000) (hw : (nextR r).length ≤ 1000000) : fn C 65 [] [.uptr [.slice 1 (r.map strRow), .int .i64 s.kind, .int .i64 s.node, .int .i64 s.other, .int .i64 s.n, .int .i64 s.fr, .int .i64 s.un, .int .u64 (s.id : Int), .str s.key, .str s.val, b, .int .i64 0], .int .u8 114] = some (.tup [], [.uptr [.slice 1 (r.tail.map strRow), .int .i64 (stepR 114 (nextR r) s).1.kind, .int .i64 (stepR 114 (nextR r) s).1.node, .int .i64 (stepR 114 (nextR r) s).1.other, .int .i64 (stepR 114 (nextR r) s).1.n, .int .i64 (stepR 114 (nextR r) s).1.fr, .int .i64 (stepR 114 (nextR r) s).1.un, .int .u64 ((stepR 114 (nextR r) s).1.id : Int), .str (stepR 114 (nextR r) s).1.key, .str (stepR 114 (nextR r) s).1.val, (bcR 114 b (nextR r)), .int .i64 (stepR 114 (nextR r) s).2]]) := by
  have h := numbersNo r s b hb 0 114 (by omega)
  have n4 := wordsRaw r s b hb 0 2048 hr hw (by omega)
  simp only [Int.cast_ofNat_Int] at h n4
  rw [show bcR 114 b (nextR r) = .slice 1 ((rawR (nextR r) 2048).1.map byteRow) from rfl]
  cases hb
  all_goals
    rw [stepR_114]
    rw [fn_text Tryz.func65 rfl rfl Tryz.results65 fq65.1 rfl rfl (by kernel_rfl)]
    simp -implicitDefEqProofs -dsimp +contextual (maxSteps := 9999999) (disch := first | omega | simp only [go_sem] <;> omega | refine ib ?_; kernel_rfl) only [go_sem, seval, ↓reduceIte, h, n4, failE]
theorem read_49 (r : List (List UInt8)) (s : St) (b : AVal) (hb : BsC b) (hr : r.length ≤ 1000000) (hw : (nextR r).length ≤ 1000000) : fn C 65 [] [.uptr [.slice 1 (r.map strRow), .int .i64 s.kind, .int .i64 s.node, .int .i64 s.other, .int .i64 s.n, .int .i64 s.fr, .int .i64 s.un, .int .u64 (s.id : Int), .str s.key, .str s.val, b, .int .i64 0], .int .u8 49] = some (.tup [], [.uptr [.slice 1 (r.tail.map strRow), .int .i64 (stepR 49 (nextR r) s).1.kind, .int .i64 (stepR 49 (nextR r) s).1.node, .int .i64 (stepR 49 (nextR r) s).1.other, .int .i64 (stepR 49 (nextR r) s).1.n, .int .i64 (stepR 49 (nextR r) s).1.fr, .int .i64 (stepR 49 (nextR r) s).1.un, .int .u64 ((stepR 49 (nextR r) s).1.id : Int), .str (stepR 49 (nextR r) s).1.key, .str (stepR 49 (nextR r) s).1.val, (bcR 49 b (nextR r)), .int .i64 (stepR 49 (nextR r) s).2]]) := by
  have h := numbersNo r s b hb 0 49 (by omega)
  simp only [Int.cast_ofNat_Int] at h
  rw [show bcR 49 b (nextR r) = b from rfl]
  cases hb
  all_goals
    rw [stepR_49]
    rw [fn_text Tryz.func65 rfl rfl Tryz.results65 fq65.1 rfl rfl (by kernel_rfl)]
    simp -implicitDefEqProofs -dsimp +contextual (maxSteps := 9999999) (disch := first | omega | simp only [go_sem] <;> omega | refine ib ?_; kernel_rfl) only [go_sem, seval, ↓reduceIte, h, failE]
theorem wordsRead (r : List (List UInt8)) (s : St) (b : AVal) (hb : BsC b) (c : Nat) (hr : r.length ≤ 1000000) (hw : (nextR r).length ≤ 1000000) (hc : okL c) : fn C 65 [] [.uptr [.slice 1 (r.map strRow), .int .i64 s.kind, .int .i64 s.node, .int .i64 s.other, .int .i64 s.n, .int .i64 s.fr, .int .i64 s.un, .int .u64 (s.id : Int), .str s.key, .str s.val, b, .int .i64 0], .int .u8 (c : Int)] = some (.tup [], [.uptr [.slice 1 (r.tail.map strRow), .int .i64 (stepR c (nextR r) s).1.kind, .int .i64 (stepR c (nextR r) s).1.node, .int .i64 (stepR c (nextR r) s).1.other, .int .i64 (stepR c (nextR r) s).1.n, .int .i64 (stepR c (nextR r) s).1.fr, .int .i64 (stepR c (nextR r) s).1.un, .int .u64 ((stepR c (nextR r) s).1.id : Int), .str (stepR c (nextR r) s).1.key, .str (stepR c (nextR r) s).1.val, (bcR c b (nextR r)), .int .i64 (stepR c (nextR r) s).2]]) := by
  unfold okL at hc
  by_cases hn : c = 110 ∨ c = 111 ∨ c = 112 ∨ c = 102 ∨ c = 117 ∨ c = 97 ∨ c = 98
  · have h := numbersYes r s b hb c hr hw hn
    rw [bcR, if_neg (by omega)] at h ⊢
    cases hb
    all_goals
      rw [fn_text Tryz.func65 rfl rfl Tryz.results65 fq65.1 rfl rfl (by kernel_rfl)]
      simp -implicitDefEqProofs -dsimp +contextual (maxSteps := 9999999) (disch := first | omega | simp only [go_sem] <;> omega | refine ib ?_; kernel_rfl) only [go_sem, seval, ↓reduceIte, h]
  · have hc' : c = 105 ∨ c = 109 ∨ c = 107 ∨ c = 115 ∨ c = 118 ∨ c = 114 ∨ c = 49 := by omega
    rcases hc' with rfl | rfl | rfl | rfl | rfl | rfl | rfl
    · exact read_105 r s b hb hr hw
    · exact read_109 r s b hb hr hw
    · exact read_107 r s b hb hr hw
    · exact read_115 r s b hb hr hw
    · exact read_118 r s b hb hr hw
    · exact read_114 r s b hb hr hw
    · exact read_49 r s b hb hr hw
def namesL : List (List UInt8) := [[], [98, 111, 111, 116], [106, 111, 105, 110], [117, 112, 104, 111, 108, 100], [112, 117, 115, 104], [108, 101, 97, 118, 101], [99, 114, 97, 115, 104], [112, 117, 116], [100, 101, 108], [103, 101, 116], [116, 105, 99, 107], [100, 101, 108, 105, 118, 101, 114], [100, 114, 111, 112], [100, 111, 117, 98, 108, 101], [105, 110, 106, 101, 99, 116], [99, 104, 97, 110, 103, 101], [100, 114, 97, 119], [105, 115, 115, 117, 101], [97, 100, 118, 97, 110, 99, 101], [114, 101, 110, 101, 119]]
def wordR (k : Nat) : List UInt8 := namesL.getD k []
theorem wordIn (k : Nat) (h1 : 1 ≤ k) (h2 : k ≤ 19) : fn C 51 [] [.int .i64 (k : Int)] = some (.str (wordR k), []) := by
  rw [fn_text Tryz.func51 rfl rfl Tryz.results51 fq51.1 rfl rfl (by kernel_rfl)]
  simp -implicitDefEqProofs -dsimp +contextual (maxSteps := 9999999) (disch := first | omega | simp only [go_sem] <;> omega | refine ib ?_; kernel_rfl) only [go_sem, seval, ↓reduceIte, show ¬ k < 1 by omega, show ¬ 20 ≤ k by omega]
  rw [show List.take 1 (List.drop k [AVal.str [], .str [98, 111, 111, 116], .str [106, 111, 105, 110], .str [117, 112, 104, 111, 108, 100], .str [112, 117, 115, 104], .str [108, 101, 97, 118, 101], .str [99, 114, 97, 115, 104], .str [112, 117, 116], .str [100, 101, 108], .str [103, 101, 116], .str [116, 105, 99, 107], .str [100, 101, 108, 105, 118, 101, 114], .str [100, 114, 111, 112], .str [100, 111, 117, 98, 108, 101], .str [105, 110, 106, 101, 99, 116], .str [99, 104, 97, 110, 103, 101], .str [100, 114, 97, 119], .str [105, 115, 115, 117, 101], .str [97, 100, 118, 97, 110, 99, 101], .str [114, 101, 110, 101, 119]]) = [.str (wordR k)] by
    have h : k = 1 ∨ k = 2 ∨ k = 3 ∨ k = 4 ∨ k = 5 ∨ k = 6 ∨ k = 7 ∨ k = 8 ∨ k = 9 ∨ k = 10 ∨ k = 11 ∨ k = 12 ∨ k = 13 ∨ k = 14 ∨ k = 15 ∨ k = 16 ∨ k = 17 ∨ k = 18 ∨ k = 19 := by omega
    rcases h with rfl | rfl | rfl | rfl | rfl | rfl | rfl | rfl | rfl | rfl | rfl | rfl | rfl | rfl | rfl | rfl | rfl | rfl | rfl <;> rfl]
  simp -implicitDefEqProofs -dsimp +contextual (maxSteps := 9999999) (disch := first | omega | simp only [go_sem] <;> omega | refine ib ?_; kernel_rfl) only [go_sem, seval, ↓reduceIte]
theorem wordOut (k : Int) (h : k < 1 ∨ 20 ≤ k) : fn C 51 [] [.int .i64 k] = some (.str [], []) := by
  rw [fn_text Tryz.func51 rfl rfl Tryz.results51 fq51.1 rfl rfl (by kernel_rfl)]
  rcases h with h | h
  · simp -implicitDefEqProofs -dsimp +contextual (maxSteps := 9999999) (disch := first | omega | simp only [go_sem] <;> omega | refine ib ?_; kernel_rfl) only [go_sem, seval, ↓reduceIte, h]
  · simp -implicitDefEqProofs -dsimp +contextual (maxSteps := 9999999) (disch := first | omega | simp only [go_sem] <;> omega | refine ib ?_; kernel_rfl) only [go_sem, seval, ↓reduceIte, show ¬ k < 1 by omega, h]
theorem wordR_inj (i k : Nat) (h1 : 1 ≤ i) (h2 : i < k) (h3 : k ≤ 19) : ¬ wordR i = wordR k := by
  have : ∀ (k : Fin 20) (i : Fin 20), 1 ≤ i.val → i.val < k.val → ¬ wordR i.val = wordR k.val := by decide
  exact this ⟨k, by omega⟩ ⟨i, by omega⟩ h1 h2
def lettersP (k many : Nat) : List UInt8 :=
  if k = 1 then (if many ≤ 2 then [110, 109] else [110, 109, 49]) else if k = 2 then [110, 111] else if k = 3 then [110] else if k = 4 then [110] else if k = 5 then [110] else if k = 6 then [110] else if k = 7 then [110, 107, 118] else if k = 8 then [110, 107] else if k = 9 then [110, 107]
  else if k = 10 then [] else if k = 11 then [112] else if k = 12 then [112] else if k = 13 then [112] else if k = 14 then [109, 115, 114] else if k = 15 then [112, 97, 98] else if k = 16 then [105] else if k = 17 then [109, 105, 102, 117] else if k = 18 then (if many = 0 then [] else [109]) else if k = 19 then [110] else []
def formV (k many : Nat) : AVal := .tup [.int .i64 (k : Int), .str (lettersP k many), .bool (decide (k ≤ 19) && decide ((lettersP k many).length = many))]
def formQ (first : List UInt8) (k : Nat) : Prop := (k ≤ 19 → first = wordR k) ∧ ∀ i, 1 ≤ i → i < k → ¬ wordR i = first
theorem formEnd (k : Nat) (h : 1 ≤ k ∧ k ≤ 20) : k = 1 ∨ k = 2 ∨ k = 3 ∨ k = 4 ∨ k = 5 ∨ k = 6 ∨ k = 7 ∨ k = 8 ∨ k = 9 ∨ k = 10 ∨ k = 11 ∨ k = 12 ∨ k = 13 ∨ k = 14 ∨ k = 15 ∨ k = 16 ∨ k = 17 ∨ k = 18 ∨ k = 19 ∨ k = 20 := by omega
theorem formAt (first : List UInt8) (many k : Nat) (hm : many ≤ 1000000) (hk : 1 ≤ k ∧ k ≤ 20) (hq : formQ first k) : fn C 64 [] [.str first, .int .i64 (many : Int)] = some (formV k many, []) := by
  obtain ⟨q1, q2⟩ := hq
  rw [fn_text Tryz.func64 rfl rfl Tryz.results64 fq64.1 rfl rfl (by kernel_rfl)]
  simp -implicitDefEqProofs -dsimp +contextual (maxSteps := 9999999) (disch := first | omega | simp only [go_sem] <;> omega | refine ib ?_; kernel_rfl) only [go_sem, seval, ↓reduceIte]
  refine kLoop_rec (fun (i : Nat) f H => f 0 = .str first ∧ f 1 = .int .i64 (many : Int) ∧ f 4 = .int .i64 (i : Int) ∧ f 5 = .str [] ∧ f 6 = .bool false ∧ H = Heap.nil ∧ 1 ≤ i ∧ i ≤ k) (fun i => k - i) (fun _ => some (formV k many, [])) ?_ 1 _ _ ⟨rfl, rfl, rfl, rfl, rfl, rfl, by omega, by omega⟩
  rintro i f _ ⟨f0, f1, f4, f5, f6, rfl, hi1, hi⟩ ih
  by_cases hl : i < k
  · have w1 := wordIn i hi1 (by omega)
    simp -implicitDefEqProofs -dsimp +contextual (maxSteps := 9999999) (disch := first | omega | simp only [go_sem] <;> omega | refine ib ?_; kernel_rfl) only [go_sem, seval, ↓reduceIte, f0, f1, f4, f5, f6, w1, q2 i hi1 hl, show i ≤ 19 by omega]
    exact ih (i + 1) _ _ (by exact ⟨f0, f1, rfl, f5, f6, rfl, by omega, by omega⟩) (by omega)
  · obtain rfl : i = k := by omega
    clear ih q2 hl hi hi1
    rcases formEnd i hk with h | h | h | h | h | h | h | h | h | h | h | h | h | h | h | h | h | h | h | h
    · subst h
      have w1 := wordIn 1 (by omega) (by omega)
      simp only [Int.cast_ofNat_Int] at w1 f4
      obtain rfl := q1 (by omega)
      simp -implicitDefEqProofs -dsimp +contextual (maxSteps := 9999999) (disch := first | omega | simp only [go_sem] <;> omega | refine ib ?_; kernel_rfl) only [go_sem, seval, ↓reduceIte, f0, f1, f4, f5, f6, w1, formV]
      by_cases h2 : many ≤ 2
      · rw [show (if (3 : Int) < (if many < 2 then (2 : Int) else (many : Int)) then (3 : Int) else if many < 2 then (2 : Int) else (many : Int)) = 2 by split <;> (try split at *) <;> omega]
        simp [lettersP, h2]
      · rw [show (if (3 : Int) < (if many < 2 then (2 : Int) else (many : Int)) then (3 : Int) else if many < 2 then (2 : Int) else (many : Int)) = 3 by split <;> (try split at *) <;> omega]
        simp [lettersP, h2]
    · subst h
      have w1 := wordIn 2 (by omega) (by omega)
      simp only [Int.cast_ofNat_Int] at w1 f4
      obtain rfl := q1 (by omega)
      simp -implicitDefEqProofs -dsimp +contextual (maxSteps := 9999999) (disch := first | omega | simp only [go_sem] <;> omega | refine ib ?_; kernel_rfl) only [go_sem, seval, ↓reduceIte, f0, f1, f4, f5, f6, w1, formV]
      try simp [lettersP]
    · subst h
      have w1 := wordIn 3 (by omega) (by omega)
      simp only [Int.cast_ofNat_Int] at w1 f4
      obtain rfl := q1 (by omega)
      simp -implicitDefEqProofs -dsimp +contextual (maxSteps := 9999999) (disch := first | omega | simp only [go_sem] <;> omega | refine ib ?_; kernel_rfl) only [go_sem, seval, ↓reduceIte, f0, f1, f4, f5, f6, w1, formV]
      try simp [lettersP]
    · subst h
      have w1 := wordIn 4 (by omega) (by omega)
      simp only [Int.cast_ofNat_Int] at w1 f4
      obtain rfl := q1 (by omega)
      simp -implicitDefEqProofs -dsimp +contextual (maxSteps := 9999999) (disch := first | omega | simp only [go_sem] <;> omega | refine ib ?_; kernel_rfl) only [go_sem, seval, ↓reduceIte, f0, f1, f4, f5, f6, w1, formV]
      try simp [lettersP]
    · subst h
      have w1 := wordIn 5 (by omega) (by omega)
      simp only [Int.cast_ofNat_Int] at w1 f4
      obtain rfl := q1 (by omega)
      simp -implicitDefEqProofs -dsimp +contextual (maxSteps := 9999999) (disch := first | omega | simp only [go_sem] <;> omega | refine ib ?_; kernel_rfl) only [go_sem, seval, ↓reduceIte, f0, f1, f4, f5, f6, w1, formV]
      try simp [lettersP]
    · subst h
      have w1 := wordIn 6 (by omega) (by omega)
      simp only [Int.cast_ofNat_Int] at w1 f4
      obtain rfl := q1 (by omega)
      simp -implicitDefEqProofs -dsimp +contextual (maxSteps := 9999999) (disch := first | omega | simp only [go_sem] <;> omega | refine ib ?_; kernel_rfl) only [go_sem, seval, ↓reduceIte, f0, f1, f4, f5, f6, w1, formV]
      try simp [lettersP]
    · subst h
      have w1 := wordIn 7 (by omega) (by omega)
      simp only [Int.cast_ofNat_Int] at w1 f4
      obtain rfl := q1 (by omega)
      simp -implicitDefEqProofs -dsimp +contextual (maxSteps := 9999999) (disch := first | omega | simp only [go_sem] <;> omega | refine ib ?_; kernel_rfl) only [go_sem, seval, ↓reduceIte, f0, f1, f4, f5, f6, w1, formV]
      try simp [lettersP]
    · subst h
      have w1 := wordIn 8 (by omega) (by omega)
      simp only [Int.cast_ofNat_Int] at w1 f4
      obtain rfl := q1 (by omega)
      simp -implicitDefEqProofs -dsimp +contextual (maxSteps := 9999999) (disch := first | omega | simp only [go_sem] <;> omega | refine ib ?_; kernel_rfl) only [go_sem, seval, ↓reduceIte, f0, f1, f4, f5, f6, w1, formV]
      try simp [lettersP]
    · subst h
      have w1 := wordIn 9 (by omega) (by omega)
      simp only [Int.cast_ofNat_Int] at w1 f4
      obtain rfl := q1 (by omega)
      simp -implicitDefEqProofs -dsimp +contextual (maxSteps := 9999999) (disch := first | omega | simp only [go_sem] <;> omega | refine ib ?_; kernel_rfl) only [go_sem, seval, ↓reduceIte, f0, f1, f4, f5, f6, w1, formV]
      try simp [lettersP]
    · subst h
      have w1 := wordIn 10 (by omega) (by omega)
      simp only [Int.cast_ofNat_Int] at w1 f4
      obtain rfl := q1 (by omega)
      simp -implicitDefEqProofs -dsimp +contextual (maxSteps := 9999999) (disch := first | omega | simp only [go_sem] <;> omega | refine ib ?_; kernel_rfl) only [go_sem, seval, ↓reduceIte, f0, f1, f4, f5, f6, w1, formV]
      try simp [lettersP]
    · subst h
      have w1 := wordIn 11 (by omega) (by omega)
      simp only [Int.cast_ofNat_Int] at w1 f4
      obtain rfl := q1 (by omega)
      simp -implicitDefEqProofs -dsimp +contextual (maxSteps := 9999999) (disch := first | omega | simp only [go_sem] <;> omega | refine ib ?_; kernel_rfl) only [go_sem, seval, ↓reduceIte, f0, f1, f4, f5, f6, w1, formV]
      try simp [lettersP]
    · subst h
      have w1 := wordIn 12 (by omega) (by omega)
      simp only [Int.cast_ofNat_Int] at w1 f4
      obtain rfl := q1 (by omega)
      simp -implicitDefEqProofs -dsimp +contextual (maxSteps := 9999999) (disch := first | omega | simp only [go_sem] <;> omega | refine ib ?_; kernel_rfl) only [go_sem, seval, ↓reduceIte, f0, f1, f4, f5, f6, w1, formV]
      try simp [lettersP]
    · subst h
      have w1 := wordIn 13 (by omega) (by omega)
      simp only [Int.cast_ofNat_Int] at w1 f4
      obtain rfl := q1 (by omega)
      simp -implicitDefEqProofs -dsimp +contextual (maxSteps := 9999999) (disch := first | omega | simp only [go_sem] <;> omega | refine ib ?_; kernel_rfl) only [go_sem, seval, ↓reduceIte, f0, f1, f4, f5, f6, w1, formV]
      try simp [lettersP]
    · subst h
      have w1 := wordIn 14 (by omega) (by omega)
      simp only [Int.cast_ofNat_Int] at w1 f4
      obtain rfl := q1 (by omega)
      simp -implicitDefEqProofs -dsimp +contextual (maxSteps := 9999999) (disch := first | omega | simp only [go_sem] <;> omega | refine ib ?_; kernel_rfl) only [go_sem, seval, ↓reduceIte, f0, f1, f4, f5, f6, w1, formV]
      try simp [lettersP]
    · subst h
      have w1 := wordIn 15 (by omega) (by omega)
      simp only [Int.cast_ofNat_Int] at w1 f4
      obtain rfl := q1 (by omega)
      simp -implicitDefEqProofs -dsimp +contextual (maxSteps := 9999999) (disch := first | omega | simp only [go_sem] <;> omega | refine ib ?_; kernel_rfl) only [go_sem, seval, ↓reduceIte, f0, f1, f4, f5, f6, w1, formV]
      try simp [lettersP]
    · subst h
      have w1 := wordIn 16 (by omega) (by omega)
      simp only [Int.cast_ofNat_Int] at w1 f4
      obtain rfl := q1 (by omega)
      simp -implicitDefEqProofs -dsimp +contextual (maxSteps := 9999999) (disch := first | omega | simp only [go_sem] <;> omega | refine ib ?_; kernel_rfl) only [go_sem, seval, ↓reduceIte, f0, f1, f4, f5, f6, w1, formV]
      try simp [lettersP]
    · subst h
      have w1 := wordIn 17 (by omega) (by omega)
      simp only [Int.cast_ofNat_Int] at w1 f4
      obtain rfl := q1 (by omega)
      simp -implicitDefEqProofs -dsimp +contextual (maxSteps := 9999999) (disch := first | omega | simp only [go_sem] <;> omega | refine ib ?_; kernel_rfl) only [go_sem, seval, ↓reduceIte, f0, f1, f4, f5, f6, w1, formV]
      try simp [lettersP]
    · subst h
      have w1 := wordIn 18 (by omega) (by omega)
      simp only [Int.cast_ofNat_Int] at w1 f4
      obtain rfl := q1 (by omega)
      simp -implicitDefEqProofs -dsimp +contextual (maxSteps := 9999999) (disch := first | omega | simp only [go_sem] <;> omega | refine ib ?_; kernel_rfl) only [go_sem, seval, ↓reduceIte, f0, f1, f4, f5, f6, w1, formV]
      by_cases h0 : many = 0
      · subst h0
        simp [lettersP]
      · rw [show (if 1 < many then (1 : Int) else (many : Int)) = 1 by split <;> omega]
        simp [lettersP, h0]
    · subst h
      have w1 := wordIn 19 (by omega) (by omega)
      simp only [Int.cast_ofNat_Int] at w1 f4
      obtain rfl := q1 (by omega)
      simp -implicitDefEqProofs -dsimp +contextual (maxSteps := 9999999) (disch := first | omega | simp only [go_sem] <;> omega | refine ib ?_; kernel_rfl) only [go_sem, seval, ↓reduceIte, f0, f1, f4, f5, f6, w1, formV]
      try simp [lettersP]
    · subst h
      simp only [Int.cast_ofNat_Int] at f4
      simp -implicitDefEqProofs -dsimp +contextual (maxSteps := 9999999) (disch := first | omega | simp only [go_sem] <;> omega | refine ib ?_; kernel_rfl) only [go_sem, seval, ↓reduceIte, f0, f1, f4, f5, f6, formV]
      try simp [lettersP]
def readAll : List UInt8 → List (List UInt8) → St → St × Int
  | [], _, s => (s, 0)
  | c :: L, r, s => if (stepR c.toNat (nextR r) s).2 = 0 then readAll L r.tail (stepR c.toNat (nextR r) s).1 else stepR c.toNat (nextR r) s
def kindF (first : List UInt8) : Nat := ((List.range 20).find? fun k => decide (1 ≤ k) && decide (wordR k = first)).getD 20
theorem formQ_kind (first : List UInt8) : 1 ≤ kindF first ∧ kindF first ≤ 20 ∧ formQ first (kindF first) := by
  unfold kindF
  cases h : (List.range 20).find? fun k => decide (1 ≤ k) && decide (wordR k = first) with
  | none =>
    rw [List.find?_eq_none] at h
    simp only [Option.getD_none]
    refine ⟨by omega, by omega, fun h => by omega, fun i h1 h2 e => ?_⟩
    have := h i (by simp; omega)
    simp [e] at this; omega
  | some k =>
    have h1 := List.find?_some h
    have h2 := List.mem_of_find?_eq_some h
    simp at h1 h2
    simp only [Option.getD_some]
    refine ⟨by omega, by omega, fun _ => h1.2.symm, fun i h3 h4 e => ?_⟩
    exact wordR_inj i k h3 h4 (by omega) (e.trans h1.2.symm)
def okLs (L : List UInt8) : Bool := decide (L.length ≤ 4) && L.all fun c => decide (c.toNat = 110 ∨ c.toNat = 111 ∨ c.toNat = 112 ∨ c.toNat = 102 ∨ c.toNat = 117 ∨ c.toNat = 97 ∨ c.toNat = 98 ∨ c.toNat = 105 ∨ c.toNat = 109 ∨ c.toNat = 107 ∨ c.toNat = 115 ∨ c.toNat = 118 ∨ c.toNat = 114 ∨ c.toNat = 49)
theorem okLs_ite {p : Prop} [Decidable p] {a b : List UInt8} (ha : okLs a = true) (hb : okLs b = true) : okLs (if p then a else b) = true := by split <;> assumption
theorem lettersP_okLs (k m : Nat) : okLs (lettersP k m) = true := by
  unfold lettersP
  repeat' (first | decide | refine okLs_ite ?_ ?_)
theorem lettersP_len (k m : Nat) : (lettersP k m).length ≤ 4 := by
  have h := lettersP_okLs k m
  simp only [okLs, Bool.and_eq_true, decide_eq_true_eq] at h
  exact h.1
theorem lettersP_ok (k m : Nat) : ∀ c ∈ lettersP k m, okL c.toNat := by
  have h := lettersP_okLs k m
  simp only [okLs, Bool.and_eq_true, decide_eq_true_eq, List.all_eq_true] at h
  exact h.2
theorem parts_mem (c : UInt8) : ∀ (l p : List UInt8), p ∈ parts c l → p.length ≤ l.length
  | [], p, h => by simp [parts] at h; subst h; simp
  | x :: l, p, h => by
    have ih := parts_mem c l
    unfold parts at h
    split at h
    · rcases List.mem_cons.1 h with rfl | h
      · simp
      · have := ih p h; simp; omega
    · cases hp : parts c l with
      | nil => exact absurd hp (parts_ne c l)
      | cons a t =>
        rw [hp] at h ih
        simp only [List.headD_cons, List.tail_cons] at h
        rcases List.mem_cons.1 h with rfl | h
        · have := ih a (by simp); simp; omega
        · have := ih p (by simp [h]); simp; omega
theorem parts_count (c : UInt8) : ∀ (l : List UInt8), (parts c l).length ≤ l.length + 1
  | [] => by simp [parts]
  | x :: l => by
    have ih := parts_count c l
    unfold parts
    split
    · simp; omega
    · cases hp : parts c l with
      | nil => exact absurd hp (parts_ne c l)
      | cons a t => rw [hp] at ih; simp at ih ⊢; omega
def okW (r : List (List UInt8)) : Prop := r.length ≤ 1000000 ∧ ∀ p ∈ r, p.length ≤ 1000000
theorem okW.next {r : List (List UInt8)} (h : okW r) : (nextR r).length ≤ 1000000 := by
  cases r with
  | nil => simp [nextR]
  | cons a r => exact h.2 a (by simp)
theorem okW.tail {r : List (List UInt8)} (h : okW r) : okW r.tail := ⟨by have := h.1; simp; omega, fun p hp => h.2 p (List.mem_of_mem_tail hp)⟩
def finR (q : St × Int) : St × Int := if q.2 = 0 then q else (stZ, q.2)
def readR (line : List UInt8) : St × Int :=
  if kindF ((parts 32 line).headD []) ≤ 19 ∧ (lettersP (kindF ((parts 32 line).headD [])) ((parts 32 line).length - 1)).length = (parts 32 line).length - 1 ∧ ¬(kindF ((parts 32 line).headD []) = 1 ∧ (parts 32 line).length = 4 ∧ (parts 32 line).getD 3 [] ≠ [97, 108, 111, 110, 101]) then
    finR (readAll (lettersP (kindF ((parts 32 line).headD [])) ((parts 32 line).length - 1)) (parts 32 line).tail { stZ with kind := (kindF ((parts 32 line).headD []) : Int) })
  else (stZ, 50)
def stV (q : St × Int) : AVal := .tup [.agg [.int .i64 q.1.kind, .int .i64 q.1.node, .int .i64 q.1.other, .int .i64 q.1.n, .int .i64 q.1.fr, .int .i64 q.1.un, .int .u64 (q.1.id : Int), .str q.1.key, .str q.1.val, .slice 1 (q.1.bs.map byteRow)], .int .i64 q.2]
theorem bcR_ok (c : Nat) (w : List UInt8) {b : AVal} (h : BsC b) : BsC (bcR c b w) := by
  unfold bcR; split
  · exact .sl _
  · exact h
def BsOk (b : AVal) (bs : List UInt8) : Prop := b = .slice 1 (bs.map byteRow) ∨ (b = .sc (.slice none 0 0) ∧ bs = [])
theorem ite_bs {p : Prop} [Decidable p] {x y : St × Int} {v : List UInt8} (hx : x.1.bs = v) (hy : y.1.bs = v) : (if p then x else y).1.bs = v := by split <;> assumption
theorem stepR_bs (c : Nat) (w : List UInt8) (s : St) : (stepR c w s).1.bs = if c = 114 then (rawR w 2048).1 else s.bs := by
  by_cases h : c = 114
  · subst h
    rw [stepR_114, if_pos rfl]
  · rw [if_neg h]
    unfold stepR
    simp only [h, if_false]
    repeat' (first | rfl | refine ite_bs ?_ ?_)
theorem BsOk_step {s : St} (c : Nat) (w : List UInt8) {b : AVal} (h : BsOk b s.bs) : BsOk (bcR c b w) (stepR c w s).1.bs := by
  rw [stepR_bs]
  unfold bcR; split
  · exact .inl rfl
  · exact h
theorem finR_step {s : St} (c : UInt8) (L : List UInt8) (r : List (List UInt8)) (h : (stepR c.toNat (nextR r) s).2 = 0) : readAll (c :: L) r s = readAll L r.tail (stepR c.toNat (nextR r) s).1 := by rw [readAll, if_pos h]
theorem finR_stop {s : St} (c : UInt8) (L : List UInt8) (r : List (List UInt8)) (h : ¬ (stepR c.toNat (nextR r) s).2 = 0) : finR (readAll (c :: L) r s) = (stZ, (stepR c.toNat (nextR r) s).2) := by rw [readAll, if_neg h, finR, if_neg h]
theorem e43 (line : List UInt8) (hl : line.length ≤ 900000) : fn C 43 [] [.str line] = some (stV (readR line), []) := by
  have hw : okW (parts 32 line) := ⟨by have := parts_count 32 line; omega, fun p hp => by have := parts_mem 32 line p hp; omega⟩
  have sp := e63 line 32 (by omega)
  unfold readR
  cases hp : parts 32 line with
  | nil => exact absurd hp (parts_ne 32 line)
  | cons w r =>
    rw [hp] at hw sp
    have hr := hw.tail
    have h1 := hw.1
    simp only [List.tail_cons, List.length_cons, List.headD_cons, Nat.add_sub_cancel] at hr h1 ⊢
    have hf := formQ_kind w
    have fo := formAt w r.length (kindF w) (by omega) ⟨hf.1, hf.2.1⟩ hf.2.2
    rw [formV] at fo
    have hle := lettersP_len (kindF w) r.length
    have hok := lettersP_ok (kindF w) r.length
    generalize lettersP (kindF w) r.length = L at *
    generalize kindF w = k at *
    by_cases c1 : k ≤ 19 ∧ L.length = r.length
    · obtain ⟨c1, c2⟩ := c1
      by_cases c3 : k = 1 ∧ r.length = 3 ∧ ¬ r.getD 2 [] = [97, 108, 111, 110, 101]
      · obtain ⟨rfl, c4, c5⟩ := c3
        match r, c4 with
        | [x, y, z], _ =>
          simp only [List.getD_cons_succ, List.getD_cons_zero] at c5
          rw [if_neg (fun h => h.2.2 ⟨rfl, rfl, c5⟩)]
          simp only [List.length_cons, List.length_nil, Nat.zero_add, Nat.reduceAdd, Int.cast_ofNat_Int] at fo c2
          rw [show (decide (1 ≤ 19) && decide (L.length = 3)) = true by simp [c2]] at fo
          rw [fn_text Tryz.func43 rfl rfl Tryz.results43 fq43.1 rfl rfl (by kernel_rfl)]
          simp -implicitDefEqProofs -dsimp +contextual (maxSteps := 9999999) (disch := first | omega | simp only [go_sem] <;> omega | refine ib ?_; kernel_rfl) only [go_sem, seval, ↓reduceIte, sp, fo, c5]
          simp [stV, stZ]
      · rw [if_pos ⟨c1, c2, fun h => c3 ⟨h.1, by omega, by simpa using h.2.2⟩⟩]
        rw [show (decide (k ≤ 19) && decide (L.length = r.length)) = true by simp [c1, c2]] at fo
        have hx : k = 1 → r.length = 3 → r.getD 2 [] = [97, 108, 111, 110, 101] := fun a b => Classical.byContradiction fun e => c3 ⟨a, b, e⟩
        have hcase : (k = 1 ∧ ∃ x y, r = [x, y, [97, 108, 111, 110, 101]]) ∨ (k = 1 ∧ ¬ r.length = 3) ∨ ¬ k = 1 := by
          by_cases e1 : k = 1
          · by_cases e2 : r.length = 3
            · have := hx e1 e2
              match r, e2 with
              | [x, y, z], _ => simp at this; subst this; exact .inl ⟨e1, x, y, rfl⟩
            · exact .inr (.inl ⟨e1, e2⟩)
          · exact .inr (.inr e1)
        clear hx c3 hf
        rcases hcase with ⟨rfl, x, y, rfl⟩ | ⟨rfl, e2⟩ | e1
        all_goals rw [fn_text Tryz.func43 rfl rfl Tryz.results43 fq43.1 rfl rfl (by kernel_rfl)]
        · simp only [List.length_cons, List.length_nil, Nat.zero_add, Nat.reduceAdd, Int.cast_ofNat_Int] at fo c2
          simp -implicitDefEqProofs -dsimp +contextual (maxSteps := 9999999) (disch := first | omega | simp only [go_sem] <;> omega | refine ib ?_; kernel_rfl) only [go_sem, seval, ↓reduceIte, sp, fo, c2]
          refine kLoop_rec (fun (a : Nat × List (List UInt8) × St × AVal) f H => a.1 ≤ L.length ∧ okW a.2.1 ∧ BsOk a.2.2.2 a.2.2.1.bs ∧ BsC a.2.2.2 ∧ f 2 = .ptr 102 1 0 0 ∧ f 6 = .str L ∧ f 8 = .ptr 146 1 0 0 ∧ f 48 = .int .i64 (L.length : Int) ∧ f 49 = .int .i64 (a.1 : Int) ∧
            H 102 = ⟨1, .live, 10, [[.int .i64 0, .int .i64 0, .int .i64 0, .int .i64 0, .int .i64 0, .int .i64 0, .int .u64 0, .str [], .str [], .sc (.slice none 0 0)]], false⟩ ∧
            H 146 = ⟨1, .live, 12, [[.slice 1 (a.2.1.map strRow), .int .i64 a.2.2.1.kind, .int .i64 a.2.2.1.node, .int .i64 a.2.2.1.other, .int .i64 a.2.2.1.n, .int .i64 a.2.2.1.fr, .int .i64 a.2.2.1.un, .int .u64 (a.2.2.1.id : Int), .str a.2.2.1.key, .str a.2.2.1.val, a.2.2.2, .int .i64 0]], false⟩)
            (fun a => L.length - a.1) (fun a => some (stV (finR (readAll (L.drop a.1) a.2.1 a.2.2.1)), [])) ?_ (0, [x, y, [97, 108, 111, 110, 101]], ⟨1, 0, 0, 0, 0, 0, 0, [], [], []⟩, .sc (.slice none 0 0)) _ _ (by exact ⟨Nat.zero_le _, hr, .inr ⟨rfl, rfl⟩, .nil, rfl, rfl, rfl, by simp [upd, c2], rfl, by simp [Heap.set], by simp [Heap.set, strRow]⟩)
          rintro ⟨i, r', s', b⟩ f H ⟨hi, hw', hB, hb, f2, f6, f8, f48, f49, H1, H2⟩ ih
          simp only at hi hw' hB hb f49 H2 ih
          by_cases hlt : i < L.length
          · have hc := wordsRead r' s' b hb L[i].toNat hw'.1 hw'.next (hok _ (List.getElem_mem hlt))
            have hb2 := bcR_ok L[i].toNat (nextR r') hb
            have hB2 := BsOk_step L[i].toNat (nextR r') hB
            have ih' := ih (i + 1, r'.tail, (stepR L[i].toNat (nextR r') s').1, bcR L[i].toNat b (nextR r'))
            simp only at ih'
            clear ih
            rw [List.drop_eq_getElem_cons hlt]
            by_cases z : (stepR L[i].toNat (nextR r') s').2 = 0
            · rw [finR_step _ _ _ z]
              rw [z] at hc
              generalize stepR L[i].toNat (nextR r') s' = q at *
              generalize bcR L[i].toNat b (nextR r') = b2 at *
              cases hb
              all_goals
                cases hb2
                all_goals
                  simp -implicitDefEqProofs -dsimp +contextual (maxSteps := 9999999) (disch := first | omega | simp only [go_sem] <;> omega | refine ib ?_; kernel_rfl) only [go_sem, seval, ↓reduceIte, f2, f6, f8, f48, f49, H1, H2, hlt, hc]
                  exact ih' _ _ (by exact ⟨hlt, hw'.tail, hB2, by first | exact .nil | exact .sl _, f2, f6, f8, f48, rfl, H1, rfl⟩) (by omega)
            · rw [finR_stop _ _ _ z]
              generalize stepR L[i].toNat (nextR r') s' = q at *
              generalize bcR L[i].toNat b (nextR r') = b2 at *
              cases hb
              all_goals
                cases hb2
                all_goals
                  simp -implicitDefEqProofs -dsimp +contextual (maxSteps := 9999999) (disch := first | omega | simp only [go_sem] <;> omega | refine ib ?_; kernel_rfl) only [go_sem, seval, ↓reduceIte, f2, f6, f8, f48, f49, H1, H2, hlt, hc, z]
                  simp [stV, stZ]
          · obtain rfl : i = L.length := by omega
            clear ih
            rw [List.drop_length, readAll, finR, if_pos rfl]
            rcases hB with rfl | ⟨rfl, hB⟩
            · simp -implicitDefEqProofs -dsimp +contextual (maxSteps := 9999999) (disch := first | omega | simp only [go_sem] <;> omega | refine ib ?_; kernel_rfl) only [go_sem, seval, ↓reduceIte, f2, f6, f8, f48, f49, H1, H2]
              simp [stV]
            · simp -implicitDefEqProofs -dsimp +contextual (maxSteps := 9999999) (disch := first | omega | simp only [go_sem] <;> omega | refine ib ?_; kernel_rfl) only [go_sem, seval, ↓reduceIte, f2, f6, f8, f48, f49, H1, H2]
              simp [stV, hB]
        · simp only [Int.cast_ofNat_Int] at fo
          simp -implicitDefEqProofs -dsimp +contextual (maxSteps := 9999999) (disch := first | omega | simp only [go_sem] <;> omega | refine ib ?_; kernel_rfl) only [go_sem, seval, ↓reduceIte, sp, fo, c2, e2]
          refine kLoop_rec (fun (a : Nat × List (List UInt8) × St × AVal) f H => a.1 ≤ L.length ∧ okW a.2.1 ∧ BsOk a.2.2.2 a.2.2.1.bs ∧ BsC a.2.2.2 ∧ f 2 = .ptr 102 1 0 0 ∧ f 6 = .str L ∧ f 8 = .ptr 146 1 0 0 ∧ f 48 = .int .i64 (L.length : Int) ∧ f 49 = .int .i64 (a.1 : Int) ∧
            H 102 = ⟨1, .live, 10, [[.int .i64 0, .int .i64 0, .int .i64 0, .int .i64 0, .int .i64 0, .int .i64 0, .int .u64 0, .str [], .str [], .sc (.slice none 0 0)]], false⟩ ∧
            H 146 = ⟨1, .live, 12, [[.slice 1 (a.2.1.map strRow), .int .i64 a.2.2.1.kind, .int .i64 a.2.2.1.node, .int .i64 a.2.2.1.other, .int .i64 a.2.2.1.n, .int .i64 a.2.2.1.fr, .int .i64 a.2.2.1.un, .int .u64 (a.2.2.1.id : Int), .str a.2.2.1.key, .str a.2.2.1.val, a.2.2.2, .int .i64 0]], false⟩)
            (fun a => L.length - a.1) (fun a => some (stV (finR (readAll (L.drop a.1) a.2.1 a.2.2.1)), [])) ?_ (0, r, ⟨1, 0, 0, 0, 0, 0, 0, [], [], []⟩, .sc (.slice none 0 0)) _ _ (by exact ⟨Nat.zero_le _, hr, .inr ⟨rfl, rfl⟩, .nil, rfl, rfl, rfl, by simp [upd, c2], rfl, by simp [Heap.set], by simp [Heap.set, strRow]⟩)
          rintro ⟨i, r', s', b⟩ f H ⟨hi, hw', hB, hb, f2, f6, f8, f48, f49, H1, H2⟩ ih
          simp only at hi hw' hB hb f49 H2 ih
          by_cases hlt : i < L.length
          · have hc := wordsRead r' s' b hb L[i].toNat hw'.1 hw'.next (hok _ (List.getElem_mem hlt))
            have hb2 := bcR_ok L[i].toNat (nextR r') hb
            have hB2 := BsOk_step L[i].toNat (nextR r') hB
            have ih' := ih (i + 1, r'.tail, (stepR L[i].toNat (nextR r') s').1, bcR L[i].toNat b (nextR r'))
            simp only at ih'
            clear ih
            rw [List.drop_eq_getElem_cons hlt]
            by_cases z : (stepR L[i].toNat (nextR r') s').2 = 0
            · rw [finR_step _ _ _ z]
              rw [z] at hc
              generalize stepR L[i].toNat (nextR r') s' = q at *
              generalize bcR L[i].toNat b (nextR r') = b2 at *
              cases hb
              all_goals
                cases hb2
                all_goals
                  simp -implicitDefEqProofs -dsimp +contextual (maxSteps := 9999999) (disch := first | omega | simp only [go_sem] <;> omega | refine ib ?_; kernel_rfl) only [go_sem, seval, ↓reduceIte, f2, f6, f8, f48, f49, H1, H2, hlt, hc]
                  exact ih' _ _ (by exact ⟨hlt, hw'.tail, hB2, by first | exact .nil | exact .sl _, f2, f6, f8, f48, rfl, H1, rfl⟩) (by omega)
            · rw [finR_stop _ _ _ z]
              generalize stepR L[i].toNat (nextR r') s' = q at *
              generalize bcR L[i].toNat b (nextR r') = b2 at *
              cases hb
              all_goals
                cases hb2
                all_goals
                  simp -implicitDefEqProofs -dsimp +contextual (maxSteps := 9999999) (disch := first | omega | simp only [go_sem] <;> omega | refine ib ?_; kernel_rfl) only [go_sem, seval, ↓reduceIte, f2, f6, f8, f48, f49, H1, H2, hlt, hc, z]
                  simp [stV, stZ]
          · obtain rfl : i = L.length := by omega
            clear ih
            rw [List.drop_length, readAll, finR, if_pos rfl]
            rcases hB with rfl | ⟨rfl, hB⟩
            · simp -implicitDefEqProofs -dsimp +contextual (maxSteps := 9999999) (disch := first | omega | simp only [go_sem] <;> omega | refine ib ?_; kernel_rfl) only [go_sem, seval, ↓reduceIte, f2, f6, f8, f48, f49, H1, H2]
              simp [stV]
            · simp -implicitDefEqProofs -dsimp +contextual (maxSteps := 9999999) (disch := first | omega | simp only [go_sem] <;> omega | refine ib ?_; kernel_rfl) only [go_sem, seval, ↓reduceIte, f2, f6, f8, f48, f49, H1, H2]
              simp [stV, hB]
        · simp -implicitDefEqProofs -dsimp +contextual (maxSteps := 9999999) (disch := first | omega | simp only [go_sem] <;> omega | refine ib ?_; kernel_rfl) only [go_sem, seval, ↓reduceIte, sp, fo, c1, c2, e1]
          refine kLoop_rec (fun (a : Nat × List (List UInt8) × St × AVal) f H => a.1 ≤ L.length ∧ okW a.2.1 ∧ BsOk a.2.2.2 a.2.2.1.bs ∧ BsC a.2.2.2 ∧ f 2 = .ptr 102 1 0 0 ∧ f 6 = .str L ∧ f 8 = .ptr 146 1 0 0 ∧ f 48 = .int .i64 (L.length : Int) ∧ f 49 = .int .i64 (a.1 : Int) ∧
            H 102 = ⟨1, .live, 10, [[.int .i64 0, .int .i64 0, .int .i64 0, .int .i64 0, .int .i64 0, .int .i64 0, .int .u64 0, .str [], .str [], .sc (.slice none 0 0)]], false⟩ ∧
            H 146 = ⟨1, .live, 12, [[.slice 1 (a.2.1.map strRow), .int .i64 a.2.2.1.kind, .int .i64 a.2.2.1.node, .int .i64 a.2.2.1.other, .int .i64 a.2.2.1.n, .int .i64 a.2.2.1.fr, .int .i64 a.2.2.1.un, .int .u64 (a.2.2.1.id : Int), .str a.2.2.1.key, .str a.2.2.1.val, a.2.2.2, .int .i64 0]], false⟩)
            (fun a => L.length - a.1) (fun a => some (stV (finR (readAll (L.drop a.1) a.2.1 a.2.2.1)), [])) ?_ (0, r, ⟨(k : Int), 0, 0, 0, 0, 0, 0, [], [], []⟩, .sc (.slice none 0 0)) _ _ (by exact ⟨Nat.zero_le _, hr, .inr ⟨rfl, rfl⟩, .nil, rfl, rfl, rfl, by simp [upd, c2], rfl, by simp [Heap.set], by simp [Heap.set, strRow]⟩)
          rintro ⟨i, r', s', b⟩ f H ⟨hi, hw', hB, hb, f2, f6, f8, f48, f49, H1, H2⟩ ih
          simp only at hi hw' hB hb f49 H2 ih
          by_cases hlt : i < L.length
          · have hc := wordsRead r' s' b hb L[i].toNat hw'.1 hw'.next (hok _ (List.getElem_mem hlt))
            have hb2 := bcR_ok L[i].toNat (nextR r') hb
            have hB2 := BsOk_step L[i].toNat (nextR r') hB
            have ih' := ih (i + 1, r'.tail, (stepR L[i].toNat (nextR r') s').1, bcR L[i].toNat b (nextR r'))
            simp only at ih'
            clear ih
            rw [List.drop_eq_getElem_cons hlt]
            by_cases z : (stepR L[i].toNat (nextR r') s').2 = 0
            · rw [finR_step _ _ _ z]
              rw [z] at hc
              generalize stepR L[i].toNat (nextR r') s' = q at *
              generalize bcR L[i].toNat b (nextR r') = b2 at *
              cases hb
              all_goals
                cases hb2
                all_goals
                  simp -implicitDefEqProofs -dsimp +contextual (maxSteps := 9999999) (disch := first | omega | simp only [go_sem] <;> omega | refine ib ?_; kernel_rfl) only [go_sem, seval, ↓reduceIte, f2, f6, f8, f48, f49, H1, H2, hlt, hc]
                  exact ih' _ _ (by exact ⟨hlt, hw'.tail, hB2, by first | exact .nil | exact .sl _, f2, f6, f8, f48, rfl, H1, rfl⟩) (by omega)
            · rw [finR_stop _ _ _ z]
              generalize stepR L[i].toNat (nextR r') s' = q at *
              generalize bcR L[i].toNat b (nextR r') = b2 at *
              cases hb
              all_goals
                cases hb2
                all_goals
                  simp -implicitDefEqProofs -dsimp +contextual (maxSteps := 9999999) (disch := first | omega | simp only [go_sem] <;> omega | refine ib ?_; kernel_rfl) only [go_sem, seval, ↓reduceIte, f2, f6, f8, f48, f49, H1, H2, hlt, hc, z]
                  simp [stV, stZ]
          · obtain rfl : i = L.length := by omega
            clear ih
            rw [List.drop_length, readAll, finR, if_pos rfl]
            rcases hB with rfl | ⟨rfl, hB⟩
            · simp -implicitDefEqProofs -dsimp +contextual (maxSteps := 9999999) (disch := first | omega | simp only [go_sem] <;> omega | refine ib ?_; kernel_rfl) only [go_sem, seval, ↓reduceIte, f2, f6, f8, f48, f49, H1, H2]
              simp [stV]
            · simp -implicitDefEqProofs -dsimp +contextual (maxSteps := 9999999) (disch := first | omega | simp only [go_sem] <;> omega | refine ib ?_; kernel_rfl) only [go_sem, seval, ↓reduceIte, f2, f6, f8, f48, f49, H1, H2]
              simp [stV, hB]
    · rw [if_neg (fun h => c1 ⟨h.1, h.2.1⟩)]
      rw [show (decide (k ≤ 19) && decide (L.length = r.length)) = false by simp only [Bool.and_eq_false_iff, decide_eq_false_iff_not]; omega] at fo
      rw [fn_text Tryz.func43 rfl rfl Tryz.results43 fq43.1 rfl rfl (by kernel_rfl)]
      simp -implicitDefEqProofs -dsimp +contextual (maxSteps := 9999999) (disch := first | omega | simp only [go_sem] <;> omega | refine ib ?_; kernel_rfl) only [go_sem, seval, ↓reduceIte, sp, fo]
      simp [stV, stZ]
structure St.ok (s : St) : Prop where
  k1 : -9223372036854775808 ≤ s.kind
  k2 : s.kind ≤ 9223372036854775807
  a1 : -9223372036854775808 ≤ s.node
  a2 : s.node ≤ 9223372036854775807
  b1 : -9223372036854775808 ≤ s.other
  b2 : s.other ≤ 9223372036854775807
  c1 : -9223372036854775808 ≤ s.n
  c2 : s.n ≤ 9223372036854775807
  d1 : -9223372036854775808 ≤ s.fr
  d2 : s.fr ≤ 9223372036854775807
  e1 : -9223372036854775808 ≤ s.un
  e2 : s.un ≤ 9223372036854775807
  f2 : s.id ≤ 18446744073709551615
  g1 : s.key.length ≤ 100000
  g2 : s.val.length ≤ 100000
  g3 : s.bs.length ≤ 100000
def toldR (s : St) : List (List UInt8) :=
  if s.kind = 17 then [s.key, hexR s.id, Lib.itoa s.fr, Lib.itoa s.un]
  else if s.kind = 1 then (if s.n = 1 then [Lib.itoa s.node, s.key, [97, 108, 111, 110, 101]] else [Lib.itoa s.node, s.key])
  else if s.kind = 2 then [Lib.itoa s.node, Lib.itoa s.other]
  else if s.kind = 3 ∨ s.kind = 4 ∨ s.kind = 5 ∨ s.kind = 6 ∨ s.kind = 19 then [Lib.itoa s.node]
  else if s.kind = 7 then [Lib.itoa s.node, s.key, bytesR s.val]
  else if s.kind = 8 ∨ s.kind = 9 then [Lib.itoa s.node, s.key]
  else if s.kind = 11 ∨ s.kind = 12 ∨ s.kind = 13 then [Lib.itoa s.n]
  else if s.kind = 14 then [s.key, s.val, bytesR s.bs]
  else if s.kind = 15 then [Lib.itoa s.n, Lib.itoa s.fr, Lib.itoa s.un]
  else if s.kind = 16 then [hexR s.id]
  else if s.kind = 18 ∧ s.key ≠ [] then [s.key] else []
def wordK (k : Int) : List UInt8 := if 1 ≤ k ∧ k ≤ 19 then wordR k.toNat else []
def lineW (s : St) : List UInt8 := Lib.join (wordK s.kind :: toldR s) [32]
def lineR (s : St) : List UInt8 × Int := if readR (lineW s) = (s, 0) then (lineW s, 0) else ([], 2)
@[go_sem] theorem e51 (k : Int) (h1 : -9223372036854775808 ≤ k) (h2 : k ≤ 9223372036854775807) : fn C 51 [] [.int .i64 k] = some (.str (wordK k), []) := by
  by_cases h : 1 ≤ k ∧ k ≤ 19
  · obtain ⟨n, rfl⟩ := Int.eq_ofNat_of_zero_le (show 0 ≤ k by omega)
    rw [wordIn n (by omega) (by omega), wordK, if_pos h]
    rfl
  · rw [wordOut k (by omega), wordK, if_neg h]
theorem e52 (s : St) (h : s.ok) : fn C 52 [] [.agg [.int .i64 s.kind, .int .i64 s.node, .int .i64 s.other, .int .i64 s.n, .int .i64 s.fr, .int .i64 s.un, .int .u64 (s.id : Int), .str s.key, .str s.val, .slice 1 (s.bs.map byteRow)]] = some (.slice 1 ((toldR s).map strRow), []) := by
  have := h.f2; have := h.a1; have := h.a2; have := h.b1; have := h.b2; have := h.c1; have := h.c2; have := h.d1; have := h.d2; have := h.e1; have := h.e2; have := h.g1; have := h.g2; have := h.g3
  by_cases h1 : s.kind = 1
  · by_cases g : s.n = 1
    · rw [show toldR s = [Lib.itoa s.node, s.key, [97, 108, 111, 110, 101]] by simp [toldR, h1, g]]
      rw [fn_text Tryz.func52 rfl rfl Tryz.results52 fq52.1 rfl rfl (by kernel_rfl)]
      simp -implicitDefEqProofs -dsimp +contextual (maxSteps := 9999999) (disch := first | omega | simp only [go_sem] <;> omega | refine ib ?_; kernel_rfl) only [go_sem, seval, ↓reduceIte, h1, g]
    · rw [show toldR s = [Lib.itoa s.node, s.key] by simp [toldR, h1, g]]
      rw [fn_text Tryz.func52 rfl rfl Tryz.results52 fq52.1 rfl rfl (by kernel_rfl)]
      simp -implicitDefEqProofs -dsimp +contextual (maxSteps := 9999999) (disch := first | omega | simp only [go_sem] <;> omega | refine ib ?_; kernel_rfl) only [go_sem, seval, ↓reduceIte, h1, g]
  by_cases h18 : s.kind = 18
  · by_cases g : s.key = []
    · rw [show toldR s = [] by simp [toldR, h18, g]]
      rw [fn_text Tryz.func52 rfl rfl Tryz.results52 fq52.1 rfl rfl (by kernel_rfl)]
      simp -implicitDefEqProofs -dsimp +contextual (maxSteps := 9999999) (disch := first | omega | simp only [go_sem] <;> omega | refine ib ?_; kernel_rfl) only [go_sem, seval, ↓reduceIte, h18, g]
    · rw [show toldR s = [s.key] by simp [toldR, h18, g]]
      rw [fn_text Tryz.func52 rfl rfl Tryz.results52 fq52.1 rfl rfl (by kernel_rfl)]
      simp -implicitDefEqProofs -dsimp +contextual (maxSteps := 9999999) (disch := first | omega | simp only [go_sem] <;> omega | refine ib ?_; kernel_rfl) only [go_sem, seval, ↓reduceIte, h18, g]
  by_cases h2 : s.kind = 2
  · rw [show toldR s = [Lib.itoa s.node, Lib.itoa s.other] by simp [toldR, h2]]
    rw [fn_text Tryz.func52 rfl rfl Tryz.results52 fq52.1 rfl rfl (by kernel_rfl)]
    simp -implicitDefEqProofs -dsimp +contextual (maxSteps := 9999999) (disch := first | omega | simp only [go_sem] <;> omega | refine ib ?_; kernel_rfl) only [go_sem, seval, ↓reduceIte, h2]
  by_cases h3 : s.kind = 3
  · rw [show toldR s = [Lib.itoa s.node] by simp [toldR, h3]]
    rw [fn_text Tryz.func52 rfl rfl Tryz.results52 fq52.1 rfl rfl (by kernel_rfl)]
    simp -implicitDefEqProofs -dsimp +contextual (maxSteps := 9999999) (disch := first | omega | simp only [go_sem] <;> omega | refine ib ?_; kernel_rfl) only [go_sem, seval, ↓reduceIte, h3]
  by_cases h4 : s.kind = 4
  · rw [show toldR s = [Lib.itoa s.node] by simp [toldR, h4]]
    rw [fn_text Tryz.func52 rfl rfl Tryz.results52 fq52.1 rfl rfl (by kernel_rfl)]
    simp -implicitDefEqProofs -dsimp +contextual (maxSteps := 9999999) (disch := first | omega | simp only [go_sem] <;> omega | refine ib ?_; kernel_rfl) only [go_sem, seval, ↓reduceIte, h4]
  by_cases h5 : s.kind = 5
  · rw [show toldR s = [Lib.itoa s.node] by simp [toldR, h5]]
    rw [fn_text Tryz.func52 rfl rfl Tryz.results52 fq52.1 rfl rfl (by kernel_rfl)]
    simp -implicitDefEqProofs -dsimp +contextual (maxSteps := 9999999) (disch := first | omega | simp only [go_sem] <;> omega | refine ib ?_; kernel_rfl) only [go_sem, seval, ↓reduceIte, h5]
  by_cases h6 : s.kind = 6
  · rw [show toldR s = [Lib.itoa s.node] by simp [toldR, h6]]
    rw [fn_text Tryz.func52 rfl rfl Tryz.results52 fq52.1 rfl rfl (by kernel_rfl)]
    simp -implicitDefEqProofs -dsimp +contextual (maxSteps := 9999999) (disch := first | omega | simp only [go_sem] <;> omega | refine ib ?_; kernel_rfl) only [go_sem, seval, ↓reduceIte, h6]
  by_cases h7 : s.kind = 7
  · rw [show toldR s = [Lib.itoa s.node, s.key, bytesR s.val] by simp [toldR, h7]]
    rw [fn_text Tryz.func52 rfl rfl Tryz.results52 fq52.1 rfl rfl (by kernel_rfl)]
    simp -implicitDefEqProofs -dsimp +contextual (maxSteps := 9999999) (disch := first | omega | simp only [go_sem] <;> omega | refine ib ?_; kernel_rfl) only [go_sem, seval, ↓reduceIte, h7]
  by_cases h8 : s.kind = 8
  · rw [show toldR s = [Lib.itoa s.node, s.key] by simp [toldR, h8]]
    rw [fn_text Tryz.func52 rfl rfl Tryz.results52 fq52.1 rfl rfl (by kernel_rfl)]
    simp -implicitDefEqProofs -dsimp +contextual (maxSteps := 9999999) (disch := first | omega | simp only [go_sem] <;> omega | refine ib ?_; kernel_rfl) only [go_sem, seval, ↓reduceIte, h8]
  by_cases h9 : s.kind = 9
  · rw [show toldR s = [Lib.itoa s.node, s.key] by simp [toldR, h9]]
    rw [fn_text Tryz.func52 rfl rfl Tryz.results52 fq52.1 rfl rfl (by kernel_rfl)]
    simp -implicitDefEqProofs -dsimp +contextual (maxSteps := 9999999) (disch := first | omega | simp only [go_sem] <;> omega | refine ib ?_; kernel_rfl) only [go_sem, seval, ↓reduceIte, h9]
  by_cases h11 : s.kind = 11
  · rw [show toldR s = [Lib.itoa s.n] by simp [toldR, h11]]
    rw [fn_text Tryz.func52 rfl rfl Tryz.results52 fq52.1 rfl rfl (by kernel_rfl)]
    simp -implicitDefEqProofs -dsimp +contextual (maxSteps := 9999999) (disch := first | omega | simp only [go_sem] <;> omega | refine ib ?_; kernel_rfl) only [go_sem, seval, ↓reduceIte, h11]
  by_cases h12 : s.kind = 12
  · rw [show toldR s = [Lib.itoa s.n] by simp [toldR, h12]]
    rw [fn_text Tryz.func52 rfl rfl Tryz.results52 fq52.1 rfl rfl (by kernel_rfl)]
    simp -implicitDefEqProofs -dsimp +contextual (maxSteps := 9999999) (disch := first | omega | simp only [go_sem] <;> omega | refine ib ?_; kernel_rfl) only [go_sem, seval, ↓reduceIte, h12]
  by_cases h13 : s.kind = 13
  · rw [show toldR s = [Lib.itoa s.n] by simp [toldR, h13]]
    rw [fn_text Tryz.func52 rfl rfl Tryz.results52 fq52.1 rfl rfl (by kernel_rfl)]
    simp -implicitDefEqProofs -dsimp +contextual (maxSteps := 9999999) (disch := first | omega | simp only [go_sem] <;> omega | refine ib ?_; kernel_rfl) only [go_sem, seval, ↓reduceIte, h13]
  by_cases h14 : s.kind = 14
  · rw [show toldR s = [s.key, s.val, bytesR s.bs] by simp [toldR, h14]]
    rw [fn_text Tryz.func52 rfl rfl Tryz.results52 fq52.1 rfl rfl (by kernel_rfl)]
    simp -implicitDefEqProofs -dsimp +contextual (maxSteps := 9999999) (disch := first | omega | simp only [go_sem] <;> omega | refine ib ?_; kernel_rfl) only [go_sem, seval, ↓reduceIte, h14]
  by_cases h15 : s.kind = 15
  · rw [show toldR s = [Lib.itoa s.n, Lib.itoa s.fr, Lib.itoa s.un] by simp [toldR, h15]]
    rw [fn_text Tryz.func52 rfl rfl Tryz.results52 fq52.1 rfl rfl (by kernel_rfl)]
    simp -implicitDefEqProofs -dsimp +contextual (maxSteps := 9999999) (disch := first | omega | simp only [go_sem] <;> omega | refine ib ?_; kernel_rfl) only [go_sem, seval, ↓reduceIte, h15]
  by_cases h16 : s.kind = 16
  · rw [show toldR s = [hexR s.id] by simp [toldR, h16]]
    rw [fn_text Tryz.func52 rfl rfl Tryz.results52 fq52.1 rfl rfl (by kernel_rfl)]
    simp -implicitDefEqProofs -dsimp +contextual (maxSteps := 9999999) (disch := first | omega | simp only [go_sem] <;> omega | refine ib ?_; kernel_rfl) only [go_sem, seval, ↓reduceIte, h16]
  by_cases h17 : s.kind = 17
  · rw [show toldR s = [s.key, hexR s.id, Lib.itoa s.fr, Lib.itoa s.un] by simp [toldR, h17]]
    rw [fn_text Tryz.func52 rfl rfl Tryz.results52 fq52.1 rfl rfl (by kernel_rfl)]
    simp -implicitDefEqProofs -dsimp +contextual (maxSteps := 9999999) (disch := first | omega | simp only [go_sem] <;> omega | refine ib ?_; kernel_rfl) only [go_sem, seval, ↓reduceIte, h17]
  by_cases h19 : s.kind = 19
  · rw [show toldR s = [Lib.itoa s.node] by simp [toldR, h19]]
    rw [fn_text Tryz.func52 rfl rfl Tryz.results52 fq52.1 rfl rfl (by kernel_rfl)]
    simp -implicitDefEqProofs -dsimp +contextual (maxSteps := 9999999) (disch := first | omega | simp only [go_sem] <;> omega | refine ib ?_; kernel_rfl) only [go_sem, seval, ↓reduceIte, h19]
  rw [show toldR s = [] by simp [toldR, h1, h2, h3, h4, h5, h6, h7, h8, h9, h11, h12, h13, h14, h15, h16, h17, h18, h19]]
  rw [fn_text Tryz.func52 rfl rfl Tryz.results52 fq52.1 rfl rfl (by kernel_rfl)]
  simp -implicitDefEqProofs -dsimp +contextual (maxSteps := 9999999) (disch := first | omega | simp only [go_sem] <;> omega | refine ib ?_; kernel_rfl) only [go_sem, seval, ↓reduceIte, h1, h2, h3, h4, h5, h6, h7, h8, h9, h11, h12, h13, h14, h15, h16, h17, h18, h19]
@[go_sem] theorem e53 (a b : St) (h1 : a.bs.length ≤ 1000000) (h2 : b.bs.length ≤ 1000000) : fn C 53 [] [.agg [.int .i64 a.kind, .int .i64 a.node, .int .i64 a.other, .int .i64 a.n, .int .i64 a.fr, .int .i64 a.un, .int .u64 (a.id : Int), .str a.key, .str a.val, .slice 1 (a.bs.map byteRow)], .agg [.int .i64 b.kind, .int .i64 b.node, .int .i64 b.other, .int .i64 b.n, .int .i64 b.fr, .int .i64 b.un, .int .u64 (b.id : Int), .str b.key, .str b.val, .slice 1 (b.bs.map byteRow)]] = some (.bool (decide (a = b)), []) := by
  by_cases h0 : a.kind = b.kind
  rotate_left
  · rw [show decide (a = b) = false from decide_eq_false (fun e => h0 (by rw [e]))]
    rw [fn_text Tryz.func53 rfl rfl Tryz.results53 fq53.1 rfl rfl (by kernel_rfl)]
    simp -implicitDefEqProofs -dsimp +contextual (maxSteps := 9999999) (disch := first | omega | simp only [go_sem] <;> omega | refine ib ?_; kernel_rfl) only [go_sem, seval, ↓reduceIte, h0]
  by_cases h1 : a.node = b.node
  rotate_left
  · rw [show decide (a = b) = false from decide_eq_false (fun e => h1 (by rw [e]))]
    rw [fn_text Tryz.func53 rfl rfl Tryz.results53 fq53.1 rfl rfl (by kernel_rfl)]
    simp -implicitDefEqProofs -dsimp +contextual (maxSteps := 9999999) (disch := first | omega | simp only [go_sem] <;> omega | refine ib ?_; kernel_rfl) only [go_sem, seval, ↓reduceIte, h0, h1]
  by_cases h2 : a.other = b.other
  rotate_left
  · rw [show decide (a = b) = false from decide_eq_false (fun e => h2 (by rw [e]))]
    rw [fn_text Tryz.func53 rfl rfl Tryz.results53 fq53.1 rfl rfl (by kernel_rfl)]
    simp -implicitDefEqProofs -dsimp +contextual (maxSteps := 9999999) (disch := first | omega | simp only [go_sem] <;> omega | refine ib ?_; kernel_rfl) only [go_sem, seval, ↓reduceIte, h0, h1, h2]
  by_cases h3 : a.n = b.n
  rotate_left
  · rw [show decide (a = b) = false from decide_eq_false (fun e => h3 (by rw [e]))]
    rw [fn_text Tryz.func53 rfl rfl Tryz.results53 fq53.1 rfl rfl (by kernel_rfl)]
    simp -implicitDefEqProofs -dsimp +contextual (maxSteps := 9999999) (disch := first | omega | simp only [go_sem] <;> omega | refine ib ?_; kernel_rfl) only [go_sem, seval, ↓reduceIte, h0, h1, h2, h3]
  by_cases h4 : a.fr = b.fr
  rotate_left
  · rw [show decide (a = b) = false from decide_eq_false (fun e => h4 (by rw [e]))]
    rw [fn_text Tryz.func53 rfl rfl Tryz.results53 fq53.1 rfl rfl (by kernel_rfl)]
    simp -implicitDefEqProofs -dsimp +contextual (maxSteps := 9999999) (disch := first | omega | simp only [go_sem] <;> omega | refine ib ?_; kernel_rfl) only [go_sem, seval, ↓reduceIte, h0, h1, h2, h3, h4]
  by_cases h5 : a.un = b.un
  rotate_left
  · rw [show decide (a = b) = false from decide_eq_false (fun e => h5 (by rw [e]))]
    rw [fn_text Tryz.func53 rfl rfl Tryz.results53 fq53.1 rfl rfl (by kernel_rfl)]
    simp -implicitDefEqProofs -dsimp +contextual (maxSteps := 9999999) (disch := first | omega | simp only [go_sem] <;> omega | refine ib ?_; kernel_rfl) only [go_sem, seval, ↓reduceIte, h0, h1, h2, h3, h4, h5]
  by_cases h6 : a.id = b.id
  rotate_left
  · rw [show decide (a = b) = false from decide_eq_false (fun e => h6 (by rw [e]))]
    rw [fn_text Tryz.func53 rfl rfl Tryz.results53 fq53.1 rfl rfl (by kernel_rfl)]
    simp -implicitDefEqProofs -dsimp +contextual (maxSteps := 9999999) (disch := first | omega | simp only [go_sem] <;> omega | refine ib ?_; kernel_rfl) only [go_sem, seval, ↓reduceIte, h0, h1, h2, h3, h4, h5, h6]
  by_cases h7 : a.key = b.key
  rotate_left
  · rw [show decide (a = b) = false from decide_eq_false (fun e => h7 (by rw [e]))]
    rw [fn_text Tryz.func53 rfl rfl Tryz.results53 fq53.1 rfl rfl (by kernel_rfl)]
    simp -implicitDefEqProofs -dsimp +contextual (maxSteps := 9999999) (disch := first | omega | simp only [go_sem] <;> omega | refine ib ?_; kernel_rfl) only [go_sem, seval, ↓reduceIte, h0, h1, h2, h3, h4, h5, h6, h7]
  by_cases h8 : a.val = b.val
  rotate_left
  · rw [show decide (a = b) = false from decide_eq_false (fun e => h8 (by rw [e]))]
    rw [fn_text Tryz.func53 rfl rfl Tryz.results53 fq53.1 rfl rfl (by kernel_rfl)]
    simp -implicitDefEqProofs -dsimp +contextual (maxSteps := 9999999) (disch := first | omega | simp only [go_sem] <;> omega | refine ib ?_; kernel_rfl) only [go_sem, seval, ↓reduceIte, h0, h1, h2, h3, h4, h5, h6, h7, h8]
  by_cases h9 : a.bs = b.bs
  rotate_left
  · rw [show decide (a = b) = false from decide_eq_false (fun e => h9 (by rw [e]))]
    rw [fn_text Tryz.func53 rfl rfl Tryz.results53 fq53.1 rfl rfl (by kernel_rfl)]
    simp -implicitDefEqProofs -dsimp +contextual (maxSteps := 9999999) (disch := first | omega | simp only [go_sem] <;> omega | refine ib ?_; kernel_rfl) only [go_sem, seval, ↓reduceIte, h0, h1, h2, h3, h4, h5, h6, h7, h8, h9]
  rw [show decide (a = b) = true from decide_eq_true (by cases a; cases b; simp only [St.mk.injEq]; exact ⟨h0, h1, h2, h3, h4, h5, h6, h7, h8, h9⟩)]
  rw [fn_text Tryz.func53 rfl rfl Tryz.results53 fq53.1 rfl rfl (by kernel_rfl)]
  simp -implicitDefEqProofs -dsimp +contextual (maxSteps := 9999999) (disch := first | omega | simp only [go_sem] <;> omega | refine ib ?_; kernel_rfl) only [go_sem, seval, ↓reduceIte, h0, h1, h2, h3, h4, h5, h6, h7, h8, h9]
@[go_sem] theorem e30 (a b : St) (h1 : a.bs.length ≤ 1000000) (h2 : b.bs.length ≤ 1000000) : fn C 30 [] [.agg [.int .i64 a.kind, .int .i64 a.node, .int .i64 a.other, .int .i64 a.n, .int .i64 a.fr, .int .i64 a.un, .int .u64 (a.id : Int), .str a.key, .str a.val, .slice 1 (a.bs.map byteRow)], .agg [.int .i64 b.kind, .int .i64 b.node, .int .i64 b.other, .int .i64 b.n, .int .i64 b.fr, .int .i64 b.un, .int .u64 (b.id : Int), .str b.key, .str b.val, .slice 1 (b.bs.map byteRow)]] = some (.bool (decide (a = b)), []) := by
  by_cases h0 : a.kind = b.kind
  rotate_left
  · rw [show decide (a = b) = false from decide_eq_false (fun e => h0 (by rw [e]))]
    rw [fn_text Tryz.func30 rfl rfl Tryz.results30 fq30.1 rfl rfl (by kernel_rfl)]
    simp -implicitDefEqProofs -dsimp +contextual (maxSteps := 9999999) (disch := first | omega | simp only [go_sem] <;> omega | refine ib ?_; kernel_rfl) only [go_sem, seval, ↓reduceIte, h0]
  by_cases h1 : a.node = b.node
  rotate_left
  · rw [show decide (a = b) = false from decide_eq_false (fun e => h1 (by rw [e]))]
    rw [fn_text Tryz.func30 rfl rfl Tryz.results30 fq30.1 rfl rfl (by kernel_rfl)]
    simp -implicitDefEqProofs -dsimp +contextual (maxSteps := 9999999) (disch := first | omega | simp only [go_sem] <;> omega | refine ib ?_; kernel_rfl) only [go_sem, seval, ↓reduceIte, h0, h1]
  by_cases h2 : a.other = b.other
  rotate_left
  · rw [show decide (a = b) = false from decide_eq_false (fun e => h2 (by rw [e]))]
    rw [fn_text Tryz.func30 rfl rfl Tryz.results30 fq30.1 rfl rfl (by kernel_rfl)]
    simp -implicitDefEqProofs -dsimp +contextual (maxSteps := 9999999) (disch := first | omega | simp only [go_sem] <;> omega | refine ib ?_; kernel_rfl) only [go_sem, seval, ↓reduceIte, h0, h1, h2]
  by_cases h3 : a.n = b.n
  rotate_left
  · rw [show decide (a = b) = false from decide_eq_false (fun e => h3 (by rw [e]))]
    rw [fn_text Tryz.func30 rfl rfl Tryz.results30 fq30.1 rfl rfl (by kernel_rfl)]
    simp -implicitDefEqProofs -dsimp +contextual (maxSteps := 9999999) (disch := first | omega | simp only [go_sem] <;> omega | refine ib ?_; kernel_rfl) only [go_sem, seval, ↓reduceIte, h0, h1, h2, h3]
  by_cases h4 : a.fr = b.fr
  rotate_left
  · rw [show decide (a = b) = false from decide_eq_false (fun e => h4 (by rw [e]))]
    rw [fn_text Tryz.func30 rfl rfl Tryz.results30 fq30.1 rfl rfl (by kernel_rfl)]
    simp -implicitDefEqProofs -dsimp +contextual (maxSteps := 9999999) (disch := first | omega | simp only [go_sem] <;> omega | refine ib ?_; kernel_rfl) only [go_sem, seval, ↓reduceIte, h0, h1, h2, h3, h4]
  by_cases h5 : a.un = b.un
  rotate_left
  · rw [show decide (a = b) = false from decide_eq_false (fun e => h5 (by rw [e]))]
    rw [fn_text Tryz.func30 rfl rfl Tryz.results30 fq30.1 rfl rfl (by kernel_rfl)]
    simp -implicitDefEqProofs -dsimp +contextual (maxSteps := 9999999) (disch := first | omega | simp only [go_sem] <;> omega | refine ib ?_; kernel_rfl) only [go_sem, seval, ↓reduceIte, h0, h1, h2, h3, h4, h5]
  by_cases h6 : a.id = b.id
  rotate_left
  · rw [show decide (a = b) = false from decide_eq_false (fun e => h6 (by rw [e]))]
    rw [fn_text Tryz.func30 rfl rfl Tryz.results30 fq30.1 rfl rfl (by kernel_rfl)]
    simp -implicitDefEqProofs -dsimp +contextual (maxSteps := 9999999) (disch := first | omega | simp only [go_sem] <;> omega | refine ib ?_; kernel_rfl) only [go_sem, seval, ↓reduceIte, h0, h1, h2, h3, h4, h5, h6]
  by_cases h7 : a.key = b.key
  rotate_left
  · rw [show decide (a = b) = false from decide_eq_false (fun e => h7 (by rw [e]))]
    rw [fn_text Tryz.func30 rfl rfl Tryz.results30 fq30.1 rfl rfl (by kernel_rfl)]
    simp -implicitDefEqProofs -dsimp +contextual (maxSteps := 9999999) (disch := first | omega | simp only [go_sem] <;> omega | refine ib ?_; kernel_rfl) only [go_sem, seval, ↓reduceIte, h0, h1, h2, h3, h4, h5, h6, h7]
  by_cases h8 : a.val = b.val
  rotate_left
  · rw [show decide (a = b) = false from decide_eq_false (fun e => h8 (by rw [e]))]
    rw [fn_text Tryz.func30 rfl rfl Tryz.results30 fq30.1 rfl rfl (by kernel_rfl)]
    simp -implicitDefEqProofs -dsimp +contextual (maxSteps := 9999999) (disch := first | omega | simp only [go_sem] <;> omega | refine ib ?_; kernel_rfl) only [go_sem, seval, ↓reduceIte, h0, h1, h2, h3, h4, h5, h6, h7, h8]
  by_cases h9 : a.bs = b.bs
  rotate_left
  · rw [show decide (a = b) = false from decide_eq_false (fun e => h9 (by rw [e]))]
    rw [fn_text Tryz.func30 rfl rfl Tryz.results30 fq30.1 rfl rfl (by kernel_rfl)]
    simp -implicitDefEqProofs -dsimp +contextual (maxSteps := 9999999) (disch := first | omega | simp only [go_sem] <;> omega | refine ib ?_; kernel_rfl) only [go_sem, seval, ↓reduceIte, h0, h1, h2, h3, h4, h5, h6, h7, h8, h9]
  rw [show decide (a = b) = true from decide_eq_true (by cases a; cases b; simp only [St.mk.injEq]; exact ⟨h0, h1, h2, h3, h4, h5, h6, h7, h8, h9⟩)]
  rw [fn_text Tryz.func30 rfl rfl Tryz.results30 fq30.1 rfl rfl (by kernel_rfl)]
  simp -implicitDefEqProofs -dsimp +contextual (maxSteps := 9999999) (disch := first | omega | simp only [go_sem] <;> omega | refine ib ?_; kernel_rfl) only [go_sem, seval, ↓reduceIte, h0, h1, h2, h3, h4, h5, h6, h7, h8, h9]
theorem numR_r (w : List UInt8) (m : Int) (hm : 0 ≤ m) : 0 ≤ (numR w m).1 ∧ (numR w m).1 ≤ m := by
  unfold numR
  split
  · split
    · exact ⟨Int.le_refl _, hm⟩
    · simp only; omega
  · exact ⟨Int.le_refl _, hm⟩
theorem hexN_r (w : List UInt8) : (hexN w).1 ≤ 18446744073709551615 := by
  unfold hexN
  split
  · rename_i h
    have := hexV_lt w h.2
    rw [h.1] at this
    simp only; omega
  · simp
theorem textR_r (ok : Bool) (w : List UInt8) (h : ok = true → w.length ≤ 24) : (textR ok w).1.length ≤ 24 := by
  unfold textR; split
  · exact h ‹_›
  · simp
theorem nameR_r (w : List UInt8) (h : nameR w = true) : w.length ≤ 24 := by
  simp only [nameR, Bool.and_eq_true, decide_eq_true_eq] at h; omega
theorem keyR_r (w : List UInt8) (h : keyR w = true) : w.length ≤ 24 := by
  simp only [keyR, Bool.and_eq_true, decide_eq_true_eq] at h; omega
theorem rawR_r (w : List UInt8) (m : Nat) : (rawR w m).1.length ≤ m := by
  unfold rawR
  split
  · split
    · simp
    · simp only; omega
  · simp
theorem ite_ok {p : Prop} [Decidable p] {x y : St × Int} (hx : x.1.ok) (hy : y.1.ok) : (if p then x else y).1.ok := by split <;> assumption
theorem stepR_ok (c : Nat) (w : List UInt8) {s : St} (h : s.ok) : (stepR c w s).1.ok := by
  have n1 := numR_r w 7 (by omega); have n2 := numR_r w 255 (by omega); have n3 := numR_r w 1073741824 (by omega); have n4 := numR_r w 2047 (by omega)
  have t1 := textR_r (nameR w) w (nameR_r w); have t2 := textR_r (keyR w) w (keyR_r w)
  have r1 := rawR_r w 32; have r2 := rawR_r w 2048; have hx := hexN_r w
  unfold stepR
  refine ite_ok { h with a1 := ?_, a2 := ?_ } (ite_ok { h with b1 := ?_, b2 := ?_ } (ite_ok { h with c1 := ?_, c2 := ?_ } (ite_ok { h with d1 := ?_, d2 := ?_ } (ite_ok { h with e1 := ?_, e2 := ?_ } (ite_ok { h with d1 := ?_, d2 := ?_ } (ite_ok { h with e1 := ?_, e2 := ?_ }
    (ite_ok { h with f2 := ?_ } (ite_ok { h with g1 := ?_ } (ite_ok { h with g1 := ?_ } (ite_ok { h with g2 := ?_ } (ite_ok { h with g2 := ?_ } (ite_ok { h with g3 := ?_ } { h with c1 := ?_, c2 := ?_ }))))))))))))
  all_goals (simp only; omega)
theorem readAll_ok : ∀ (L : List UInt8) (r : List (List UInt8)) {s : St}, s.ok → (readAll L r s).1.ok
  | [], _, _, h => h
  | c :: L, r, s, h => by
    unfold readAll
    exact ite_ok (readAll_ok L _ (stepR_ok _ _ h)) (stepR_ok _ _ h)
theorem stZ_ok : stZ.ok := by constructor <;> simp [stZ]
theorem finR_ok {q : St × Int} (h : q.1.ok) : (finR q).1.ok := by
  unfold finR; exact ite_ok h stZ_ok
theorem readR_ok (line : List UInt8) : (readR line).1.ok := by
  unfold readR
  refine ite_ok (finR_ok (readAll_ok _ _ { stZ_ok with k1 := ?_, k2 := ?_ })) stZ_ok
  all_goals (have := (formQ_kind ((parts 32 line).headD [])); simp only; omega)
def smL : Nat → List (List UInt8) → Prop
  | _, [] => True
  | 0, _ :: _ => False
  | n + 1, w :: L => w.length ≤ 200001 ∧ smL n L
theorem smL_len : ∀ (n : Nat) (L : List (List UInt8)), smL n L → L.length ≤ n ∧ Lib.lens L ≤ n * 200001
  | _, [], _ => by simp [Lib.lens]
  | n + 1, w :: L, h => by
    have := smL_len n L h.2
    have h1 := h.1
    simp only [Lib.lens, List.map_cons, List.sum_cons, List.length_cons] at this ⊢
    omega
theorem smL_ite {p : Prop} [Decidable p] {n : Nat} {a b : List (List UInt8)} (ha : smL n a) (hb : smL n b) : smL n (if p then a else b) := by split <;> assumption
theorem itoa_sm (n : Int) (h1 : -9223372036854775808 ≤ n) (h2 : n ≤ 9223372036854775807) : (Lib.itoa n).length ≤ 200001 := by have := itoa_le n h1 h2; omega
theorem hexR_sm (n : Nat) : (hexR n).length ≤ 200001 := by rw [hexR, pairsR_len, beN_len]; omega
theorem bytesR_sm (b : List UInt8) (h : b.length ≤ 100000) : (bytesR b).length ≤ 200001 := by
  unfold bytesR; split
  · simp
  · rw [pairsR_len]; omega
theorem told_sm (s : St) (h : s.ok) : smL 4 (toldR s) := by
  have n1 := itoa_sm s.node h.a1 h.a2; have n2 := itoa_sm s.other h.b1 h.b2; have n3 := itoa_sm s.n h.c1 h.c2; have n4 := itoa_sm s.fr h.d1 h.d2; have n5 := itoa_sm s.un h.e1 h.e2
  have n6 := hexR_sm s.id; have n7 := bytesR_sm s.val h.g2; have n8 := bytesR_sm s.bs h.g3
  have g1 := h.g1; have g2 := h.g2
  unfold toldR
  refine smL_ite ⟨by omega, n6, n4, n5, trivial⟩ (smL_ite (smL_ite ⟨n1, by omega, by decide, trivial⟩ ⟨n1, by omega, trivial⟩) (smL_ite ⟨n1, n2, trivial⟩ (smL_ite ⟨n1, trivial⟩ (smL_ite ⟨n1, by omega, n7, trivial⟩ (smL_ite ⟨n1, by omega, trivial⟩
    (smL_ite ⟨n3, trivial⟩ (smL_ite ⟨by omega, by omega, n8, trivial⟩ (smL_ite ⟨n3, n4, n5, trivial⟩ (smL_ite ⟨n6, trivial⟩ (smL_ite ⟨by omega, trivial⟩ trivial))))))))))
theorem wordR_le (k : Nat) (h : k ≤ 19) : (wordR k).length ≤ 7 := by
  have : ∀ k : Fin 20, (wordR k.val).length ≤ 7 := by decide
  exact this ⟨k, by omega⟩
theorem wordK_le (k : Int) : (wordK k).length ≤ 7 := by
  unfold wordK; split
  · exact wordR_le _ (by omega)
  · simp
theorem lineW_le (s : St) (h : s.ok) : (lineW s).length ≤ 900000 ∧ (toldR s).length ≤ 4 := by
  have h1 := smL_len 4 _ (told_sm s h)
  have h2 := wordK_le s.kind
  unfold lineW
  rw [Lib.join_length]
  simp only [Lib.lens, List.map_cons, List.sum_cons, List.length_cons, List.length_nil] at h1 ⊢
  omega
@[go_sem] theorem ones_strs (l : List (List UInt8)) : ones (l.map strRow) = true := by
  induction l with
  | nil => rfl
  | cons a l ih => rw [List.map_cons, ones_cons, ih]; rfl
@[go_sem] theorem clos_strs (l : List (List UInt8)) : (l.map strRow).all clos = true := by
  simp only [List.all_map, List.all_eq_true]
  intro a _
  rfl
@[go_sem] theorem e31 (s : St) (h : s.ok) : fn C 31 [] [.agg [.int .i64 s.kind, .int .i64 s.node, .int .i64 s.other, .int .i64 s.n, .int .i64 s.fr, .int .i64 s.un, .int .u64 (s.id : Int), .str s.key, .str s.val, .slice 1 (s.bs.map byteRow)]] = some (.tup [.str (lineR s).1, .int .i64 (lineR s).2], []) := by
  have l1 := lineW_le s h
  have j := eJoin (wordK s.kind :: toldR s) [32] (by simp; omega) (by have := l1.1; unfold lineW at this; omega)
  rw [show Lib.join (wordK s.kind :: toldR s) [32] = lineW s from rfl, List.map_cons, strRow_eq (wordK s.kind)] at j
  have rd := e43 (lineW s) l1.1
  have ok := readR_ok (lineW s)
  have t := e52 s h
  have g1 := h.k1; have g2 := h.k2; have g3 := h.g3; have g4 := ok.g3
  have m := e53 (readR (lineW s)).1 s (by omega) (by omega)
  rw [stV] at rd
  unfold lineR
  generalize lineW s = W at *
  generalize hq : readR W = q at *
  obtain ⟨b, e⟩ := q
  simp only at *
  by_cases c1 : e = 0
  · by_cases c2 : b = s
    · rw [if_pos (by rw [c1, c2])]
      rw [fn_text Tryz.func31 rfl rfl Tryz.results31 fq31.1 rfl rfl (by kernel_rfl)]
      simp -implicitDefEqProofs -dsimp +contextual (maxSteps := 9999999) (disch := first | omega | simp only [go_sem] <;> omega | refine ib ?_; kernel_rfl) only [go_sem, seval, ↓reduceIte, j, rd, t, m, c1, c2]
    · rw [if_neg (fun x => c2 (by simpa using congrArg Prod.fst x))]
      rw [fn_text Tryz.func31 rfl rfl Tryz.results31 fq31.1 rfl rfl (by kernel_rfl)]
      simp -implicitDefEqProofs -dsimp +contextual (maxSteps := 9999999) (disch := first | omega | simp only [go_sem] <;> omega | refine ib ?_; kernel_rfl) only [go_sem, seval, ↓reduceIte, j, rd, t, m, c1, c2]
  · rw [if_neg (fun x => c1 (by simpa using congrArg Prod.snd x))]
    rw [fn_text Tryz.func31 rfl rfl Tryz.results31 fq31.1 rfl rfl (by kernel_rfl)]
    simp -implicitDefEqProofs -dsimp +contextual (maxSteps := 9999999) (disch := first | omega | simp only [go_sem] <;> omega | refine ib ?_; kernel_rfl) only [go_sem, seval, ↓reduceIte, j, rd, t, c1]
@[go_sem] theorem unbyte_nil : unbyte [] = some [] := rfl
def okE (b : Bool) : Int := if b = true then 0 else 52
def oneR (c : Nat) (w : List UInt8) (s : St) : St × Int :=
  if c = 105 then ({ s with id := (hexN w).1 }, (hexN w).2)
  else if c = 109 then ({ s with key := w }, okE (nameR w))
  else if c = 107 then ({ s with key := w }, okE (keyR w))
  else if c = 115 then ({ s with val := w }, okE (nameR w))
  else if c = 118 then ({ s with val := (bytesOf w).getD [] }, (rawR w 32).2)
  else if c = 114 then ({ s with bs := (bytesOf w).getD [] }, (rawR w 2048).2)
  else stepR c w s
theorem textR_e (b : Bool) (w : List UInt8) : (textR b w).2 = okE b ∧ (okE b = 0 → (textR b w).1 = w) := by
  cases b <;> simp [textR, okE]
theorem rawR_e (w : List UInt8) (m : Nat) (h : (rawR w m).2 = 0) : (rawR w m).1 = (bytesOf w).getD [] := by
  unfold rawR at h ⊢
  split at h
  · rename_i b hb
    split at h
    · simp at h
    · rename_i h2
      simp [h2, hb]
  · simp at h
theorem oneR_step (c : Nat) (w : List UInt8) (s : St) : (oneR c w s).2 = (stepR c w s).2 ∧ ((stepR c w s).2 = 0 → (oneR c w s).1 = (stepR c w s).1) := by
  by_cases h1 : c = 105
  · subst h1; rw [stepR_105]; exact ⟨rfl, fun _ => rfl⟩
  by_cases h2 : c = 109
  · subst h2; rw [stepR_109]; have := textR_e (nameR w) w; exact ⟨this.1.symm, fun h => by simp only at h; rw [this.1] at h; rw [this.2 h]; rfl⟩
  by_cases h3 : c = 107
  · subst h3; rw [stepR_107]; have := textR_e (keyR w) w; exact ⟨this.1.symm, fun h => by simp only at h; rw [this.1] at h; rw [this.2 h]; rfl⟩
  by_cases h4 : c = 115
  · subst h4; rw [stepR_115]; have := textR_e (nameR w) w; exact ⟨this.1.symm, fun h => by simp only at h; rw [this.1] at h; rw [this.2 h]; rfl⟩
  by_cases h5 : c = 118
  · subst h5; rw [stepR_118]; exact ⟨rfl, fun h => by rw [rawR_e w 32 h]; rfl⟩
  by_cases h6 : c = 114
  · subst h6; rw [stepR_114]; exact ⟨rfl, fun h => by rw [rawR_e w 2048 h]; rfl⟩
  rw [oneR, if_neg h1, if_neg h2, if_neg h3, if_neg h4, if_neg h5, if_neg h6]
  exact ⟨rfl, fun _ => rfl⟩
@[go_sem] theorem e71 (w : List UInt8) (most : Int) (hw : w.length ≤ 1000000) : fn C 71 [] [.str w, .int .i64 most] = some (.tup [.int .i64 (numR w most).1, .int .i64 (numR w most).2], []) := by
  rw [fn_text Tryz.func71 rfl rfl Tryz.results71 fq71.1 rfl rfl (by kernel_rfl)]
  unfold numR
  cases hn : readNumR (signOf w) (digsOf w) with
  | none => simp -implicitDefEqProofs -dsimp +contextual (maxSteps := 9999999) (disch := first | omega | simp only [go_sem] <;> omega | refine ib ?_; kernel_rfl) only [go_sem, seval, ↓reduceIte, hn, rnV]
  | some k =>
    by_cases h1 : k < 0
    · simp -implicitDefEqProofs -dsimp +contextual (maxSteps := 9999999) (disch := first | omega | simp only [go_sem] <;> omega | refine ib ?_; kernel_rfl) only [go_sem, seval, ↓reduceIte, hn, rnV, h1, true_or]
    · by_cases h2 : most < k
      · simp -implicitDefEqProofs -dsimp +contextual (maxSteps := 9999999) (disch := first | omega | simp only [go_sem] <;> omega | refine ib ?_; kernel_rfl) only [go_sem, seval, ↓reduceIte, hn, rnV, h1, h2, or_true]
      · simp -implicitDefEqProofs -dsimp +contextual (maxSteps := 9999999) (disch := first | omega | simp only [go_sem] <;> omega | refine ib ?_; kernel_rfl) only [go_sem, seval, ↓reduceIte, hn, rnV, h1, h2, or_self]
theorem other_105 (s : St) (w : List UInt8) (hw : w.length ≤ 1000000) : fn C 72 [] [.agg [.int .i64 s.kind, .int .i64 s.node, .int .i64 s.other, .int .i64 s.n, .int .i64 s.fr, .int .i64 s.un, .int .u64 (s.id : Int), .str s.key, .str s.val, .slice 1 (s.bs.map byteRow)], .int .u8 105, .str w] = some (stV (oneR 105 w s), []) := by
  rw [show oneR 105 w s = ({ s with id := (hexN w).1 }, (hexN w).2) from rfl, stV]
  unfold hexN
  by_cases h : w.length = 16 ∧ w.all digOk = true
  · rw [fn_text Tryz.func72 rfl rfl Tryz.results72 fq72.1 rfl rfl (by kernel_rfl)]
    simp -implicitDefEqProofs -dsimp +contextual (maxSteps := 9999999) (disch := first | omega | simp only [go_sem] <;> omega | refine ib ?_; kernel_rfl) only [go_sem, seval, ↓reduceIte, readHexR, h]
  · rw [fn_text Tryz.func72 rfl rfl Tryz.results72 fq72.1 rfl rfl (by kernel_rfl)]
    simp -implicitDefEqProofs -dsimp +contextual (maxSteps := 9999999) (disch := first | omega | simp only [go_sem] <;> omega | refine ib ?_; kernel_rfl) only [go_sem, seval, ↓reduceIte, readHexR, h]
theorem other_109 (s : St) (w : List UInt8) (hw : w.length ≤ 1000000) : fn C 72 [] [.agg [.int .i64 s.kind, .int .i64 s.node, .int .i64 s.other, .int .i64 s.n, .int .i64 s.fr, .int .i64 s.un, .int .u64 (s.id : Int), .str s.key, .str s.val, .slice 1 (s.bs.map byteRow)], .int .u8 109, .str w] = some (stV (oneR 109 w s), []) := by
  rw [show oneR 109 w s = ({ s with key := w }, okE (nameR w)) from rfl, stV]
  by_cases h : nameR w = true
  · rw [fn_text Tryz.func72 rfl rfl Tryz.results72 fq72.1 rfl rfl (by kernel_rfl)]
    simp -implicitDefEqProofs -dsimp +contextual (maxSteps := 9999999) (disch := first | omega | simp only [go_sem] <;> omega | refine ib ?_; kernel_rfl) only [go_sem, seval, ↓reduceIte, h, okE]
  · rw [fn_text Tryz.func72 rfl rfl Tryz.results72 fq72.1 rfl rfl (by kernel_rfl)]
    simp -implicitDefEqProofs -dsimp +contextual (maxSteps := 9999999) (disch := first | omega | simp only [go_sem] <;> omega | refine ib ?_; kernel_rfl) only [go_sem, seval, ↓reduceIte, h, okE]
theorem other_107 (s : St) (w : List UInt8) (hw : w.length ≤ 1000000) : fn C 72 [] [.agg [.int .i64 s.kind, .int .i64 s.node, .int .i64 s.other, .int .i64 s.n, .int .i64 s.fr, .int .i64 s.un, .int .u64 (s.id : Int), .str s.key, .str s.val, .slice 1 (s.bs.map byteRow)], .int .u8 107, .str w] = some (stV (oneR 107 w s), []) := by
  rw [show oneR 107 w s = ({ s with key := w }, okE (keyR w)) from rfl, stV]
  by_cases h : keyR w = true
  · rw [fn_text Tryz.func72 rfl rfl Tryz.results72 fq72.1 rfl rfl (by kernel_rfl)]
    simp -implicitDefEqProofs -dsimp +contextual (maxSteps := 9999999) (disch := first | omega | simp only [go_sem] <;> omega | refine ib ?_; kernel_rfl) only [go_sem, seval, ↓reduceIte, h, okE]
  · rw [fn_text Tryz.func72 rfl rfl Tryz.results72 fq72.1 rfl rfl (by kernel_rfl)]
    simp -implicitDefEqProofs -dsimp +contextual (maxSteps := 9999999) (disch := first | omega | simp only [go_sem] <;> omega | refine ib ?_; kernel_rfl) only [go_sem, seval, ↓reduceIte, h, okE]
theorem other_115 (s : St) (w : List UInt8) (hw : w.length ≤ 1000000) : fn C 72 [] [.agg [.int .i64 s.kind, .int .i64 s.node, .int .i64 s.other, .int .i64 s.n, .int .i64 s.fr, .int .i64 s.un, .int .u64 (s.id : Int), .str s.key, .str s.val, .slice 1 (s.bs.map byteRow)], .int .u8 115, .str w] = some (stV (oneR 115 w s), []) := by
  rw [show oneR 115 w s = ({ s with val := w }, okE (nameR w)) from rfl, stV]
  by_cases h : nameR w = true
  · rw [fn_text Tryz.func72 rfl rfl Tryz.results72 fq72.1 rfl rfl (by kernel_rfl)]
    simp -implicitDefEqProofs -dsimp +contextual (maxSteps := 9999999) (disch := first | omega | simp only [go_sem] <;> omega | refine ib ?_; kernel_rfl) only [go_sem, seval, ↓reduceIte, h, okE]
  · rw [fn_text Tryz.func72 rfl rfl Tryz.results72 fq72.1 rfl rfl (by kernel_rfl)]
    simp -implicitDefEqProofs -dsimp +contextual (maxSteps := 9999999) (disch := first | omega | simp only [go_sem] <;> omega | refine ib ?_; kernel_rfl) only [go_sem, seval, ↓reduceIte, h, okE]
theorem other_118 (s : St) (w : List UInt8) (hw : w.length ≤ 1000000) : fn C 72 [] [.agg [.int .i64 s.kind, .int .i64 s.node, .int .i64 s.other, .int .i64 s.n, .int .i64 s.fr, .int .i64 s.un, .int .u64 (s.id : Int), .str s.key, .str s.val, .slice 1 (s.bs.map byteRow)], .int .u8 118, .str w] = some (stV (oneR 118 w s), []) := by
  rw [show oneR 118 w s = ({ s with val := (bytesOf w).getD [] }, (rawR w 32).2) from rfl, stV]
  unfold rawR
  cases hb : bytesOf w with
  | none =>
    simp only [Option.getD_none]
    rw [fn_text Tryz.func72 rfl rfl Tryz.results72 fq72.1 rfl rfl (by kernel_rfl)]
    simp -implicitDefEqProofs -dsimp +contextual (maxSteps := 9999999) (disch := first | omega | simp only [go_sem] <;> omega | refine ib ?_; kernel_rfl) only [go_sem, seval, ↓reduceIte, readBytesR_eq, hb, rbV]
  | some b =>
    have := bytesOf_len _ _ hb
    simp only [Option.getD_some]
    by_cases h2 : 32 < b.length
    · rw [fn_text Tryz.func72 rfl rfl Tryz.results72 fq72.1 rfl rfl (by kernel_rfl)]
      simp -implicitDefEqProofs -dsimp +contextual (maxSteps := 9999999) (disch := first | omega | simp only [go_sem] <;> omega | refine ib ?_; kernel_rfl) only [go_sem, seval, ↓reduceIte, readBytesR_eq, hb, rbV, h2]
    · rw [fn_text Tryz.func72 rfl rfl Tryz.results72 fq72.1 rfl rfl (by kernel_rfl)]
      simp -implicitDefEqProofs -dsimp +contextual (maxSteps := 9999999) (disch := first | omega | simp only [go_sem] <;> omega | refine ib ?_; kernel_rfl) only [go_sem, seval, ↓reduceIte, readBytesR_eq, hb, rbV, h2]
theorem other_114 (s : St) (w : List UInt8) (hw : w.length ≤ 1000000) : fn C 72 [] [.agg [.int .i64 s.kind, .int .i64 s.node, .int .i64 s.other, .int .i64 s.n, .int .i64 s.fr, .int .i64 s.un, .int .u64 (s.id : Int), .str s.key, .str s.val, .slice 1 (s.bs.map byteRow)], .int .u8 114, .str w] = some (stV (oneR 114 w s), []) := by
  rw [show oneR 114 w s = ({ s with bs := (bytesOf w).getD [] }, (rawR w 2048).2) from rfl, stV]
  unfold rawR
  cases hb : bytesOf w with
  | none =>
    simp only [Option.getD_none]
    rw [fn_text Tryz.func72 rfl rfl Tryz.results72 fq72.1 rfl rfl (by kernel_rfl)]
    simp -implicitDefEqProofs -dsimp +contextual (maxSteps := 9999999) (disch := first | omega | simp only [go_sem] <;> omega | refine ib ?_; kernel_rfl) only [go_sem, seval, ↓reduceIte, readBytesR_eq, hb, rbV]
  | some b =>
    have := bytesOf_len _ _ hb
    simp only [Option.getD_some]
    by_cases h2 : 2048 < b.length
    · rw [fn_text Tryz.func72 rfl rfl Tryz.results72 fq72.1 rfl rfl (by kernel_rfl)]
      simp -implicitDefEqProofs -dsimp +contextual (maxSteps := 9999999) (disch := first | omega | simp only [go_sem] <;> omega | refine ib ?_; kernel_rfl) only [go_sem, seval, ↓reduceIte, readBytesR_eq, hb, rbV, h2]
    · rw [fn_text Tryz.func72 rfl rfl Tryz.results72 fq72.1 rfl rfl (by kernel_rfl)]
      simp -implicitDefEqProofs -dsimp +contextual (maxSteps := 9999999) (disch := first | omega | simp only [go_sem] <;> omega | refine ib ?_; kernel_rfl) only [go_sem, seval, ↓reduceIte, readBytesR_eq, hb, rbV, h2]
theorem refOne (s : St) (w : List UInt8) (c : Nat) (hw : w.length ≤ 1000000) (hc : okL c) (h49 : c ≠ 49) : fn C 49 [] [.agg [.int .i64 s.kind, .int .i64 s.node, .int .i64 s.other, .int .i64 s.n, .int .i64 s.fr, .int .i64 s.un, .int .u64 (s.id : Int), .str s.key, .str s.val, .slice 1 (s.bs.map byteRow)], .int .u8 (c : Int), .str w] = some (stV (oneR c w s), []) := by
  unfold okL at hc
  by_cases hn : c = 110 ∨ c = 111 ∨ c = 112 ∨ c = 102 ∨ c = 117 ∨ c = 97 ∨ c = 98
  · rcases hn with rfl | rfl | rfl | rfl | rfl | rfl | rfl
    all_goals
      rw [stV, oneR, if_neg (by omega), if_neg (by omega), if_neg (by omega), if_neg (by omega), if_neg (by omega), if_neg (by omega)]
      rw [fn_text Tryz.func49 rfl rfl Tryz.results49 fq49.1 rfl rfl (by kernel_rfl)]
      simp -implicitDefEqProofs -dsimp +contextual (maxSteps := 9999999) (disch := first | omega | simp only [go_sem] <;> omega | refine ib ?_; kernel_rfl) only [go_sem, seval, ↓reduceIte, stepR]
  · have hc' : c = 105 ∨ c = 109 ∨ c = 107 ∨ c = 115 ∨ c = 118 ∨ c = 114 := by omega
    rcases hc' with rfl | rfl | rfl | rfl | rfl | rfl
    · have h := other_105 s w hw
      generalize oneR 105 w s = q at *
      rw [stV] at h
      rw [fn_text Tryz.func49 rfl rfl Tryz.results49 fq49.1 rfl rfl (by kernel_rfl)]
      simp -implicitDefEqProofs -dsimp +contextual (maxSteps := 9999999) (disch := first | omega | simp only [go_sem] <;> omega | refine ib ?_; kernel_rfl) only [go_sem, seval, ↓reduceIte, h, stV]
    · have h := other_109 s w hw
      generalize oneR 109 w s = q at *
      rw [stV] at h
      rw [fn_text Tryz.func49 rfl rfl Tryz.results49 fq49.1 rfl rfl (by kernel_rfl)]
      simp -implicitDefEqProofs -dsimp +contextual (maxSteps := 9999999) (disch := first | omega | simp only [go_sem] <;> omega | refine ib ?_; kernel_rfl) only [go_sem, seval, ↓reduceIte, h, stV]
    · have h := other_107 s w hw
      generalize oneR 107 w s = q at *
      rw [stV] at h
      rw [fn_text Tryz.func49 rfl rfl Tryz.results49 fq49.1 rfl rfl (by kernel_rfl)]
      simp -implicitDefEqProofs -dsimp +contextual (maxSteps := 9999999) (disch := first | omega | simp only [go_sem] <;> omega | refine ib ?_; kernel_rfl) only [go_sem, seval, ↓reduceIte, h, stV]
    · have h := other_115 s w hw
      generalize oneR 115 w s = q at *
      rw [stV] at h
      rw [fn_text Tryz.func49 rfl rfl Tryz.results49 fq49.1 rfl rfl (by kernel_rfl)]
      simp -implicitDefEqProofs -dsimp +contextual (maxSteps := 9999999) (disch := first | omega | simp only [go_sem] <;> omega | refine ib ?_; kernel_rfl) only [go_sem, seval, ↓reduceIte, h, stV]
    · have h := other_118 s w hw
      generalize oneR 118 w s = q at *
      rw [stV] at h
      rw [fn_text Tryz.func49 rfl rfl Tryz.results49 fq49.1 rfl rfl (by kernel_rfl)]
      simp -implicitDefEqProofs -dsimp +contextual (maxSteps := 9999999) (disch := first | omega | simp only [go_sem] <;> omega | refine ib ?_; kernel_rfl) only [go_sem, seval, ↓reduceIte, h, stV]
    · have h := other_114 s w hw
      generalize oneR 114 w s = q at *
      rw [stV] at h
      rw [fn_text Tryz.func49 rfl rfl Tryz.results49 fq49.1 rfl rfl (by kernel_rfl)]
      simp -implicitDefEqProofs -dsimp +contextual (maxSteps := 9999999) (disch := first | omega | simp only [go_sem] <;> omega | refine ib ?_; kernel_rfl) only [go_sem, seval, ↓reduceIte, h, stV]
@[go_sem] theorem namesL_len : namesL.length = 20 := rfl
theorem names_row (i : Nat) (h : i < 20) : (namesL.map strRow)[i]? = some [.str (wordR i)] := by
  rw [List.getElem?_map, wordR, List.getD_eq_getElem?_getD, List.getElem?_eq_getElem (by exact h)]
  rfl
theorem e26 : fn C 26 [] [] = some (.slice 1 (namesL.map strRow), []) := by
  rw [fn_text Tryz.func26 rfl rfl Tryz.results26 fq26.1 rfl rfl (by kernel_rfl)]
  simp -implicitDefEqProofs -dsimp +contextual (maxSteps := 9999999) (disch := first | omega | simp only [go_sem] <;> omega | refine ib ?_; kernel_rfl) only [go_sem, seval, ↓reduceIte]
  rfl
def formsL : List (List UInt8) := [[], [110, 109], [110, 111], [110], [110], [110], [110], [110, 107, 118], [110, 107], [110, 107], [], [112], [112], [112], [109, 115, 114], [112, 97, 98], [105], [109, 105, 102, 117], [], [110]]
def formR (k : Nat) : List UInt8 := formsL.getD k []
theorem forms_row (i : Nat) (h : i < 20) : (formsL.map strRow)[i]? = some [.str (formR i)] := by
  rw [List.getElem?_map, formR, List.getD_eq_getElem?_getD, List.getElem?_eq_getElem (by exact h)]
  rfl
theorem e27 : fn C 27 [] [] = some (.slice 1 (formsL.map strRow), []) := by
  rw [fn_text Tryz.func27 rfl rfl Tryz.results27 fq27.1 rfl rfl (by kernel_rfl)]
  simp -implicitDefEqProofs -dsimp +contextual (maxSteps := 9999999) (disch := first | omega | simp only [go_sem] <;> omega | refine ib ?_; kernel_rfl) only [go_sem, seval, ↓reduceIte]
  rfl
theorem parts_snoc (c x : UInt8) : ∀ (l : List UInt8), parts c (l ++ [x]) = if x = c then parts c l ++ [[]] else (parts c l).dropLast ++ [(parts c l).getLastD [] ++ [x]]
  | [] => by
    by_cases h : x = c
    · simp [parts, h]
    · simp [parts, h]
  | y :: l => by
    have ih := parts_snoc c x l
    have hne := parts_ne c l
    rw [List.cons_append, parts, ih]
    conv => rhs; rw [parts]
    obtain ⟨a, t, hp⟩ : ∃ a t, parts c l = a :: t := by
      cases h : parts c l with
      | nil => exact absurd h hne
      | cons a t => exact ⟨a, t, rfl⟩
    rw [hp]
    by_cases hx : x = c
    · by_cases hy : y = c
      · simp [hx, hy]
      · simp [hx, hy]
    · by_cases hy : y = c
      · simp only [hx, hy, if_true, if_false]
        rfl
      · simp only [hx, hy, if_false]
        cases t with
        | nil => rfl
        | cons b t => rfl
theorem row_last (t : List (List UInt8)) (x : List AVal) : (t.map strRow ++ [x])[t.length]? = some x := by
  rw [List.getElem?_append_right (by simp)]; simp
theorem row_set (t : List (List UInt8)) (x y : List AVal) : (t.map strRow ++ [x]).set t.length y = t.map strRow ++ [y] := by
  rw [List.set_append_right (h := by simp)]; simp
theorem rows_len1 (t : List (List UInt8)) (x : List AVal) : (t.map strRow ++ [x]).length = t.length + 1 := by simp
structure WLast (l : List UInt8) (i : Nat) (t : List (List UInt8)) (z : List UInt8) : Prop where
  eq : parts 32 (l.take i) = t ++ [z]
theorem WLast.blank {l : List UInt8} {i : Nat} {t : List (List UInt8)} {z : List UInt8} (h : WLast l i t z) (hi : i < l.length) (e : l[i].toNat = 32) : WLast l (i + 1) (t ++ [z]) [] := ⟨by
  have : l[i] = 32 := UInt8.toNat_inj.1 (by rw [e]; rfl)
  rw [List.take_succ_eq_append_getElem hi, parts_snoc, if_pos this, h.eq]⟩
theorem WLast.more {l : List UInt8} {i : Nat} {t : List (List UInt8)} {z : List UInt8} (h : WLast l i t z) (hi : i < l.length) (e : ¬ l[i].toNat = 32) : WLast l (i + 1) t (z ++ [l[i]]) := ⟨by
  have : ¬ l[i] = 32 := fun x => e (by rw [x]; rfl)
  rw [List.take_succ_eq_append_getElem hi, parts_snoc, if_neg this, h.eq]
  simp⟩
theorem WLast.len {l : List UInt8} {i : Nat} {t : List (List UInt8)} {z : List UInt8} (h : WLast l i t z) (hi : i ≤ l.length) : t.length ≤ l.length ∧ z.length ≤ l.length := by
  have h1 := parts_count 32 (l.take i)
  have h2 := parts_mem 32 (l.take i) z (by rw [h.eq]; simp)
  rw [h.eq] at h1
  simp at h1 h2; omega
@[go_sem] theorem e48 (l : List UInt8) (hl : l.length ≤ 1000000) : fn C 48 [] [.str l] = some (.slice 1 ((parts 32 l).map strRow), []) := by
  rw [fn_text Tryz.func48 rfl rfl Tryz.results48 fq48.1 rfl rfl (by kernel_rfl)]
  simp -implicitDefEqProofs -dsimp +contextual (maxSteps := 9999999) (disch := first | omega | simp only [go_sem] <;> omega | refine ib ?_; kernel_rfl) only [go_sem, seval, ↓reduceIte]
  refine kFor l.length (fun i f H => ∃ t z g, WLast l i t z ∧ f 0 = .str l ∧ f 2 = .sc (.slice none 0 0) ∧ f 3 = .osl 105 g 0 (t.length + 1) ∧ f 4 = .int .i64 (i : Int) ∧ H 105 = ⟨g, .live, 1, t.map strRow ++ [[.str z]], false⟩) ?_ ?_ (by exact ⟨[], [], 1, ⟨rfl⟩, rfl, rfl, rfl, rfl, rfl⟩)
  · rintro i f H hi ⟨t, z, g, hw, f0, f2, f3, f4, hA⟩ ih
    have hn := hw.len (by omega)
    by_cases e : l[i].toNat = 32
    · have hw' := hw.blank hi e
      simp -implicitDefEqProofs -dsimp +contextual (maxSteps := 9999999) (disch := first | omega | simp only [go_sem] <;> omega | refine ib ?_; kernel_rfl) only [go_sem, seval, ↓reduceIte, f0, f2, f3, f4, hA, hi, e, rows_len1]
      exact ih _ _ ⟨t ++ [z], [], g + 1, hw', f0, f2, by rw [List.length_append]; rfl, rfl, by simp [Heap.set, strRow]⟩
    · have hw' := hw.more hi e
      have hd : List.take 1 (List.drop i l) = [l[i]] := by rw [List.drop_eq_getElem_cons hi]; rfl
      simp -implicitDefEqProofs -dsimp +contextual (maxSteps := 9999999) (disch := first | omega | simp only [go_sem] <;> omega | refine ib ?_; kernel_rfl) only [go_sem, seval, ↓reduceIte, f0, f2, f3, f4, hA, hi, e, rows_len1, row_last, row_set]
      exact ih _ _ ⟨t, z ++ [l[i]], g, hw', f0, f2, f3, rfl, by simp [Heap.set, hd]⟩
  · rintro f H ⟨t, z, g, hw, f0, f2, f3, f4, hA⟩
    have hw := hw.eq
    rw [List.take_length] at hw
    rw [hw, List.map_append]
    simp -implicitDefEqProofs -dsimp +contextual (maxSteps := 9999999) (disch := first | omega | simp only [go_sem] <;> omega | refine ib ?_; kernel_rfl) only [go_sem, seval, ↓reduceIte, f0, f2, f3, f4, hA, rows_len1]
end Go.Proofs.YtclgfgnhcakhdaaGreatDoor
