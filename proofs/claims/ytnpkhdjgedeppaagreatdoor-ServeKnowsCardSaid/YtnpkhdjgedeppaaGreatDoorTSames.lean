import Derived.Test.YtnpkhdjgedeppaaGreatDoorTDigest4
import Derived.Test.YtnpkhdjgedeppaaGreatDoorRm
namespace Go.Proofs.YtnpkhdjgedeppaaGreatDoor
set_option maxHeartbeats 64000000
open Go.Am
set_option linter.unusedSimpArgs false
set_option linter.unusedVariables false
set_option maxRecDepth 100000
theorem Fg.eq_iff (x y : Fg) : x = y ↔ x.bit = y.bit ∧ (x.p.e.name = y.p.e.name ∧ x.p.e.id = y.p.e.id ∧ x.p.e.fr = y.p.e.fr ∧ x.p.e.un = y.p.e.un ∧ x.p.e.ix = y.p.e.ix ∧ x.p.e.tag = y.p.e.tag) ∧ x.p.since = y.p.since ∧ x.p.under = y.p.under := by
  obtain ⟨_, ⟨⟨⟩, _, _⟩⟩ := x; obtain ⟨_, ⟨⟨⟩, _, _⟩⟩ := y; simp
theorem Pr.eq_iff (x y : Pr) : x = y ↔ (x.e.name = y.e.name ∧ x.e.id = y.e.id ∧ x.e.fr = y.e.fr ∧ x.e.un = y.e.un ∧ x.e.ix = y.e.ix ∧ x.e.tag = y.e.tag) ∧ x.since = y.since ∧ x.under = y.under := by
  obtain ⟨⟨⟩, _, _⟩ := x; obtain ⟨⟨⟩, _, _⟩ := y; simp
theorem Rs.eq_iff (x y : Rs) : x = y ↔ x.job = y.job ∧ x.kind = y.kind ∧ x.ver = y.ver ∧ x.key = y.key ∧ x.val = y.val ∧ x.has = y.has ∧ x.gone = y.gone ∧ x.err = y.err := by
  cases x; cases y; simp
theorem Se.eq_iff (x y : Se) : x = y ↔ x.id = y.id ∧ x.nonce = y.nonce ∧ (x.peer.name = y.peer.name ∧ x.peer.id = y.peer.id ∧ x.peer.fr = y.peer.fr ∧ x.peer.un = y.peer.un ∧ x.peer.ix = y.peer.ix ∧ x.peer.tag = y.peer.tag) ∧ x.role = y.role ∧ x.state = y.state ∧ x.send = y.send ∧ x.hear = y.hear ∧ x.epoch = y.epoch ∧ x.count = y.count ∧ x.since = y.since ∧ x.seq = y.seq ∧ (x.seen.top = y.seen.top ∧ x.seen.low = y.seen.low ∧ x.seen.high = y.seen.high) ∧ x.used = y.used := by
  obtain ⟨_, _, ⟨⟩, _, _, _, _, _, _, _, _, ⟨⟩, _⟩ := x; obtain ⟨_, _, ⟨⟩, _, _, _, _, _, _, _, _, ⟨⟩, _⟩ := y; simp
@[go_sem] theorem eqFinger (n t n' t' : List UInt8) (a b c d e f g a' b' c' d' e' f' g' : Int) : eqF E.P 8 86 (.agg [.int .i64 g, .str n, .int .u64 a, .int .i64 b, .int .i64 c, .int .i64 d, .str t, .int .i64 e, .int .i64 f]) (.agg [.int .i64 g', .str n', .int .u64 a', .int .i64 b', .int .i64 c', .int .i64 d', .str t', .int .i64 e', .int .i64 f']) = some (decide (g = g' ∧ (n = n' ∧ a = a' ∧ b = b' ∧ c = c' ∧ d = d' ∧ t = t') ∧ e = e' ∧ f = f')) := by
  have u1 : E.P.underlying 24 = _ := Tryz.underlying24
  have u2 : E.P.underlying 9 = _ := Tryz.underlying9
  have u3 : E.P.underlying 3 = _ := Tryz.underlying3
  have u4 : E.P.underlying 22 = _ := Tryz.underlying22
  have u5 : E.P.underlying 4 = _ := Tryz.underlying4
  have hs : E.P.stoodInHeld 24 = false := by kernel_rfl
  have u6 : E.P.underlying 74 = _ := Tryz.underlying74
  have u7 : E.P.underlying 86 = _ := Tryz.underlying86
  have hp : E.P.stoodInHeld 74 = false := by kernel_rfl
  have hq : E.P.stoodInHeld 86 = false := by kernel_rfl
  simp [eqF, eqGo, u1, u2, u3, u4, u5, hs, u6, u7, hp, hq, tq74.1, tq74.2.1, tq24.1, tq24.2.1, tq9.1, tq9.2.1, tq3.1, tq3.2.1, tq22.1, tq22.2.1, tq4.1, tq4.2.1, mkV, beq_dec, Bool.and_assoc, ← Bool.decide_and]
@[go_sem] theorem eqResult (k v k' v' : List UInt8) (a b c e a' b' c' e' : Int) (h g h' g' : Bool) : eqF E.P 8 93 (.agg [.int .i64 a, .int .i64 b, .int .i64 c, .str k, .str v, .bool h, .bool g, .int .i64 e]) (.agg [.int .i64 a', .int .i64 b', .int .i64 c', .str k', .str v', .bool h', .bool g', .int .i64 e']) = some (decide (a = a' ∧ b = b' ∧ c = c' ∧ k = k' ∧ v = v' ∧ h = h' ∧ g = g' ∧ e = e')) := by
  have u1 : E.P.underlying 24 = _ := Tryz.underlying24
  have u2 : E.P.underlying 9 = _ := Tryz.underlying9
  have u3 : E.P.underlying 3 = _ := Tryz.underlying3
  have u4 : E.P.underlying 22 = _ := Tryz.underlying22
  have u5 : E.P.underlying 4 = _ := Tryz.underlying4
  have hs : E.P.stoodInHeld 24 = false := by kernel_rfl
  have u6 : E.P.underlying 39 = _ := Tryz.underlying39
  have u7 : E.P.underlying 93 = _ := Tryz.underlying93
  have hq : E.P.stoodInHeld 93 = false := by kernel_rfl
  simp [eqF, eqGo, u1, u2, u3, u4, u5, hs, u6, u7, hq, tq39.1, tq39.2.1, tq9.1, tq9.2.1, tq3.1, tq3.2.1, tq22.1, tq22.2.1, tq4.1, tq4.2.1, mkV, beq_dec, Bool.and_assoc, ← Bool.decide_and]
@[go_sem] theorem eqSession (n t x y n' t' x' y' : List UInt8) (a b c d i o r s e f g q w l h u a' b' c' d' i' o' r' s' e' f' g' q' w' l' h' u' : Int) : eqF E.P 8 101 (.agg [.int .u64 i, .int .u64 o, .str n, .int .u64 a, .int .i64 b, .int .i64 c, .int .i64 d, .str t, .int .i64 r, .int .i64 s, .str x, .str y, .int .i64 e, .int .i64 f, .int .i64 g, .int .i64 q, .int .i64 w, .int .u64 l, .int .u64 h, .int .i64 u]) (.agg [.int .u64 i', .int .u64 o', .str n', .int .u64 a', .int .i64 b', .int .i64 c', .int .i64 d', .str t', .int .i64 r', .int .i64 s', .str x', .str y', .int .i64 e', .int .i64 f', .int .i64 g', .int .i64 q', .int .i64 w', .int .u64 l', .int .u64 h', .int .i64 u']) = some (decide (i = i' ∧ o = o' ∧ (n = n' ∧ a = a' ∧ b = b' ∧ c = c' ∧ d = d' ∧ t = t') ∧ r = r' ∧ s = s' ∧ x = x' ∧ y = y' ∧ e = e' ∧ f = f' ∧ g = g' ∧ q = q' ∧ (w = w' ∧ l = l' ∧ h = h') ∧ u = u')) := by
  have u1 : E.P.underlying 24 = _ := Tryz.underlying24
  have u2 : E.P.underlying 9 = _ := Tryz.underlying9
  have u3 : E.P.underlying 3 = _ := Tryz.underlying3
  have u4 : E.P.underlying 22 = _ := Tryz.underlying22
  have u5 : E.P.underlying 4 = _ := Tryz.underlying4
  have hs : E.P.stoodInHeld 24 = false := by kernel_rfl
  have u6 : E.P.underlying 99 = _ := Tryz.underlying99
  have u7 : E.P.underlying 101 = _ := Tryz.underlying101
  have hp : E.P.stoodInHeld 99 = false := by kernel_rfl
  have w1 : E.P.szO 99 = some 3 := by kernel_rfl
  have w2 : E.P.rowO 99 = some true := by kernel_rfl
  have hq : E.P.stoodInHeld 101 = false := by kernel_rfl
  simp [eqF, eqGo, u1, u2, u3, u4, u5, hs, u6, u7, hp, hq, w1, w2, tq24.1, tq24.2.1, tq9.1, tq9.2.1, tq3.1, tq3.2.1, tq22.1, tq22.2.1, tq4.1, tq4.2.1, mkV, beq_dec, Bool.and_assoc, ← Bool.decide_and]
@[go_sem] theorem e40 (a b : List En) (hl : a.length ≤ 9223372036854775807) : fn C 40 [] [.slice 6 (a.map En.cs), .slice 6 (b.map En.cs)] = some (.bool (decide (a = b)), []) := by
  rw [fn_text Tryz.func40 rfl rfl Tryz.results40 fq40.1 rfl rfl (by kernel_rfl)]
  simp -implicitDefEqProofs -dsimp +contextual (maxSteps := 9999999) (disch := first | omega | simp only [go_sem] <;> omega | refine ib ?_; kernel_rfl) only [go_sem, seval, ↓reduceIte]
  (repeat' (refine kD_intro (fun _ => ?_) (fun _ => ?_)))
  · rename_i h1
    refine (kLoop_rec (fun i f H => f 0 = .slice 6 (a.map En.cs) ∧ f 1 = .slice 6 (b.map En.cs) ∧ f 5 = .int .i64 (i : Nat) ∧ H = Heap.nil ∧ i ≤ a.length ∧ a.take i = b.take i) (fun i => a.length - i) (fun i => some (.bool (decide (a = b)), [])) ?_ 0 _ _ ⟨rfl, rfl, rfl, rfl, by omega, rfl⟩).trans rfl
    rintro i f _ ⟨h0, h2, h5, rfl, hi, ht⟩ ih
    by_cases hl : i < a.length
    · have hb : i < b.length := by omega
      simp -implicitDefEqProofs -dsimp +contextual (maxSteps := 9999999) (disch := first | omega | simp only [go_sem] <;> omega | refine ib ?_; kernel_rfl) only [go_sem, seval, ↓reduceIte, h0, h2, h5, hl, hb, h1]
      (repeat' (refine kD_intro (fun _ => ?_) (fun _ => ?_)))
      · rename_i he
        exact ih (i + 1) _ _ ⟨h0, h2, rfl, rfl, by omega, take_eq_step hl hb ht ((En.eq_iff _ _).2 (by simpa using he))⟩ (by omega)
      · rename_i he
        rw [decide_eq_false (take_ne hl hb (fun e => he (by simp [e])))]
    · simp -implicitDefEqProofs -dsimp +contextual (maxSteps := 9999999) (disch := first | omega | simp only [go_sem] <;> omega | refine ib ?_; kernel_rfl) only [go_sem, seval, ↓reduceIte, h0, h2, h5, hl]
      obtain rfl : i = a.length := by omega
      rw [decide_eq_true (take_eq_end h1 ht)]
  · rename_i h1
    rw [decide_eq_false (fun e : a = b => h1 (by rw [e]))]
@[go_sem] theorem e74 (a b : List Pr) (hl : a.length ≤ 9223372036854775807) : fn C 74 [] [.slice 8 (a.map Pr.cs), .slice 8 (b.map Pr.cs)] = some (.bool (decide (a = b)), []) := by
  rw [fn_text Tryz.func74 rfl rfl Tryz.results74 fq74.1 rfl rfl (by kernel_rfl)]
  simp -implicitDefEqProofs -dsimp +contextual (maxSteps := 9999999) (disch := first | omega | simp only [go_sem] <;> omega | refine ib ?_; kernel_rfl) only [go_sem, seval, ↓reduceIte]
  (repeat' (refine kD_intro (fun _ => ?_) (fun _ => ?_)))
  · rename_i h1
    refine (kLoop_rec (fun i f H => f 0 = .slice 8 (a.map Pr.cs) ∧ f 1 = .slice 8 (b.map Pr.cs) ∧ f 5 = .int .i64 (i : Nat) ∧ H = Heap.nil ∧ i ≤ a.length ∧ a.take i = b.take i) (fun i => a.length - i) (fun i => some (.bool (decide (a = b)), [])) ?_ 0 _ _ ⟨rfl, rfl, rfl, rfl, by omega, rfl⟩).trans rfl
    rintro i f _ ⟨h0, h2, h5, rfl, hi, ht⟩ ih
    by_cases hl : i < a.length
    · have hb : i < b.length := by omega
      simp -implicitDefEqProofs -dsimp +contextual (maxSteps := 9999999) (disch := first | omega | simp only [go_sem] <;> omega | refine ib ?_; kernel_rfl) only [go_sem, seval, ↓reduceIte, h0, h2, h5, hl, hb, h1]
      (repeat' (refine kD_intro (fun _ => ?_) (fun _ => ?_)))
      · rename_i he
        exact ih (i + 1) _ _ ⟨h0, h2, rfl, rfl, by omega, take_eq_step hl hb ht ((Pr.eq_iff _ _).2 (by simpa using he))⟩ (by omega)
      · rename_i he
        rw [decide_eq_false (take_ne hl hb (fun e => he (by simp [e])))]
    · simp -implicitDefEqProofs -dsimp +contextual (maxSteps := 9999999) (disch := first | omega | simp only [go_sem] <;> omega | refine ib ?_; kernel_rfl) only [go_sem, seval, ↓reduceIte, h0, h2, h5, hl]
      obtain rfl : i = a.length := by omega
      rw [decide_eq_true (take_eq_end h1 ht)]
  · rename_i h1
    rw [decide_eq_false (fun e : a = b => h1 (by rw [e]))]
@[go_sem] theorem e75 (a b : List Fg) (hl : a.length ≤ 9223372036854775807) : fn C 75 [] [.slice 9 (a.map Fg.cs), .slice 9 (b.map Fg.cs)] = some (.bool (decide (a = b)), []) := by
  rw [fn_text Tryz.func75 rfl rfl Tryz.results75 fq75.1 rfl rfl (by kernel_rfl)]
  simp -implicitDefEqProofs -dsimp +contextual (maxSteps := 9999999) (disch := first | omega | simp only [go_sem] <;> omega | refine ib ?_; kernel_rfl) only [go_sem, seval, ↓reduceIte]
  (repeat' (refine kD_intro (fun _ => ?_) (fun _ => ?_)))
  · rename_i h1
    refine (kLoop_rec (fun i f H => f 0 = .slice 9 (a.map Fg.cs) ∧ f 1 = .slice 9 (b.map Fg.cs) ∧ f 5 = .int .i64 (i : Nat) ∧ H = Heap.nil ∧ i ≤ a.length ∧ a.take i = b.take i) (fun i => a.length - i) (fun i => some (.bool (decide (a = b)), [])) ?_ 0 _ _ ⟨rfl, rfl, rfl, rfl, by omega, rfl⟩).trans rfl
    rintro i f _ ⟨h0, h2, h5, rfl, hi, ht⟩ ih
    by_cases hl : i < a.length
    · have hb : i < b.length := by omega
      simp -implicitDefEqProofs -dsimp +contextual (maxSteps := 9999999) (disch := first | omega | simp only [go_sem] <;> omega | refine ib ?_; kernel_rfl) only [go_sem, seval, ↓reduceIte, h0, h2, h5, hl, hb, h1]
      (repeat' (refine kD_intro (fun _ => ?_) (fun _ => ?_)))
      · rename_i he
        exact ih (i + 1) _ _ ⟨h0, h2, rfl, rfl, by omega, take_eq_step hl hb ht ((Fg.eq_iff _ _).2 (by simpa using he))⟩ (by omega)
      · rename_i he
        rw [decide_eq_false (take_ne hl hb (fun e => he (by simp [e])))]
    · simp -implicitDefEqProofs -dsimp +contextual (maxSteps := 9999999) (disch := first | omega | simp only [go_sem] <;> omega | refine ib ?_; kernel_rfl) only [go_sem, seval, ↓reduceIte, h0, h2, h5, hl]
      obtain rfl : i = a.length := by omega
      rw [decide_eq_true (take_eq_end h1 ht)]
  · rename_i h1
    rw [decide_eq_false (fun e : a = b => h1 (by rw [e]))]
@[go_sem] theorem e76 (a b : List Se) (hl : a.length ≤ 9223372036854775807) : fn C 76 [] [.slice 20 (a.map Se.cs), .slice 20 (b.map Se.cs)] = some (.bool (decide (a = b)), []) := by
  rw [fn_text Tryz.func76 rfl rfl Tryz.results76 fq76.1 rfl rfl (by kernel_rfl)]
  simp -implicitDefEqProofs -dsimp +contextual (maxSteps := 9999999) (disch := first | omega | simp only [go_sem] <;> omega | refine ib ?_; kernel_rfl) only [go_sem, seval, ↓reduceIte]
  (repeat' (refine kD_intro (fun _ => ?_) (fun _ => ?_)))
  · rename_i h1
    refine (kLoop_rec (fun i f H => f 0 = .slice 20 (a.map Se.cs) ∧ f 1 = .slice 20 (b.map Se.cs) ∧ f 5 = .int .i64 (i : Nat) ∧ H = Heap.nil ∧ i ≤ a.length ∧ a.take i = b.take i) (fun i => a.length - i) (fun i => some (.bool (decide (a = b)), [])) ?_ 0 _ _ ⟨rfl, rfl, rfl, rfl, by omega, rfl⟩).trans rfl
    rintro i f _ ⟨h0, h2, h5, rfl, hi, ht⟩ ih
    by_cases hl : i < a.length
    · have hb : i < b.length := by omega
      simp -implicitDefEqProofs -dsimp +contextual (maxSteps := 9999999) (disch := first | omega | simp only [go_sem] <;> omega | refine ib ?_; kernel_rfl) only [go_sem, seval, ↓reduceIte, h0, h2, h5, hl, hb, h1]
      (repeat' (refine kD_intro (fun _ => ?_) (fun _ => ?_)))
      · rename_i he
        exact ih (i + 1) _ _ ⟨h0, h2, rfl, rfl, by omega, take_eq_step hl hb ht ((Se.eq_iff _ _).2 (by simpa using he))⟩ (by omega)
      · rename_i he
        rw [decide_eq_false (take_ne hl hb (fun e => he (by simp [e])))]
    · simp -implicitDefEqProofs -dsimp +contextual (maxSteps := 9999999) (disch := first | omega | simp only [go_sem] <;> omega | refine ib ?_; kernel_rfl) only [go_sem, seval, ↓reduceIte, h0, h2, h5, hl]
      obtain rfl : i = a.length := by omega
      rw [decide_eq_true (take_eq_end h1 ht)]
  · rename_i h1
    rw [decide_eq_false (fun e : a = b => h1 (by rw [e]))]
@[go_sem] theorem e81 (a b : List Rs) (hl : a.length ≤ 9223372036854775807) : fn C 81 [] [.slice 8 (a.map Rs.cs), .slice 8 (b.map Rs.cs)] = some (.bool (decide (a = b)), []) := by
  rw [fn_text Tryz.func81 rfl rfl Tryz.results81 fq81.1 rfl rfl (by kernel_rfl)]
  simp -implicitDefEqProofs -dsimp +contextual (maxSteps := 9999999) (disch := first | omega | simp only [go_sem] <;> omega | refine ib ?_; kernel_rfl) only [go_sem, seval, ↓reduceIte]
  (repeat' (refine kD_intro (fun _ => ?_) (fun _ => ?_)))
  · rename_i h1
    refine (kLoop_rec (fun i f H => f 0 = .slice 8 (a.map Rs.cs) ∧ f 1 = .slice 8 (b.map Rs.cs) ∧ f 5 = .int .i64 (i : Nat) ∧ H = Heap.nil ∧ i ≤ a.length ∧ a.take i = b.take i) (fun i => a.length - i) (fun i => some (.bool (decide (a = b)), [])) ?_ 0 _ _ ⟨rfl, rfl, rfl, rfl, by omega, rfl⟩).trans rfl
    rintro i f _ ⟨h0, h2, h5, rfl, hi, ht⟩ ih
    by_cases hl : i < a.length
    · have hb : i < b.length := by omega
      simp -implicitDefEqProofs -dsimp +contextual (maxSteps := 9999999) (disch := first | omega | simp only [go_sem] <;> omega | refine ib ?_; kernel_rfl) only [go_sem, seval, ↓reduceIte, h0, h2, h5, hl, hb, h1]
      (repeat' (refine kD_intro (fun _ => ?_) (fun _ => ?_)))
      · rename_i he
        exact ih (i + 1) _ _ ⟨h0, h2, rfl, rfl, by omega, take_eq_step hl hb ht ((Rs.eq_iff _ _).2 (by simpa using he))⟩ (by omega)
      · rename_i he
        rw [decide_eq_false (take_ne hl hb (fun e => he (by simp [e])))]
    · simp -implicitDefEqProofs -dsimp +contextual (maxSteps := 9999999) (disch := first | omega | simp only [go_sem] <;> omega | refine ib ?_; kernel_rfl) only [go_sem, seval, ↓reduceIte, h0, h2, h5, hl]
      obtain rfl : i = a.length := by omega
      rw [decide_eq_true (take_eq_end h1 ht)]
  · rename_i h1
    rw [decide_eq_false (fun e : a = b => h1 (by rw [e]))]
@[go_sem] theorem e80 (a b : List Nat) (hl : a.length ≤ 9223372036854775807) : fn C 80 [] [.slice 1 (a.map u64Row), .slice 1 (b.map u64Row)] = some (.bool (decide (a = b)), []) := by
  rw [fn_text Tryz.func80 rfl rfl Tryz.results80 fq80.1 rfl rfl (by kernel_rfl)]
  simp -implicitDefEqProofs -dsimp +contextual (maxSteps := 9999999) (disch := first | omega | simp only [go_sem] <;> omega | refine ib ?_; kernel_rfl) only [go_sem, seval, ↓reduceIte]
  (repeat' (refine kD_intro (fun _ => ?_) (fun _ => ?_)))
  · rename_i h1
    refine (kLoop_rec (fun i f H => f 0 = .slice 1 (a.map u64Row) ∧ f 1 = .slice 1 (b.map u64Row) ∧ f 5 = .int .i64 (i : Nat) ∧ H = Heap.nil ∧ i ≤ a.length ∧ a.take i = b.take i) (fun i => a.length - i) (fun i => some (.bool (decide (a = b)), [])) ?_ 0 _ _ ⟨rfl, rfl, rfl, rfl, by omega, rfl⟩).trans rfl
    rintro i f _ ⟨h0, h2, h5, rfl, hi, ht⟩ ih
    by_cases hl : i < a.length
    · have hb : i < b.length := by omega
      simp -implicitDefEqProofs -dsimp +contextual (maxSteps := 9999999) (disch := first | omega | simp only [go_sem] <;> omega | refine ib ?_; kernel_rfl) only [go_sem, seval, ↓reduceIte, h0, h2, h5, hl, hb, h1]
      (repeat' (refine kD_intro (fun _ => ?_) (fun _ => ?_)))
      · rename_i he
        exact ih (i + 1) _ _ ⟨h0, h2, rfl, rfl, by omega, take_eq_step hl hb ht (by simpa using he)⟩ (by omega)
      · rename_i he
        rw [decide_eq_false (take_ne hl hb (fun e => he (by simp [e])))]
    · simp -implicitDefEqProofs -dsimp +contextual (maxSteps := 9999999) (disch := first | omega | simp only [go_sem] <;> omega | refine ib ?_; kernel_rfl) only [go_sem, seval, ↓reduceIte, h0, h2, h5, hl]
      obtain rfl : i = a.length := by omega
      rw [decide_eq_true (take_eq_end h1 ht)]
  · rename_i h1
    rw [decide_eq_false (fun e : a = b => h1 (by rw [e]))]
theorem Ms.eq_iff (x y : Ms) : x = y ↔ x.kind = y.kind ∧ x.rid = y.rid ∧ x.ver = y.ver ∧ x.err = y.err ∧ x.id = y.id ∧ x.has = y.has ∧ x.gone = y.gone ∧ x.key = y.key ∧ x.val = y.val ∧ x.ents = y.ents ∧ x.items = y.items := by
  cases x; cases y; simp
theorem Pd.eq_iff (x y : Pd) : x = y ↔ x.rid = y.rid ∧ x.why = y.why ∧ x.job = y.job ∧ x.til = y.til ∧ x.tries = y.tries ∧ x.session = y.session ∧ x.to = y.to ∧ x.m = y.m := by
  cases x; cases y; simp
theorem Jb.eq_iff (x y : Jb) : x = y ↔ x.asked = y.asked ∧ (x.id = y.id ∧ x.kind = y.kind ∧ x.phase = y.phase ∧ x.hops = y.hops ∧ x.tries = y.tries ∧ x.til = y.til ∧ x.key = y.key ∧ x.val = y.val) ∧ x.owner = y.owner ∧ x.item = y.item ∧ x.acks = y.acks ∧ x.waits = y.waits ∧ x.back = y.back ∧ x.backRid = y.backRid ∧ x.backJob = y.backJob :=
  ⟨fun h => by subst h; simp, fun h => by cases x; cases y; simp_all⟩
@[go_sem] theorem e82 (a b : Ms) (h1 : a.ents.length ≤ 9223372036854775807) (h2 : a.items.length ≤ 9223372036854775807) : fn C 82 [] [.agg [.int .i64 a.kind, .int .i64 a.rid, .int .i64 a.ver, .int .i64 a.err, .int .u64 (a.id : Int), .bool a.has, .bool a.gone, .str a.key, .str a.val, .slice 6 (a.ents.map En.cs), .slice 4 (a.items.map It.cs)], .agg [.int .i64 b.kind, .int .i64 b.rid, .int .i64 b.ver, .int .i64 b.err, .int .u64 (b.id : Int), .bool b.has, .bool b.gone, .str b.key, .str b.val, .slice 6 (b.ents.map En.cs), .slice 4 (b.items.map It.cs)]] = some (.bool (decide (a = b)), []) := by
  rw [fn_text Tryz.func82 rfl rfl Tryz.results82 fq82.1 rfl rfl (by kernel_rfl)]
  simp -implicitDefEqProofs -dsimp +contextual (maxSteps := 9999999) (disch := first | omega | simp only [go_sem] <;> omega | refine ib ?_; kernel_rfl) only [go_sem, seval, ↓reduceIte]
  (repeat' (refine kD_intro (fun _ => ?_) (fun _ => ?_))) <;> exact Res_bool (by simp [Ms.eq_iff, *])
@[go_sem] theorem e153 (a b : Pd) (h1 : a.m.ents.length ≤ 9223372036854775807) (h2 : a.m.items.length ≤ 9223372036854775807) : fn C 153 [] [.agg [.int .i64 a.rid, .int .i64 a.why, .int .i64 a.job, .int .i64 a.til, .int .i64 a.tries, .int .u64 (a.session : Int), .str a.to.name, .int .u64 (a.to.id : Int), .int .i64 a.to.fr, .int .i64 a.to.un, .int .i64 a.to.ix, .str a.to.tag, .int .i64 a.m.kind, .int .i64 a.m.rid, .int .i64 a.m.ver, .int .i64 a.m.err, .int .u64 (a.m.id : Int), .bool a.m.has, .bool a.m.gone, .str a.m.key, .str a.m.val, .slice 6 (a.m.ents.map En.cs), .slice 4 (a.m.items.map It.cs)], .agg [.int .i64 b.rid, .int .i64 b.why, .int .i64 b.job, .int .i64 b.til, .int .i64 b.tries, .int .u64 (b.session : Int), .str b.to.name, .int .u64 (b.to.id : Int), .int .i64 b.to.fr, .int .i64 b.to.un, .int .i64 b.to.ix, .str b.to.tag, .int .i64 b.m.kind, .int .i64 b.m.rid, .int .i64 b.m.ver, .int .i64 b.m.err, .int .u64 (b.m.id : Int), .bool b.m.has, .bool b.m.gone, .str b.m.key, .str b.m.val, .slice 6 (b.m.ents.map En.cs), .slice 4 (b.m.items.map It.cs)]] = some (.bool (decide (a = b)), []) := by
  rw [fn_text Tryz.func153 rfl rfl Tryz.results153 fq153.1 rfl rfl (by kernel_rfl)]
  simp -implicitDefEqProofs -dsimp +contextual (maxSteps := 9999999) (disch := first | omega | simp only [go_sem] <;> omega | refine ib ?_; kernel_rfl) only [go_sem, seval, ↓reduceIte, e82 a.m b.m h1 h2]
  (repeat' (refine kD_intro (fun _ => ?_) (fun _ => ?_))) <;> exact Res_bool (by simp [Pd.eq_iff, En.eq_iff, *])
@[go_sem] theorem e77 (a b : List Pd) (hl : a.length ≤ 9223372036854775807) (hf : ∀ x ∈ a, x.fit) : fn C 77 [] [.slice 23 (a.map Pd.cs), .slice 23 (b.map Pd.cs)] = some (.bool (decide (a = b)), []) := by
  rw [fn_text Tryz.func77 rfl rfl Tryz.results77 fq77.1 rfl rfl (by kernel_rfl)]
  simp -implicitDefEqProofs -dsimp +contextual (maxSteps := 9999999) (disch := first | omega | simp only [go_sem] <;> omega | refine ib ?_; kernel_rfl) only [go_sem, seval, ↓reduceIte]
  (repeat' (refine kD_intro (fun _ => ?_) (fun _ => ?_)))
  · rename_i h1
    refine (kLoop_rec (fun i f H => f 0 = .slice 23 (a.map Pd.cs) ∧ f 1 = .slice 23 (b.map Pd.cs) ∧ f 5 = .int .i64 (i : Nat) ∧ H = Heap.nil ∧ i ≤ a.length ∧ a.take i = b.take i) (fun i => a.length - i) (fun i => some (.bool (decide (a = b)), [])) ?_ 0 _ _ ⟨rfl, rfl, rfl, rfl, by omega, rfl⟩).trans rfl
    rintro i f _ ⟨h0, h2, h5, rfl, hi, ht⟩ ih
    by_cases hl : i < a.length
    · have hb : i < b.length := by omega
      have ff := (hf _ (List.getElem_mem hl)).m
      have one := e153 a[i] b[i] ff.e ff.i
      by_cases e : a[i] = b[i]
      · rw [decide_eq_true e] at one
        simp -implicitDefEqProofs -dsimp +contextual (maxSteps := 9999999) (disch := first | omega | simp only [go_sem] <;> omega | refine ib ?_; kernel_rfl) only [go_sem, seval, ↓reduceIte, h0, h2, h5, hl, hb, h1, one]
        exact ih (i + 1) _ _ ⟨h0, h2, rfl, rfl, by omega, take_eq_step hl hb ht e⟩ (by omega)
      · rw [decide_eq_false e] at one
        simp -implicitDefEqProofs -dsimp +contextual (maxSteps := 9999999) (disch := first | omega | simp only [go_sem] <;> omega | refine ib ?_; kernel_rfl) only [go_sem, seval, ↓reduceIte, h0, h2, h5, hl, hb, h1, one]
        rw [decide_eq_false (take_ne hl hb e)]
    · simp -implicitDefEqProofs -dsimp +contextual (maxSteps := 9999999) (disch := first | omega | simp only [go_sem] <;> omega | refine ib ?_; kernel_rfl) only [go_sem, seval, ↓reduceIte, h0, h2, h5, hl]
      obtain rfl : i = a.length := by omega
      rw [decide_eq_true (take_eq_end h1 ht)]
  · rename_i h1
    rw [decide_eq_false (fun e : a = b => h1 (by rw [e]))]
theorem asked_row (l : List (List UInt8)) (i : Nat) (h : i < l.length) : (l.map strRow)[i]? = some [.str l[i]] := by
  rw [List.getElem?_map, List.getElem?_eq_getElem h]; rfl
@[go_sem] theorem e79 (a b : List Jb) (hl : a.length ≤ 9223372036854775807) (hf : ∀ x ∈ a, x.asked.length ≤ 9223372036854775807) : fn C 79 [] [.slice 29 (a.map Jb.cs), .slice 29 (b.map Jb.cs)] = some (.bool (decide (a = b)), []) := by
  rw [fn_text Tryz.func79 rfl rfl Tryz.results79 fq79.1 rfl rfl (by kernel_rfl)]
  simp -implicitDefEqProofs -dsimp +contextual (maxSteps := 9999999) (disch := first | omega | simp only [go_sem] <;> omega | refine ib ?_; kernel_rfl) only [go_sem, seval, ↓reduceIte]
  (repeat' (refine kD_intro (fun _ => ?_) (fun _ => ?_)))
  · rename_i h1
    refine (kLoop_rec (fun i f H => f 0 = .slice 29 (a.map Jb.cs) ∧ f 1 = .slice 29 (b.map Jb.cs) ∧ f 5 = .int .i64 (i : Nat) ∧ i ≤ a.length ∧ a.take i = b.take i) (fun i => a.length - i) (fun i => some (.bool (decide (a = b)), [])) ?_ 0 _ _ ⟨rfl, rfl, rfl, by omega, rfl⟩).trans rfl
    rintro i f H ⟨h0, h2, h5, hi, ht⟩ ih
    by_cases hl : i < a.length
    · have hb : i < b.length := by omega
      have ff := hf _ (List.getElem_mem hl)
      have r1 := jb_row a i hl
      have r2 := jb_row b i hb
      by_cases hk : a[i].asked.length = b[i].asked.length
      · simp -implicitDefEqProofs -dsimp +contextual (maxSteps := 9999999) (disch := first | omega | simp only [go_sem] <;> omega | refine ib ?_; kernel_rfl) only [go_sem, seval, ↓reduceIte, h0, h2, h5, hl, hb, h1, r1, r2, hk]
        refine (kLoop_rec (fun k f' H' => f' 0 = .slice 29 (a.map Jb.cs) ∧ f' 1 = .slice 29 (b.map Jb.cs) ∧ f' 5 = .int .i64 (i : Nat) ∧ f' 8 = .int .i64 (k : Nat) ∧ f' 6 = .ptr 106 ((H 106).gen + 1) 0 0 ∧ f' 7 = .ptr 107 ((H 107).gen + 1) 0 0 ∧ k ≤ a[i].asked.length ∧ a[i].asked.take k = b[i].asked.take k ∧
          H' 106 = ⟨(H 106).gen + 1, .live, 29, [[.int .i64 a[i].id, .int .i64 a[i].kind, .int .i64 a[i].phase, .int .i64 a[i].hops, .int .i64 a[i].tries, .int .i64 a[i].til, .str a[i].key, .str a[i].val, .str a[i].owner.name, .int .u64 (a[i].owner.id : Int), .int .i64 a[i].owner.fr, .int .i64 a[i].owner.un, .int .i64 a[i].owner.ix, .str a[i].owner.tag, .str a[i].item.k, .str a[i].item.v, .int .i64 a[i].item.n, .bool a[i].item.g, .int .i64 a[i].acks, .int .i64 a[i].waits, .slice 1 (a[i].asked.map strRow), .str a[i].back.name, .int .u64 (a[i].back.id : Int), .int .i64 a[i].back.fr, .int .i64 a[i].back.un, .int .i64 a[i].back.ix, .str a[i].back.tag, .int .i64 a[i].backRid, .int .i64 a[i].backJob]], false⟩ ∧ H' 107 = ⟨(H 107).gen + 1, .live, 29, [[.int .i64 b[i].id, .int .i64 b[i].kind, .int .i64 b[i].phase, .int .i64 b[i].hops, .int .i64 b[i].tries, .int .i64 b[i].til, .str b[i].key, .str b[i].val, .str b[i].owner.name, .int .u64 (b[i].owner.id : Int), .int .i64 b[i].owner.fr, .int .i64 b[i].owner.un, .int .i64 b[i].owner.ix, .str b[i].owner.tag, .str b[i].item.k, .str b[i].item.v, .int .i64 b[i].item.n, .bool b[i].item.g, .int .i64 b[i].acks, .int .i64 b[i].waits, .slice 1 (b[i].asked.map strRow), .str b[i].back.name, .int .u64 (b[i].back.id : Int), .int .i64 b[i].back.fr, .int .i64 b[i].back.un, .int .i64 b[i].back.ix, .str b[i].back.tag, .int .i64 b[i].backRid, .int .i64 b[i].backJob]], false⟩) (fun k => a[i].asked.length - k) (fun _ => some (.bool (decide (a = b)), [])) ?_ 0 _ _ (by exact ⟨h0, h2, h5, rfl, rfl, rfl, by omega, rfl, by simp [Heap.set], by simp [Heap.set]⟩)).trans rfl
        rintro k f' H' ⟨g0, g1, g5, g8, g6, g7, hk2, ha, H1, H2⟩ ih2
        by_cases hkl : k < a[i].asked.length
        · have hkb : k < b[i].asked.length := by omega
          have q1 := asked_row a[i].asked k hkl
          have q2 := asked_row b[i].asked k hkb
          by_cases e : a[i].asked[k] = b[i].asked[k]
          · simp -implicitDefEqProofs -dsimp +contextual (maxSteps := 9999999) (disch := first | omega | simp only [go_sem] <;> omega | refine ib ?_; kernel_rfl) only [go_sem, seval, ↓reduceIte, g0, g1, g5, g6, g7, g8, H1, H2, hk, hkl, hkb, q1, q2, e]
            exact ih2 (k + 1) _ _ ⟨g0, g1, g5, rfl, g6, g7, by omega, take_eq_step hkl hkb ha e, H1, H2⟩ (by omega)
          · simp -implicitDefEqProofs -dsimp +contextual (maxSteps := 9999999) (disch := first | omega | simp only [go_sem] <;> omega | refine ib ?_; kernel_rfl) only [go_sem, seval, ↓reduceIte, g0, g1, g5, g6, g7, g8, H1, H2, hk, hkl, hkb, q1, q2, e]
            rw [decide_eq_false (take_ne hl hb (fun e' => e (by simp [e'])))]
        · obtain rfl : k = a[i].asked.length := by omega
          clear ih2
          have hask := take_eq_end hk ha
          simp -implicitDefEqProofs -dsimp +contextual (maxSteps := 9999999) (disch := first | omega | simp only [go_sem] <;> omega | refine ib ?_; kernel_rfl) only [go_sem, seval, ↓reduceIte, g0, g1, g5, g6, g7, g8, H1, H2, hk]
          (repeat' (refine kD_intro (fun _ => ?_) (fun _ => ?_))) <;> first
            | (refine ih (i + 1) _ _ ⟨g0, g1, rfl, by omega, take_eq_step hl hb ht ((Jb.eq_iff _ _).2 (by simp [En.eq_iff, It.eq_iff, *]))⟩ (by omega))
            | (rw [decide_eq_false (take_ne hl hb (fun e => by simp_all))])
      · simp -implicitDefEqProofs -dsimp +contextual (maxSteps := 9999999) (disch := first | omega | simp only [go_sem] <;> omega | refine ib ?_; kernel_rfl) only [go_sem, seval, ↓reduceIte, h0, h2, h5, hl, hb, h1, r1, r2, hk]
        rw [decide_eq_false (take_ne hl hb (fun e => hk (by rw [e])))]
    · simp -implicitDefEqProofs -dsimp +contextual (maxSteps := 9999999) (disch := first | omega | simp only [go_sem] <;> omega | refine ib ?_; kernel_rfl) only [go_sem, seval, ↓reduceIte, h0, h2, h5, hl]
      obtain rfl : i = a.length := by omega
      rw [decide_eq_true (take_eq_end h1 ht)]
  · rename_i h1
    rw [decide_eq_false (fun e : a = b => h1 (by rw [e]))]
def jRow (r : List AVal) : Jb := match r with | .int _ a :: .int _ b :: _ => { jbZ with id := a, kind := b } | _ => jbZ
def itRow (r : List AVal) : It := match r with | [.str k, .str v, .int _ n, .bool g] => ⟨k, v, n, g⟩ | _ => zeroIt
def rowsA (v : AVal) (i : Nat) : List (List AVal) := match v with | .agg cs => (match cs[i]? with | some (.slice _ rows) => rows | _ => []) | _ => []
def intA (v : AVal) (i : Nat) : Int := match v with | .agg cs => (match cs[i]? with | some (.int _ n) => n | _ => 0) | _ => 0
def ndZ : Nd := ⟨enZ, 0, [], 0, [], false, [], [], [], [], [], [], [], 0, 0, [], []⟩
def ndA (v : AVal) : Nd := { ndZ with items := (rowsA v 16).map itRow, jobs := (rowsA v 17).map jRow, jobId := intA v 19 }
def gmM (ds : List AVal) : Int := match ds with | v :: .int _ id :: _ => copR (ndA v).jobs id | _ => -1
def gmB (ds : List AVal) : Int := match ds with
  | v :: .str k :: .str x :: .bool g :: _ => if beginE (ndA v) k x g = 0 then
      (if copR (begunR (ndA v) k x g enZ 0 0).jobs (nextI (ndA v).jobId) = ((ndA v).jobs.length : Int) then -2 else copR (begunR (ndA v) k x g enZ 0 0).jobs (nextI (ndA v).jobId)) else -1
  | _ => -1
noncomputable def own2 : Own := fun f => if f = 109 then some (fun ex ds => fn (C1 (gmB ds)) f ex ds) else if f = 999999 then some (fun ex ds => fn (C1 (gmM ds)) f ex ds) else if f = 203 then some (fun ex ds => fn (C1 (gmM ds)) f ex ds)
  else if f ∈ [999999, 999999, 999999, 999999, 999999, 243, 135] then none else some (fun ex ds => fn C f ex ds)
theorem own2_ok : OwnOk E own2 := by
  intro f g ex ds q hf hg
  unfold own2 at hf
  split at hf
  · simp only [aNd, Option.some.injEq] at hf
    subst hf
    exact fnE_sound mixed own1_ok hg
  · split at hf
    · simp only [aNd, Option.some.injEq] at hf
      subst hf
      exact fnE_sound mixed own1_ok hg
    · split at hf
      · simp only [aNd, Option.some.injEq] at hf
        subst hf
        exact fnE_sound mixed own1_ok hg
      · split at hf
        · cases hf
        · simp only [aNd, Option.some.injEq] at hf
          subst hf
          exact fnE_sound mixed own_ok hg
noncomputable def C2 : Cf := ⟨E, M, own2⟩
@[go_sem] theorem C2_E : C2.E = E := rfl
@[go_sem] theorem C2_M : C2.M = M := rfl
theorem c2_fn (f : FuncId) (h1 : f ≠ 109) (h2 : f ≠ 999999) (h3 : f ≠ 203) (h4 : f ∉ [999999, 999999, 999999, 999999, 999999, 243, 135]) (ex ds) : fn C2 f ex ds = fn C f ex ds :=
  fn_own (g := fun ex ds => fn C f ex ds) (by show own2 f = _; unfold own2; rw [if_neg h1, if_neg h2, if_neg h3, if_neg h4]) ex ds
structure Nd.cmp (n : Nd) : Prop where
  pl : n.pred.length ≤ 9223372036854775807
  ll : n.list.length ≤ 9223372036854775807
  fl : n.fingers.length ≤ 9223372036854775807
  sl : n.sessions.length ≤ 9223372036854775807
  dl : n.pends.length ≤ 9223372036854775807
  df : ∀ p ∈ n.pends, p.fit
  il : n.items.length ≤ 9223372036854775807
  jl : n.jobs.length ≤ 9223372036854775807
  ja : ∀ j ∈ n.jobs, j.asked.length ≤ 9223372036854775807
  wl : n.draws.length ≤ 9223372036854775807
  rl : n.results.length ≤ 9223372036854775807
theorem Nd.mid.cmp {n : Nd} {k : Nat} (h : n.mid k) (hk : k ≤ 9223372036854775807) (hd : ∀ p ∈ n.pends, p.fit) : n.cmp :=
  ⟨Nat.le_trans h.pl hk, Nat.le_trans h.ll hk, Nat.le_trans h.fl hk, Nat.le_trans h.sl hk, Nat.le_trans h.dl hk, hd, Nat.le_trans h.il hk, Nat.le_trans h.jl hk, fun j hj => Nat.le_trans (h.ja j hj) hk, Nat.le_trans h.wl hk, Nat.le_trans h.rl hk⟩
structure Nd.good (n : Nd) (k : Nat) : Prop where
  m : n.mid k
  d : ∀ p ∈ n.pends, p.fit
  j : ∀ j ∈ n.jobs, j.item.fit
def ActG (k : Nat) (l : List Ac) : Prop := l.length ≤ k ∧ ∀ a ∈ l, a.m.fit
theorem Nd.good.le {n : Nd} {k m : Nat} (h : n.good k) (hk : k ≤ m) : n.good m := ⟨h.m.le hk, h.d, h.j⟩
theorem ActG.le {l : List Ac} {k m : Nat} (h : ActG k l) (hk : k ≤ m) : ActG m l := ⟨Nat.le_trans h.1 hk, h.2⟩
theorem ActG.nil (k : Nat) : ActG k [] := ⟨Nat.zero_le _, fun a ha => by simp at ha⟩
theorem ActG.one {a : Ac} (h : a.m.fit) : ActG 1 [a] := ⟨Nat.le_refl _, fun b hb => by rw [List.mem_singleton] at hb; rw [hb]; exact h⟩
@[go_sem] theorem eqGate (a a' : Int) (k k' : List UInt8) : eqF E.P 8 26 (.agg [.int .i64 a, .str k]) (.agg [.int .i64 a', .str k']) = some (decide (a = a' ∧ k = k')) := by
  have u2 : E.P.underlying 9 = _ := Tryz.underlying9
  have u3 : E.P.underlying 3 = _ := Tryz.underlying3
  have u7 : E.P.underlying 26 = _ := Tryz.underlying26
  have hq : E.P.stoodInHeld 26 = false := by kernel_rfl
  simp [eqF, eqGo, u2, u3, u7, hq, tq9.1, tq9.2.1, tq3.1, tq3.2.1, mkV, beq_dec, Bool.and_assoc, ← Bool.decide_and]
theorem eSame (n : Nd) (h : n.cmp) : fn C 18 [] [(aNd n), (aNd n)] = some (.bool true, []) := by
  have e1 := e74 n.pred n.pred h.pl
  have e2 := e74 n.list n.list h.ll
  have e3 := e75 n.fingers n.fingers h.fl
  have e4 := e76 n.sessions n.sessions h.sl
  have e5 := e77 n.pends n.pends h.dl h.df
  have e6 := e78 n.items n.items h.il
  have e7 := e79 n.jobs n.jobs h.jl h.ja
  have e8 := e80 n.draws n.draws h.wl
  have e9 := e81 n.results n.results h.rl
  simp only [aNd, decide_true] at e1 e2 e3 e4 e5 e6 e7 e8 e9
  rw [fn_text Tryz.func18 rfl rfl Tryz.results18 fq18.1 rfl rfl (by kernel_rfl)]
  simp -implicitDefEqProofs -dsimp +contextual (maxSteps := 9999999) (disch := first | omega | simp only [go_sem] <;> omega | refine ib ?_; kernel_rfl) only [go_sem, seval, ↓reduceIte, e1, e2, e3, e4, e5, e6, e7, e8, e9]
def enB : En := { enZ with name := [98] }
def zeroPr : Pr := ⟨⟨[], 0, 0, 0, 0, []⟩, 0, 0⟩
def insideR (a x b : Nat) : Bool := !decide (x = a) && (decide (a = b) || decide (distR a x < distR a b))
@[go_sem] theorem e101 (a b : Nat) (ha : a ≤ 18446744073709551615) (hb : b ≤ 18446744073709551615) : fn C 101 [] [.int .u64 (a : Int), .int .u64 (b : Int)] = some (.int .u64 (distR a b : Int), []) := by
  rw [fn_text Tryz.func101 rfl rfl Tryz.results101 fq101.1 rfl rfl (by kernel_rfl)]
  by_cases h : a ≤ b
  · have e : IntKind.u64.wrap ((b : Int) - a) = ((distR a b : Nat) : Int) := by rw [IntKind.wrap_u64, distR]; omega
    simp -implicitDefEqProofs -dsimp +contextual (maxSteps := 9999999) (disch := first | omega | simp only [go_sem] <;> omega | refine ib ?_; kernel_rfl) only [go_sem, seval, ↓reduceIte, h, e]
    rw [show b - a = distR a b by unfold distR; omega]
  · have e1 : IntKind.u64.wrap (18446744073709551615 - (a : Int)) = ((18446744073709551615 - a : Nat) : Int) := by rw [IntKind.wrap_u64]; omega
    have e2 : IntKind.u64.wrap (((18446744073709551615 - a + b : Nat) : Int)) = ((18446744073709551615 - a + b : Nat) : Int) := by rw [IntKind.wrap_u64]; omega
    have e3 : IntKind.u64.wrap (((18446744073709551615 - a + b + 1 : Nat) : Int)) = ((distR a b : Nat) : Int) := by rw [IntKind.wrap_u64, distR]; omega
    simp -implicitDefEqProofs -dsimp +contextual (maxSteps := 9999999) (disch := first | omega | simp only [go_sem] <;> omega | refine ib ?_; kernel_rfl) only [go_sem, seval, ↓reduceIte, h, e1, e2, e3]
def AccE (f : Nat → AVal) (H : Heap) (t o st : Nat) (r : List (List AVal)) : Prop := ∃ g, f t = .osl o g 0 r.length ∧ H o = ⟨g, .live, st, r, false⟩
theorem map_take_succ {α β : Type} (f : α → β) (l : List α) (i : Nat) (h : i < l.length) : (l.take (i + 1)).map f = (l.take i).map f ++ [f l[i]] := by
  rw [List.take_succ_eq_append_getElem h, List.map_append]; rfl
def entR (p : Pr) : List AVal := p.e.cs
theorem entR_map (l : List Pr) : l.map entR = (l.map Pr.e).map En.cs := by rw [List.map_map]; rfl
@[go_sem] theorem e120 (l : List Pr) (hl : l.length ≤ 1000000) : fn C 120 [] [.slice 8 (l.map Pr.cs)] = some (.usl 6 ((l.map Pr.e).map En.cs), []) := by
  rw [fn_textN Tryz.func120 rfl rfl Tryz.results120 fq120.1 rfl rfl (by kernel_rfl)]
  simp -implicitDefEqProofs -dsimp +contextual (maxSteps := 9999999) (disch := first | omega | simp only [go_sem] <;> omega | refine ib ?_; kernel_rfl) only [go_sem, seval, ↓reduceIte]
  refine kFor l.length (fun i f H => f 6 = .slice 8 (l.map Pr.cs) ∧ f 7 = .int .i64 l.length ∧ f 8 = .int .i64 (i : Nat) ∧ AccE f H 3 103 6 ((l.take i).map entR)) ?_ ?_ (by exact ⟨rfl, rfl, rfl, ⟨_, rfl, rfl⟩⟩)
  · rintro i f H hi ⟨f6, f7, f8, g, f3, hA⟩ ih
    have hm := map_take_succ entR l i hi
    have row := pr_row l i hi
    have hn : ((l.take i).map entR).length ≤ 1000000 := by simp; omega
    generalize (l.take i).map entR = r at *
    simp -implicitDefEqProofs -dsimp +contextual (maxSteps := 9999999) (disch := first | omega | simp only [go_sem] <;> omega | refine ib ?_; kernel_rfl) only [go_sem, seval, ↓reduceIte, f6, f7, f8, f3, hA, hi, row]
    exact ih _ _ ⟨f6, f7, rfl, by rw [hm]; exact ⟨_, by rw [List.length_append]; rfl, rfl⟩⟩
  · rintro f H ⟨f6, f7, f8, g, f3, hA⟩
    rw [List.take_length, entR_map] at f3 hA
    simp -implicitDefEqProofs -dsimp +contextual (maxSteps := 9999999) (disch := first | omega | simp only [go_sem] <;> omega | refine ib ?_; kernel_rfl) only [go_sem, seval, ↓reduceIte, f6, f7, f8, f3, hA]
@[go_sem] theorem e119 (l : List Pr) (hl : l.length ≤ 1000000) : fn C 119 [] [.slice 8 (l.map Pr.cs), .int .i64 1] = some (.usl 6 (((l.take 1).map Pr.e).map En.cs), []) := by
  rw [fn_text Tryz.func119 rfl rfl Tryz.results119 fq119.1 rfl rfl (by kernel_rfl)]
  cases l with
  | nil =>
    have e : fn C 120 [] [.slice 8 []] = some (.usl 6 [], []) := e120 [] (by simp)
    simp -implicitDefEqProofs -dsimp +contextual (maxSteps := 9999999) (disch := first | omega | simp only [go_sem] <;> omega | refine ib ?_; kernel_rfl) only [go_sem, seval, ↓reduceIte, e]
  | cons p l =>
    have e : fn C 120 [] [.slice 8 [[.str p.e.name, .int .u64 (p.e.id : Int), .int .i64 p.e.fr, .int .i64 p.e.un, .int .i64 p.e.ix, .str p.e.tag, .int .i64 p.since, .int .i64 p.under]]] = some (.usl 6 [[.str p.e.name, .int .u64 (p.e.id : Int), .int .i64 p.e.fr, .int .i64 p.e.un, .int .i64 p.e.ix, .str p.e.tag]], []) := e120 [p] (by simp)
    have e1 : ¬ l.length + 1 < 1 := by omega
    have e2 : ¬ (0 : Int) > 1 := by decide
    simp -implicitDefEqProofs -dsimp +contextual (maxSteps := 9999999) (disch := first | omega | simp only [go_sem] <;> omega | refine ib ?_; kernel_rfl) only [go_sem, seval, ↓reduceIte, e, e1, e2]
@[go_sem] theorem e121 (l : List Pr) (hl : l.length ≤ 1000000) : fn C 121 [] [.slice 8 (l.map Pr.cs)] = some (.slice 6 ((l.map Pr.e).map En.cs), []) := by
  rw [fn_textN Tryz.func121 rfl rfl Tryz.results121 fq121.1 rfl rfl (by kernel_rfl)]
  simp -implicitDefEqProofs -dsimp +contextual (maxSteps := 9999999) (disch := first | omega | simp only [go_sem] <;> omega | refine ib ?_; kernel_rfl) only [go_sem, seval, ↓reduceIte]
  refine kFor l.length (fun i f H => f 0 = .slice 8 (l.map Pr.cs) ∧ f 4 = .int .i64 (i : Nat) ∧ AccE f H 3 103 6 ((l.take i).map entR)) ?_ ?_ (by exact ⟨rfl, rfl, ⟨_, rfl, rfl⟩⟩)
  · rintro i f H hi ⟨f0, f4, g, f3, hA⟩ ih
    have hm := map_take_succ entR l i hi
    have row := pr_row l i hi
    have hn : ((l.take i).map entR).length ≤ 1000000 := by simp; omega
    generalize (l.take i).map entR = r at *
    simp -implicitDefEqProofs -dsimp +contextual (maxSteps := 9999999) (disch := first | omega | simp only [go_sem] <;> omega | refine ib ?_; kernel_rfl) only [go_sem, seval, ↓reduceIte, f0, f4, f3, hA, hi, row]
    exact ih _ _ ⟨f0, rfl, by rw [hm]; exact ⟨_, by rw [List.length_append]; rfl, rfl⟩⟩
  · rintro f H ⟨f0, f4, g, f3, hA⟩
    rw [List.take_length, entR_map] at f3 hA
    simp -implicitDefEqProofs -dsimp +contextual (maxSteps := 9999999) (disch := first | omega | simp only [go_sem] <;> omega | refine ib ?_; kernel_rfl) only [go_sem, seval, ↓reduceIte, f0, f4, f3, hA]
end Go.Proofs.YtnpkhdjgedeppaaGreatDoor
namespace Go.Proofs.YtnpkhdjgedeppaaGreatDoor
set_option maxHeartbeats 64000000
open Go.Am
set_option linter.unusedSimpArgs false
set_option linter.unusedVariables false
set_option maxRecDepth 100000
attribute [local irreducible] distR
def bestS (key : Nat) (b : En) (p : Pr) : En := if distR key p.e.id < distR key b.id then p.e else b
def ownerR (me : En) (l : List Pr) (key : Nat) : En := l.foldl (bestS key) me
theorem ownerR_eq (me : En) (l : List Pr) (key : Nat) : ownerR me l key = l.foldl (bestS key) me := rfl
theorem foldl_take_succ {α β : Type} (f : β → α → β) (b : β) (l : List α) (i : Nat) (h : i < l.length) : (l.take (i + 1)).foldl f b = f ((l.take i).foldl f b) l[i] := by
  rw [List.take_succ_eq_append_getElem h, List.foldl_append]; rfl
theorem best_succ (me : En) (l : List Pr) (key i : Nat) (h : i < l.length) : (l.take (i + 1)).foldl (bestS key) me = bestS key ((l.take i).foldl (bestS key) me) l[i] := foldl_take_succ (bestS key) me l i h
theorem best_id (key : Nat) (l : List Pr) (hp : ∀ p ∈ l, p.e.id ≤ 18446744073709551615) (me : En) (hm : me.id ≤ 18446744073709551615) : (l.foldl (bestS key) me).id ≤ 18446744073709551615 := by
  induction l generalizing me with
  | nil => exact hm
  | cons p l ih =>
    refine ih (fun q hq => hp q (List.mem_cons_of_mem _ hq)) _ ?_
    unfold bestS
    split
    · exact hp p (List.mem_cons_self ..)
    · exact hm
@[go_sem] theorem e128 (me : En) (l : List Pr) (key : Nat) (hk : key ≤ 18446744073709551615) (hm : me.id ≤ 18446744073709551615) (hl : l.length ≤ 9223372036854775807) (hp : ∀ p ∈ l, p.e.id ≤ 18446744073709551615) : fn C 128 [] [.agg [.str me.name, .int .u64 (me.id : Int), .int .i64 me.fr, .int .i64 me.un, .int .i64 me.ix, .str me.tag], .slice 8 (l.map Pr.cs), .int .u64 (key : Int)] = some (.agg [.str (ownerR me l key).name, .int .u64 ((ownerR me l key).id : Int), .int .i64 (ownerR me l key).fr, .int .i64 (ownerR me l key).un, .int .i64 (ownerR me l key).ix, .str (ownerR me l key).tag], []) := by
  rw [fn_text Tryz.func128 rfl rfl Tryz.results128 fq128.1 rfl rfl (by kernel_rfl)]
  rw [ownerR_eq]
  simp -implicitDefEqProofs -dsimp +contextual (maxSteps := 9999999) (disch := first | omega | simp only [go_sem] <;> omega | refine ib ?_; kernel_rfl) only [go_sem, seval, ↓reduceIte]
  refine kFor l.length (fun i f H => f 2 = .int .u64 (key : Int) ∧ f 6 = .ptr 106 1 0 0 ∧ f 7 = .ptr 107 1 0 0 ∧ f 11 = .slice 8 (l.map Pr.cs) ∧ f 12 = .int .i64 l.length ∧ f 13 = .int .i64 (i : Nat) ∧ H 107 = ⟨1, .live, 6, [((l.take i).foldl (bestS key) me).cs], false⟩ ∧ (H 106).gen = 1 ∧ (H 106).mode = .live ∧ (∃ r : List AVal, r.length = 6 ∧ (H 106).rows = [r])) ?_ ?_ (by exact ⟨rfl, rfl, rfl, rfl, rfl, rfl, rfl, rfl, rfl, ⟨_, rfl, rfl⟩⟩)
  · rintro i f H hi ⟨f2, f6, f7, f11, f12, f13, H7, H6g, H6m, H6⟩ ih
    have row := pr_row l i hi
    have hb := best_succ me l key i hi
    have h1 := hp _ (List.getElem_mem hi)
    have h2 := best_id key (l.take i) (fun q hq => hp q (List.mem_of_mem_take hq)) me hm
    generalize (l.take i).foldl (bestS key) me = b at *
    simp -implicitDefEqProofs -dsimp +contextual (maxSteps := 9999999) (disch := first | omega | simp only [go_sem] <;> omega | refine ib ?_; kernel_rfl) only [go_sem, seval, ↓reduceIte, f2, f6, f7, f11, f12, f13, H7, hi, row, h1, h2]
    (repeat' (refine kD_intro (fun _ => ?_) (fun _ => ?_)))
    · rename_i hd
      refine ih _ _ ⟨f2, f6, f7, f11, f12, rfl, ?_, by simpa [Heap.set] using H6g, by simpa [Heap.set] using H6m, by simpa [Heap.set] using H6⟩
      rw [hb, bestS, if_pos hd]; rfl
    · rename_i hd
      refine ih _ _ ⟨f2, f6, f7, f11, f12, rfl, ?_, by simpa [Heap.set] using H6g, by simpa [Heap.set] using H6m, by simpa [Heap.set] using H6⟩
      rw [hb, bestS, if_neg hd]; simp [Heap.set, H7]
  · rintro f H ⟨f2, f6, f7, f11, f12, f13, H7, H6g, H6m, r, hr, H6⟩
    rw [List.take_length] at H7
    simp -implicitDefEqProofs -dsimp +contextual (maxSteps := 9999999) (disch := first | omega | simp only [go_sem] <;> omega | refine ib ?_; kernel_rfl) only [go_sem, seval, ↓reduceIte, f2, f6, f7, f11, f12, f13, H7, H6g, H6m, H6, hr]
def dropP (l : List Pr) (name : List UInt8) : List Pr := l.filter fun p => !decide (p.e.name = name)
def dropF (l : List Fg) (name : List UInt8) : List Fg := l.map fun x => if x.p.e.name = name then { x with p := zeroPr } else x
theorem en_row (l : List En) (i : Nat) (h : i < l.length) : (l.map En.cs)[i]? = some [.str l[i].name, .int .u64 (l[i].id : Int), .int .i64 l[i].fr, .int .i64 l[i].un, .int .i64 l[i].ix, .str l[i].tag] := by
  rw [List.getElem?_map, List.getElem?_eq_getElem h]; rfl
@[go_sem] theorem e113 (me : En) (l : List Pr) (key : Nat) (hk : key ≤ 18446744073709551615) (hm : me.id ≤ 18446744073709551615) (hl : l.length ≤ 1000000) (hp : ∀ p ∈ l, p.e.id ≤ 18446744073709551615) : fn C 113 [] [.agg [.str me.name, .int .u64 (me.id : Int), .int .i64 me.fr, .int .i64 me.un, .int .i64 me.ix, .str me.tag], .slice 8 (l.map Pr.cs), .int .u64 (key : Int)] = some (.agg [.str (ownerR me l key).name, .int .u64 ((ownerR me l key).id : Int), .int .i64 (ownerR me l key).fr, .int .i64 (ownerR me l key).un, .int .i64 (ownerR me l key).ix, .str (ownerR me l key).tag], []) := by
  rw [fn_text Tryz.func113 rfl rfl Tryz.results113 fq113.1 rfl rfl (by kernel_rfl)]
  rw [ownerR_eq]
  simp -implicitDefEqProofs -dsimp +contextual (maxSteps := 9999999) (disch := first | omega | simp only [go_sem] <;> omega | refine ib ?_; kernel_rfl) only [go_sem, seval, ↓reduceIte]
  obtain ⟨all, hall⟩ : ∃ all : List En, all = me :: l.map Pr.e := ⟨_, rfl⟩
  have hrows : [.str me.name, .int .u64 (me.id : Int), .int .i64 me.fr, .int .i64 me.un, .int .i64 me.ix, .str me.tag] :: (l.map Pr.e).map En.cs = all.map En.cs := by rw [hall]; rfl
  have hn : all.length = l.length + 1 := by simp [hall]
  have hid : ∀ e ∈ all, e.id ≤ 18446744073709551615 := by
    intro e he
    rw [hall] at he
    rcases List.mem_cons.1 he with rfl | he
    · exact hm
    · obtain ⟨p, hp', rfl⟩ := List.mem_map.1 he
      exact hp p hp'
  have hat : ∀ (i : Nat) (h : i + 1 < all.length), all[i + 1] = (l[i]'(by omega)).e := by
    intro i h; subst hall; simp
  have h0 : all[0]'(by omega) = me := by subst hall; rfl
  rw [hrows]
  refine kFor all.length (fun i f H => f 2 = .int .u64 (key : Int) ∧ f 6 = .ptr 106 1 0 0 ∧ f 7 = .osl 111 2 0 all.length ∧ f 9 = .int .i64 (i : Nat) ∧ H 111 = ⟨2, .live, 6, all.map En.cs, false⟩ ∧ (H 106).gen = 1 ∧ (H 106).mode = .live ∧ (∃ r : List AVal, r.length = 6 ∧ (H 106).rows = [r]) ∧ ∃ (j : Nat) (hj : j < all.length), f 8 = .int .i64 (j : Nat) ∧ all[j] = (l.take (i - 1)).foldl (bestS key) me) ?_ ?_ ?_
  · rintro i f H hi ⟨f2, f6, f7, f9, hH, H6g, H6m, H6, j, hj, f8, hb⟩ ih
    have ri := en_row all i hi
    have rj := en_row all j hj
    have i1 := hid _ (List.getElem_mem hi)
    have i2 := hid _ (List.getElem_mem hj)
    have next : (if distR key all[i].id < distR key all[j].id then all[i] else all[j]) = (l.take (i + 1 - 1)).foldl (bestS key) me := by
      cases i with
      | zero =>
        rw [h0, hb]
        simp
      | succ i =>
        have := hat i hi
        rw [Nat.add_sub_cancel, best_succ me l key i (by omega), hb, Nat.add_sub_cancel, this]
        rfl
    simp -implicitDefEqProofs -dsimp +contextual (maxSteps := 9999999) (disch := first | omega | simp only [go_sem] <;> omega | refine ib ?_; kernel_rfl) only [go_sem, seval, ↓reduceIte, f2, f6, f7, f8, f9, hH, hi, hj, ri, rj, i1, i2]
    (repeat' (refine kD_intro (fun _ => ?_) (fun _ => ?_)))
    · rename_i hd
      rw [if_pos hd] at next
      exact ih _ _ ⟨f2, f6, f7, rfl, hH, H6g, H6m, H6, i, hi, rfl, next⟩
    · rename_i hd
      rw [if_neg hd] at next
      exact ih _ _ ⟨f2, f6, f7, rfl, hH, H6g, H6m, H6, j, hj, f8, next⟩
  · rintro f H ⟨f2, f6, f7, f9, hH, H6g, H6m, ⟨r, hr, H6⟩, j, hj, f8, hb⟩
    have rj := en_row all j hj
    rw [hn, Nat.add_sub_cancel, List.take_length] at hb
    rw [hb] at rj
    simp -implicitDefEqProofs -dsimp +contextual (maxSteps := 9999999) (disch := first | omega | simp only [go_sem] <;> omega | refine ib ?_; kernel_rfl) only [go_sem, seval, ↓reduceIte, f2, f6, f7, f8, f9, hH, hj, rj, H6g, H6m, H6, hr]
  · refine ⟨rfl, rfl, ?_, rfl, rfl, rfl, rfl, ⟨_, rfl, rfl⟩, 0, by omega, rfl, ?_⟩
    · rw [hn]; first | rfl | (rw [Nat.add_comm]; rfl)
    · simpa using h0
@[go_sem] theorem e238 (a b : List UInt8) (hl : a.length ≤ 9223372036854775807) (hm : b.length ≤ 9223372036854775807) : fn C 238 [] [.str a, .str b] = some (.bool (Op.bytesLess a b), []) := by
  rw [fn_text Tryz.func238 rfl rfl Tryz.results238 fq238.1 rfl rfl (by kernel_rfl)]
  simp -implicitDefEqProofs -dsimp +contextual (maxSteps := 9999999) (disch := first | omega | simp only [go_sem] <;> omega | refine ib ?_; kernel_rfl) only [go_sem, seval, ↓reduceIte]
  refine (kLoop_rec (fun i f H => f 0 = .str a ∧ f 1 = .str b ∧ f 5 = .int .i64 (i : Nat) ∧ H = Heap.nil ∧ i ≤ a.length ∧ i ≤ b.length ∧ a.take i = b.take i) (fun i => a.length - i) (fun i => some (.bool (Op.bytesLess a b), [])) ?_ 0 _ _ ⟨rfl, rfl, rfl, rfl, by omega, by omega, rfl⟩).trans rfl
  rintro i f _ ⟨h0, h1, h5, rfl, hi, hj, ht⟩ ih
  by_cases h4 : i < a.length
  · by_cases h6 : i < b.length
    · simp -implicitDefEqProofs -dsimp +contextual (maxSteps := 9999999) (disch := first | omega | simp only [go_sem] <;> omega | refine ib ?_; kernel_rfl) only [go_sem, seval, ↓reduceIte, h0, h1, h5, h4, h6]
      (repeat' (refine kD_intro (fun _ => ?_) (fun _ => ?_)))
      · rename_i he
        refine ih (i + 1) _ _ ⟨h0, h1, rfl, rfl, by omega, by omega, ?_⟩ (by omega)
        rw [List.take_succ_eq_append_getElem h4, List.take_succ_eq_append_getElem h6, ht, UInt8.toNat_inj.1 he]
      · rename_i he
        rw [less_at a b i ht h4 h6 (fun e => he (by rw [e]))]
    · simp -implicitDefEqProofs -dsimp +contextual (maxSteps := 9999999) (disch := first | omega | simp only [go_sem] <;> omega | refine ib ?_; kernel_rfl) only [go_sem, seval, ↓reduceIte, h0, h1, h5, h4, h6]
      rw [less_len a b i hi hj ht (.inr (by omega))]
  · simp -implicitDefEqProofs -dsimp +contextual (maxSteps := 9999999) (disch := first | omega | simp only [go_sem] <;> omega | refine ib ?_; kernel_rfl) only [go_sem, seval, ↓reduceIte, h0, h1, h5, h4]
    (repeat' (refine kD_intro (fun _ => ?_) (fun _ => ?_))) <;> rw [less_len a b i hi hj ht (.inl (by omega))]
theorem aheadR_or (me : En) (a b : Pr) : aheadR me a b = (decide (distR me.id a.e.id < distR me.id b.e.id) || (decide (distR me.id a.e.id = distR me.id b.e.id) && Op.bytesLess a.e.name b.e.name)) := by
  unfold aheadR
  split
  · rename_i h; simp [h]
  · rename_i h; simp [h]
@[go_sem] theorem e187 (me : En) (a b : Pr) (h1 : me.id ≤ 18446744073709551615) (h2 : a.e.id ≤ 18446744073709551615) (h3 : b.e.id ≤ 18446744073709551615) (h4 : a.e.name.length ≤ 9223372036854775807) (h5 : b.e.name.length ≤ 9223372036854775807) : fn C 187 [] [.agg [.str me.name, .int .u64 (me.id : Int), .int .i64 me.fr, .int .i64 me.un, .int .i64 me.ix, .str me.tag], .agg [.str a.e.name, .int .u64 (a.e.id : Int), .int .i64 a.e.fr, .int .i64 a.e.un, .int .i64 a.e.ix, .str a.e.tag, .int .i64 a.since, .int .i64 a.under], .agg [.str b.e.name, .int .u64 (b.e.id : Int), .int .i64 b.e.fr, .int .i64 b.e.un, .int .i64 b.e.ix, .str b.e.tag, .int .i64 b.since, .int .i64 b.under]] = some (.bool (aheadR me a b), []) := by
  rw [fn_text Tryz.func187 rfl rfl Tryz.results187 fq187.1 rfl rfl (by kernel_rfl)]
  rw [aheadR_or]
  simp -implicitDefEqProofs -dsimp +contextual (maxSteps := 9999999) (disch := first | omega | simp only [go_sem] <;> omega | refine ib ?_; kernel_rfl) only [go_sem, seval, ↓reduceIte]
  (repeat' (refine kD_intro (fun _ => ?_) (fun _ => ?_)))
  all_goals exact Res_bool (by simp [*])
theorem drop_succ (l : List Pr) (name : List UInt8) (i : Nat) (h : i < l.length) : dropP (l.take (i + 1)) name = dropP (l.take i) name ++ (if l[i].e.name = name then [] else [l[i]]) := by
  unfold dropP
  rw [List.take_succ_eq_append_getElem h, List.filter_append]
  congr 1
  by_cases e : l[i].e.name = name <;> simp [e]
theorem dropP_le (l : List Pr) (name : List UInt8) : (dropP l name).length ≤ l.length := List.length_filter_le _ _
@[go_sem] theorem e126 (l : List Pr) (name : List UInt8) (hl : l.length ≤ 1000000) : fn C 126 [] [.slice 8 (l.map Pr.cs), .str name] = some (.slice 8 ((dropP l name).map Pr.cs), []) := by
  rw [fn_textN Tryz.func126 rfl rfl Tryz.results126 fq126.1 rfl rfl (by kernel_rfl)]
  simp -implicitDefEqProofs -dsimp +contextual (maxSteps := 9999999) (disch := first | omega | simp only [go_sem] <;> omega | refine ib ?_; kernel_rfl) only [go_sem, seval, ↓reduceIte]
  refine kFor l.length (fun i f H => f 0 = .slice 8 (l.map Pr.cs) ∧ f 1 = .str name ∧ f 6 = .int .i64 (i : Nat) ∧ AccE f H 5 105 8 ((dropP (l.take i) name).map Pr.cs)) ?_ ?_ (by exact ⟨rfl, rfl, rfl, ⟨_, rfl, rfl⟩⟩)
  · rintro i f H hi ⟨f0, f1, f6, g, f5, hA⟩ ih
    have hm := drop_succ l name i hi
    have row := pr_row l i hi
    have hn : ((dropP (l.take i) name).map Pr.cs).length ≤ 1000000 := by
      have := dropP_le (l.take i) name
      simp at this ⊢; omega
    by_cases e : l[i].e.name = name
    · rw [if_pos e, List.append_nil] at hm
      rw [← hm] at f5 hA hn
      generalize (dropP (l.take (i + 1)) name).map Pr.cs = r at *
      simp -implicitDefEqProofs -dsimp +contextual (maxSteps := 9999999) (disch := first | omega | simp only [go_sem] <;> omega | refine ib ?_; kernel_rfl) only [go_sem, seval, ↓reduceIte, f0, f1, f6, f5, hA, hi, row, e]
      exact ih _ _ ⟨f0, f1, rfl, ⟨g, f5, hA⟩⟩
    · rw [if_neg e] at hm
      have hm2 : (dropP (l.take (i + 1)) name).map Pr.cs = (dropP (l.take i) name).map Pr.cs ++ [l[i].cs] := by rw [hm, List.map_append]; rfl
      generalize (dropP (l.take i) name).map Pr.cs = r at *
      simp -implicitDefEqProofs -dsimp +contextual (maxSteps := 9999999) (disch := first | omega | simp only [go_sem] <;> omega | refine ib ?_; kernel_rfl) only [go_sem, seval, ↓reduceIte, f0, f1, f6, f5, hA, hi, row, e]
      exact ih _ _ ⟨f0, f1, rfl, by rw [hm2]; exact ⟨_, by rw [List.length_append]; rfl, rfl⟩⟩
  · rintro f H ⟨f0, f1, f6, g, f5, hA⟩
    rw [List.take_length] at f5 hA
    simp -implicitDefEqProofs -dsimp +contextual (maxSteps := 9999999) (disch := first | omega | simp only [go_sem] <;> omega | refine ib ?_; kernel_rfl) only [go_sem, seval, ↓reduceIte, f0, f1, f6, f5, hA]
def dropFp (name : List UInt8) (x : Fg) : Fg := if x.p.e.name = name then { x with p := zeroPr } else x
theorem fg_row (l : List Fg) (i : Nat) (h : i < l.length) : (l.map Fg.cs)[i]? = some [.int .i64 l[i].bit, .str l[i].p.e.name, .int .u64 (l[i].p.e.id : Int), .int .i64 l[i].p.e.fr, .int .i64 l[i].p.e.un, .int .i64 l[i].p.e.ix, .str l[i].p.e.tag, .int .i64 l[i].p.since, .int .i64 l[i].p.under] := by
  rw [List.getElem?_map, List.getElem?_eq_getElem h]; rfl
@[go_sem] theorem e127 (l : List Fg) (name : List UInt8) (hl : l.length ≤ 1000000) : fn C 127 [] [.slice 9 (l.map Fg.cs), .str name] = some (.slice 9 ((dropF l name).map Fg.cs), []) := by
  rw [fn_textN Tryz.func127 rfl rfl Tryz.results127 fq127.1 rfl rfl (by kernel_rfl)]
  simp -implicitDefEqProofs -dsimp +contextual (maxSteps := 9999999) (disch := first | omega | simp only [go_sem] <;> omega | refine ib ?_; kernel_rfl) only [go_sem, seval, ↓reduceIte]
  refine kFor l.length (fun i f H => f 0 = .slice 9 (l.map Fg.cs) ∧ f 1 = .str name ∧ f 6 = .int .i64 (i : Nat) ∧ AccE f H 5 105 9 ((l.take i).map fun x => (dropFp name x).cs)) ?_ ?_ (by exact ⟨rfl, rfl, rfl, ⟨_, rfl, rfl⟩⟩)
  · rintro i f H hi ⟨f0, f1, f6, g, f5, hA⟩ ih
    have hm := map_take_succ (fun x => (dropFp name x).cs) l i hi
    have row := fg_row l i hi
    have hn : ((l.take i).map fun x => (dropFp name x).cs).length ≤ 1000000 := by simp; omega
    generalize (l.take i).map (fun x => (dropFp name x).cs) = r at *
    by_cases e : l[i].p.e.name = name
    · simp -implicitDefEqProofs -dsimp +contextual (maxSteps := 9999999) (disch := first | omega | simp only [go_sem] <;> omega | refine ib ?_; kernel_rfl) only [go_sem, seval, ↓reduceIte, f0, f1, f6, f5, hA, hi, row, e]
      exact ih _ _ ⟨f0, f1, rfl, by rw [hm, dropFp, if_pos e]; exact ⟨_, by rw [List.length_append]; rfl, rfl⟩⟩
    · simp -implicitDefEqProofs -dsimp +contextual (maxSteps := 9999999) (disch := first | omega | simp only [go_sem] <;> omega | refine ib ?_; kernel_rfl) only [go_sem, seval, ↓reduceIte, f0, f1, f6, f5, hA, hi, row, e]
      exact ih _ _ ⟨f0, f1, rfl, by rw [hm, dropFp, if_neg e]; exact ⟨_, by rw [List.length_append]; rfl, rfl⟩⟩
  · rintro f H ⟨f0, f1, f6, g, f5, hA⟩
    have e : (l.take l.length).map (fun x => (dropFp name x).cs) = (dropF l name).map Fg.cs := by rw [List.take_length, dropF, List.map_map]; rfl
    rw [e] at f5 hA
    simp -implicitDefEqProofs -dsimp +contextual (maxSteps := 9999999) (disch := first | omega | simp only [go_sem] <;> omega | refine ib ?_; kernel_rfl) only [go_sem, seval, ↓reduceIte, f0, f1, f6, f5, hA]
end Go.Proofs.YtnpkhdjgedeppaaGreatDoor
namespace Go.Proofs.YtnpkhdjgedeppaaGreatDoor
set_option maxHeartbeats 64000000
open Go.Am
set_option linter.unusedSimpArgs false
set_option linter.unusedVariables false
set_option maxRecDepth 100000
def rightE (e : En) : Bool := nameR e.name && decide (0 ≤ e.fr) && decide (e.fr ≤ e.un) && decide (e.un ≤ 1073741824) && decide (0 ≤ e.ix) && decide (e.ix ≤ 64) && decide (e.tag.length = 32)
def signB (k : List UInt8) (e : En) : List UInt8 := macB k (bodyB e)
def validR (gi : Int) (gk : List UInt8) (e : En) (now : Int) : Int :=
  if rightE e = true then if e.ix < gi then 33 else if gi < e.ix then 34 else if e.tag = signB gk e then if now < e.fr ∨ e.un < now then 32 else 0 else 20 else 11
def takenP (gi : Int) (gk : List UInt8) (e : En) (now : Int) : Pr := if validR gi gk e now = 0 then ⟨e, now, gi⟩ else zeroPr
@[go_sem] theorem e200 (e : En) (hn : e.name.length ≤ 1000000000000) : fn C 200 [] [.agg [.str e.name, .int .u64 (e.id : Int), .int .i64 e.fr, .int .i64 e.un, .int .i64 e.ix, .str e.tag]] = some (.bool (rightE e), []) := by
  rw [fn_text Tryz.func200 rfl rfl Tryz.results200 fq200.1 rfl rfl (by kernel_rfl)]
  simp -implicitDefEqProofs -dsimp +contextual (maxSteps := 9999999) (disch := first | omega | simp only [go_sem] <;> omega | refine ib ?_; kernel_rfl) only [go_sem, seval, ↓reduceIte]
  (repeat' (refine kD_intro (fun _ => ?_) (fun _ => ?_))) <;> exact Res_bool (by simp [rightE, *])
@[go_sem] theorem e220 (e : En) (hn : e.name.length ≤ 1000000000000) : fn C 220 [] [.agg [.str e.name, .int .u64 (e.id : Int), .int .i64 e.fr, .int .i64 e.un, .int .i64 e.ix, .str e.tag]] = some (.bool (rightE e), []) := by
  rw [fn_text Tryz.func220 rfl rfl Tryz.results220 fq220.1 rfl rfl (by kernel_rfl)]
  simp -implicitDefEqProofs -dsimp +contextual (maxSteps := 9999999) (disch := first | omega | simp only [go_sem] <;> omega | refine ib ?_; kernel_rfl) only [go_sem, seval, ↓reduceIte]
  (repeat' (refine kD_intro (fun _ => ?_) (fun _ => ?_))) <;> exact Res_bool (by simp [rightE, *])
@[go_sem] theorem e246 (k m t : List UInt8) (h : k.length ≤ 1000000) (hf : m.length ≤ 500000) (ht : t.length ≤ 1000000) : fn C 246 [] [.slice 1 (k.map byteRow), .slice 1 (m.map byteRow), .slice 1 (t.map byteRow)] = some (.bool (decide (macB k m = t)), []) := by
  rw [fn_text Tryz.func246 rfl rfl Tryz.results246 fq246.1 rfl rfl (by kernel_rfl)]
  have hl := macB_len k m
  simp -implicitDefEqProofs -dsimp +contextual (maxSteps := 9999999) (disch := first | omega | simp only [go_sem] <;> omega | refine ib ?_; kernel_rfl) only [go_sem, seval, ↓reduceIte]
@[go_sem] theorem e202 (k : List UInt8) (e : En) (h : e.ok) (hn : e.name.length ≤ 10000) (ht : e.tag.length ≤ 10000) (hk : k.length ≤ 10000) : fn C 202 [] [.str k, .agg [.str e.name, .int .u64 (e.id : Int), .int .i64 e.fr, .int .i64 e.un, .int .i64 e.ix, .str e.tag]] = some (.bool (decide (e.tag = signB k e)), []) := by
  rw [fn_text Tryz.func202 rfl rfl Tryz.results202 fq202.1 rfl rfl (by kernel_rfl)]
  have e1 := e192 e h (by omega)
  have e2 := e246 k (bodyB e) e.tag (by omega) (by rw [bodyB_len]; omega) (by omega)
  simp -implicitDefEqProofs -dsimp +contextual (maxSteps := 9999999) (disch := first | omega | simp only [go_sem] <;> omega | refine ib ?_; kernel_rfl) only [go_sem, seval, ↓reduceIte, e1, e2]
  refine Res_bool ?_
  rw [signB, decide_eq_true_iff, decide_eq_true_iff]
  exact eq_comm
@[go_sem] theorem e245 (a : Int) : fn C 245 [] [.int .i64 a] = some (.bool false, []) := by
  rw [fn_text Tryz.func245 rfl rfl Tryz.results245 fq245.1 rfl rfl (by kernel_rfl)]
  simp -implicitDefEqProofs -dsimp +contextual (maxSteps := 9999999) (disch := first | omega | simp only [go_sem] <;> omega | refine ib ?_; kernel_rfl) only [go_sem, seval, ↓reduceIte]
@[go_sem] theorem e201 (a b : Int) : fn C 201 [] [.int .i64 a, .int .i64 b] = some (.int .i64 (if a < b then -1 else if b < a then 1 else 0), []) := by
  rw [fn_text Tryz.func201 rfl rfl Tryz.results201 fq201.1 rfl rfl (by kernel_rfl)]
  by_cases h1 : a < b
  · simp -implicitDefEqProofs -dsimp +contextual (maxSteps := 9999999) (disch := first | omega | simp only [go_sem] <;> omega | refine ib ?_; kernel_rfl) only [go_sem, seval, ↓reduceIte, h1]
  · by_cases h2 : b < a
    · simp -implicitDefEqProofs -dsimp +contextual (maxSteps := 9999999) (disch := first | omega | simp only [go_sem] <;> omega | refine ib ?_; kernel_rfl) only [go_sem, seval, ↓reduceIte, h1, h2]
    · simp -implicitDefEqProofs -dsimp +contextual (maxSteps := 9999999) (disch := first | omega | simp only [go_sem] <;> omega | refine ib ?_; kernel_rfl) only [go_sem, seval, ↓reduceIte, h1, h2]
@[go_sem] theorem e134 (gi : Int) (gk : List UInt8) (e : En) (now : Int) (h : e.ok) (hn : e.name.length ≤ 10000) (ht : e.tag.length ≤ 10000) (hk : gk.length ≤ 10000) : fn C 134 [] [.agg [.int .i64 gi, .str gk], .agg [.str e.name, .int .u64 (e.id : Int), .int .i64 e.fr, .int .i64 e.un, .int .i64 e.ix, .str e.tag], .int .i64 now] = some (.int .i64 (validR gi gk e now), []) := by
  rw [fn_text Tryz.func134 rfl rfl Tryz.results134 fq134.1 rfl rfl (by kernel_rfl)]
  have e0 := e200 e (by omega)
  have e1 := e202 gk e h hn ht hk
  have e2 := e201 e.ix gi
  rw [validR]
  by_cases h0 : rightE e = true
  · by_cases h1 : e.ix < gi
    · simp only [h1, if_true] at e2
      simp -implicitDefEqProofs -dsimp +contextual (maxSteps := 9999999) (disch := first | omega | simp only [go_sem] <;> omega | refine ib ?_; kernel_rfl) only [go_sem, seval, ↓reduceIte, e0, e2, h0, h1]
    · by_cases h2 : gi < e.ix
      · simp only [h1, h2, if_true, if_false] at e2
        simp -implicitDefEqProofs -dsimp +contextual (maxSteps := 9999999) (disch := first | omega | simp only [go_sem] <;> omega | refine ib ?_; kernel_rfl) only [go_sem, seval, ↓reduceIte, e0, e2, h0, h1, h2]
      · simp only [h1, h2, if_false] at e2
        by_cases h3 : e.tag = signB gk e
        · rw [decide_eq_true h3] at e1
          rw [if_pos h3]
          by_cases h4 : now < e.fr
          · simp -implicitDefEqProofs -dsimp +contextual (maxSteps := 9999999) (disch := first | omega | simp only [go_sem] <;> omega | refine ib ?_; kernel_rfl) only [go_sem, seval, ↓reduceIte, e0, e1, e2, h0, h1, h2, h4]
          · by_cases h5 : e.un < now
            · simp -implicitDefEqProofs -dsimp +contextual (maxSteps := 9999999) (disch := first | omega | simp only [go_sem] <;> omega | refine ib ?_; kernel_rfl) only [go_sem, seval, ↓reduceIte, e0, e1, e2, h0, h1, h2, h4, h5]
            · simp -implicitDefEqProofs -dsimp +contextual (maxSteps := 9999999) (disch := first | omega | simp only [go_sem] <;> omega | refine ib ?_; kernel_rfl) only [go_sem, seval, ↓reduceIte, e0, e1, e2, h0, h1, h2, h4, h5]
        · rw [decide_eq_false h3] at e1
          rw [if_neg h3]
          simp -implicitDefEqProofs -dsimp +contextual (maxSteps := 9999999) (disch := first | omega | simp only [go_sem] <;> omega | refine ib ?_; kernel_rfl) only [go_sem, seval, ↓reduceIte, e0, e1, e2, h0, h1, h2]
  · simp -implicitDefEqProofs -dsimp +contextual (maxSteps := 9999999) (disch := first | omega | simp only [go_sem] <;> omega | refine ib ?_; kernel_rfl) only [go_sem, seval, ↓reduceIte, e0, h0]
@[go_sem] theorem e45 (gi : Int) (gk : List UInt8) (e : En) (now : Int) (h : e.ok) (hn : e.name.length ≤ 10000) (ht : e.tag.length ≤ 10000) (hk : gk.length ≤ 10000) : fn C 45 [] [.agg [.int .i64 gi, .str gk], .agg [.str e.name, .int .u64 (e.id : Int), .int .i64 e.fr, .int .i64 e.un, .int .i64 e.ix, .str e.tag], .int .i64 now] = some (.tup [.agg [.str (takenP gi gk e now).e.name, .int .u64 ((takenP gi gk e now).e.id : Int), .int .i64 (takenP gi gk e now).e.fr, .int .i64 (takenP gi gk e now).e.un, .int .i64 (takenP gi gk e now).e.ix, .str (takenP gi gk e now).e.tag, .int .i64 (takenP gi gk e now).since, .int .i64 (takenP gi gk e now).under], .int .i64 (validR gi gk e now)], []) := by
  rw [fn_text Tryz.func45 rfl rfl Tryz.results45 fq45.1 rfl rfl (by kernel_rfl)]
  have e0 := e134 gi gk e now h hn ht hk
  rw [takenP]
  by_cases h0 : validR gi gk e now = 0
  · simp -implicitDefEqProofs -dsimp +contextual (maxSteps := 9999999) (disch := first | omega | simp only [go_sem] <;> omega | refine ib ?_; kernel_rfl) only [go_sem, seval, ↓reduceIte, e0, h0]
  · simp -implicitDefEqProofs -dsimp +contextual (maxSteps := 9999999) (disch := first | omega | simp only [go_sem] <;> omega | refine ib ?_; kernel_rfl) only [go_sem, seval, ↓reduceIte, e0, h0]
    rfl
@[go_sem] theorem e221 (k : List UInt8) (e : En) (h : e.ok) (hn : e.name.length ≤ 10000) (ht : e.tag.length ≤ 10000) (hk : k.length ≤ 10000) : fn C 221 [] [.str k, .agg [.str e.name, .int .u64 (e.id : Int), .int .i64 e.fr, .int .i64 e.un, .int .i64 e.ix, .str e.tag]] = some (.bool (decide (e.tag = signB k e)), []) := by
  rw [fn_text Tryz.func221 rfl rfl Tryz.results221 fq221.1 rfl rfl (by kernel_rfl)]
  have e1 : fn C 256 [] [.str k, .agg [.str e.name, .int .u64 (e.id : Int), .int .i64 e.fr, .int .i64 e.un, .int .i64 e.ix, .str e.tag]] = some (.agg [.str e.name, .int .u64 (e.id : Int), .int .i64 e.fr, .int .i64 e.un, .int .i64 e.ix, .str (signB k e)], []) := by
    rw [fn_text Tryz.func256 rfl rfl Tryz.results256 fq256.1 rfl rfl (by kernel_rfl)]
    have e1 := e274 e h (by omega)
    have e2 := e273 k (bodyB e) (by omega) (by rw [bodyB_len]; omega)
    simp -implicitDefEqProofs -dsimp +contextual (maxSteps := 9999999) (disch := first | omega | simp only [go_sem] <;> omega | refine ib ?_; kernel_rfl) only [go_sem, seval, ↓reduceIte, e1, e2]
    rfl
  simp -implicitDefEqProofs -dsimp +contextual (maxSteps := 9999999) (disch := first | omega | simp only [go_sem] <;> omega | refine ib ?_; kernel_rfl) only [go_sem, seval, ↓reduceIte, e1]
  refine Res_bool ?_
  exact decide_eq_true_iff.trans (eq_comm.trans decide_eq_true_iff.symm)
@[go_sem] theorem e163 (gi : Int) (gk : List UInt8) (e : En) (now : Int) (h : e.ok) (hn : e.name.length ≤ 10000) (ht : e.tag.length ≤ 10000) (hk : gk.length ≤ 10000) : fn C 163 [] [.agg [.int .i64 gi, .str gk], .agg [.str e.name, .int .u64 (e.id : Int), .int .i64 e.fr, .int .i64 e.un, .int .i64 e.ix, .str e.tag], .int .i64 now] = some (.int .i64 (validR gi gk e now), []) := by
  rw [fn_text Tryz.func163 rfl rfl Tryz.results163 fq163.1 rfl rfl (by kernel_rfl)]
  have e0 := e220 e (by omega)
  have e1 := e221 gk e h hn ht hk
  rw [validR]
  by_cases h0 : rightE e = true
  · by_cases h1 : e.ix < gi
    · simp -implicitDefEqProofs -dsimp +contextual (maxSteps := 9999999) (disch := first | omega | simp only [go_sem] <;> omega | refine ib ?_; kernel_rfl) only [go_sem, seval, ↓reduceIte, e0, h0, h1]
    · by_cases h2 : gi < e.ix
      · simp -implicitDefEqProofs -dsimp +contextual (maxSteps := 9999999) (disch := first | omega | simp only [go_sem] <;> omega | refine ib ?_; kernel_rfl) only [go_sem, seval, ↓reduceIte, e0, h0, h1, h2]
      · by_cases h3 : e.tag = signB gk e
        · rw [decide_eq_true h3] at e1
          rw [if_pos h3]
          by_cases h4 : now < e.fr
          · simp -implicitDefEqProofs -dsimp +contextual (maxSteps := 9999999) (disch := first | omega | simp only [go_sem] <;> omega | refine ib ?_; kernel_rfl) only [go_sem, seval, ↓reduceIte, e0, e1, h0, h1, h2, h4]
          · by_cases h5 : e.un < now
            · simp -implicitDefEqProofs -dsimp +contextual (maxSteps := 9999999) (disch := first | omega | simp only [go_sem] <;> omega | refine ib ?_; kernel_rfl) only [go_sem, seval, ↓reduceIte, e0, e1, h0, h1, h2, h4, h5]
            · simp -implicitDefEqProofs -dsimp +contextual (maxSteps := 9999999) (disch := first | omega | simp only [go_sem] <;> omega | refine ib ?_; kernel_rfl) only [go_sem, seval, ↓reduceIte, e0, e1, h0, h1, h2, h4, h5]
        · rw [decide_eq_false h3] at e1
          rw [if_neg h3]
          simp -implicitDefEqProofs -dsimp +contextual (maxSteps := 9999999) (disch := first | omega | simp only [go_sem] <;> omega | refine ib ?_; kernel_rfl) only [go_sem, seval, ↓reduceIte, e0, e1, h0, h1, h2]
  · simp -implicitDefEqProofs -dsimp +contextual (maxSteps := 9999999) (disch := first | omega | simp only [go_sem] <;> omega | refine ib ?_; kernel_rfl) only [go_sem, seval, ↓reduceIte, e0, h0]
@[go_sem] theorem e100 (gi : Int) (gk : List UInt8) (e : En) (now : Int) (h : e.ok) (hn : e.name.length ≤ 10000) (ht : e.tag.length ≤ 10000) (hk : gk.length ≤ 10000) : fn C 100 [] [.agg [.int .i64 gi, .str gk], .agg [.str e.name, .int .u64 (e.id : Int), .int .i64 e.fr, .int .i64 e.un, .int .i64 e.ix, .str e.tag], .int .i64 now] = some (.tup [.agg [.str (takenP gi gk e now).e.name, .int .u64 ((takenP gi gk e now).e.id : Int), .int .i64 (takenP gi gk e now).e.fr, .int .i64 (takenP gi gk e now).e.un, .int .i64 (takenP gi gk e now).e.ix, .str (takenP gi gk e now).e.tag, .int .i64 (takenP gi gk e now).since, .int .i64 (takenP gi gk e now).under], .int .i64 (validR gi gk e now)], []) := by
  rw [fn_text Tryz.func100 rfl rfl Tryz.results100 fq100.1 rfl rfl (by kernel_rfl)]
  have e0 := e163 gi gk e now h hn ht hk
  rw [takenP]
  by_cases h0 : validR gi gk e now = 0
  · simp -implicitDefEqProofs -dsimp +contextual (maxSteps := 9999999) (disch := first | omega | simp only [go_sem] <;> omega | refine ib ?_; kernel_rfl) only [go_sem, seval, ↓reduceIte, e0, h0]
  · simp -implicitDefEqProofs -dsimp +contextual (maxSteps := 9999999) (disch := first | omega | simp only [go_sem] <;> omega | refine ib ?_; kernel_rfl) only [go_sem, seval, ↓reduceIte, e0, h0]
    rfl
def insO : List Nat → List AVal → Option Res := fun _ ds => match ds with
  | [.usl 8 es, .int .i64 i, .usl 8 [p]] => gu (0 ≤ i ∧ i.toNat ≤ es.length) (gu (es.length ≤ 1000000) (gu (ones es = true ∧ es.all clos = true) (gu (p.length = 8 ∧ ones [p] = true ∧ [p].all clos = true) (some (.slice 8 (es.take i.toNat ++ p :: es.drop i.toNat), [])))))
  | _ => none
noncomputable def ownI : Own := fun f => none
noncomputable def CI : Cf := ⟨E, M, ownI⟩
@[go_sem] theorem CI_E : CI.E = E := rfl
@[go_sem] theorem CI_M : CI.M = M := rfl
@[go_sem] theorem CI_X : CI.X = ownI := rfl
@[go_sem] theorem goOv : E.P.goFn 236 = false := by kernel_rfl
@[go_sem] theorem nlIns : M.nl 186 = [] := by kernel_rfl
theorem exOv : E.P.exFn 236 = true := by kernel_rfl
@[go_sem] theorem exOv' : E.P.exFn 236 = true := exOv
theorem ovOk : OvF E.P 236 := ⟨_, 27, 4, 74, 8, Tryz.func236, by kernel_rfl, by kernel_rfl, by kernel_rfl, by kernel_rfl, by kernel_rfl, fun w => run_szO (by kernel_rfl)⟩
@[go_sem ↓] theorem ilOv {o1 g1 i1 n1 o2 g2 i2 n2 : Nat} {H : Heap} (K : AVal × Heap → Option Res) : @kB _ _ (il CI 236 [.osl o1 g1 i1 n1, .osl o2 g2 i2 n2] H) ⟨K⟩ =
    @kG _ (¬ o1 = o2) _ ⟨@kG _ (1 ≤ n1) _ ⟨@kG _ (1 ≤ n2) _ ⟨@kG _ ((H o1).gen = g1) _ ⟨@kG _ ((H o1).mode = .live) _ ⟨@kG _ (2 ≤ (H o1).st) _ ⟨@kG _ ((H o2).gen = g2) _ ⟨@kG _ ((H o2).mode = .live) _ ⟨@kG _ (2 ≤ (H o2).st) _ ⟨K (.bool false, H)⟩⟩⟩⟩⟩⟩⟩⟩⟩ := il_ov (C := CI) exOv ovOk K
theorem all_takeP {es : List (List AVal)} {i : Nat} (h : es.all clos = true) : (es.take i).all clos = true := List.all_eq_true.2 fun r hr => List.all_eq_true.1 h r (List.mem_of_mem_take hr)
theorem all_dropP {es : List (List AVal)} {i : Nat} (h : es.all clos = true) : (es.drop i).all clos = true := List.all_eq_true.2 fun r hr => List.all_eq_true.1 h r (List.mem_of_mem_drop hr)
theorem insFull (es : List (List AVal)) (p : List AVal) (i : Nat) (hi : i ≤ es.length) (hl : es.length ≤ 1000000) (h1 : ones es = true) (h2 : es.all clos = true) (h3 : p.length = 8) (h4 : ones [p] = true) (h5 : [p].all clos = true) :
    fnR CI 186 0 [.usl 8 es, .int .i64 i, .usl 8 [p]] = some (.slice 8 (es.take i ++ p :: es.drop i), []) := by
  rw [fnR_text (C := CI) Tryz.func186 rfl Tryz.results186 fq186.1 rfl rfl (by kernel_rfl)]
  by_cases h : i = es.length
  · subst h
    simp -implicitDefEqProofs -dsimp +contextual (maxSteps := 9999999) (disch := first | omega | simp only [go_sem] <;> omega | refine ib ?_; kernel_rfl) only [go_sem, seval, ↓reduceIte, h1, h2, h3, h4, h5, roomH]
  · have h6 : ones (es.drop i) = true := List.all_eq_true.2 fun r hr => List.all_eq_true.1 h1 r (List.mem_of_mem_drop hr)
    simp -implicitDefEqProofs -dsimp +contextual (maxSteps := 9999999) (disch := first | omega | simp only [go_sem] <;> omega | refine ib ?_; kernel_rfl) only [go_sem, seval, ↓reduceIte, h, hi, h1, h2, h3, h4, h5, h6, roomH]
    rw [if_pos (by omega), if_pos ⟨all_takeP h2, all_dropP h2⟩]
    simp
theorem roomRows {α : Type} (es R : List α) (p : α) (i : Nat) (hi : i < es.length) : List.take (es.length + 1) (List.take i (List.take (i + 1) (es ++ R) ++ List.drop i es ++ List.drop (i + 1 + (es.length - i)) (es ++ R)) ++ [p] ++
    List.drop (i + 1) (List.take (i + 1) (es ++ R) ++ List.drop i es ++ List.drop (i + 1 + (es.length - i)) (es ++ R))) = es.take i ++ p :: es.drop i := by
  generalize List.drop (i + 1 + (es.length - i)) (es ++ R) = Y
  have hl : (List.take (i + 1) (es ++ R)).length = i + 1 := by simp; omega
  have e1 : List.take i (List.take (i + 1) (es ++ R) ++ List.drop i es ++ Y) = es.take i := by
    rw [List.append_assoc, List.take_append_of_le_length (by omega), List.take_take, Nat.min_eq_left (by omega), List.take_append_of_le_length (by omega)]
  have e2 : List.drop (i + 1) (List.take (i + 1) (es ++ R) ++ List.drop i es ++ Y) = List.drop i es ++ Y := by
    rw [List.append_assoc, List.drop_left' hl]
  rw [e1, e2, ← List.append_assoc, List.take_left' (by simp; omega)]
  simp
theorem insRoom (es : List (List AVal)) (p : List AVal) (i n : Nat) (hn : 1 ≤ n) (hi : i ≤ es.length) (hl : es.length ≤ 1000000) (h1 : ones es = true) (h2 : es.all clos = true) (h3 : p.length = 8) (h4 : ones [p] = true) (h5 : [p].all clos = true) :
    fnR CI 186 n [.usl 8 es, .int .i64 i, .usl 8 [p]] = some (.slice 8 (es.take i ++ p :: es.drop i), []) := by
  rw [fnR_text (C := CI) Tryz.func186 rfl Tryz.results186 fq186.1 rfl rfl (by kernel_rfl)]
  have h6 : ones (es.drop i) = true := List.all_eq_true.2 fun r hr => List.all_eq_true.1 h1 r (List.mem_of_mem_drop hr)
  by_cases h : i = es.length
  · subst h
    simp -implicitDefEqProofs -dsimp +contextual (maxSteps := 9999999) (disch := first | omega | simp only [go_sem] <;> omega | refine ib ?_; kernel_rfl) only [go_sem, seval, ↓reduceIte, h1, h2, h3, h4, h5, roomH]
  · have h7 : List.take (es.length - i) (List.take (es.length + 1 - i) (List.drop i (es ++ List.replicate n (junkRow 8)))) = List.drop i es := by
      rw [List.take_take, Nat.min_eq_left (by omega), List.drop_append_of_le_length hi, List.take_append_of_le_length (by simp), List.take_of_length_le (by simp)]
    simp -implicitDefEqProofs -dsimp +contextual (maxSteps := 9999999) (disch := first | omega | simp only [go_sem] <;> omega | refine ib ?_; kernel_rfl) only [go_sem, seval, ↓reduceIte, h, hi, h1, h2, h3, h4, h5, h6, h7, roomH]
    rw [roomRows es (List.replicate n (junkRow 8)) p i (by omega)]
    rw [if_pos]
    rw [List.all_append, all_takeP h2, List.all_cons, all_dropP h2]
    simpa using h5
theorem ownI_ok : OwnOk E ownI := fun f g ex ds q hf _ => by cases hf
theorem insO_ok : ∀ ex ds q, insO ex ds = some q → SpecX E ex 186 ds q.1 q.2 := by
  intro ex ds q hq
  unfold insO at hq
  split at hq
  · rename_i es i p
    simp only [gu_some, Option.some.injEq] at hq
    obtain ⟨⟨h1, h2⟩, h3, ⟨h4, h5⟩, ⟨h6, h7, h8⟩, rfl⟩ := hq
    intro S w xs U _ hG hst hor hU hUb
    obtain ⟨i, rfl⟩ := Int.eq_ofNat_of_zero_le h1
    have hor' := hor
    obtain ⟨x, ys, U1, U2, rfl, rfl, ⟨a, cap, rfl, hle, _⟩, _⟩ := hor'
    have hi : i ≤ es.length := h2
    have hrun : fnR CI 186 (cap - es.length) [.usl 8 es, .int .i64 i, .usl 8 [p]] = some (.slice 8 (es.take i ++ p :: es.drop i), []) := by
      by_cases hn : cap - es.length = 0
      · rw [hn]; exact insFull es p i hi h3 h4 h5 h6 h7 h8
      · exact insRoom es p i _ (by omega) hi h3 h4 h5 h6 h7 h8
    exact fnR_sound (C := CI) mixed ownI_ok hrun (fun a' k cap' he => by
      simp only [List.getElem?_cons_zero, Option.some.injEq, Value.slice.injEq] at he
      obtain ⟨_, rfl, rfl⟩ := he
      omega) hG hst hor hU hUb
  · cases hq
noncomputable def ownP : Own := fun f => if f = 54 then some (cloneUO 8) else if f = 55 then some (cloneUO 9) else if f = 186 then some insO
  else if f ∈ [188, 124, 125, 122] then none else some (fun ex ds => fn C f ex ds)
theorem ownP_ok : OwnOk E ownP := by
  intro f g ex ds q hf hg
  unfold ownP at hf
  split at hf
  · rename_i e
    subst e
    simp only [Option.some.injEq] at hf
    subst hf
    exact cloneUO_ok own_54_0 own_54 ex ds q hg
  · split at hf
    · rename_i e
      subst e
      simp only [Option.some.injEq] at hf
      subst hf
      exact cloneUO_ok own_55_0 own_55 ex ds q hg
    · split at hf
      · rename_i e
        subst e
        simp only [Option.some.injEq] at hf
        subst hf
        exact insO_ok ex ds q hg
      · split at hf
        · cases hf
        · simp only [Option.some.injEq] at hf
          subst hf
          exact fnE_sound mixed own_ok hg
noncomputable def CP : Cf := ⟨E, M, ownP⟩
@[go_sem] theorem CP_E : CP.E = E := rfl
@[go_sem] theorem CP_M : CP.M = M := rfl
@[go_sem] theorem cpClone (es : List (List AVal)) : fn CP 54 [] [.slice 8 es] = gu (okRows es = true) (some (.usl 8 es, [])) := by
  rw [fn_own (g := cloneUO 8) (by show ownP 54 = _; unfold ownP; rw [if_pos rfl])]
  simp [cloneUO, gu]
@[go_sem] theorem cpCloneF (es : List (List AVal)) : fn CP 55 [] [.slice 9 es] = gu (okRows es = true) (some (.usl 9 es, [])) := by
  rw [fn_own (g := cloneUO 9) (by show ownP 55 = _; unfold ownP; rw [if_neg (by decide), if_pos rfl])]
  simp [cloneUO, gu]
@[go_sem] theorem cpIns (es : List (List AVal)) (i : Int) (p : List AVal) : fn CP 186 [] [.usl 8 es, .int .i64 i, .usl 8 [p]] = gu (0 ≤ i ∧ i.toNat ≤ es.length) (gu (es.length ≤ 1000000) (gu (ones es = true ∧ es.all clos = true) (gu (p.length = 8 ∧ ones [p] = true ∧ [p].all clos = true) (some (.slice 8 (es.take i.toNat ++ p :: es.drop i.toNat), []))))) := by
  rw [fn_own (g := insO) (by show ownP 186 = _; unfold ownP; rw [if_neg (by decide), if_neg (by decide), if_pos rfl])]
  rfl
theorem cp_fn (f : FuncId) (h1 : f ≠ 54) (h2 : f ≠ 55) (h4 : f ≠ 186) (h3 : f ∉ [188, 124, 125, 122]) (ex ds) : fn CP f ex ds = fn C f ex ds :=
  fn_own (g := fun ex ds => fn C f ex ds) (by show ownP f = _; unfold ownP; rw [if_neg h1, if_neg h2, if_neg h4, if_neg h3]) ex ds
@[go_sem] theorem cp_idx (ex ds) : fn CP 206 ex ds = fn C 206 ex ds := cp_fn _ (by decide) (by decide) (by decide) (by decide) ex ds
@[go_sem] theorem cp_drop1 (ex ds) : fn CP 189 ex ds = fn C 189 ex ds := cp_fn _ (by decide) (by decide) (by decide) (by decide) ex ds
@[go_sem] theorem e189 (p : Pr) (name : List UInt8) : fn C 189 [] [.agg [.str p.e.name, .int .u64 (p.e.id : Int), .int .i64 p.e.fr, .int .i64 p.e.un, .int .i64 p.e.ix, .str p.e.tag, .int .i64 p.since, .int .i64 p.under], .iptr [.str name]] = some (.bool (decide (p.e.name = name)), []) := by
  rw [fn_text Tryz.func189 rfl rfl Tryz.results189 fq189.1 rfl rfl (by kernel_rfl)]
  simp -implicitDefEqProofs -dsimp +contextual (maxSteps := 9999999) (disch := first | omega | simp only [go_sem] <;> omega | refine ib ?_; kernel_rfl) only [go_sem, seval, ↓reduceIte]
def nmB (name : List UInt8) (p : Pr) : Bool := decide (p.e.name = name)
@[go_sem] theorem eIdxDrop (l : List Pr) (name : List UInt8) (hl : l.length ≤ 9223372036854775807) : fn C 206 [] [.slice 8 (l.map Pr.cs), .fn (.func 189) [] [.iptr [.str name]]] = some (.int .i64 (placeG (nmB name) l), []) := by
  rw [fn_text Tryz.func206 rfl rfl Tryz.results206 fq206.1 rfl rfl (by kernel_rfl)]
  simp -implicitDefEqProofs -dsimp +contextual (maxSteps := 9999999) (disch := first | omega | simp only [go_sem] <;> omega | refine ib ?_; kernel_rfl) only [go_sem, seval, ↓reduceIte]
  refine kFor l.length (fun i f H => f 0 = .slice 8 (l.map Pr.cs) ∧ f 1 = .fn (.func 189) [] [.iptr [.str name]] ∧ f 7 = .int .i64 l.length ∧ f 8 = .int .i64 (i : Nat) ∧ H = Heap.nil ∧ (l.take i).any (nmB name) = false) ?_ ?_ (by exact ⟨rfl, rfl, rfl, rfl, rfl, rfl⟩)
  · rintro i f _ hi ⟨f0, f1, f7, f8, rfl, ha⟩ ih
    have row := pr_row l i hi
    simp -implicitDefEqProofs -dsimp +contextual (maxSteps := 9999999) (disch := first | omega | simp only [go_sem] <;> omega | refine ib ?_; kernel_rfl) only [go_sem, seval, ↓reduceIte, f0, f1, f7, f8, hi, row]
    (repeat' (refine kD_intro (fun _ => ?_) (fun _ => ?_)))
    · rename_i h; rw [placeG_at hi ha (by simp [nmB, h])]
    · rename_i h; exact ih _ _ ⟨f0, f1, f7, rfl, rfl, any_take hi ha (by simp [nmB, h])⟩
  · rintro f _ ⟨f0, f1, f7, f8, rfl, ha⟩
    simp -implicitDefEqProofs -dsimp +contextual (maxSteps := 9999999) (disch := first | omega | simp only [go_sem] <;> omega | refine ib ?_; kernel_rfl) only [go_sem, seval, ↓reduceIte, f0, f1, f7, f8]
    rw [placeG_none (any_end ha)]
theorem dropP_none {l : List Pr} {name : List UInt8} (h : l.any (nmB name) = false) : dropP l name = l := by
  unfold dropP
  rw [List.filter_eq_self]
  intro p hp
  have := any_mem h p hp
  simpa [nmB] using this
def delR (l : List Pr) (name : List UInt8) (j : Nat) : List Pr := dropP (l.take j) name ++ l.drop (dropP (l.take j) name).length
theorem dropP_take_le (l : List Pr) (name : List UInt8) (j : Nat) : (dropP (l.take j) name).length ≤ j := Nat.le_trans (dropP_le _ _) (by simp; omega)
theorem delR_len (l : List Pr) (name : List UInt8) (j : Nat) (hj : j ≤ l.length) : (delR l name j).length = l.length := by
  have := dropP_take_le l name j
  simp [delR]; omega
theorem delR_at (l : List Pr) (name : List UInt8) (j : Nat) (hj : j < l.length) : (delR l name j)[j]? = some l[j] := by
  have h := dropP_take_le l name j
  unfold delR
  rw [List.getElem?_append_right h, List.getElem?_drop, show (dropP (l.take j) name).length + (j - (dropP (l.take j) name).length) = j by omega, List.getElem?_eq_getElem hj]
theorem delR_set (l : List Pr) (name : List UInt8) (j : Nat) (hj : j < l.length) (h : ¬ l[j].e.name = name) : (delR l name j).set (dropP (l.take j) name).length l[j] = delR l name (j + 1) := by
  have hk := dropP_take_le l name j
  have hs := drop_succ l name j hj
  rw [if_neg h] at hs
  unfold delR
  rw [hs, List.set_append_right _ _ (Nat.le_refl _), Nat.sub_self, List.length_append, List.length_singleton, List.append_assoc]
  congr 1
  rw [List.drop_eq_getElem_cons (show (dropP (l.take j) name).length < l.length by omega)]
  rfl
theorem delR_skip (l : List Pr) (name : List UInt8) (j : Nat) (hj : j < l.length) (h : l[j].e.name = name) : delR l name j = delR l name (j + 1) := by
  have hs := drop_succ l name j hj
  rw [if_pos h, List.append_nil] at hs
  unfold delR
  rw [hs]
theorem delR_start {l : List Pr} {name : List UInt8} {i : Nat} (hi : i < l.length) (hn : (l.take i).any (nmB name) = false) (h : nmB name l[i] = true) : delR l name (i + 1) = l ∧ (dropP (l.take (i + 1)) name).length = i := by
  have hs := drop_succ l name i hi
  have hd : dropP (l.take i) name = l.take i := dropP_none hn
  rw [if_pos (by simpa [nmB] using h), List.append_nil, hd] at hs
  have hl : (l.take i).length = i := by rw [List.length_take]; omega
  refine ⟨?_, by rw [hs, hl]⟩
  unfold delR
  rw [hs, hl, List.take_append_drop]
theorem eDelFunc (l : List Pr) (name : List UInt8) (hl : l.length ≤ 1000000) : fn CP 188 [] [.usl 8 (l.map Pr.cs), .fn (.func 189) [] [.iptr [.str name]]] = some (.usl 8 ((dropP l name).map Pr.cs), []) := by
  rw [fn_text (C := CP) Tryz.func188 rfl rfl Tryz.results188 fq188.1 rfl rfl (by kernel_rfl)]
  have ix := eIdxDrop l name (by omega)
  rcases placeG_cases (nmB name) l with ⟨i, hi, h1, h2, h3⟩ | ⟨h2, h3⟩
  · rw [h3] at ix
    obtain ⟨s1, s2⟩ := delR_start hi h2 h1
    simp -implicitDefEqProofs -dsimp +contextual (maxSteps := 9999999) (disch := first | omega | simp only [go_sem] <;> omega | refine ib ?_; kernel_rfl) only [go_sem, seval, ↓reduceIte, ix, hi]
    refine kFor (l.length - (i + 1)) (fun m f H => f 0 = .osl 1 1 0 l.length ∧ f 1 = .fn (.func 189) [] [.iptr [.str name]] ∧ f 5 = .int .i64 ((dropP (l.take (i + 1 + m)) name).length : Nat) ∧ f 6 = .int .i64 ((i + 1 + m : Nat) : Int) ∧ H 1 = ⟨1, .live, 8, (delR l name (i + 1 + m)).map Pr.cs, false⟩) ?_ ?_ ?_
    · rintro m f H hm ⟨f0, f1, f5, f6, hH⟩ ih
      have hj : i + 1 + m < l.length := by omega
      have row : ((delR l name (i + 1 + m)).map Pr.cs)[i + 1 + m]? = some [.str l[i + 1 + m].e.name, .int .u64 (l[i + 1 + m].e.id : Int), .int .i64 l[i + 1 + m].e.fr, .int .i64 l[i + 1 + m].e.un, .int .i64 l[i + 1 + m].e.ix, .str l[i + 1 + m].e.tag, .int .i64 l[i + 1 + m].since, .int .i64 l[i + 1 + m].under] := by
        rw [List.getElem?_map, delR_at l name _ hj]; rfl
      have hk := dropP_take_le l name (i + 1 + m)
      have hd := delR_len l name (i + 1 + m) (by omega)
      by_cases e : l[i + 1 + m].e.name = name
      · have sk := delR_skip l name _ hj e
        have hs := drop_succ l name _ hj
        rw [if_pos e, List.append_nil] at hs
        rw [sk] at hH row hd
        rw [← hs] at f5 hk
        generalize delR l name (i + 1 + m + 1) = D at *
        generalize dropP (l.take (i + 1 + m + 1)) name = P at *
        have e' := eq_true e
        simp -implicitDefEqProofs -dsimp +contextual (maxSteps := 9999999) (disch := first | omega | simp only [go_sem] <;> omega | refine ib ?_; kernel_rfl) only [go_sem, seval, ↓reduceIte, f0, f1, f5, f6, hH, hj, row, hd, e']
        exact ih _ _ ⟨f0, f1, f5, rfl, by simp [Heap.set, hH]⟩
      · have st := delR_set l name _ hj e
        have hs := drop_succ l name _ hj
        rw [if_neg e] at hs
        have hs2 : (dropP (l.take (i + 1 + m + 1)) name).length = (dropP (l.take (i + 1 + m)) name).length + 1 := by rw [hs]; simp
        have st2 : ((delR l name (i + 1 + m)).map Pr.cs).set (dropP (l.take (i + 1 + m)) name).length l[i + 1 + m].cs = (delR l name (i + 1 + m + 1)).map Pr.cs := by rw [← st, List.map_set]
        have e' := eq_false e
        simp -implicitDefEqProofs -dsimp +contextual (maxSteps := 9999999) (disch := first | omega | simp only [go_sem] <;> omega | refine ib ?_; kernel_rfl) only [go_sem, seval, ↓reduceIte, f0, f1, f5, f6, hH, hj, row, hd, e']
        refine ih _ _ ⟨f0, f1, ?_, rfl, ?_⟩
        · rw [show i + 1 + (m + 1) = i + 1 + m + 1 from rfl, hs2]; rfl
        · rw [show i + 1 + (m + 1) = i + 1 + m + 1 from rfl, ← st2]; rfl
    · rintro f H ⟨f0, f1, f5, f6, hH⟩
      have em : i + 1 + (l.length - (i + 1)) = l.length := by omega
      rw [em, List.take_length] at f5
      rw [em] at hH f6
      have hd := delR_len l name l.length (Nat.le_refl _)
      have dl := dropP_le l name
      have tk : (delR l name l.length).take (dropP l name).length = dropP l name := by
        unfold delR
        rw [List.take_length, List.take_left]
      generalize delR l name l.length = D at *
      generalize hP : dropP l name = P at *
      have c1 : ¬ P.length + (l.length - P.length) + (D.length - (P.length + (l.length - P.length))) < P.length := by omega
      simp -implicitDefEqProofs -dsimp +contextual (maxSteps := 9999999) (disch := first | omega | simp only [go_sem] <;> omega | refine ib ?_; kernel_rfl) only [go_sem, seval, ↓reduceIte, f0, f1, f5, f6, hH, hd, dl, tk, c1]
      rw [if_pos (by omega)]
    · exact ⟨rfl, rfl, by rw [Nat.add_zero, s2]; rfl, rfl, by rw [Nat.add_zero, s1]; rfl⟩
  · rw [h3] at ix
    simp -implicitDefEqProofs -dsimp +contextual (maxSteps := 9999999) (disch := first | omega | simp only [go_sem] <;> omega | refine ib ?_; kernel_rfl) only [go_sem, seval, ↓reduceIte, ix]
    rw [dropP_none h2]
@[go_sem] theorem cp_del (l : List Pr) (name : List UInt8) (hl : l.length ≤ 1000000) : fn CP 188 [] [.usl 8 (l.map Pr.cs), .fn (.func 189) [] [.iptr [.str name]]] = some (.usl 8 ((dropP l name).map Pr.cs), []) := eDelFunc l name hl
theorem eDropP (l : List Pr) (name : List UInt8) (hl : l.length ≤ 1000000) : fn CP 124 [] [.slice 8 (l.map Pr.cs), .str name] = some (.usl 8 ((dropP l name).map Pr.cs), []) := by
  rw [fn_text (C := CP) Tryz.func124 rfl rfl Tryz.results124 fq124.1 rfl rfl (by kernel_rfl)]
  simp -implicitDefEqProofs -dsimp +contextual (maxSteps := 9999999) (disch := first | omega | simp only [go_sem] <;> omega | refine ib ?_; kernel_rfl) only [go_sem, seval, ↓reduceIte]
def fgsR (l : List Fg) (name : List UInt8) (i : Nat) : List Fg := (l.take i).map (dropFp name) ++ l.drop i
theorem fgsR_at (l : List Fg) (name : List UInt8) (i : Nat) (h : i < l.length) : (fgsR l name i)[i]? = some l[i] := by
  unfold fgsR
  rw [List.getElem?_append_right (by simp; omega), List.length_map, List.length_take, Nat.min_eq_left (by omega), Nat.sub_self, List.getElem?_drop, Nat.add_zero, List.getElem?_eq_getElem h]
theorem fgsR_set (l : List Fg) (name : List UInt8) (i : Nat) (h : i < l.length) : (fgsR l name i).set i (dropFp name l[i]) = fgsR l name (i + 1) := by
  have hl : ((l.take i).map (dropFp name)).length = i := by rw [List.length_map, List.length_take]; omega
  unfold fgsR
  rw [List.set_append_right _ _ (by omega), hl, Nat.sub_self, List.drop_eq_getElem_cons h, List.set_cons_zero, map_take_succ _ _ _ h, List.append_assoc]; rfl
theorem fgsR_len (l : List Fg) (name : List UInt8) (i : Nat) (h : i ≤ l.length) : (fgsR l name i).length = l.length := by simp [fgsR]; omega
theorem set_row' {α : Type} {l : List α} {i : Nat} {r : α} (h : l[i]? = some r) : l.set i r = l := by
  obtain ⟨hi, rfl⟩ := List.getElem?_eq_some_iff.1 h
  exact List.set_getElem_self hi
theorem fgsR_end (l : List Fg) (name : List UInt8) : fgsR l name l.length = dropF l name := by
  simp only [fgsR, List.take_length, List.drop_length, List.append_nil]; rfl
theorem eDropF (l : List Fg) (name : List UInt8) (hl : l.length ≤ 1000000) : fn CP 125 [] [.slice 9 (l.map Fg.cs), .str name] = some (.slice 9 ((dropF l name).map Fg.cs), []) := by
  rw [fn_text (C := CP) Tryz.func125 rfl rfl Tryz.results125 fq125.1 rfl rfl (by kernel_rfl)]
  have ok := Fg_ok l
  simp -implicitDefEqProofs -dsimp +contextual (maxSteps := 9999999) (disch := first | omega | simp only [go_sem] <;> omega | refine ib ?_; kernel_rfl) only [go_sem, seval, ↓reduceIte, ok]
  refine kFor l.length (fun i f H => f 1 = .str name ∧ f 5 = .osl 109 1 0 l.length ∧ f 10 = .osl 109 1 0 l.length ∧ f 11 = .int .i64 l.length ∧ f 12 = .int .i64 (i : Nat) ∧ H 109 = ⟨1, .live, 9, (fgsR l name i).map Fg.cs, false⟩) ?_ ?_ (by exact ⟨rfl, rfl, rfl, rfl, rfl, rfl⟩)
  · rintro i f H hi ⟨f1, f5, f10, f11, f12, hH⟩ ih
    have row : ((fgsR l name i).map Fg.cs)[i]? = some [.int .i64 l[i].bit, .str l[i].p.e.name, .int .u64 (l[i].p.e.id : Int), .int .i64 l[i].p.e.fr, .int .i64 l[i].p.e.un, .int .i64 l[i].p.e.ix, .str l[i].p.e.tag, .int .i64 l[i].p.since, .int .i64 l[i].p.under] := by rw [List.getElem?_map, fgsR_at l name i hi]; rfl
    have hn := fgsR_len l name i (by omega)
    have st : ((fgsR l name i).map Fg.cs).set i (dropFp name l[i]).cs = (fgsR l name (i + 1)).map Fg.cs := by rw [← fgsR_set l name i hi, List.map_set]
    by_cases e : l[i].p.e.name = name
    · rw [dropFp, if_pos e] at st
      simp -implicitDefEqProofs -dsimp +contextual (maxSteps := 9999999) (disch := first | omega | simp only [go_sem] <;> omega | refine ib ?_; kernel_rfl) only [go_sem, seval, ↓reduceIte, f1, f5, f10, f11, f12, hH, hi, row, hn, e]
      exact ih _ _ ⟨f1, f5, f10, f11, rfl, by rw [← st]; rfl⟩
    · rw [dropFp, if_neg e, set_row' (show ((fgsR l name i).map Fg.cs)[i]? = some l[i].cs from row)] at st
      simp -implicitDefEqProofs -dsimp +contextual (maxSteps := 9999999) (disch := first | omega | simp only [go_sem] <;> omega | refine ib ?_; kernel_rfl) only [go_sem, seval, ↓reduceIte, f1, f5, f10, f11, f12, hH, hi, row, hn, e]
      exact ih _ _ ⟨f1, f5, f10, f11, rfl, by rw [← st]; simp [Heap.set, hH]⟩
  · rintro f H ⟨f1, f5, f10, f11, f12, hH⟩
    rw [fgsR_end] at hH
    have hn : (dropF l name).length = l.length := by simp [dropF]
    simp -implicitDefEqProofs -dsimp +contextual (maxSteps := 9999999) (disch := first | omega | simp only [go_sem] <;> omega | refine ib ?_; kernel_rfl) only [go_sem, seval, ↓reduceIte, f1, f5, f10, f11, f12, hH, hn]
end Go.Proofs.YtnpkhdjgedeppaaGreatDoor
namespace Go.Proofs.YtnpkhdjgedeppaaGreatDoor
set_option maxHeartbeats 64000000
open Go.Am
set_option linter.unusedSimpArgs false
set_option linter.unusedVariables false
set_option maxRecDepth 100000
attribute [local irreducible] distR
def atP (me : En) (p : Pr) : List Pr → Nat
  | [] => 0
  | x :: l => if aheadR me x p = true then atP me p l + 1 else 0
def putP (me : En) (l : List Pr) (p : Pr) : List Pr := l.take (atP me p l) ++ p :: l.drop (atP me p l)
def addP (me : En) (l : List Pr) (p : Pr) : List Pr :=
  if p.e.name = me.name then l else if l.any (fun x => decide (x.e = p.e)) = true then l else (putP me (dropP l p.e.name) p).take 7
theorem atP_eq (me : En) (p : Pr) (l : List Pr) (i : Nat) (hi : i ≤ l.length) (h : ∀ j (hj : j < l.length), j < i → aheadR me l[j] p = true) (hn : ∀ hj : i < l.length, aheadR me l[i] p = false) : atP me p l = i := by
  induction l generalizing i with
  | nil => simp at hi; simp [atP, hi]
  | cons x r ih =>
    cases i with
    | zero => have := hn (by simp); simp at this; simp [atP, this]
    | succ i =>
      have h0 := h 0 (by simp) (by omega)
      simp at h0
      simp only [atP, h0, if_true]
      rw [ih i (by simpa using hi) (fun j hj hji => h (j + 1) (by simpa using hj) (by omega)) (fun hj => hn (by simpa using hj))]
theorem entry_eq (x y : En) : (x.name = y.name ∧ x.id = y.id ∧ x.fr = y.fr ∧ x.un = y.un ∧ x.ix = y.ix ∧ x.tag = y.tag) = (x = y) := propext (En.eq_iff x y).symm
def putX (r : List Pr) (i : Nat) (p : Pr) : List Pr := r.take i ++ [p] ++ r.drop i
theorem putX_rows (r : List Pr) (i : Nat) (p : Pr) : (r.take i).map Pr.cs ++ [[.str p.e.name, .int .u64 (p.e.id : Int), .int .i64 p.e.fr, .int .i64 p.e.un, .int .i64 p.e.ix, .str p.e.tag, .int .i64 p.since, .int .i64 p.under]] ++ (r.drop i).map Pr.cs = (putX r i p).map Pr.cs := by
  rw [putX, List.map_append, List.map_append]; rfl
theorem putX_last (r : List Pr) (p : Pr) : r.map Pr.cs ++ [[.str p.e.name, .int .u64 (p.e.id : Int), .int .i64 p.e.fr, .int .i64 p.e.un, .int .i64 p.e.ix, .str p.e.tag, .int .i64 p.since, .int .i64 p.under]] = (putX r r.length p).map Pr.cs := by
  rw [putX, List.take_length, List.drop_length, List.append_nil, List.map_append]; rfl
theorem putX_len (r : List Pr) (i : Nat) (p : Pr) (hi : i ≤ r.length) : (putX r i p).length = r.length + 1 := by simp [putX]; omega
theorem addP_end (me : En) (l : List Pr) (p : Pr) (i : Nat) (h1 : ¬ p.e.name = me.name) (h2 : l.any (fun x => decide (x.e = p.e)) = false) (ha : atP me p (dropP l p.e.name) = i) :
    addP me l p = (putX (dropP l p.e.name) i p).take 7 := by
  rw [addP, if_neg h1, h2, if_neg (by simp), putP, ha, putX, List.append_assoc]; rfl
theorem pr_take_clos (l : List Pr) (k : Nat) : ((l.map Pr.cs).take k).all clos = true := by rw [← List.map_take]; exact Pr_clos _
@[go_sem] theorem e123 (me : En) (l : List Pr) (p : Pr) (hl : l.length ≤ 100000) (hm : me.id ≤ 18446744073709551615) (hi : p.e.id ≤ 18446744073709551615) (hn : p.e.name.length ≤ 9223372036854775807) (hp : ∀ x ∈ l, x.e.id ≤ 18446744073709551615 ∧ x.e.name.length ≤ 9223372036854775807) : fn C 123 [] [.agg [.str me.name, .int .u64 (me.id : Int), .int .i64 me.fr, .int .i64 me.un, .int .i64 me.ix, .str me.tag], .slice 8 (l.map Pr.cs), .agg [.str p.e.name, .int .u64 (p.e.id : Int), .int .i64 p.e.fr, .int .i64 p.e.un, .int .i64 p.e.ix, .str p.e.tag, .int .i64 p.since, .int .i64 p.under]] = some (.slice 8 ((addP me l p).map Pr.cs), []) := by
  rw [fn_text Tryz.func123 rfl rfl Tryz.results123 fq123.1 rfl rfl (by kernel_rfl)]
  by_cases h1 : p.e.name = me.name
  · have h1' := eq_true h1
    simp -implicitDefEqProofs -dsimp +contextual (maxSteps := 9999999) (disch := first | omega | simp only [go_sem] <;> omega | refine ib ?_; kernel_rfl) only [go_sem, seval, ↓reduceIte, h1']
    rw [addP, if_pos h1]
  have h1' := eq_false h1
  have dr := e126 l p.e.name (by omega)
  have dle := dropP_le l p.e.name
  have dm : ∀ x ∈ dropP l p.e.name, x.e.id ≤ 18446744073709551615 ∧ x.e.name.length ≤ 9223372036854775807 := fun x hx => hp x ((List.mem_filter.1 hx).1)
  simp -implicitDefEqProofs -dsimp +contextual (maxSteps := 9999999) (disch := first | omega | simp only [go_sem] <;> omega | refine ib ?_; kernel_rfl) only [go_sem, seval, ↓reduceIte, h1']
  refine kFor l.length (fun i f H => f 1 = .slice 8 (l.map Pr.cs) ∧ f 3 = .ptr 103 1 0 0 ∧ f 5 = .ptr 105 1 0 0 ∧ f 7 = .int .i64 (i : Nat) ∧ H 103 = ⟨1, .live, 6, [me.cs], false⟩ ∧ H 105 = ⟨1, .live, 8, [p.cs], false⟩ ∧ (l.take i).any (fun x => decide (x.e = p.e)) = false) ?_ ?_ (by exact ⟨rfl, rfl, rfl, rfl, rfl, rfl, rfl⟩)
  · rintro i f H hi ⟨f1, f3, f5, f7, H3, H5, ha⟩ ih
    have row := pr_row l i hi
    have eqv := entry_eq l[i].e p.e
    by_cases he : l[i].e = p.e
    · rw [eq_true he] at eqv
      simp -implicitDefEqProofs -dsimp +contextual (maxSteps := 9999999) (disch := first | omega | simp only [go_sem] <;> omega | refine ib ?_; kernel_rfl) only [go_sem, seval, ↓reduceIte, f1, f3, f5, f7, H3, H5, hi, row, eqv]
      rw [addP, if_neg h1, if_pos (any_at hi (decide_eq_true he))]
    · rw [eq_false he] at eqv
      simp -implicitDefEqProofs -dsimp +contextual (maxSteps := 9999999) (disch := first | omega | simp only [go_sem] <;> omega | refine ib ?_; kernel_rfl) only [go_sem, seval, ↓reduceIte, f1, f3, f5, f7, H3, H5, hi, row, eqv]
      exact ih _ _ ⟨f1, f3, f5, rfl, H3, H5, any_take hi ha (decide_eq_false he)⟩
  · rintro f H ⟨f1, f3, f5, f7, H3, H5, ha⟩
    have ha := any_end ha
    simp -implicitDefEqProofs -dsimp +contextual (maxSteps := 9999999) (disch := first | omega | simp only [go_sem] <;> omega | refine ib ?_; kernel_rfl) only [go_sem, seval, ↓reduceIte, f1, f3, f5, f7, H3, H5, dr]
    generalize hr : dropP l p.e.name = r at *
    refine kFor r.length (fun i f H => f 3 = .ptr 103 1 0 0 ∧ f 5 = .ptr 105 1 0 0 ∧ f 8 = .slice 8 (r.map Pr.cs) ∧ f 9 = .int .i64 (i : Nat) ∧ H 103 = ⟨1, .live, 6, [me.cs], false⟩ ∧ H 105 = ⟨1, .live, 8, [p.cs], false⟩ ∧ ∀ j (hj : j < r.length), j < i → aheadR me r[j] p = true) ?_ ?_ (by exact ⟨f3, f5, rfl, rfl, H3, H5, fun j _ hj => by omega⟩)
    · rintro i f H hi ⟨f3, f5, f8, f9, H3, H5, hb⟩ ih
      have row := pr_row r i hi
      have d1 := dm _ (List.getElem_mem hi)
      cases hA : aheadR me r[i] p with
      | true =>
        simp -implicitDefEqProofs -dsimp +contextual (maxSteps := 9999999) (disch := first | omega | simp only [go_sem] <;> omega | refine ib ?_; kernel_rfl) only [go_sem, seval, ↓reduceIte, f3, f5, f8, f9, H3, H5, hi, row, d1, hA]
        refine ih _ _ ⟨f3, f5, f8, rfl, H3, H5, fun j hj hji => ?_⟩
        by_cases e : j = i
        · subst e; exact hA
        · exact hb j hj (by omega)
      | false =>
        have fin := addP_end me l p i h1 ha (by rw [hr]; exact atP_eq me p r i (by omega) hb (fun _ => hA))
        rw [hr] at fin
        rw [fin]
        have hx := putX_len r i p (by omega)
        simp -implicitDefEqProofs -dsimp +contextual (maxSteps := 9999999) (disch := first | omega | simp only [go_sem] <;> omega | refine ib ?_; kernel_rfl) only [go_sem, seval, ↓reduceIte, f3, f5, f8, f9, H3, H5, hi, row, d1, hA]
        rw [putX_rows]
        refine kD_intro (fun h => ?_) (fun h => ?_)
        · rw [if_pos (pr_take_clos _ _), List.map_take]
        · rw [List.take_of_length_le (l := putX r i p) (by omega)]
    · rintro f H ⟨f3, f5, f8, f9, H3, H5, hb⟩
      have fin := addP_end me l p r.length h1 ha (by rw [hr]; exact atP_eq me p r r.length (Nat.le_refl _) hb (fun hj => absurd hj (by omega)))
      rw [hr] at fin
      rw [fin]
      have hx := putX_len r r.length p (Nat.le_refl _)
      simp -implicitDefEqProofs -dsimp +contextual (maxSteps := 9999999) (disch := first | omega | simp only [go_sem] <;> omega | refine ib ?_; kernel_rfl) only [go_sem, seval, ↓reduceIte, f3, f5, f8, f9, H3, H5, Nat.lt_irrefl]
      rw [putX_last]
      refine kD_intro (fun h => ?_) (fun h => ?_)
      · rw [if_pos (pr_take_clos _ _), List.map_take]
      · rw [List.take_of_length_le (l := putX r r.length p) (by omega)]
@[go_sem] theorem e184 (x p : Pr) : fn C 184 [] [.agg [.str x.e.name, .int .u64 (x.e.id : Int), .int .i64 x.e.fr, .int .i64 x.e.un, .int .i64 x.e.ix, .str x.e.tag, .int .i64 x.since, .int .i64 x.under], .iptr [.str p.e.name, .int .u64 (p.e.id : Int), .int .i64 p.e.fr, .int .i64 p.e.un, .int .i64 p.e.ix, .str p.e.tag, .int .i64 p.since, .int .i64 p.under]] = some (.bool (decide (x.e = p.e)), []) := by
  rw [fn_text Tryz.func184 rfl rfl Tryz.results184 fq184.1 rfl rfl (by kernel_rfl)]
  have eqv := entry_eq x.e p.e
  simp -implicitDefEqProofs -dsimp +contextual (maxSteps := 9999999) (disch := first | omega | simp only [go_sem] <;> omega | refine ib ?_; kernel_rfl) only [go_sem, seval, ↓reduceIte, eqv]
def eqPB (p x : Pr) : Bool := decide (x.e = p.e)
@[go_sem] theorem eIdxAdd (l : List Pr) (p : Pr) (hl : l.length ≤ 9223372036854775807) : fn C 206 [] [.slice 8 (l.map Pr.cs), .fn (.func 184) [] [.iptr [.str p.e.name, .int .u64 (p.e.id : Int), .int .i64 p.e.fr, .int .i64 p.e.un, .int .i64 p.e.ix, .str p.e.tag, .int .i64 p.since, .int .i64 p.under]]] = some (.int .i64 (placeG (eqPB p) l), []) := by
  rw [fn_text Tryz.func206 rfl rfl Tryz.results206 fq206.1 rfl rfl (by kernel_rfl)]
  simp -implicitDefEqProofs -dsimp +contextual (maxSteps := 9999999) (disch := first | omega | simp only [go_sem] <;> omega | refine ib ?_; kernel_rfl) only [go_sem, seval, ↓reduceIte]
  refine kFor l.length (fun i f H => f 0 = .slice 8 (l.map Pr.cs) ∧ f 1 = .fn (.func 184) [] [.iptr [.str p.e.name, .int .u64 (p.e.id : Int), .int .i64 p.e.fr, .int .i64 p.e.un, .int .i64 p.e.ix, .str p.e.tag, .int .i64 p.since, .int .i64 p.under]] ∧ f 7 = .int .i64 l.length ∧ f 8 = .int .i64 (i : Nat) ∧ H = Heap.nil ∧ (l.take i).any (eqPB p) = false) ?_ ?_ (by exact ⟨rfl, rfl, rfl, rfl, rfl, rfl⟩)
  · rintro i f _ hi ⟨f0, f1, f7, f8, rfl, ha⟩ ih
    have row := pr_row l i hi
    have e1 := e184 l[i] p
    by_cases h : l[i].e = p.e
    · rw [decide_eq_true h] at e1
      simp -implicitDefEqProofs -dsimp +contextual (maxSteps := 9999999) (disch := first | omega | simp only [go_sem] <;> omega | refine ib ?_; kernel_rfl) only [go_sem, seval, ↓reduceIte, f0, f1, f7, f8, hi, row, e1]
      rw [placeG_at hi ha (by simp [eqPB, h])]
    · rw [decide_eq_false h] at e1
      simp -implicitDefEqProofs -dsimp +contextual (maxSteps := 9999999) (disch := first | omega | simp only [go_sem] <;> omega | refine ib ?_; kernel_rfl) only [go_sem, seval, ↓reduceIte, f0, f1, f7, f8, hi, row, e1]
      exact ih _ _ ⟨f0, f1, f7, rfl, rfl, any_take hi ha (by simp [eqPB, h])⟩
  · rintro f _ ⟨f0, f1, f7, f8, rfl, ha⟩
    simp -implicitDefEqProofs -dsimp +contextual (maxSteps := 9999999) (disch := first | omega | simp only [go_sem] <;> omega | refine ib ?_; kernel_rfl) only [go_sem, seval, ↓reduceIte, f0, f1, f7, f8]
    rw [placeG_none (any_end ha)]
@[go_sem] theorem eHasAdd (l : List Pr) (p : Pr) (hl : l.length ≤ 9223372036854775807) : fn C 138 [] [.slice 8 (l.map Pr.cs), .fn (.func 184) [] [.iptr [.str p.e.name, .int .u64 (p.e.id : Int), .int .i64 p.e.fr, .int .i64 p.e.un, .int .i64 p.e.ix, .str p.e.tag, .int .i64 p.since, .int .i64 p.under]]] = some (.bool (l.any (eqPB p)), []) := by
  rw [fn_text Tryz.func138 rfl rfl Tryz.results138 fq138.1 rfl rfl (by kernel_rfl)]
  have e1 := eIdxAdd l p hl
  rcases placeG_cases (eqPB p) l with ⟨j, hj, hq, hn, hp⟩ | ⟨hn, hp⟩
  · rw [hp] at e1
    have ha : l.any (eqPB p) = true := List.any_eq_true.2 ⟨_, List.getElem_mem hj, hq⟩
    rw [ha]
    simp -implicitDefEqProofs -dsimp +contextual (maxSteps := 9999999) (disch := first | omega | simp only [go_sem] <;> omega | refine ib ?_; kernel_rfl) only [go_sem, seval, ↓reduceIte, e1]
  · rw [hp] at e1
    rw [hn]
    simp -implicitDefEqProofs -dsimp +contextual (maxSteps := 9999999) (disch := first | omega | simp only [go_sem] <;> omega | refine ib ?_; kernel_rfl) only [go_sem, seval, ↓reduceIte, e1]
@[go_sem] theorem cp_has (ex ds) : fn CP 138 ex ds = fn C 138 ex ds := cp_fn _ (by decide) (by decide) (by decide) (by decide) ex ds
@[go_sem] theorem cp_ahead (ex ds) : fn CP 185 ex ds = fn C 185 ex ds := cp_fn _ (by decide) (by decide) (by decide) (by decide) ex ds
theorem take7 (X : List Pr) : List.take (if 7 < X.length then (7 : Int) else (X.length : Int)).toNat X = List.take 7 X := by
  split
  · rfl
  · rename_i h
    rw [Int.toNat_natCast, List.take_of_length_le (Nat.le_refl _), List.take_of_length_le (by omega)]
theorem insE (r : List Pr) (p : Pr) (i : Nat) (hi : i ≤ r.length) (hl : r.length ≤ 100000) : fn CP 186 [] [.usl 8 (r.map Pr.cs), .int .i64 (i : Nat), .usl 8 [[.str p.e.name, .int .u64 (p.e.id : Int), .int .i64 p.e.fr, .int .i64 p.e.un, .int .i64 p.e.ix, .str p.e.tag, .int .i64 p.since, .int .i64 p.under]]] = some (.slice 8 ((putX r i p).map Pr.cs), []) := by
  rw [cpIns]
  simp only [gu]
  rw [if_pos ⟨by omega, by simpa using hi⟩, if_pos (by rw [List.length_map]; omega), if_pos ⟨Pr_ones r, Pr_clos r⟩, if_pos ⟨rfl, Pr_ones [p], Pr_clos [p]⟩, ← putX_rows]
  simp
theorem eAddP (me : En) (l : List Pr) (p : Pr) (hl : l.length ≤ 100000) (hm : me.id ≤ 18446744073709551615) (hi : p.e.id ≤ 18446744073709551615) (hn : p.e.name.length ≤ 9223372036854775807) (hp : ∀ x ∈ l, x.e.id ≤ 18446744073709551615 ∧ x.e.name.length ≤ 9223372036854775807) : fn CP 122 [] [.agg [.str me.name, .int .u64 (me.id : Int), .int .i64 me.fr, .int .i64 me.un, .int .i64 me.ix, .str me.tag], .slice 8 (l.map Pr.cs), .agg [.str p.e.name, .int .u64 (p.e.id : Int), .int .i64 p.e.fr, .int .i64 p.e.un, .int .i64 p.e.ix, .str p.e.tag, .int .i64 p.since, .int .i64 p.under]] = some (.slice 8 ((addP me l p).map Pr.cs), []) := by
  rw [fn_text (C := CP) Tryz.func122 rfl rfl Tryz.results122 fq122.1 rfl rfl (by kernel_rfl)]
  by_cases h1 : p.e.name = me.name
  · have h1' := eq_true h1
    simp -implicitDefEqProofs -dsimp +contextual (maxSteps := 9999999) (disch := first | omega | simp only [go_sem] <;> omega | refine ib ?_; kernel_rfl) only [go_sem, seval, ↓reduceIte, h1']
    rw [addP, if_pos h1]
  have h1' := eq_false h1
  have hc := eHasAdd l p (Nat.le_trans hl (by decide))
  cases hq : l.any (eqPB p) with
  | true =>
    rw [hq] at hc
    simp -implicitDefEqProofs -dsimp +contextual (maxSteps := 9999999) (disch := first | omega | simp only [go_sem] <;> omega | refine ib ?_; kernel_rfl) only [go_sem, seval, ↓reduceIte, h1', hc]
    have hq' : l.any (fun x => decide (x.e = p.e)) = true := hq
    rw [addP, if_neg h1, if_pos hq']
  | false =>
    rw [hq] at hc
    have dr := eDropP l p.e.name (by omega)
    have dle := dropP_le l p.e.name
    have dm : ∀ x ∈ dropP l p.e.name, x.e.id ≤ 18446744073709551615 ∧ x.e.name.length ≤ 9223372036854775807 := fun x hx => hp x ((List.mem_filter.1 hx).1)
    have hq' : l.any (fun x => decide (x.e = p.e)) = false := hq
    simp -implicitDefEqProofs -dsimp +contextual (maxSteps := 9999999) (disch := first | omega | simp only [go_sem] <;> omega | refine ib ?_; kernel_rfl) only [go_sem, seval, ↓reduceIte, h1', hc, dr]
    generalize hr : dropP l p.e.name = r at *
    refine kFor r.length (fun i f H => f 3 = .ptr 103 1 0 0 ∧ f 5 = .ptr 105 1 0 0 ∧ f 8 = .osl 128 1 0 r.length ∧ f 9 = .int .i64 (i : Nat) ∧ H 103 = ⟨1, .live, 6, [me.cs], false⟩ ∧ H 105 = ⟨1, .live, 8, [p.cs], false⟩ ∧ H 128 = ⟨1, .live, 8, r.map Pr.cs, false⟩ ∧ ∀ j (hj : j < r.length), j < i → aheadR me r[j] p = true) ?_ ?_ (by exact ⟨rfl, rfl, rfl, rfl, rfl, rfl, rfl, fun j _ hj => by omega⟩)
    · rintro i f H hlt ⟨f3, f5, f8, f9, H3, H5, H8, hb⟩ ih
      have row := pr_row r i hlt
      have d1 := dm _ (List.getElem_mem hlt)
      have e1 := e185 me r[i] p hm d1.1 hi
      cases hA : aheadR me r[i] p with
      | true =>
        rw [hA] at e1
        simp -implicitDefEqProofs -dsimp +contextual (maxSteps := 9999999) (disch := first | omega | simp only [go_sem] <;> omega | refine ib ?_; kernel_rfl) only [go_sem, seval, ↓reduceIte, f3, f5, f8, f9, H3, H5, H8, hlt, row, e1]
        refine ih _ _ ⟨f3, f5, f8, rfl, H3, H5, H8, fun j hj hji => ?_⟩
        by_cases e : j = i
        · subst e; exact hA
        · exact hb j hj (by omega)
      | false =>
        rw [hA] at e1
        have fin := addP_end me l p i h1 hq' (by rw [hr]; exact atP_eq me p r i (by omega) hb (fun _ => hA))
        rw [hr] at fin
        rw [fin]
        have hx := putX_len r i p (by omega)
        have e2 := insE r p i (by omega) (by omega)
        simp -implicitDefEqProofs -dsimp +contextual (maxSteps := 9999999) (disch := first | omega | simp only [go_sem] <;> omega | refine ib ?_; kernel_rfl) only [go_sem, seval, ↓reduceIte, f3, f5, f8, f9, H3, H5, H8, hlt, row, e1, e2]
        rw [take7]
    · rintro f H ⟨f3, f5, f8, f9, H3, H5, H8, hb⟩
      have fin := addP_end me l p r.length h1 hq' (by rw [hr]; exact atP_eq me p r r.length (Nat.le_refl _) hb (fun hj => absurd hj (by omega)))
      rw [hr] at fin
      rw [fin]
      have hx := putX_len r r.length p (Nat.le_refl _)
      have e2 := insE r p r.length (Nat.le_refl _) (by omega)
      simp -implicitDefEqProofs -dsimp +contextual (maxSteps := 9999999) (disch := first | omega | simp only [go_sem] <;> omega | refine ib ?_; kernel_rfl) only [go_sem, seval, ↓reduceIte, f3, f5, f8, f9, H3, H5, H8, Nat.lt_irrefl, e2]
      rw [take7]
end Go.Proofs.YtnpkhdjgedeppaaGreatDoor
namespace Go.Proofs.YtnpkhdjgedeppaaGreatDoor
set_option maxHeartbeats 64000000
open Go.Am
set_option linter.unusedSimpArgs false
set_option linter.unusedVariables false
set_option maxRecDepth 100000
def keyI (k : List UInt8) : Nat := idB (keyS ++ k)
def heardR (n : Nd) (from_ : En) : Nd := if validR n.gateI n.gateK from_ n.clock = 0 then { n with list := addP n.me n.list (takenP n.gateI n.gateK from_ n.clock) } else n
def forgetR (n : Nd) (name : List UInt8) : Nd := { n with list := dropP n.list name, pred := dropP n.pred name, fingers := dropF n.fingers name }
def ownsR (n : Nd) (key : List UInt8) : Bool := decide (ownerR n.me n.list (keyI key) = n.me)
def stateE (n : Nd) : List En := (n.pred.take 1).map Pr.e ++ n.list.map Pr.e
def stateH (n : Nd) : Bool := decide (0 < n.pred.length)
def behindR (n : Nd) (from_ : En) : Bool := match n.pred with
  | [] => true
  | p :: _ => decide (p.e.name = from_.name) || insideR p.e.id from_.id n.me.id
def notifyR (n : Nd) (from_ : En) : Nd := if validR n.gateI n.gateK from_ n.clock = 0 then if behindR n from_ = true then { n with pred := [takenP n.gateI n.gateK from_ n.clock] } else n else n
def answerK (kind : Int) : Int := if kind = 1 ∨ kind = 5 ∨ kind = 16 then 2 else if kind = 3 ∨ kind = 6 ∨ kind = 8 ∨ kind = 10 ∨ kind = 12 ∨ kind = 14 then kind + 1 else 0
def ansA (to : En) (r : Ms) : List Ac := [⟨true, to, r, 0, 0⟩]
def mayE (n : Nd) (key : List UInt8) : Int := if n.ready = true then if ownsR n key = true then 0 else 40 else 41
def gotM (r : Ms) (q : It × Bool) : Ms := if q.2 = true then { r with has := true, val := q.1.v, ver := q.1.n, gone := q.1.g } else r
def replyR (h : Nd) (from_ : En) (m r : Ms) : Nd × List Ac :=
  if m.kind = 3 then (h, ansA from_ { r with ents := stateE h, has := stateH h })
  else if m.kind = 5 then (notifyR h from_, ansA from_ r)
  else if m.kind = 6 then (h, ansA from_ { r with ents := [ownerR h.me h.list m.id] })
  else if m.kind = 8 then if mayE h m.key = 0 then beginR h m.key m.val m.gone from_ m.rid 0 else (h, ansA from_ { r with err := mayE h m.key })
  else if m.kind = 10 then if mayE h m.key = 0 then (h, ansA from_ (gotM r (getR h.items m.key))) else (h, ansA from_ { r with err := mayE h m.key })
  else if m.kind = 12 then ({ h with items := (mergeR h.items m.items).1 }, ansA from_ { r with err := (mergeR h.items m.items).2 })
  else if m.kind = 14 then if h.ready = true then (h, ansA from_ { r with items := (h.items.filter (inR m.id from_.id)).take 16 }) else (h, ansA from_ { r with err := 41 })
  else (h, ansA from_ r)
def answerR (n : Nd) (from_ : En) (m : Ms) : Nd × List Ac :=
  if answerK m.kind = 0 then (n, []) else if from_.name = n.me.name then (n, [])
  else if m.kind = 16 then (forgetR n from_.name, ansA from_ { msZ with kind := 2, rid := m.rid })
  else replyR (heardR n from_) from_ m { msZ with kind := answerK m.kind, rid := m.rid }
structure En.fine (e : En) : Prop where
  ok : e.ok
  n : e.name.length ≤ 10000
  t : e.tag.length ≤ 10000
structure Nd.fine (n : Nd) : Prop where
  me : n.me.id ≤ 18446744073709551615
  gk : n.gateK.length ≤ 10000
  ll : n.list.length ≤ 100000
  pl : n.pred.length ≤ 100000
  fl : n.fingers.length ≤ 100000
  li : ∀ p ∈ n.list, p.e.id ≤ 18446744073709551615 ∧ p.e.name.length ≤ 9223372036854775807
  pi : ∀ p ∈ n.pred, p.e.id ≤ 18446744073709551615
end Go.Proofs.YtnpkhdjgedeppaaGreatDoor
namespace Go.Proofs.YtnpkhdjgedeppaaGreatDoor
set_option maxHeartbeats 64000000
open Go.Am
set_option linter.unusedSimpArgs false
set_option linter.unusedVariables false
set_option maxRecDepth 100000
attribute [local irreducible] distR idB sumB
theorem taken_id (gi : Int) (gk : List UInt8) (e : En) (now : Int) (h : validR gi gk e now = 0) : takenP gi gk e now = ⟨e, now, gi⟩ := by rw [takenP, if_pos h]
@[go_sem] theorem e35 (n : Nd) (e : En) (h : n.fine) (he : e.fine) : fn C 35 [] [(aNd n), .agg [.str e.name, .int .u64 (e.id : Int), .int .i64 e.fr, .int .i64 e.un, .int .i64 e.ix, .str e.tag]] = some (.agg [.str (heardR n e).me.name, .int .u64 ((heardR n e).me.id : Int), .int .i64 (heardR n e).me.fr, .int .i64 (heardR n e).me.un, .int .i64 (heardR n e).me.ix, .str (heardR n e).me.tag, .int .i64 (heardR n e).clock, .str (heardR n e).psk, .int .i64 (heardR n e).gateI, .str (heardR n e).gateK, .bool (heardR n e).ready, .slice 8 ((heardR n e).pred.map Pr.cs), .slice 8 ((heardR n e).list.map Pr.cs), .slice 9 ((heardR n e).fingers.map Fg.cs), .slice 20 ((heardR n e).sessions.map Se.cs), .slice 23 ((heardR n e).pends.map Pd.cs), .slice 4 ((heardR n e).items.map It.cs), .slice 29 ((heardR n e).jobs.map Jb.cs), .int .i64 (heardR n e).rid, .int .i64 (heardR n e).jobId, .slice 1 ((heardR n e).draws.map u64Row), .slice 8 ((heardR n e).results.map Rs.cs)], []) := by
  rw [fn_text Tryz.func35 rfl rfl Tryz.results35 fq35.1 rfl rfl (by kernel_rfl)]
  have e1 := e100 n.gateI n.gateK e n.clock he.ok he.n he.t h.gk
  rw [heardR]
  by_cases hv : validR n.gateI n.gateK e n.clock = 0
  · have tk := taken_id _ _ _ _ hv
    rw [hv, tk] at e1
    have e2 := e123 n.me n.list ⟨e, n.clock, n.gateI⟩ h.ll h.me he.ok.id (Nat.le_trans he.n (by decide)) h.li
    rw [if_pos hv, tk]
    simp -implicitDefEqProofs -dsimp +contextual (maxSteps := 9999999) (disch := first | omega | simp only [go_sem] <;> omega | refine ib ?_; kernel_rfl) only [go_sem, seval, ↓reduceIte, e1, e2]
  · have hv' := eq_false hv
    simp -implicitDefEqProofs -dsimp +contextual (maxSteps := 9999999) (disch := first | omega | simp only [go_sem] <;> omega | refine ib ?_; kernel_rfl) only [go_sem, seval, ↓reduceIte, e1, hv']
@[go_sem] theorem e37 (n : Nd) (name : List UInt8) (h : n.fine) : fn C 37 [] [(aNd n), .str name] = some (.agg [.str (forgetR n name).me.name, .int .u64 ((forgetR n name).me.id : Int), .int .i64 (forgetR n name).me.fr, .int .i64 (forgetR n name).me.un, .int .i64 (forgetR n name).me.ix, .str (forgetR n name).me.tag, .int .i64 (forgetR n name).clock, .str (forgetR n name).psk, .int .i64 (forgetR n name).gateI, .str (forgetR n name).gateK, .bool (forgetR n name).ready, .slice 8 ((forgetR n name).pred.map Pr.cs), .slice 8 ((forgetR n name).list.map Pr.cs), .slice 9 ((forgetR n name).fingers.map Fg.cs), .slice 20 ((forgetR n name).sessions.map Se.cs), .slice 23 ((forgetR n name).pends.map Pd.cs), .slice 4 ((forgetR n name).items.map It.cs), .slice 29 ((forgetR n name).jobs.map Jb.cs), .int .i64 (forgetR n name).rid, .int .i64 (forgetR n name).jobId, .slice 1 ((forgetR n name).draws.map u64Row), .slice 8 ((forgetR n name).results.map Rs.cs)], []) := by
  rw [fn_text Tryz.func37 rfl rfl Tryz.results37 fq37.1 rfl rfl (by kernel_rfl)]
  have e1 := e126 n.list name (Nat.le_trans h.ll (by decide))
  have e2 := e126 n.pred name (Nat.le_trans h.pl (by decide))
  have e3 := e127 n.fingers name (Nat.le_trans h.fl (by decide))
  simp -implicitDefEqProofs -dsimp +contextual (maxSteps := 9999999) (disch := first | omega | simp only [go_sem] <;> omega | refine ib ?_; kernel_rfl) only [go_sem, seval, ↓reduceIte, e1, e2, e3, forgetR]
theorem keyI_le (k : List UInt8) : keyI k ≤ 18446744073709551615 := idB_lt _
@[go_sem] theorem e39 (n : Nd) (key : List UInt8) (h : n.fine) (hk : key.length ≤ 10000) : fn C 39 [] [(aNd n), .str key] = some (.bool (ownsR n key), []) := by
  rw [fn_text Tryz.func39 rfl rfl Tryz.results39 fq39.1 rfl rfl (by kernel_rfl)]
  have e1 := e96 key hk
  have e2 := e113 n.me n.list (keyI key) (keyI_le key) h.me (Nat.le_trans h.ll (by decide)) (fun p hp => (h.li p hp).1)
  have e3 := entry_eq (ownerR n.me n.list (keyI key)) n.me
  rw [keyI] at e2 e3
  rw [ownsR, keyI]
  simp -implicitDefEqProofs -dsimp +contextual (maxSteps := 9999999) (disch := first | omega | simp only [go_sem] <;> omega | refine ib ?_; kernel_rfl) only [go_sem, seval, ↓reduceIte, e1, e2, e3]
@[go_sem] theorem e33 (n : Nd) (h : n.fine) : fn C 33 [] [(aNd n)] = some (.tup [.slice 6 ((stateE n).map En.cs), .bool (stateH n)], []) := by
  rw [fn_text Tryz.func33 rfl rfl Tryz.results33 fq33.1 rfl rfl (by kernel_rfl)]
  have e1 := e121 n.list (Nat.le_trans h.ll (by decide))
  have hl := h.ll
  rw [stateE, stateH]
  cases hp : n.pred with
  | nil => simp -implicitDefEqProofs -dsimp +contextual (maxSteps := 9999999) (disch := first | omega | simp only [go_sem] <;> omega | refine ib ?_; kernel_rfl) only [go_sem, seval, ↓reduceIte, e1, hp]
  | cons p l =>
    simp -implicitDefEqProofs -dsimp +contextual (maxSteps := 9999999) (disch := first | omega | simp only [go_sem] <;> omega | refine ib ?_; kernel_rfl) only [go_sem, seval, ↓reduceIte, e1, hp]
    rw [show decide (0 < l.length + 1) = true from decide_eq_true (Nat.succ_pos _)]
@[go_sem] theorem e38 (n : Nd) (key : List UInt8) (h : n.fine) (hk : key.length ≤ 10000) : fn C 38 [] [(aNd n), .str key] = some (.bool (ownsR n key), []) := by
  rw [fn_text Tryz.func38 rfl rfl Tryz.results38 fq38.1 rfl rfl (by kernel_rfl)]
  have e1 := e129 key hk
  have e2 := e128 n.me n.list (keyI key) (keyI_le key) h.me (Nat.le_trans h.ll (by decide)) (fun p hp => (h.li p hp).1)
  have e3 := entry_eq (ownerR n.me n.list (keyI key)) n.me
  rw [keyI] at e2 e3
  rw [ownsR, keyI]
  simp -implicitDefEqProofs -dsimp +contextual (maxSteps := 9999999) (disch := first | omega | simp only [go_sem] <;> omega | refine ib ?_; kernel_rfl) only [go_sem, seval, ↓reduceIte, e1, e2, e3]
@[go_sem] theorem e32 (n : Nd) (h : n.fine) : fn C 32 [] [(aNd n)] = some (.tup [.slice 6 ((stateE n).map En.cs), .bool (stateH n)], []) := by
  rw [fn_text Tryz.func32 rfl rfl Tryz.results32 fq32.1 rfl rfl (by kernel_rfl)]
  have e1 := e120 n.list (Nat.le_trans h.ll (by decide))
  have e2 := e119 n.pred (Nat.le_trans h.pl (by decide))
  have hl := h.ll
  have hp := h.pl
  have ht : ((n.pred.take 1).map Pr.e).length ≤ 1 := by simp; omega
  rw [stateE, stateH]
  generalize (n.pred.take 1).map Pr.e = a at *
  simp -implicitDefEqProofs -dsimp +contextual (maxSteps := 9999999) (disch := first | omega | simp only [go_sem] <;> omega | refine ib ?_; kernel_rfl) only [go_sem, seval, ↓reduceIte, e1, e2]
end Go.Proofs.YtnpkhdjgedeppaaGreatDoor
namespace Go.Proofs.YtnpkhdjgedeppaaGreatDoor
set_option maxHeartbeats 64000000
open Go.Am
set_option linter.unusedSimpArgs false
set_option linter.unusedVariables false
set_option maxRecDepth 100000
def okC2 (f : FuncId) : Bool := decide (f ≠ 109) && decide (f ≠ 999999) && decide (f ≠ 203) && decide (f ∉ [999999, 999999, 999999, 999999, 999999, 243, 135])
theorem C2_C (f : FuncId) (h : okC2 f = true) (ex ds) : fn C2 f ex ds = fn C f ex ds := by
  simp only [okC2, Bool.and_eq_true, decide_eq_true_eq] at h
  exact c2_fn f h.1.1.1 h.1.1.2 h.1.2 h.2 ex ds
noncomputable def own3 : Own := fun f => if f ∈ [124, 122, 125] then some (fun ex ds => fn CP f ex ds)
  else if f ∈ [34, 36, 30, 169, 170, 171, 172, 173, 174, 175, 176, 108, 110, 6, 5, 29] then none
  else some (fun ex ds => fn C2 f ex ds)
theorem own3_ok : OwnOk E own3 := by
  intro f g ex ds q hf hg
  unfold own3 at hf
  split at hf
  · simp only [aNd, Option.some.injEq] at hf
    subst hf
    exact fnE_sound mixed ownP_ok hg
  · split at hf
    · cases hf
    · simp only [aNd, Option.some.injEq] at hf
      subst hf
      exact fnE_sound mixed own2_ok hg
noncomputable def C3 : Cf := ⟨E, M, own3⟩
@[go_sem] theorem C3_E : C3.E = E := rfl
@[go_sem] theorem C3_M : C3.M = M := rfl
theorem c3_cp (f : FuncId) (h : f ∈ [124, 122, 125]) (ex ds) : fn C3 f ex ds = fn CP f ex ds :=
  fn_own (g := fun ex ds => fn CP f ex ds) (by show own3 f = _; unfold own3; rw [if_pos h]) ex ds
theorem c3_c2 (f : FuncId) (h1 : f ∉ [124, 122, 125]) (h2 : f ∉ [34, 36, 30, 169, 170, 171, 172, 173, 174, 175, 176, 108, 110, 6, 5, 29]) (ex ds) : fn C3 f ex ds = fn C2 f ex ds :=
  fn_own (g := fun ex ds => fn C2 f ex ds) (by show own3 f = _; unfold own3; rw [if_neg h1, if_neg h2]) ex ds
theorem eCopy3 (n : Nd) (h : n.mid 1000000) : fn C3 13 [] [(aNd n)] = some (.agg [.str n.me.name, .int .u64 (n.me.id : Int), .int .i64 n.me.fr, .int .i64 n.me.un, .int .i64 n.me.ix, .str n.me.tag, .int .i64 n.clock, .str n.psk, .int .i64 n.gateI, .str n.gateK, .bool n.ready, .slice 8 (n.pred.map Pr.cs), .slice 8 (n.list.map Pr.cs), .slice 9 (n.fingers.map Fg.cs), .usl 20 (n.sessions.map Se.cs), .usl 23 (n.pends.map Pd.cs), .slice 4 (n.items.map It.cs), .usl 29 (n.jobs.map Jb.cs), .int .i64 n.rid, .int .i64 n.jobId, .slice 1 (n.draws.map u64Row), .usl 8 (n.results.map Rs.cs)], []) :=
  (c3_c2 13 (by decide) (by decide) [] [(aNd n)]).trans ((C2_C 13 (by decide) [] [(aNd n)]).trans (e13 n h))
theorem eForget (n : Nd) (name : List UInt8) (h : n.mid 100000) : fn C3 36 [] [(aNd n), .str name] = some (.agg [.str (forgetR n name).me.name, .int .u64 ((forgetR n name).me.id : Int), .int .i64 (forgetR n name).me.fr, .int .i64 (forgetR n name).me.un, .int .i64 (forgetR n name).me.ix, .str (forgetR n name).me.tag, .int .i64 (forgetR n name).clock, .str (forgetR n name).psk, .int .i64 (forgetR n name).gateI, .str (forgetR n name).gateK, .bool (forgetR n name).ready, .slice 8 ((forgetR n name).pred.map Pr.cs), .slice 8 ((forgetR n name).list.map Pr.cs), .slice 9 ((forgetR n name).fingers.map Fg.cs), .slice 20 ((forgetR n name).sessions.map Se.cs), .slice 23 ((forgetR n name).pends.map Pd.cs), .slice 4 ((forgetR n name).items.map It.cs), .slice 29 ((forgetR n name).jobs.map Jb.cs), .int .i64 (forgetR n name).rid, .int .i64 (forgetR n name).jobId, .slice 1 ((forgetR n name).draws.map u64Row), .slice 8 ((forgetR n name).results.map Rs.cs)], []) := by
  rw [fn_text (C := C3) Tryz.func36 rfl rfl Tryz.results36 fq36.1 rfl rfl (by kernel_rfl)]
  have e0 := eCopy3 n (h.le (by omega))
  have e1 := (c3_cp 124 (by decide) [] [.slice 8 (n.list.map Pr.cs), .str name]).trans (eDropP n.list name (Nat.le_trans h.ll (by decide)))
  have e2 := (c3_cp 124 (by decide) [] [.slice 8 (n.pred.map Pr.cs), .str name]).trans (eDropP n.pred name (Nat.le_trans h.pl (by decide)))
  have e3 := (c3_cp 125 (by decide) [] [.slice 9 (n.fingers.map Fg.cs), .str name]).trans (eDropF n.fingers name (Nat.le_trans h.fl (by decide)))
  simp -implicitDefEqProofs -dsimp +contextual (maxSteps := 9999999) (disch := first | omega | simp only [go_sem] <;> omega | refine ib ?_; kernel_rfl) only [go_sem, seval, ↓reduceIte, e0, e1, e2, e3, forgetR]
  trace_state
theorem eHeard (n : Nd) (e : En) (h : n.mid 100000) (hf : n.fine) (he : e.fine) : fn C3 34 [] [(aNd n), .agg [.str e.name, .int .u64 (e.id : Int), .int .i64 e.fr, .int .i64 e.un, .int .i64 e.ix, .str e.tag]] = some (.agg [.str (heardR n e).me.name, .int .u64 ((heardR n e).me.id : Int), .int .i64 (heardR n e).me.fr, .int .i64 (heardR n e).me.un, .int .i64 (heardR n e).me.ix, .str (heardR n e).me.tag, .int .i64 (heardR n e).clock, .str (heardR n e).psk, .int .i64 (heardR n e).gateI, .str (heardR n e).gateK, .bool (heardR n e).ready, .slice 8 ((heardR n e).pred.map Pr.cs), .slice 8 ((heardR n e).list.map Pr.cs), .slice 9 ((heardR n e).fingers.map Fg.cs), .slice 20 ((heardR n e).sessions.map Se.cs), .slice 23 ((heardR n e).pends.map Pd.cs), .slice 4 ((heardR n e).items.map It.cs), .slice 29 ((heardR n e).jobs.map Jb.cs), .int .i64 (heardR n e).rid, .int .i64 (heardR n e).jobId, .slice 1 ((heardR n e).draws.map u64Row), .slice 8 ((heardR n e).results.map Rs.cs)], []) := by
  rw [fn_text (C := C3) Tryz.func34 rfl rfl Tryz.results34 fq34.1 rfl rfl (by kernel_rfl)]
  have e0 := eCopy3 n (h.le (by omega))
  have e1 := ((c3_c2 45 (by decide) (by decide) _ _).trans (C2_C _ (by decide) _ _)).trans (e45 n.gateI n.gateK e n.clock he.ok he.n he.t hf.gk)
  rw [heardR]
  by_cases hv : validR n.gateI n.gateK e n.clock = 0
  · have tk := taken_id _ _ _ _ hv
    rw [hv, tk] at e1
    have e2 := (c3_cp 122 (by decide) _ _).trans (eAddP n.me n.list ⟨e, n.clock, n.gateI⟩ hf.ll hf.me he.ok.id (Nat.le_trans he.n (by decide)) hf.li)
    rw [if_pos hv, tk]
    simp -implicitDefEqProofs -dsimp +contextual (maxSteps := 9999999) (disch := first | omega | simp only [go_sem] <;> omega | refine ib ?_; kernel_rfl) only [go_sem, seval, ↓reduceIte, e0, e1, e2]
  · have hv' := eq_false hv
    simp -implicitDefEqProofs -dsimp +contextual (maxSteps := 9999999) (disch := first | omega | simp only [go_sem] <;> omega | refine ib ?_; kernel_rfl) only [go_sem, seval, ↓reduceIte, e0, e1, hv']
end Go.Proofs.YtnpkhdjgedeppaaGreatDoor
