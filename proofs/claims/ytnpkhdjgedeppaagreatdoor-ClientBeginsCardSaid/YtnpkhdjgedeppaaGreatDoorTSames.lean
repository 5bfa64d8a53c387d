import Derived.Test.YtnpkhdjgedeppaaGreatDoorTCliplain
namespace Go.Proofs.YtnpkhdjgedeppaaGreatDoor
set_option maxHeartbeats 64000000
open Go.Am
set_option linter.unusedSimpArgs false
set_option linter.unusedVariables false
set_option maxRecDepth 100000
theorem Fg.eq_iff (x y : Fg) : x = y ↔ x.bit = y.bit ∧ (x.p.e.name = y.p.e.name ∧ x.p.e.id = y.p.e.id ∧ x.p.e.fr = y.p.e.fr ∧ x.p.e.un = y.p.e.un ∧ x.p.e.ix = y.p.e.ix ∧ x.p.e.tag = y.p.e.tag) ∧ x.p.since = y.p.since ∧ x.p.under = y.p.under := by
  obtain ⟨_, ⟨⟨⟩, _, _⟩⟩ := x; obtain ⟨_, ⟨⟨⟩, _, _⟩⟩ := y; simp
theorem Pr.eq_iff (x y : Pr) : x = y ↔ (x.e.name = y.e.name ∧ x.e.id = y.e.id ∧ x.e.fr = y.e.fr ∧ x.e.un = y.e.un ∧ x.e.ix = y.e.ix ∧ x.e.tag = y.e.tag) ∧ x.since = y.since ∧ x.under = y.under := by
  obtain ⟨⟨⟩, _, _⟩ := x; obtain ⟨⟨⟩, _, _⟩ := y; simp
theorem Rs.eq_iff (x y : Rs) : x = y ↔ x.job = y.job ∧ x.kind = y.kind ∧ x.ver = y.ver ∧ x.key = y.key ∧ x.val = y.val ∧ x.has = y.has ∧ x.gone = y.gone ∧ x.err = y.err := by
  cases x; cases y; simp
theorem Se.eq_iff (x y : Se) : x = y ↔ x.id = y.id ∧ x.nonce = y.nonce ∧ (x.peer.name = y.peer.name ∧ x.peer.id = y.peer.id ∧ x.peer.fr = y.peer.fr ∧ x.peer.un = y.peer.un ∧ x.peer.ix = y.peer.ix ∧ x.peer.tag = y.peer.tag) ∧ x.role = y.role ∧ x.state = y.state ∧ x.send = y.send ∧ x.hear = y.hear ∧ x.epoch = y.epoch ∧ x.count = y.count ∧ x.since = y.since ∧ x.seq = y.seq ∧ (x.seen.top = y.seen.top ∧ x.seen.low = y.seen.low ∧ x.seen.high = y.seen.high) ∧ x.used = y.used := by
  obtain ⟨_, _, ⟨⟩, _, _, _, _, _, _, _, _, ⟨⟩, _⟩ := x; obtain ⟨_, _, ⟨⟩, _, _, _, _, _, _, _, _, ⟨⟩, _⟩ := y; simp
@[go_sem] theorem eqFinger (n t n' t' : List UInt8) (a b c d e f g a' b' c' d' e' f' g' : Int) : eqF E.P 8 86 (.agg [.int .i64 g, .str n, .int .u64 a, .int .i64 b, .int .i64 c, .int .i64 d, .str t, .int .i64 e, .int .i64 f]) (.agg [.int .i64 g', .str n', .int .u64 a', .int .i64 b', .int .i64 c', .int .i64 d', .str t', .int .i64 e', .int .i64 f']) = some (decide (g = g' ∧ (n = n' ∧ a = a' ∧ b = b' ∧ c = c' ∧ d = d' ∧ t = t') ∧ e = e' ∧ f = f')) := by
  have u1 : E.P.underlying 24 = _ := Tryz.underlying24
  have u2 : E.P.underlying 9 = _ := Tryz.underlying9
  have u3 : E.P.underlying 3 = _ := Tryz.underlying3
  have u4 : E.P.underlying 22 = _ := Tryz.underlying22
  have u5 : E.P.underlying 4 = _ := Tryz.underlying4
  have hs : E.P.stoodInHeld 24 = false := by kernel_rfl
  have u6 : E.P.underlying 74 = _ := Tryz.underlying74
  have u7 : E.P.underlying 86 = _ := Tryz.underlying86
  have hp : E.P.stoodInHeld 74 = false := by kernel_rfl
  have hq : E.P.stoodInHeld 86 = false := by kernel_rfl
  simp [eqF, eqGo, u1, u2, u3, u4, u5, hs, u6, u7, hp, hq, tq74.1, tq74.2.1, tq24.1, tq24.2.1, tq9.1, tq9.2.1, tq3.1, tq3.2.1, tq22.1, tq22.2.1, tq4.1, tq4.2.1, mkV, beq_dec, Bool.and_assoc, ← Bool.decide_and]
@[go_sem] theorem eqResult (k v k' v' : List UInt8) (a b c e a' b' c' e' : Int) (h g h' g' : Bool) : eqF E.P 8 93 (.agg [.int .i64 a, .int .i64 b, .int .i64 c, .str k, .str v, .bool h, .bool g, .int .i64 e]) (.agg [.int .i64 a', .int .i64 b', .int .i64 c', .str k', .str v', .bool h', .bool g', .int .i64 e']) = some (decide (a = a' ∧ b = b' ∧ c = c' ∧ k = k' ∧ v = v' ∧ h = h' ∧ g = g' ∧ e = e')) := by
  have u1 : E.P.underlying 24 = _ := Tryz.underlying24
  have u2 : E.P.underlying 9 = _ := Tryz.underlying9
  have u3 : E.P.underlying 3 = _ := Tryz.underlying3
  have u4 : E.P.underlying 22 = _ := Tryz.underlying22
  have u5 : E.P.underlying 4 = _ := Tryz.underlying4
  have hs : E.P.stoodInHeld 24 = false := by kernel_rfl
  have u6 : E.P.underlying 39 = _ := Tryz.underlying39
  have u7 : E.P.underlying 93 = _ := Tryz.underlying93
  have hq : E.P.stoodInHeld 93 = false := by kernel_rfl
  simp [eqF, eqGo, u1, u2, u3, u4, u5, hs, u6, u7, hq, tq39.1, tq39.2.1, tq9.1, tq9.2.1, tq3.1, tq3.2.1, tq22.1, tq22.2.1, tq4.1, tq4.2.1, mkV, beq_dec, Bool.and_assoc, ← Bool.decide_and]
@[go_sem] theorem eqSession (n t x y n' t' x' y' : List UInt8) (a b c d i o r s e f g q w l h u a' b' c' d' i' o' r' s' e' f' g' q' w' l' h' u' : Int) : eqF E.P 8 101 (.agg [.int .u64 i, .int .u64 o, .str n, .int .u64 a, .int .i64 b, .int .i64 c, .int .i64 d, .str t, .int .i64 r, .int .i64 s, .str x, .str y, .int .i64 e, .int .i64 f, .int .i64 g, .int .i64 q, .int .i64 w, .int .u64 l, .int .u64 h, .int .i64 u]) (.agg [.int .u64 i', .int .u64 o', .str n', .int .u64 a', .int .i64 b', .int .i64 c', .int .i64 d', .str t', .int .i64 r', .int .i64 s', .str x', .str y', .int .i64 e', .int .i64 f', .int .i64 g', .int .i64 q', .int .i64 w', .int .u64 l', .int .u64 h', .int .i64 u']) = some (decide (i = i' ∧ o = o' ∧ (n = n' ∧ a = a' ∧ b = b' ∧ c = c' ∧ d = d' ∧ t = t') ∧ r = r' ∧ s = s' ∧ x = x' ∧ y = y' ∧ e = e' ∧ f = f' ∧ g = g' ∧ q = q' ∧ (w = w' ∧ l = l' ∧ h = h') ∧ u = u')) := by
  have u1 : E.P.underlying 24 = _ := Tryz.underlying24
  have u2 : E.P.underlying 9 = _ := Tryz.underlying9
  have u3 : E.P.underlying 3 = _ := Tryz.underlying3
  have u4 : E.P.underlying 22 = _ := Tryz.underlying22
  have u5 : E.P.underlying 4 = _ := Tryz.underlying4
  have hs : E.P.stoodInHeld 24 = false := by kernel_rfl
  have u6 : E.P.underlying 99 = _ := Tryz.underlying99
  have u7 : E.P.underlying 101 = _ := Tryz.underlying101
  have hp : E.P.stoodInHeld 99 = false := by kernel_rfl
  have w1 : E.P.szO 99 = some 3 := by kernel_rfl
  have w2 : E.P.rowO 99 = some true := by kernel_rfl
  have hq : E.P.stoodInHeld 101 = false := by kernel_rfl
  simp [eqF, eqGo, u1, u2, u3, u4, u5, hs, u6, u7, hp, hq, w1, w2, tq24.1, tq24.2.1, tq9.1, tq9.2.1, tq3.1, tq3.2.1, tq22.1, tq22.2.1, tq4.1, tq4.2.1, mkV, beq_dec, Bool.and_assoc, ← Bool.decide_and]
@[go_sem] theorem e40 (a b : List En) (hl : a.length ≤ 9223372036854775807) : fn C 40 [] [.slice 6 (a.map En.cs), .slice 6 (b.map En.cs)] = some (.bool (decide (a = b)), []) := by
  rw [fn_text Tryz.func40 rfl rfl Tryz.results40 fq40.1 rfl rfl (by kernel_rfl)]
  simp -implicitDefEqProofs -dsimp +contextual (maxSteps := 9999999) (disch := first | omega | simp only [go_sem] <;> omega | refine ib ?_; kernel_rfl) only [go_sem, seval, ↓reduceIte]
  (repeat' (refine kD_intro (fun _ => ?_) (fun _ => ?_)))
  · rename_i h1
    refine (kLoop_rec (fun i f H => f 0 = .slice 6 (a.map En.cs) ∧ f 1 = .slice 6 (b.map En.cs) ∧ f 5 = .int .i64 (i : Nat) ∧ H = Heap.nil ∧ i ≤ a.length ∧ a.take i = b.take i) (fun i => a.length - i) (fun i => some (.bool (decide (a = b)), [])) ?_ 0 _ _ ⟨rfl, rfl, rfl, rfl, by omega, rfl⟩).trans rfl
    rintro i f _ ⟨h0, h2, h5, rfl, hi, ht⟩ ih
    by_cases hl : i < a.length
    · have hb : i < b.length := by omega
      simp -implicitDefEqProofs -dsimp +contextual (maxSteps := 9999999) (disch := first | omega | simp only [go_sem] <;> omega | refine ib ?_; kernel_rfl) only [go_sem, seval, ↓reduceIte, h0, h2, h5, hl, hb, h1]
      (repeat' (refine kD_intro (fun _ => ?_) (fun _ => ?_)))
      · rename_i he
        exact ih (i + 1) _ _ ⟨h0, h2, rfl, rfl, by omega, take_eq_step hl hb ht ((En.eq_iff _ _).2 (by simpa using he))⟩ (by omega)
      · rename_i he
        rw [decide_eq_false (take_ne hl hb (fun e => he (by simp [e])))]
    · simp -implicitDefEqProofs -dsimp +contextual (maxSteps := 9999999) (disch := first | omega | simp only [go_sem] <;> omega | refine ib ?_; kernel_rfl) only [go_sem, seval, ↓reduceIte, h0, h2, h5, hl]
      obtain rfl : i = a.length := by omega
      rw [decide_eq_true (take_eq_end h1 ht)]
  · rename_i h1
    rw [decide_eq_false (fun e : a = b => h1 (by rw [e]))]
@[go_sem] theorem e74 (a b : List Pr) (hl : a.length ≤ 9223372036854775807) : fn C 74 [] [.slice 8 (a.map Pr.cs), .slice 8 (b.map Pr.cs)] = some (.bool (decide (a = b)), []) := by
  rw [fn_text Tryz.func74 rfl rfl Tryz.results74 fq74.1 rfl rfl (by kernel_rfl)]
  simp -implicitDefEqProofs -dsimp +contextual (maxSteps := 9999999) (disch := first | omega | simp only [go_sem] <;> omega | refine ib ?_; kernel_rfl) only [go_sem, seval, ↓reduceIte]
  (repeat' (refine kD_intro (fun _ => ?_) (fun _ => ?_)))
  · rename_i h1
    refine (kLoop_rec (fun i f H => f 0 = .slice 8 (a.map Pr.cs) ∧ f 1 = .slice 8 (b.map Pr.cs) ∧ f 5 = .int .i64 (i : Nat) ∧ H = Heap.nil ∧ i ≤ a.length ∧ a.take i = b.take i) (fun i => a.length - i) (fun i => some (.bool (decide (a = b)), [])) ?_ 0 _ _ ⟨rfl, rfl, rfl, rfl, by omega, rfl⟩).trans rfl
    rintro i f _ ⟨h0, h2, h5, rfl, hi, ht⟩ ih
    by_cases hl : i < a.length
    · have hb : i < b.length := by omega
      simp -implicitDefEqProofs -dsimp +contextual (maxSteps := 9999999) (disch := first | omega | simp only [go_sem] <;> omega | refine ib ?_; kernel_rfl) only [go_sem, seval, ↓reduceIte, h0, h2, h5, hl, hb, h1]
      (repeat' (refine kD_intro (fun _ => ?_) (fun _ => ?_)))
      · rename_i he
        exact ih (i + 1) _ _ ⟨h0, h2, rfl, rfl, by omega, take_eq_step hl hb ht ((Pr.eq_iff _ _).2 (by simpa using he))⟩ (by omega)
      · rename_i he
        rw [decide_eq_false (take_ne hl hb (fun e => he (by simp [e])))]
    · simp -implicitDefEqProofs -dsimp +contextual (maxSteps := 9999999) (disch := first | omega | simp only [go_sem] <;> omega | refine ib ?_; kernel_rfl) only [go_sem, seval, ↓reduceIte, h0, h2, h5, hl]
      obtain rfl : i = a.length := by omega
      rw [decide_eq_true (take_eq_end h1 ht)]
  · rename_i h1
    rw [decide_eq_false (fun e : a = b => h1 (by rw [e]))]
@[go_sem] theorem e75 (a b : List Fg) (hl : a.length ≤ 9223372036854775807) : fn C 75 [] [.slice 9 (a.map Fg.cs), .slice 9 (b.map Fg.cs)] = some (.bool (decide (a = b)), []) := by
  rw [fn_text Tryz.func75 rfl rfl Tryz.results75 fq75.1 rfl rfl (by kernel_rfl)]
  simp -implicitDefEqProofs -dsimp +contextual (maxSteps := 9999999) (disch := first | omega | simp only [go_sem] <;> omega | refine ib ?_; kernel_rfl) only [go_sem, seval, ↓reduceIte]
  (repeat' (refine kD_intro (fun _ => ?_) (fun _ => ?_)))
  · rename_i h1
    refine (kLoop_rec (fun i f H => f 0 = .slice 9 (a.map Fg.cs) ∧ f 1 = .slice 9 (b.map Fg.cs) ∧ f 5 = .int .i64 (i : Nat) ∧ H = Heap.nil ∧ i ≤ a.length ∧ a.take i = b.take i) (fun i => a.length - i) (fun i => some (.bool (decide (a = b)), [])) ?_ 0 _ _ ⟨rfl, rfl, rfl, rfl, by omega, rfl⟩).trans rfl
    rintro i f _ ⟨h0, h2, h5, rfl, hi, ht⟩ ih
    by_cases hl : i < a.length
    · have hb : i < b.length := by omega
      simp -implicitDefEqProofs -dsimp +contextual (maxSteps := 9999999) (disch := first | omega | simp only [go_sem] <;> omega | refine ib ?_; kernel_rfl) only [go_sem, seval, ↓reduceIte, h0, h2, h5, hl, hb, h1]
      (repeat' (refine kD_intro (fun _ => ?_) (fun _ => ?_)))
      · rename_i he
        exact ih (i + 1) _ _ ⟨h0, h2, rfl, rfl, by omega, take_eq_step hl hb ht ((Fg.eq_iff _ _).2 (by simpa using he))⟩ (by omega)
      · rename_i he
        rw [decide_eq_false (take_ne hl hb (fun e => he (by simp [e])))]
    · simp -implicitDefEqProofs -dsimp +contextual (maxSteps := 9999999) (disch := first | omega | simp only [go_sem] <;> omega | refine ib ?_; kernel_rfl) only [go_sem, seval, ↓reduceIte, h0, h2, h5, hl]
      obtain rfl : i = a.length := by omega
      rw [decide_eq_true (take_eq_end h1 ht)]
  · rename_i h1
    rw [decide_eq_false (fun e : a = b => h1 (by rw [e]))]
@[go_sem] theorem e76 (a b : List Se) (hl : a.length ≤ 9223372036854775807) : fn C 76 [] [.slice 20 (a.map Se.cs), .slice 20 (b.map Se.cs)] = some (.bool (decide (a = b)), []) := by
  rw [fn_text Tryz.func76 rfl rfl Tryz.results76 fq76.1 rfl rfl (by kernel_rfl)]
  simp -implicitDefEqProofs -dsimp +contextual (maxSteps := 9999999) (disch := first | omega | simp only [go_sem] <;> omega | refine ib ?_; kernel_rfl) only [go_sem, seval, ↓reduceIte]
  (repeat' (refine kD_intro (fun _ => ?_) (fun _ => ?_)))
  · rename_i h1
    refine (kLoop_rec (fun i f H => f 0 = .slice 20 (a.map Se.cs) ∧ f 1 = .slice 20 (b.map Se.cs) ∧ f 5 = .int .i64 (i : Nat) ∧ H = Heap.nil ∧ i ≤ a.length ∧ a.take i = b.take i) (fun i => a.length - i) (fun i => some (.bool (decide (a = b)), [])) ?_ 0 _ _ ⟨rfl, rfl, rfl, rfl, by omega, rfl⟩).trans rfl
    rintro i f _ ⟨h0, h2, h5, rfl, hi, ht⟩ ih
    by_cases hl : i < a.length
    · have hb : i < b.length := by omega
      simp -implicitDefEqProofs -dsimp +contextual (maxSteps := 9999999) (disch := first | omega | simp only [go_sem] <;> omega | refine ib ?_; kernel_rfl) only [go_sem, seval, ↓reduceIte, h0, h2, h5, hl, hb, h1]
      (repeat' (refine kD_intro (fun _ => ?_) (fun _ => ?_)))
      · rename_i he
        exact ih (i + 1) _ _ ⟨h0, h2, rfl, rfl, by omega, take_eq_step hl hb ht ((Se.eq_iff _ _).2 (by simpa using he))⟩ (by omega)
      · rename_i he
        rw [decide_eq_false (take_ne hl hb (fun e => he (by simp [e])))]
    · simp -implicitDefEqProofs -dsimp +contextual (maxSteps := 9999999) (disch := first | omega | simp only [go_sem] <;> omega | refine ib ?_; kernel_rfl) only [go_sem, seval, ↓reduceIte, h0, h2, h5, hl]
      obtain rfl : i = a.length := by omega
      rw [decide_eq_true (take_eq_end h1 ht)]
  · rename_i h1
    rw [decide_eq_false (fun e : a = b => h1 (by rw [e]))]
@[go_sem] theorem e81 (a b : List Rs) (hl : a.length ≤ 9223372036854775807) : fn C 81 [] [.slice 8 (a.map Rs.cs), .slice 8 (b.map Rs.cs)] = some (.bool (decide (a = b)), []) := by
  rw [fn_text Tryz.func81 rfl rfl Tryz.results81 fq81.1 rfl rfl (by kernel_rfl)]
  simp -implicitDefEqProofs -dsimp +contextual (maxSteps := 9999999) (disch := first | omega | simp only [go_sem] <;> omega | refine ib ?_; kernel_rfl) only [go_sem, seval, ↓reduceIte]
  (repeat' (refine kD_intro (fun _ => ?_) (fun _ => ?_)))
  · rename_i h1
    refine (kLoop_rec (fun i f H => f 0 = .slice 8 (a.map Rs.cs) ∧ f 1 = .slice 8 (b.map Rs.cs) ∧ f 5 = .int .i64 (i : Nat) ∧ H = Heap.nil ∧ i ≤ a.length ∧ a.take i = b.take i) (fun i => a.length - i) (fun i => some (.bool (decide (a = b)), [])) ?_ 0 _ _ ⟨rfl, rfl, rfl, rfl, by omega, rfl⟩).trans rfl
    rintro i f _ ⟨h0, h2, h5, rfl, hi, ht⟩ ih
    by_cases hl : i < a.length
    · have hb : i < b.length := by omega
      simp -implicitDefEqProofs -dsimp +contextual (maxSteps := 9999999) (disch := first | omega | simp only [go_sem] <;> omega | refine ib ?_; kernel_rfl) only [go_sem, seval, ↓reduceIte, h0, h2, h5, hl, hb, h1]
      (repeat' (refine kD_intro (fun _ => ?_) (fun _ => ?_)))
      · rename_i he
        exact ih (i + 1) _ _ ⟨h0, h2, rfl, rfl, by omega, take_eq_step hl hb ht ((Rs.eq_iff _ _).2 (by simpa using he))⟩ (by omega)
      · rename_i he
        rw [decide_eq_false (take_ne hl hb (fun e => he (by simp [e])))]
    · simp -implicitDefEqProofs -dsimp +contextual (maxSteps := 9999999) (disch := first | omega | simp only [go_sem] <;> omega | refine ib ?_; kernel_rfl) only [go_sem, seval, ↓reduceIte, h0, h2, h5, hl]
      obtain rfl : i = a.length := by omega
      rw [decide_eq_true (take_eq_end h1 ht)]
  · rename_i h1
    rw [decide_eq_false (fun e : a = b => h1 (by rw [e]))]
@[go_sem] theorem e80 (a b : List Nat) (hl : a.length ≤ 9223372036854775807) : fn C 80 [] [.slice 1 (a.map u64Row), .slice 1 (b.map u64Row)] = some (.bool (decide (a = b)), []) := by
  rw [fn_text Tryz.func80 rfl rfl Tryz.results80 fq80.1 rfl rfl (by kernel_rfl)]
  simp -implicitDefEqProofs -dsimp +contextual (maxSteps := 9999999) (disch := first | omega | simp only [go_sem] <;> omega | refine ib ?_; kernel_rfl) only [go_sem, seval, ↓reduceIte]
  (repeat' (refine kD_intro (fun _ => ?_) (fun _ => ?_)))
  · rename_i h1
    refine (kLoop_rec (fun i f H => f 0 = .slice 1 (a.map u64Row) ∧ f 1 = .slice 1 (b.map u64Row) ∧ f 5 = .int .i64 (i : Nat) ∧ H = Heap.nil ∧ i ≤ a.length ∧ a.take i = b.take i) (fun i => a.length - i) (fun i => some (.bool (decide (a = b)), [])) ?_ 0 _ _ ⟨rfl, rfl, rfl, rfl, by omega, rfl⟩).trans rfl
    rintro i f _ ⟨h0, h2, h5, rfl, hi, ht⟩ ih
    by_cases hl : i < a.length
    · have hb : i < b.length := by omega
      simp -implicitDefEqProofs -dsimp +contextual (maxSteps := 9999999) (disch := first | omega | simp only [go_sem] <;> omega | refine ib ?_; kernel_rfl) only [go_sem, seval, ↓reduceIte, h0, h2, h5, hl, hb, h1]
      (repeat' (refine kD_intro (fun _ => ?_) (fun _ => ?_)))
      · rename_i he
        exact ih (i + 1) _ _ ⟨h0, h2, rfl, rfl, by omega, take_eq_step hl hb ht (by simpa using he)⟩ (by omega)
      · rename_i he
        rw [decide_eq_false (take_ne hl hb (fun e => he (by simp [e])))]
    · simp -implicitDefEqProofs -dsimp +contextual (maxSteps := 9999999) (disch := first | omega | simp only [go_sem] <;> omega | refine ib ?_; kernel_rfl) only [go_sem, seval, ↓reduceIte, h0, h2, h5, hl]
      obtain rfl : i = a.length := by omega
      rw [decide_eq_true (take_eq_end h1 ht)]
  · rename_i h1
    rw [decide_eq_false (fun e : a = b => h1 (by rw [e]))]
theorem Ms.eq_iff (x y : Ms) : x = y ↔ x.kind = y.kind ∧ x.rid = y.rid ∧ x.ver = y.ver ∧ x.err = y.err ∧ x.id = y.id ∧ x.has = y.has ∧ x.gone = y.gone ∧ x.key = y.key ∧ x.val = y.val ∧ x.ents = y.ents ∧ x.items = y.items := by
  cases x; cases y; simp
theorem Pd.eq_iff (x y : Pd) : x = y ↔ x.rid = y.rid ∧ x.why = y.why ∧ x.job = y.job ∧ x.til = y.til ∧ x.tries = y.tries ∧ x.session = y.session ∧ x.to = y.to ∧ x.m = y.m := by
  cases x; cases y; simp
theorem Jb.eq_iff (x y : Jb) : x = y ↔ x.asked = y.asked ∧ (x.id = y.id ∧ x.kind = y.kind ∧ x.phase = y.phase ∧ x.hops = y.hops ∧ x.tries = y.tries ∧ x.til = y.til ∧ x.key = y.key ∧ x.val = y.val) ∧ x.owner = y.owner ∧ x.item = y.item ∧ x.acks = y.acks ∧ x.waits = y.waits ∧ x.back = y.back ∧ x.backRid = y.backRid ∧ x.backJob = y.backJob :=
  ⟨fun h => by subst h; simp, fun h => by cases x; cases y; simp_all⟩
@[go_sem] theorem e82 (a b : Ms) (h1 : a.ents.length ≤ 9223372036854775807) (h2 : a.items.length ≤ 9223372036854775807) : fn C 82 [] [.agg [.int .i64 a.kind, .int .i64 a.rid, .int .i64 a.ver, .int .i64 a.err, .int .u64 (a.id : Int), .bool a.has, .bool a.gone, .str a.key, .str a.val, .slice 6 (a.ents.map En.cs), .slice 4 (a.items.map It.cs)], .agg [.int .i64 b.kind, .int .i64 b.rid, .int .i64 b.ver, .int .i64 b.err, .int .u64 (b.id : Int), .bool b.has, .bool b.gone, .str b.key, .str b.val, .slice 6 (b.ents.map En.cs), .slice 4 (b.items.map It.cs)]] = some (.bool (decide (a = b)), []) := by
  rw [fn_text Tryz.func82 rfl rfl Tryz.results82 fq82.1 rfl rfl (by kernel_rfl)]
  simp -implicitDefEqProofs -dsimp +contextual (maxSteps := 9999999) (disch := first | omega | simp only [go_sem] <;> omega | refine ib ?_; kernel_rfl) only [go_sem, seval, ↓reduceIte]
  (repeat' (refine kD_intro (fun _ => ?_) (fun _ => ?_))) <;> exact Res_bool (by simp [Ms.eq_iff, *])
@[go_sem] theorem e153 (a b : Pd) (h1 : a.m.ents.length ≤ 9223372036854775807) (h2 : a.m.items.length ≤ 9223372036854775807) : fn C 153 [] [.agg [.int .i64 a.rid, .int .i64 a.why, .int .i64 a.job, .int .i64 a.til, .int .i64 a.tries, .int .u64 (a.session : Int), .str a.to.name, .int .u64 (a.to.id : Int), .int .i64 a.to.fr, .int .i64 a.to.un, .int .i64 a.to.ix, .str a.to.tag, .int .i64 a.m.kind, .int .i64 a.m.rid, .int .i64 a.m.ver, .int .i64 a.m.err, .int .u64 (a.m.id : Int), .bool a.m.has, .bool a.m.gone, .str a.m.key, .str a.m.val, .slice 6 (a.m.ents.map En.cs), .slice 4 (a.m.items.map It.cs)], .agg [.int .i64 b.rid, .int .i64 b.why, .int .i64 b.job, .int .i64 b.til, .int .i64 b.tries, .int .u64 (b.session : Int), .str b.to.name, .int .u64 (b.to.id : Int), .int .i64 b.to.fr, .int .i64 b.to.un, .int .i64 b.to.ix, .str b.to.tag, .int .i64 b.m.kind, .int .i64 b.m.rid, .int .i64 b.m.ver, .int .i64 b.m.err, .int .u64 (b.m.id : Int), .bool b.m.has, .bool b.m.gone, .str b.m.key, .str b.m.val, .slice 6 (b.m.ents.map En.cs), .slice 4 (b.m.items.map It.cs)]] = some (.bool (decide (a = b)), []) := by
  rw [fn_text Tryz.func153 rfl rfl Tryz.results153 fq153.1 rfl rfl (by kernel_rfl)]
  simp -implicitDefEqProofs -dsimp +contextual (maxSteps := 9999999) (disch := first | omega | simp only [go_sem] <;> omega | refine ib ?_; kernel_rfl) only [go_sem, seval, ↓reduceIte, e82 a.m b.m h1 h2]
  (repeat' (refine kD_intro (fun _ => ?_) (fun _ => ?_))) <;> exact Res_bool (by simp [Pd.eq_iff, En.eq_iff, *])
@[go_sem] theorem e77 (a b : List Pd) (hl : a.length ≤ 9223372036854775807) (hf : ∀ x ∈ a, x.fit) : fn C 77 [] [.slice 23 (a.map Pd.cs), .slice 23 (b.map Pd.cs)] = some (.bool (decide (a = b)), []) := by
  rw [fn_text Tryz.func77 rfl rfl Tryz.results77 fq77.1 rfl rfl (by kernel_rfl)]
  simp -implicitDefEqProofs -dsimp +contextual (maxSteps := 9999999) (disch := first | omega | simp only [go_sem] <;> omega | refine ib ?_; kernel_rfl) only [go_sem, seval, ↓reduceIte]
  (repeat' (refine kD_intro (fun _ => ?_) (fun _ => ?_)))
  · rename_i h1
    refine (kLoop_rec (fun i f H => f 0 = .slice 23 (a.map Pd.cs) ∧ f 1 = .slice 23 (b.map Pd.cs) ∧ f 5 = .int .i64 (i : Nat) ∧ H = Heap.nil ∧ i ≤ a.length ∧ a.take i = b.take i) (fun i => a.length - i) (fun i => some (.bool (decide (a = b)), [])) ?_ 0 _ _ ⟨rfl, rfl, rfl, rfl, by omega, rfl⟩).trans rfl
    rintro i f _ ⟨h0, h2, h5, rfl, hi, ht⟩ ih
    by_cases hl : i < a.length
    · have hb : i < b.length := by omega
      have ff := (hf _ (List.getElem_mem hl)).m
      have one := e153 a[i] b[i] ff.e ff.i
      by_cases e : a[i] = b[i]
      · rw [decide_eq_true e] at one
        simp -implicitDefEqProofs -dsimp +contextual (maxSteps := 9999999) (disch := first | omega | simp only [go_sem] <;> omega | refine ib ?_; kernel_rfl) only [go_sem, seval, ↓reduceIte, h0, h2, h5, hl, hb, h1, one]
        exact ih (i + 1) _ _ ⟨h0, h2, rfl, rfl, by omega, take_eq_step hl hb ht e⟩ (by omega)
      · rw [decide_eq_false e] at one
        simp -implicitDefEqProofs -dsimp +contextual (maxSteps := 9999999) (disch := first | omega | simp only [go_sem] <;> omega | refine ib ?_; kernel_rfl) only [go_sem, seval, ↓reduceIte, h0, h2, h5, hl, hb, h1, one]
        rw [decide_eq_false (take_ne hl hb e)]
    · simp -implicitDefEqProofs -dsimp +contextual (maxSteps := 9999999) (disch := first | omega | simp only [go_sem] <;> omega | refine ib ?_; kernel_rfl) only [go_sem, seval, ↓reduceIte, h0, h2, h5, hl]
      obtain rfl : i = a.length := by omega
      rw [decide_eq_true (take_eq_end h1 ht)]
  · rename_i h1
    rw [decide_eq_false (fun e : a = b => h1 (by rw [e]))]
@[go_sem] theorem e19 (a b : List Ac) (hl : a.length ≤ 9223372036854775807) (hf : ∀ x ∈ a, x.m.fit) : fn C 19 [] [.slice 20 (a.map Ac.cs), .slice 20 (b.map Ac.cs)] = some (.bool (decide (a = b)), []) := by
  rw [fn_text Tryz.func19 rfl rfl Tryz.results19 fq19.1 rfl rfl (by kernel_rfl)]
  simp -implicitDefEqProofs -dsimp +contextual (maxSteps := 9999999) (disch := first | omega | simp only [go_sem] <;> omega | refine ib ?_; kernel_rfl) only [go_sem, seval, ↓reduceIte]
  (repeat' (refine kD_intro (fun _ => ?_) (fun _ => ?_)))
  · rename_i h1
    refine (kLoop_rec (fun i f H => f 0 = .slice 20 (a.map Ac.cs) ∧ f 1 = .slice 20 (b.map Ac.cs) ∧ f 5 = .int .i64 (i : Nat) ∧ H = Heap.nil ∧ i ≤ a.length ∧ a.take i = b.take i) (fun i => a.length - i) (fun i => some (.bool (decide (a = b)), [])) ?_ 0 _ _ ⟨rfl, rfl, rfl, rfl, by omega, rfl⟩).trans rfl
    rintro i f _ ⟨h0, h2, h5, rfl, hi, ht⟩ ih
    by_cases hl : i < a.length
    · have hb : i < b.length := by omega
      have ff := hf _ (List.getElem_mem hl)
      have one := e82 a[i].m b[i].m ff.e ff.i
      simp -implicitDefEqProofs -dsimp +contextual (maxSteps := 9999999) (disch := first | omega | simp only [go_sem] <;> omega | refine ib ?_; kernel_rfl) only [go_sem, seval, ↓reduceIte, h0, h2, h5, hl, hb, h1, one]
      (repeat' (refine kD_intro (fun _ => ?_) (fun _ => ?_))) <;> first
        | (refine ih (i + 1) _ _ ⟨h0, h2, rfl, rfl, by omega, take_eq_step hl hb ht ((Ac.eq_iff _ _).2 (by simp [En.eq_iff, *]))⟩ (by omega))
        | (rw [decide_eq_false (take_ne hl hb (fun e => by simp_all))])
    · simp -implicitDefEqProofs -dsimp +contextual (maxSteps := 9999999) (disch := first | omega | simp only [go_sem] <;> omega | refine ib ?_; kernel_rfl) only [go_sem, seval, ↓reduceIte, h0, h2, h5, hl]
      obtain rfl : i = a.length := by omega
      rw [decide_eq_true (take_eq_end h1 ht)]
  · rename_i h1
    rw [decide_eq_false (fun e : a = b => h1 (by rw [e]))]
theorem asked_row (l : List (List UInt8)) (i : Nat) (h : i < l.length) : (l.map strRow)[i]? = some [.str l[i]] := by
  rw [List.getElem?_map, List.getElem?_eq_getElem h]; rfl
@[go_sem] theorem e79 (a b : List Jb) (hl : a.length ≤ 9223372036854775807) (hf : ∀ x ∈ a, x.asked.length ≤ 9223372036854775807) : fn C 79 [] [.slice 29 (a.map Jb.cs), .slice 29 (b.map Jb.cs)] = some (.bool (decide (a = b)), []) := by
  rw [fn_text Tryz.func79 rfl rfl Tryz.results79 fq79.1 rfl rfl (by kernel_rfl)]
  simp -implicitDefEqProofs -dsimp +contextual (maxSteps := 9999999) (disch := first | omega | simp only [go_sem] <;> omega | refine ib ?_; kernel_rfl) only [go_sem, seval, ↓reduceIte]
  (repeat' (refine kD_intro (fun _ => ?_) (fun _ => ?_)))
  · rename_i h1
    refine (kLoop_rec (fun i f H => f 0 = .slice 29 (a.map Jb.cs) ∧ f 1 = .slice 29 (b.map Jb.cs) ∧ f 5 = .int .i64 (i : Nat) ∧ i ≤ a.length ∧ a.take i = b.take i) (fun i => a.length - i) (fun i => some (.bool (decide (a = b)), [])) ?_ 0 _ _ ⟨rfl, rfl, rfl, by omega, rfl⟩).trans rfl
    rintro i f H ⟨h0, h2, h5, hi, ht⟩ ih
    by_cases hl : i < a.length
    · have hb : i < b.length := by omega
      have ff := hf _ (List.getElem_mem hl)
      have r1 := jb_row a i hl
      have r2 := jb_row b i hb
      by_cases hk : a[i].asked.length = b[i].asked.length
      · simp -implicitDefEqProofs -dsimp +contextual (maxSteps := 9999999) (disch := first | omega | simp only [go_sem] <;> omega | refine ib ?_; kernel_rfl) only [go_sem, seval, ↓reduceIte, h0, h2, h5, hl, hb, h1, r1, r2, hk]
        refine (kLoop_rec (fun k f' H' => f' 0 = .slice 29 (a.map Jb.cs) ∧ f' 1 = .slice 29 (b.map Jb.cs) ∧ f' 5 = .int .i64 (i : Nat) ∧ f' 8 = .int .i64 (k : Nat) ∧ f' 6 = .ptr 106 ((H 106).gen + 1) 0 0 ∧ f' 7 = .ptr 107 ((H 107).gen + 1) 0 0 ∧ k ≤ a[i].asked.length ∧ a[i].asked.take k = b[i].asked.take k ∧
          H' 106 = ⟨(H 106).gen + 1, .live, 29, [[.int .i64 a[i].id, .int .i64 a[i].kind, .int .i64 a[i].phase, .int .i64 a[i].hops, .int .i64 a[i].tries, .int .i64 a[i].til, .str a[i].key, .str a[i].val, .str a[i].owner.name, .int .u64 (a[i].owner.id : Int), .int .i64 a[i].owner.fr, .int .i64 a[i].owner.un, .int .i64 a[i].owner.ix, .str a[i].owner.tag, .str a[i].item.k, .str a[i].item.v, .int .i64 a[i].item.n, .bool a[i].item.g, .int .i64 a[i].acks, .int .i64 a[i].waits, .slice 1 (a[i].asked.map strRow), .str a[i].back.name, .int .u64 (a[i].back.id : Int), .int .i64 a[i].back.fr, .int .i64 a[i].back.un, .int .i64 a[i].back.ix, .str a[i].back.tag, .int .i64 a[i].backRid, .int .i64 a[i].backJob]], false⟩ ∧ H' 107 = ⟨(H 107).gen + 1, .live, 29, [[.int .i64 b[i].id, .int .i64 b[i].kind, .int .i64 b[i].phase, .int .i64 b[i].hops, .int .i64 b[i].tries, .int .i64 b[i].til, .str b[i].key, .str b[i].val, .str b[i].owner.name, .int .u64 (b[i].owner.id : Int), .int .i64 b[i].owner.fr, .int .i64 b[i].owner.un, .int .i64 b[i].owner.ix, .str b[i].owner.tag, .str b[i].item.k, .str b[i].item.v, .int .i64 b[i].item.n, .bool b[i].item.g, .int .i64 b[i].acks, .int .i64 b[i].waits, .slice 1 (b[i].asked.map strRow), .str b[i].back.name, .int .u64 (b[i].back.id : Int), .int .i64 b[i].back.fr, .int .i64 b[i].back.un, .int .i64 b[i].back.ix, .str b[i].back.tag, .int .i64 b[i].backRid, .int .i64 b[i].backJob]], false⟩) (fun k => a[i].asked.length - k) (fun _ => some (.bool (decide (a = b)), [])) ?_ 0 _ _ (by exact ⟨h0, h2, h5, rfl, rfl, rfl, by omega, rfl, by simp [Heap.set], by simp [Heap.set]⟩)).trans rfl
        rintro k f' H' ⟨g0, g1, g5, g8, g6, g7, hk2, ha, H1, H2⟩ ih2
        by_cases hkl : k < a[i].asked.length
        · have hkb : k < b[i].asked.length := by omega
          have q1 := asked_row a[i].asked k hkl
          have q2 := asked_row b[i].asked k hkb
          by_cases e : a[i].asked[k] = b[i].asked[k]
          · simp -implicitDefEqProofs -dsimp +contextual (maxSteps := 9999999) (disch := first | omega | simp only [go_sem] <;> omega | refine ib ?_; kernel_rfl) only [go_sem, seval, ↓reduceIte, g0, g1, g5, g6, g7, g8, H1, H2, hk, hkl, hkb, q1, q2, e]
            exact ih2 (k + 1) _ _ ⟨g0, g1, g5, rfl, g6, g7, by omega, take_eq_step hkl hkb ha e, H1, H2⟩ (by omega)
          · simp -implicitDefEqProofs -dsimp +contextual (maxSteps := 9999999) (disch := first | omega | simp only [go_sem] <;> omega | refine ib ?_; kernel_rfl) only [go_sem, seval, ↓reduceIte, g0, g1, g5, g6, g7, g8, H1, H2, hk, hkl, hkb, q1, q2, e]
            rw [decide_eq_false (take_ne hl hb (fun e' => e (by simp [e'])))]
        · obtain rfl : k = a[i].asked.length := by omega
          clear ih2
          have hask := take_eq_end hk ha
          simp -implicitDefEqProofs -dsimp +contextual (maxSteps := 9999999) (disch := first | omega | simp only [go_sem] <;> omega | refine ib ?_; kernel_rfl) only [go_sem, seval, ↓reduceIte, g0, g1, g5, g6, g7, g8, H1, H2, hk]
          (repeat' (refine kD_intro (fun _ => ?_) (fun _ => ?_))) <;> first
            | (refine ih (i + 1) _ _ ⟨g0, g1, rfl, by omega, take_eq_step hl hb ht ((Jb.eq_iff _ _).2 (by simp [En.eq_iff, It.eq_iff, *]))⟩ (by omega))
            | (rw [decide_eq_false (take_ne hl hb (fun e => by simp_all))])
      · simp -implicitDefEqProofs -dsimp +contextual (maxSteps := 9999999) (disch := first | omega | simp only [go_sem] <;> omega | refine ib ?_; kernel_rfl) only [go_sem, seval, ↓reduceIte, h0, h2, h5, hl, hb, h1, r1, r2, hk]
        rw [decide_eq_false (take_ne hl hb (fun e => hk (by rw [e])))]
    · simp -implicitDefEqProofs -dsimp +contextual (maxSteps := 9999999) (disch := first | omega | simp only [go_sem] <;> omega | refine ib ?_; kernel_rfl) only [go_sem, seval, ↓reduceIte, h0, h2, h5, hl]
      obtain rfl : i = a.length := by omega
      rw [decide_eq_true (take_eq_end h1 ht)]
  · rename_i h1
    rw [decide_eq_false (fun e : a = b => h1 (by rw [e]))]
structure Nd.cmp (n : Nd) : Prop where
  pl : n.pred.length ≤ 9223372036854775807
  ll : n.list.length ≤ 9223372036854775807
  fl : n.fingers.length ≤ 9223372036854775807
  sl : n.sessions.length ≤ 9223372036854775807
  dl : n.pends.length ≤ 9223372036854775807
  df : ∀ p ∈ n.pends, p.fit
  il : n.items.length ≤ 9223372036854775807
  jl : n.jobs.length ≤ 9223372036854775807
  ja : ∀ j ∈ n.jobs, j.asked.length ≤ 9223372036854775807
  wl : n.draws.length ≤ 9223372036854775807
  rl : n.results.length ≤ 9223372036854775807
theorem Nd.mid.cmp {n : Nd} {k : Nat} (h : n.mid k) (hk : k ≤ 9223372036854775807) (hd : ∀ p ∈ n.pends, p.fit) : n.cmp :=
  ⟨Nat.le_trans h.pl hk, Nat.le_trans h.ll hk, Nat.le_trans h.fl hk, Nat.le_trans h.sl hk, Nat.le_trans h.dl hk, hd, Nat.le_trans h.il hk, Nat.le_trans h.jl hk, fun j hj => Nat.le_trans (h.ja j hj) hk, Nat.le_trans h.wl hk, Nat.le_trans h.rl hk⟩
structure Nd.good (n : Nd) (k : Nat) : Prop where
  m : n.mid k
  d : ∀ p ∈ n.pends, p.fit
  j : ∀ j ∈ n.jobs, j.item.fit
def ActG (k : Nat) (l : List Ac) : Prop := l.length ≤ k ∧ ∀ a ∈ l, a.m.fit
theorem Nd.good.le {n : Nd} {k m : Nat} (h : n.good k) (hk : k ≤ m) : n.good m := ⟨h.m.le hk, h.d, h.j⟩
theorem ActG.le {l : List Ac} {k m : Nat} (h : ActG k l) (hk : k ≤ m) : ActG m l := ⟨Nat.le_trans h.1 hk, h.2⟩
theorem ActG.nil (k : Nat) : ActG k [] := ⟨Nat.zero_le _, fun a ha => by simp at ha⟩
theorem ActG.one {a : Ac} (h : a.m.fit) : ActG 1 [a] := ⟨Nat.le_refl _, fun b hb => by rw [List.mem_singleton] at hb; rw [hb]; exact h⟩
theorem ActG.app {a b : List Ac} {k m : Nat} (h1 : ActG k a) (h2 : ActG m b) : ActG (k + m) (a ++ b) :=
  ⟨by rw [List.length_append]; exact Nat.add_le_add h1.1 h2.1, fun x hx => by
    rcases List.mem_append.1 hx with hx | hx
    · exact h1.2 x hx
    · exact h2.2 x hx⟩
theorem doneA_fit (back : En) (rid : Int) (x : It) (e : Int) : (doneA back rid x e).m.fit :=
  ⟨Nat.zero_le _, Nat.zero_le _, Nat.zero_le _, Nat.zero_le _, fun e he => by simp [doneA, msZ] at he, fun x hx => by simp [doneA, msZ] at hx⟩
theorem copyA_fit (e : En) {x : It} (id : Int) (h : x.fit) : (copyA e x id).m.fit :=
  ⟨Nat.zero_le _, Nat.zero_le _, Nat.zero_le _, by show 1 ≤ 9223372036854775807; decide, fun e he => by simp [copyA, msZ] at he, fun y hy => by simp [copyA] at hy; rw [hy]; exact h⟩
theorem good_settle {n : Nd} {k : Nat} (id : Int) (x : It) (has : Bool) (e : Int) (h : n.good k) (hk : 16 ≤ k) : (settleR n id x has e).good k := by
  refine ⟨mid_settle id x has e h.m hk, ?_, ?_⟩
  · unfold settleR; split
    · exact h.d
    · exact h.d
  · unfold settleR; split
    · exact fun j hj => h.j j (List.mem_of_mem_eraseIdx hj)
    · exact h.j
theorem good_erase {n : Nd} {k : Nat} (i : Nat) (h : n.good k) : ({ n with jobs := n.jobs.eraseIdx i } : Nd).good k :=
  ⟨mid_erase i h.m, h.d, fun j hj => h.j j (List.mem_of_mem_eraseIdx hj)⟩
theorem good_set {n : Nd} {k : Nat} (i : Nat) (j : Jb) (h : n.good k) (ha : j.asked.length ≤ k) (hf : j.item.fit) : ({ n with jobs := n.jobs.set i j } : Nd).good k :=
  ⟨mid_set i j h.m ha, h.d, fun x hx => by
    rcases List.mem_or_eq_of_mem_set hx with hx | rfl
    · exact h.j x hx
    · exact hf⟩
theorem good_tell {n : Nd} {k : Nat} (back : En) (rid job : Int) (x : It) (has : Bool) (e : Int) (h : n.good k) (hk : 16 ≤ k) : (tellR n back rid job x has e).1.good k ∧ ActG 1 (tellR n back rid job x has e).2 := by
  unfold tellR; split
  · exact ⟨h, ActG.one (doneA_fit _ _ _ _)⟩
  · exact ⟨good_settle _ _ _ _ h hk, ActG.nil 1⟩
theorem askR_good (id : Int) : ∀ (l : List Pr) (j : Jb), j.item.fit → (askR id l j).1.asked.length ≤ j.asked.length + l.length ∧ (askR id l j).1.item = j.item ∧ ActG l.length (askR id l j).2
  | [], j, _ => ⟨Nat.le_refl _, rfl, ActG.nil 0⟩
  | p :: l, j, h => by
    unfold askR
    split
    · exact ⟨by simp, rfl, ActG.nil _⟩
    · split
      · have := askR_good id l j h
        exact ⟨Nat.le_trans this.1 (by simp), this.2.1, this.2.2.le (by simp)⟩
      · have := askR_good id l { j with waits := fewR j.waits + 1, asked := j.asked ++ [p.e.name] } h
        refine ⟨Nat.le_trans this.1 (by simp; omega), this.2.1, ?_⟩
        have := (ActG.one (copyA_fit p.e id h)).app this.2.2
        exact this.le (by simp; omega)
theorem good_moreFin {n : Nd} {k : Nat} (i : Nat) (id : Int) (j : Jb) (h : n.good k) (hk : 16 ≤ k) (ha : j.asked.length ≤ k) (hf : j.item.fit) : (moreFin n i (askR id n.list j)).1.good (k + k) ∧ ActG (k + 1) (moreFin n i (askR id n.list j)).2 := by
  have g := askR_good id n.list j hf
  have hl := h.m.ll
  unfold moreFin
  split
  · exact ⟨good_set i _ (h.le (by omega)) (Nat.le_trans g.1 (by omega)) (by rw [g.2.1]; exact hf), g.2.2.le (by omega)⟩
  · have t := good_tell (askR id n.list j).1.back (askR id n.list j).1.backRid (askR id n.list j).1.backJob (askR id n.list j).1.item (!(askR id n.list j).1.item.g) 0 (good_erase i h) hk
    exact ⟨t.1.le (by omega), (g.2.2.app t.2).le (by omega)⟩
theorem good_more {n : Nd} {k : Nat} (id : Int) (h : n.good k) (hk : 16 ≤ k) : (moreR n id).1.good (k + k) ∧ ActG (k + 1) (moreR n id).2 := by
  rcases copR_cases n.jobs id with ⟨i, hi, hc⟩ | hc
  · rw [moreR_at hi hc]
    exact good_moreFin i id _ h hk (h.m.ja _ (List.getElem_mem hi)) (h.j _ (List.getElem_mem hi))
  · rw [moreR_none hc]
    exact ⟨h.le (by omega), ActG.nil _⟩
theorem good_begun {n : Nd} {k : Nat} (key val : List UInt8) (gone : Bool) (back : En) (rid job : Int) (hk : key.length ≤ 9223372036854775807) (hv : val.length ≤ 9223372036854775807) (h : n.good k) (he : (putR n.items key val gone).2.2 = 0) : (begunR n key val gone back rid job).good (k + 1) := by
  refine ⟨mid_begun key val gone back rid job hk h.m, h.d, fun j hj => ?_⟩
  rcases List.mem_append.1 hj with hj | hj
  · exact h.j j hj
  · rw [List.mem_singleton] at hj
    rw [hj]
    show (putR n.items key val gone).2.1.fit
    unfold putR at he ⊢
    split
    · split
      · exact ⟨Nat.zero_le _, Nat.zero_le _⟩
      · split
        · exact ⟨Nat.zero_le _, Nat.zero_le _⟩
        · exact ⟨hk, by show (if gone = true then [] else val).length ≤ 9223372036854775807; split; exact Nat.zero_le _; exact hv⟩
    · exact ⟨Nat.zero_le _, Nat.zero_le _⟩
theorem good_begin {n : Nd} {k : Nat} (key val : List UInt8) (gone : Bool) (back : En) (rid job : Int) (hk : key.length ≤ 9223372036854775807) (hv : val.length ≤ 9223372036854775807) (h : n.good k) (hk2 : 16 ≤ k) : (beginR n key val gone back rid job).1.good (k + k + 2) ∧ ActG (k + 2) (beginR n key val gone back rid job).2 := by
  unfold beginR
  split
  · rename_i he
    have he : (putR n.items key val gone).2.2 = 0 := by
      unfold beginE at he; split at he
      · omega
      · exact he
    have g := good_more (nextI n.jobId) (good_begun key val gone back rid job hk hv h he) (by omega)
    exact ⟨g.1.le (by omega), g.2.le (by omega)⟩
  · have t := good_tell back rid job zeroIt false (beginE n key val gone) h hk2
    exact ⟨t.1.le (by omega), t.2.le (by omega)⟩
@[go_sem] theorem eqGate (a a' : Int) (k k' : List UInt8) : eqF E.P 8 26 (.agg [.int .i64 a, .str k]) (.agg [.int .i64 a', .str k']) = some (decide (a = a' ∧ k = k')) := by
  have u2 : E.P.underlying 9 = _ := Tryz.underlying9
  have u3 : E.P.underlying 3 = _ := Tryz.underlying3
  have u7 : E.P.underlying 26 = _ := Tryz.underlying26
  have hq : E.P.stoodInHeld 26 = false := by kernel_rfl
  simp [eqF, eqGo, u2, u3, u7, hq, tq9.1, tq9.2.1, tq3.1, tq3.2.1, mkV, beq_dec, Bool.and_assoc, ← Bool.decide_and]
theorem eSame (n : Nd) (h : n.cmp) : fn C 18 [] [(aNd n), (aNd n)] = some (.bool true, []) := by
  have e1 := e74 n.pred n.pred h.pl
  have e2 := e74 n.list n.list h.ll
  have e3 := e75 n.fingers n.fingers h.fl
  have e4 := e76 n.sessions n.sessions h.sl
  have e5 := e77 n.pends n.pends h.dl h.df
  have e6 := e78 n.items n.items h.il
  have e7 := e79 n.jobs n.jobs h.jl h.ja
  have e8 := e80 n.draws n.draws h.wl
  have e9 := e81 n.results n.results h.rl
  simp only [aNd, decide_true] at e1 e2 e3 e4 e5 e6 e7 e8 e9
  rw [fn_text Tryz.func18 rfl rfl Tryz.results18 fq18.1 rfl rfl (by kernel_rfl)]
  simp -implicitDefEqProofs -dsimp +contextual (maxSteps := 9999999) (disch := first | omega | simp only [go_sem] <;> omega | refine ib ?_; kernel_rfl) only [go_sem, seval, ↓reduceIte, e1, e2, e3, e4, e5, e6, e7, e8, e9]
theorem gN_mid {n : Nd} (g : greatN n = false) : n.mid 70 := (greatN_no g).mid
theorem gN_good {n : Nd} (g : greatN n = false) (h : n.fit) : n.good 70 := ⟨gN_mid g, h.d, fun j hj => (h.j j hj).ik⟩
theorem hugeF {n : Nd} (h : 0 ≤ n.clock ∧ n.clock ≤ 1099511627776) : (decide (n.clock < 0) || decide (1099511627776 < n.clock)) = false := by simp; omega
theorem hugeT {n : Nd} (h : ¬ (0 ≤ n.clock ∧ n.clock ≤ 1099511627776)) : (decide (n.clock < 0) || decide (1099511627776 < n.clock)) = true := by simp; omega
theorem sameA (acts : List Ac) {k : Nat} (h : ActG k acts) (hk : k ≤ 9223372036854775807) : fn C 19 [] [.slice 20 (acts.map Ac.cs), .slice 20 (acts.map Ac.cs)] = some (.bool true, []) := by
  have := e19 acts acts (Nat.le_trans h.1 hk) h.2
  rwa [decide_eq_true rfl] at this
end Go.Proofs.YtnpkhdjgedeppaaGreatDoor
namespace Go.Proofs.YtnpkhdjgedeppaaGreatDoor
set_option maxHeartbeats 64000000
open Go.Am
set_option linter.unusedSimpArgs false
set_option linter.unusedVariables false
set_option maxRecDepth 100000
attribute [local irreducible] distR idB sumB
def ndR1 : Nd := { ndZ with ready := true }
def ndR2 : Nd := { ndZ with ready := true, items := [⟨[107], [118], 1, false⟩], jobId := 2, results := [⟨1, 1, 1, [107], [118], true, false, 0⟩] }
theorem w31a : begC ndR1 1 [107] [118] = (ndR2, []) := by
  rw [alone_put (n := ndR1) rfl rfl rfl (.inl rfl) (by decide) (by decide) (by decide)]
  rfl
theorem w31b : begE ndR1 1 [107] [118] = 0 := by decide
theorem w31c : begE ndZ 1 [107] [118] = 41 := by decide
theorem z_mid (n : Nd) (h1 : n.pred = []) (h2 : n.list = []) (h3 : n.fingers = []) (h4 : n.sessions = []) (h5 : n.pends = []) (h6 : n.items = []) (h7 : n.jobs = []) (h8 : n.draws = []) (h9 : n.results = []) : n.mid 0 := by
  refine ⟨by rw [h1]; decide, by rw [h2]; decide, by rw [h3]; decide, by rw [h4]; decide, by rw [h5]; decide, by rw [h6]; decide, by rw [h7]; decide, by rw [h8]; decide, by rw [h9]; decide, fun p hp => ?_, fun p hp => ?_, fun p hp => ?_, fun p hp => ?_⟩
  · rw [h5] at hp; cases hp
  · rw [h5] at hp; cases hp
  · rw [h7] at hp; cases hp
  · rw [h6] at hp; cases hp
theorem z_clik (n : Nd) (hm : n.mid 70000) (h1 : n.me.id ≤ 18446744073709551615) (h2 : n.list = []) (h3 : n.jobs = []) (hc : 0 ≤ n.clock ∧ n.clock ≤ 1099511627776) : CliK n :=
  ⟨hm.le (by omega), h1, (fun p hp => by rw [h2] at hp; cases hp), hc, (fun p hp => by rw [h3] at hp; cases hp), (fun p hp => by rw [h3] at hp; cases hp)⟩
theorem e12 : fn C4 12 [] [] = some (.bool true, []) := by
  have m1 : ndR1.mid 70000 := (z_mid ndR1 rfl rfl rfl rfl rfl rfl rfl rfl rfl).le (by omega)
  have m2 : ndZ.mid 70000 := (z_mid ndZ rfl rfl rfl rfl rfl rfl rfl rfl rfl).le (by omega)
  have b1 := eBegin31 ndR1 1 [107] [118] (z_clik ndR1 m1 (by decide) rfl rfl (by decide)) m1 (by decide) (by decide) (by decide)
  have b2 := eBegin31 ndZ 1 [107] [118] (z_clik ndZ m2 (by decide) rfl rfl (by decide)) m2 (by decide) (by decide) (by decide)
  rw [w31a, w31b] at b1
  rw [begC, w31c, if_neg (by decide)] at b2
  simp only [aNd, tripB, Nd.cs, ndR1, ndR2, ndZ, enZ, jbZ, List.map_nil, List.map_cons, En.cs, It.cs, Rs.cs, Int.cast_ofNat_Int] at b1 b2
  rw [fn_text (C := C4) Tryz.func12 rfl rfl Tryz.results12 (show (C4).M.loc 12 = _ from fq12.1) rfl rfl (by kernel_rfl)]
  simp -implicitDefEqProofs -dsimp +contextual (maxSteps := 9999999) (disch := first | omega | simp only [go_sem] <;> omega | refine ib ?_; kernel_rfl) only [go_sem, seval, ↓reduceIte, b1, b2]
end Go.Proofs.YtnpkhdjgedeppaaGreatDoor
namespace Go.Proofs.YtnpkhdjgedeppaaGreatDoor
set_option maxHeartbeats 64000000
open Go.Am
set_option linter.unusedSimpArgs false
set_option linter.unusedVariables false
set_option maxRecDepth 100000
theorem e11 (n : Nd) (m : Ms) (h : m.fit) : fn C 11 [] [(aNd n), .agg [.int .i64 m.kind, .int .i64 m.rid, .int .i64 m.ver, .int .i64 m.err, .int .u64 (m.id : Int), .bool m.has, .bool m.gone, .str m.key, .str m.val, .slice 6 (m.ents.map En.cs), .slice 4 (m.items.map It.cs)]] = some (.bool (decide (n.clock < 0) || decide (1099511627776 < n.clock) || greatM m), []) := by
  rw [fn_text Tryz.func11 rfl rfl Tryz.results11 fq11.1 rfl rfl (by kernel_rfl)]
  simp -implicitDefEqProofs -dsimp +contextual (maxSteps := 9999999) (disch := first | omega | simp only [go_sem] <;> omega | refine ib ?_; kernel_rfl) only [go_sem, seval, ↓reduceIte]
  (repeat' (refine kD_intro (fun _ => ?_) (fun _ => ?_))) <;> exact Res_bool (by simp [*])
theorem greatZ : greatM msZ = false := rfl
theorem msZ_fit : msZ.fit := ⟨Nat.zero_le _, Nat.zero_le _, Nat.zero_le _, Nat.zero_le _, fun e he => by simp [msZ] at he, fun x hx => by simp [msZ] at hx⟩
theorem eHugeZ (n : Nd) : fn C 11 [] [(aNd n), .agg [.int .i64 0, .int .i64 0, .int .i64 0, .int .i64 0, .int .u64 0, .bool false, .bool false, .str [], .str [], .slice 6 [], .slice 4 []]] = some (.bool (decide (n.clock < 0) || decide (1099511627776 < n.clock)), []) := by
  have := e11 n msZ msZ_fit
  rw [greatZ, Bool.or_false] at this
  exact this
@[go_sem] theorem c4_l29_Great (ex ds) : fn C4 10 ex ds = fn C 10 ex ds := c4_c _ (by decide) ex ds
@[go_sem] theorem c4_l29_Huge (ex ds) : fn C4 11 ex ds = fn C 11 ex ds := c4_c _ (by decide) ex ds
@[go_sem] theorem c4_r29_Same (ex ds) : fn C4 18 ex ds = fn C 18 ex ds := c4_c _ (by decide) ex ds
@[go_sem] theorem c4_r29_Acts (ex ds) : fn C4 19 ex ds = fn C 19 ex ds := c4_c _ (by decide) ex ds
@[go_sem] theorem c4_r31_Begin (ex ds) : fn C4 15 ex ds = fn C 15 ex ds := c4_c _ (by decide) ex ds
@[go_sem] theorem c4_r31_Seek (ex ds) : fn C4 17 ex ds = fn C 17 ex ds := c4_c _ (by decide) ex ds
@[go_sem] theorem c4_r31_Late (ex ds) : fn C4 21 ex ds = fn C 21 ex ds := c4_c _ (by decide) ex ds
end Go.Proofs.YtnpkhdjgedeppaaGreatDoor
namespace Go.Proofs.YtnpkhdjgedeppaaGreatDoor
set_option maxHeartbeats 64000000
open Go.Am
set_option linter.unusedSimpArgs false
set_option linter.unusedVariables false
set_option maxRecDepth 100000
attribute [local irreducible] distR idB sumB
theorem findM_fit (k : List UInt8) : (findM k).fit := ⟨Nat.zero_le _, Nat.zero_le _, Nat.zero_le _, Nat.zero_le _, fun e he => by simp [findM, msZ] at he, fun x hx => by simp [findM, msZ] at hx⟩
theorem good_seekC {n : Nd} {k : Nat} (h : n.good k) (hk : 16 ≤ k) (i : Nat) (hi : i < n.jobs.length) (id : Int) (hj : n.jobs[i].key.length ≤ 9223372036854775807 ∧ n.jobs[i].val.length ≤ 9223372036854775807) : (seekC n i id).1.good (k + k + 2) ∧ ActG (k + k + 2) (seekC n i id).2 := by
  have ha := h.m.ja _ (List.getElem_mem hi)
  have hf := h.j _ (List.getElem_mem hi)
  unfold seekC
  rw [jobG_at hi]
  split
  · split
    · exact ⟨(good_settle _ _ _ _ h hk).le (by omega), ActG.nil _⟩
    · have b := good_begin n.jobs[i].key n.jobs[i].val (decide (n.jobs[i].kind = 2)) enZ 0 id hj.1 hj.2 (good_set i { n.jobs[i] with phase := 2 } h ha hf) hk
      exact ⟨b.1, b.2.le (by omega)⟩
  · exact ⟨(good_set i { n.jobs[i] with phase := 1, owner := _ } h ha hf).le (by omega), (ActG.one (findM_fit _)).le (by omega)⟩
theorem good_seekR {n : Nd} {k : Nat} (h : n.good k) (hk : 16 ≤ k) (id : Int) (hj : ∀ j ∈ n.jobs, j.key.length ≤ 9223372036854775807 ∧ j.val.length ≤ 9223372036854775807) : (seekR n id).1.good (k + k + 2) ∧ ActG (k + k + 2) (seekR n id).2 := by
  rcases cliP_cases n.jobs id with ⟨i, hi, _, _, _, hc⟩ | ⟨hc, _⟩
  · rw [seekR_at hc]
    exact good_seekC h hk i hi id (hj _ (List.getElem_mem hi))
  · rw [seekR_none hc]
    exact ⟨h.le (by omega), ActG.nil _⟩
theorem good_addC {n : Nd} {k : Nat} (kind : Int) (key val : List UInt8) (h : n.good k) : (addC n kind key val).good (k + 1) := by
  have m := h.m.le (show k ≤ k + 1 by omega)
  refine ⟨⟨m.pl, m.ll, m.fl, m.sl, m.dl, m.il, ?_, m.wl, m.rl, m.pe, m.pi, fun j hj => ?_, m.ik⟩, h.d, fun j hj => ?_⟩
  · have := h.m.jl
    show (n.jobs ++ [_]).length ≤ k + 1
    simp; omega
  · rcases List.mem_append.1 hj with hj | hj
    · exact m.ja j hj
    · rw [List.mem_singleton] at hj; rw [hj]; exact Nat.zero_le _
  · rcases List.mem_append.1 hj with hj | hj
    · exact h.j j hj
    · rw [List.mem_singleton] at hj; rw [hj]; exact ⟨Nat.zero_le _, Nat.zero_le _⟩
theorem good_begC {n : Nd} {k : Nat} (kind : Int) (key val : List UInt8) (h : n.good k) (hk : 16 ≤ k) (hj : ∀ j ∈ n.jobs, j.key.length ≤ 9223372036854775807 ∧ j.val.length ≤ 9223372036854775807) (h1 : key.length ≤ 9223372036854775807) (h2 : val.length ≤ 9223372036854775807) : (begC n kind key val).1.good (k + k + 4) ∧ ActG (k + k + 4) (begC n kind key val).2 := by
  unfold begC
  split
  · have b := good_seekR (good_addC kind key val h) (by omega) (nextI n.jobId) (fun j hj' => by
      rcases List.mem_append.1 hj' with hj' | hj'
      · exact hj j hj'
      · rw [List.mem_singleton] at hj'
        rw [hj']
        refine ⟨h1, ?_⟩
        show (if kind = 1 then val else []).length ≤ 9223372036854775807
        split
        · exact h2
        · exact Nat.zero_le _)
    exact ⟨b.1.le (by omega), b.2.le (by omega)⟩
  · exact ⟨h.le (by omega), ActG.nil _⟩
theorem good_lateC {n : Nd} {k : Nat} (h : n.good k) (hk : 16 ≤ k) : (lateC n).good k := by
  have hr := (lateP_len n k hk h.m.rl n.jobs.length (Nat.le_refl _)).2
  have e : (lateC n).results = (lateP n n.jobs.length).2 := by rw [lateP_end]
  rw [← e] at hr
  exact ⟨⟨h.m.pl, h.m.ll, h.m.fl, h.m.sl, h.m.dl, h.m.il, Nat.le_trans (List.length_filter_le ..) h.m.jl, h.m.wl, hr, h.m.pe, h.m.pi, fun j hj => h.m.ja j (List.mem_filter.1 hj).1, h.m.ik⟩, h.d, fun j hj => h.j j (List.mem_filter.1 hj).1⟩
theorem e3 (n : Nd) (kind : Int) (key val : List UInt8) (id : Int) (ho : n.ok) (hf : n.fit) (hk : key.length ≤ 9223372036854775807) (hv : val.length ≤ 9223372036854775807) : fn C4 3 [] [(aNd n), .int .i64 kind, .str key, .str val, .int .i64 id] = some (.bool true, []) := by
  have wk := e12
  have gr := e10 n hf
  have hu := eHugeZ n
  rcases Bool.eq_false_or_eq_true (greatN n) with g | g
  · rw [g] at gr
    rw [fn_text (C := C4) Tryz.func3 rfl rfl Tryz.results3 (show (C4).M.loc 3 = _ from fq3.1) rfl rfl (by kernel_rfl)]
    simp -implicitDefEqProofs -dsimp +contextual (maxSteps := 9999999) (disch := first | omega | simp only [go_sem] <;> omega | refine ib ?_; kernel_rfl) only [go_sem, seval, ↓reduceIte, wk, gr]
  rw [g] at gr
  by_cases hc : ¬ (0 ≤ n.clock ∧ n.clock ≤ 1099511627776)
  · rw [hugeT hc] at hu
    rw [fn_text (C := C4) Tryz.func3 rfl rfl Tryz.results3 (show (C4).M.loc 3 = _ from fq3.1) rfl rfl (by kernel_rfl)]
    simp -implicitDefEqProofs -dsimp +contextual (maxSteps := 9999999) (disch := first | omega | simp only [go_sem] <;> omega | refine ib ?_; kernel_rfl) only [go_sem, seval, ↓reduceIte, wk, gr, hu]
  have hc := Decidable.not_not.1 hc
  rw [hugeF hc] at hu
  by_cases hk3 : 300 < key.length
  · rw [fn_text (C := C4) Tryz.func3 rfl rfl Tryz.results3 (show (C4).M.loc 3 = _ from fq3.1) rfl rfl (by kernel_rfl)]
    simp -implicitDefEqProofs -dsimp +contextual (maxSteps := 9999999) (disch := first | omega | simp only [go_sem] <;> omega | refine ib ?_; kernel_rfl) only [go_sem, seval, ↓reduceIte, wk, gr, hu, hk3]
  by_cases hv3 : 300 < val.length
  · rw [fn_text (C := C4) Tryz.func3 rfl rfl Tryz.results3 (show (C4).M.loc 3 = _ from fq3.1) rfl rfl (by kernel_rfl)]
    simp -implicitDefEqProofs -dsimp +contextual (maxSteps := 9999999) (disch := first | omega | simp only [go_sem] <;> omega | refine ib ?_; kernel_rfl) only [go_sem, seval, ↓reduceIte, wk, gr, hu, hk3, hv3]
  have sm := greatN_no g
  have hmid := gN_mid g
  have gd := gN_good g hf
  have jq : ∀ j ∈ n.jobs, j.key.length ≤ 10000 ∧ j.val.length ≤ 10000 := fun j hj => ⟨Nat.le_trans (sm.j j hj).k (by omega), Nat.le_trans (sm.j j hj).v (by omega)⟩
  have jm : ∀ j ∈ n.jobs, j.key.length ≤ 9223372036854775807 ∧ j.val.length ≤ 9223372036854775807 := fun j hj => ⟨Nat.le_trans (jq j hj).1 (by decide), Nat.le_trans (jq j hj).2 (by decide)⟩
  have ck : CliK n := ⟨hmid.le (by omega), ho.me.id, fun p hp => (ho.list p hp).e.id, hc, jq, fun j hj => ⟨(ho.jobs j hj).tries.1, (ho.jobs j hj).hops.1⟩⟩
  have co : CliOk n := ⟨ck, ho.jobId⟩
  have cp := e13 n (hmid.le (by omega))
  have b1 := eBegin31 n kind key val ck (hmid.le (by omega)) (by omega) (by omega) ho.jobId.1
  have b2 := rBegin31 n kind key val co (hmid.le (by omega)) (by omega) (by omega)
  have s1 := eSeek n id ck
  have s2 := rSeekA n id co
  have l1 := eLateC n (hmid.le (by omega))
  have l2 := rLate n (hmid.le (by omega))
  have gb := good_begC kind key val gd (by omega) jm hk hv
  have gs := good_seekR gd (by omega) id jm
  have gl := good_lateC gd (by omega)
  have c0 := eSame n (hmid.cmp (by decide) hf.d)
  clear co ck jm jq sm gd
  generalize begC n kind key val = q1 at *
  generalize begE n kind key val = ev at *
  generalize seekR n id = q2 at *
  generalize lateC n = m3 at *
  obtain ⟨m1, a1⟩ := q1
  obtain ⟨m2, a2⟩ := q2
  have c1 := eSame m1 (gb.1.m.cmp (by decide) gb.1.d)
  have c2 := sameA a1 gb.2 (by decide)
  have c3 := eSame m2 (gs.1.m.cmp (by decide) gs.1.d)
  have c4 := sameA a2 gs.2 (by decide)
  have c5 := eSame m3 (gl.m.cmp (by decide) gl.d)
  unfold tripB at b1
  unfold tripC at b2
  unfold pairC at s2
  simp only [aNd, Nd.cs] at b1 b2 s1 s2 l1 l2
  rw [fn_text (C := C4) Tryz.func3 rfl rfl Tryz.results3 (show (C4).M.loc 3 = _ from fq3.1) rfl rfl (by kernel_rfl)]
  simp -implicitDefEqProofs -dsimp +contextual (maxSteps := 9999999) (disch := first | omega | simp only [go_sem] <;> omega | refine ib ?_; kernel_rfl) only [go_sem, seval, ↓reduceIte, wk, gr, hu, hk3, hv3, cp, b1, b2, s1, s2, l1, l2, c0, c1, c2, c3, c4, c5]
end Go.Proofs.YtnpkhdjgedeppaaGreatDoor
