import Derived.Test.YtccfjidpdlfenaaGreatDoorTOwn_concat
namespace Go.Proofs.YtccfjidpdlfenaaGreatDoor
open Go.Am
set_option linter.unusedSimpArgs false
set_option linter.unusedVariables false
set_option maxRecDepth 100000
/-! Layer 1: readers. -/
structure Rd where
  rest : List UInt8
  met : Int
def rawS (s : Rd) (n : Int) : List UInt8 × Rd :=
  if s.met = 0 then
    if n < 0 then ([], ⟨s.rest, 2⟩)
    else if n ≤ (s.rest.length : Int) then (s.rest.take n.toNat, ⟨s.rest.drop n.toNat, 0⟩)
    else ([], ⟨s.rest, 10⟩)
  else ([], s)
def numS (s : Rd) (n : Nat) : Nat × Rd := (beV (rawS s (n : Int)).1, (rawS s (n : Int)).2)
def textS (s : Rd) (most : Int) : List UInt8 × Rd :=
  if (numS s 2).2.met = 0 ∧ most < ((numS s 2).1 : Int) then ([], ⟨(numS s 2).2.rest, 3⟩) else rawS (numS s 2).2 ((numS s 2).1 : Int)
def openS (l : List UInt8) : Rd := ⟨l, 0⟩
def endS (s : Rd) : Int := if s.met = 0 ∧ s.rest ≠ [] then 12 else s.met
def leftS (s : Rd) : Nat := if s.met = 0 then s.rest.length else 0
theorem rawS_suf (s : Rd) (n : Int) : (rawS s n).2.rest = s.rest.drop (rawS s n).1.length := by
  unfold rawS
  split
  · split
    · rfl
    · split
      · simp only [List.length_take]; congr 1; omega
      · rfl
  · rfl
theorem rawS_le1 (s : Rd) (n : Int) : (rawS s n).1.length ≤ s.rest.length := by
  unfold rawS
  split
  · split
    · simp
    · split
      · simp [List.length_take]; omega
      · simp
  · simp
theorem rawS_len (s : Rd) (n : Int) : (rawS s n).1.length + (rawS s n).2.rest.length = s.rest.length := by
  have h := rawS_le1 s n
  rw [rawS_suf, List.length_drop]; omega
theorem rawS_most (s : Rd) (n : Nat) : (rawS s (n : Int)).1.length ≤ n := by
  unfold rawS
  split
  · split
    · simp
    · split
      · simp [List.length_take]; omega
      · simp
  · simp
theorem beV_le (l : List UInt8) (k : Nat) (h : l.length ≤ k) : beV l < 256 ^ k := Nat.lt_of_lt_of_le (beV_lt l) (Nat.pow_le_pow_right (by decide) h)
theorem beV_2 (l : List UInt8) (h : l.length ≤ 2) : beV l ≤ 65535 := by have := beV_le l 2 h; omega
theorem beV_8 (l : List UInt8) (h : l.length ≤ 8) : beV l ≤ 18446744073709551615 := by have := beV_le l 8 h; omega
theorem numS_lt (s : Rd) (k : Nat) : (numS s k).1 < 256 ^ k := beV_le _ _ (rawS_most s k)
/-- A reader of bytes: what is left is their end. -/
structure RdOf (B : List UInt8) (s : Rd) : Prop where
  le : s.rest.length ≤ B.length
  eq : B.drop (B.length - s.rest.length) = s.rest
def atS (B : List UInt8) (s : Rd) : Nat := B.length - s.rest.length
@[go_sem] theorem RdOf_open (B : List UInt8) : RdOf B (openS B) := ⟨Nat.le_refl _, by simp [openS]⟩
theorem RdOf.suf {B : List UInt8} {s t : Rd} (h : RdOf B s) (k : Nat) (hk : k ≤ s.rest.length) (e : t.rest = s.rest.drop k) : RdOf B t := by
  have h1 := h.le
  refine ⟨by rw [e, List.length_drop]; omega, ?_⟩
  rw [e, List.length_drop]
  conv => rhs; rw [← h.eq, List.drop_drop]
  congr 1; omega
@[go_sem] theorem RdOf_raw {B : List UInt8} {s : Rd} (n : Int) (h : RdOf B s) : RdOf B (rawS s n).2 := h.suf _ (rawS_le1 s n) (rawS_suf s n)
@[go_sem] theorem RdOf_num {B : List UInt8} {s : Rd} (n : Nat) (h : RdOf B s) : RdOf B (numS s n).2 := RdOf_raw (n : Int) h
@[go_sem] theorem RdOf_text {B : List UInt8} {s : Rd} (n : Int) (h : RdOf B s) : RdOf B (textS s n).2 := by
  unfold textS
  split
  · exact (RdOf_num 2 h).suf 0 (Nat.zero_le _) (by simp)
  · exact RdOf_raw _ (RdOf_num 2 h)
theorem rest_le (s : Rd) (n : Int) : (rawS s n).2.rest.length ≤ s.rest.length := by have := rawS_len s n; omega
theorem textS_le (s : Rd) (n : Int) : (textS s n).2.rest.length ≤ s.rest.length := by
  have h1 := rest_le s 2
  unfold textS
  split
  · exact h1
  · exact Nat.le_trans (rest_le _ _) h1
theorem textS_le1 (s : Rd) (n : Int) : (textS s n).1.length ≤ s.rest.length := by
  have h1 := rest_le s 2
  unfold textS
  split
  · simp
  · exact Nat.le_trans (rawS_le1 _ _) h1

@[go_sem] theorem e110 (r : List UInt8) (m : Int) : fn C 110 [] [.iptr [.str r, .int .i64 m]] = some (.bool (!decide (m = 0)), []) := by
  rw [fn_text Tryz.func110 rfl rfl Tryz.results110 fq110.1 rfl rfl (by kernel_rfl)]
  simp -implicitDefEqProofs -dsimp +contextual (maxSteps := 9999999) (disch := first | omega | simp only [go_sem] <;> omega | refine ib ?_; kernel_rfl) only [go_sem, seval, ↓reduceIte]

@[go_sem] theorem e111 (r : List UInt8) (m e : Int) : fn C 111 [] [.uptr [.str r, .int .i64 m], .int .i64 e] = some (.str [], [.uptr [.str r, .int .i64 e]]) := by
  rw [fn_text Tryz.func111 rfl rfl Tryz.results111 fq111.1 rfl rfl (by kernel_rfl)]
  simp -implicitDefEqProofs -dsimp +contextual (maxSteps := 9999999) (disch := first | omega | simp only [go_sem] <;> omega | refine ib ?_; kernel_rfl) only [go_sem, seval, ↓reduceIte]

@[go_sem] theorem e76 (l : List UInt8) (hl : l.length ≤ 1000000000) : fn C 76 [] [.slice 1 (l.map byteRow)] = some (.uptr [.str (openS l).rest, .int .i64 (openS l).met], []) := by
  rw [fn_text Tryz.func76 rfl rfl Tryz.results76 fq76.1 rfl rfl (by kernel_rfl)]
  simp -implicitDefEqProofs -dsimp +contextual (maxSteps := 9999999) (disch := first | omega | simp only [go_sem] <;> omega | refine ib ?_; kernel_rfl) only [go_sem, seval, ↓reduceIte]
  rfl

set_option maxHeartbeats 1000000 in
theorem packRaw (r : List UInt8) (m n : Int) (hl : r.length ≤ 1000000000) : fn C 112 [] [.uptr [.str r, .int .i64 m], .int .i64 n] = some (.str (rawS ⟨r, m⟩ n).1, [.uptr [.str (rawS ⟨r, m⟩ n).2.rest, .int .i64 (rawS ⟨r, m⟩ n).2.met]]) := by
  rw [fn_text Tryz.func112 rfl rfl Tryz.results112 fq112.1 rfl rfl (by kernel_rfl)]
  by_cases hm : m = 0
  · by_cases hn : n < 0
    · simp -implicitDefEqProofs -dsimp +contextual (maxSteps := 9999999) (disch := first | omega | simp only [go_sem] <;> omega | refine ib ?_; kernel_rfl) only [go_sem, seval, ↓reduceIte, hm, hn]
      simp [rawS, hn]
    · obtain ⟨k, rfl⟩ := Int.eq_ofNat_of_zero_le (show 0 ≤ n by omega)
      by_cases hk : r.length < k
      · simp -implicitDefEqProofs -dsimp +contextual (maxSteps := 9999999) (disch := first | omega | simp only [go_sem] <;> omega | refine ib ?_; kernel_rfl) only [go_sem, seval, ↓reduceIte, hm, hn, hk]
        simp [rawS, show ¬ k ≤ r.length by omega, show ¬ (k : Int) < 0 by omega]
      · simp -implicitDefEqProofs -dsimp +contextual (maxSteps := 9999999) (disch := first | omega | simp only [go_sem] <;> omega | refine ib ?_; kernel_rfl) only [go_sem, seval, ↓reduceIte, hm, hn, hk]
        simp [rawS, show k ≤ r.length by omega, show ¬ (k : Int) < 0 by omega]
  · simp -implicitDefEqProofs -dsimp +contextual (maxSteps := 9999999) (disch := first | omega | simp only [go_sem] <;> omega | refine ib ?_; kernel_rfl) only [go_sem, seval, ↓reduceIte, hm]
    simp [rawS, hm]

@[go_sem] theorem e112 (s : Rd) (n : Int) (hl : s.rest.length ≤ 1000000000) : fn C 112 [] [.uptr [.str s.rest, .int .i64 s.met], .int .i64 n] = some (.str (rawS s n).1, [.uptr [.str (rawS s n).2.rest, .int .i64 (rawS s n).2.met]]) := packRaw s.rest s.met n hl

theorem beV_step (l : List UInt8) (i : Nat) (h : i < l.length) (h8 : l.length ≤ 8) : beV (l.take i) < 72057594037927936 := by
  have h1 := beV_le (l.take i) 7 (by simp; omega)
  omega

set_option maxHeartbeats 2000000 in
theorem packRNum (s : Rd) (n : Nat) (h1 : 1 ≤ n) (h8 : n ≤ 8) (hl : s.rest.length ≤ 1000000000) : fn C 78 [] [.uptr [.str s.rest, .int .i64 s.met], .int .i64 (n : Int)] = some (.int .u64 ((numS s n).1 : Int), [.uptr [.str (numS s n).2.rest, .int .i64 (numS s n).2.met]]) := by
  rw [fn_text Tryz.func78 rfl rfl Tryz.results78 fq78.1 rfl rfl (by kernel_rfl)]
  have hb := rawS_most s n
  rw [numS]
  have hr := e112 s (n : Int) hl
  obtain ⟨r, m⟩ := s
  simp only at hr
  generalize rawS ⟨r, m⟩ (n : Int) = q at *
  obtain ⟨l, ⟨r', m'⟩⟩ := q
  simp only at hb hr
  rcases Decidable.em (m = 0) with rfl | hm
  all_goals
    first | simp -implicitDefEqProofs -dsimp +contextual (maxSteps := 9999999) (disch := first | omega | simp only [go_sem] <;> omega | refine ib ?_; kernel_rfl) only [go_sem, seval, ↓reduceIte, hm, hr, show l.length ≤ 9223372036854775807 by omega] | simp -implicitDefEqProofs -dsimp +contextual (maxSteps := 9999999) (disch := first | omega | simp only [go_sem] <;> omega | refine ib ?_; kernel_rfl) only [go_sem, seval, ↓reduceIte, hr, show ¬ n < 1 by omega, show ¬ 8 < n by omega, show l.length ≤ 9223372036854775807 by omega]
    refine (kLoop_rec (fun (i : Nat) f H => f 0 = .ptr 1 1 0 0 ∧ f 5 = .int .u64 ((beV (l.take i) : Nat) : Int) ∧ f 24 = .osl 124 1 0 l.length ∧ f 25 = .int .i64 (l.length : Int) ∧ f 26 = .int .i64 (i : Int) ∧ H 1 = ⟨1, .live, 2, [[.str r', .int .i64 m']], false⟩ ∧ H 124 = ⟨1, .live, 1, l.map byteRow, false⟩ ∧ i ≤ l.length) (fun i => l.length - i) (fun _ => some (.int .u64 ((beV l : Nat) : Int), [.uptr [.str r', .int .i64 m']])) ?_ 0 _ _ ?_)
    rotate_left
    · refine ⟨rfl, rfl, rfl, rfl, rfl, ?_, ?_, by omega⟩ <;> simp [Heap.set]
    rintro i f H ⟨f0, f5, f24, f25, f26, H1, H2, hi⟩ ih
    by_cases hl : i < l.length
    · have b1 := beV_step l i hl (by omega)
      have b2 := u8_lt l[i]
      have e1 := u64_shl8 E.P 22 .u64 _ b1
      have e2 := u64_or8 E.P 22 (beV (l.take i)) l[i].toUInt64.toNat (by omega) (by rw [UInt8.toNat_toUInt64]; exact b2)
      rw [show beV (l.take i) * 256 + l[i].toUInt64.toNat = beV (l.take (i + 1)) by rw [UInt8.toNat_toUInt64, beV_take l i hl]] at e2
      simp -implicitDefEqProofs -dsimp +contextual (maxSteps := 9999999) (disch := first | omega | simp only [go_sem] <;> omega | refine ib ?_; kernel_rfl) only [go_sem, seval, ↓reduceIte, f0, f5, f24, f25, f26, H1, H2, hl, e1, e2]
      refine ih (i + 1) _ _ ?_ (by omega)
      exact ⟨f0, rfl, f24, f25, rfl, H1, H2, by omega⟩
    · obtain rfl : i = l.length := by omega
      rw [List.take_length] at f5
      simp -implicitDefEqProofs -dsimp +contextual (maxSteps := 9999999) (disch := first | omega | simp only [go_sem] <;> omega | refine ib ?_; kernel_rfl) only [go_sem, seval, ↓reduceIte, f0, f5, f24, f25, f26, H1, H2]

@[go_sem] theorem e49 (l : List UInt8) (hl : l.length ≤ 1000000000) : fn C 49 [] [.slice 1 (l.map byteRow)] = some (.uptr [.slice 1 (l.map byteRow), .int .i64 ((atS l (openS l) : Nat) : Int), .int .i64 (openS l).met], []) := by
  rw [fn_text Tryz.func49 rfl rfl Tryz.results49 fq49.1 rfl rfl (by kernel_rfl)]
  simp -implicitDefEqProofs -dsimp +contextual (maxSteps := 9999999) (disch := first | omega | simp only [go_sem] <;> omega | refine ib ?_; kernel_rfl) only [go_sem, seval, ↓reduceIte]
  simp [atS, openS]

set_option maxHeartbeats 1000000 in
theorem refRaw (B : List UInt8) (a : Nat) (m n : Int) (ha : a ≤ B.length) (hl : B.length ≤ 1000000000) : fn C 82 [] [.uptr [.slice 1 (B.map byteRow), .int .i64 (a : Int), .int .i64 m], .int .i64 n] = some (.str (rawS ⟨B.drop a, m⟩ n).1, [.uptr [.slice 1 (B.map byteRow), .int .i64 ((a + (rawS ⟨B.drop a, m⟩ n).1.length : Nat) : Int), .int .i64 (rawS ⟨B.drop a, m⟩ n).2.met]]) := by
  rw [fn_text Tryz.func82 rfl rfl Tryz.results82 fq82.1 rfl rfl (by kernel_rfl)]
  by_cases hm : m = 0
  · by_cases hn : n < 0
    · simp -implicitDefEqProofs -dsimp +contextual (maxSteps := 9999999) (disch := first | omega | simp only [go_sem] <;> omega | refine ib ?_; kernel_rfl) only [go_sem, seval, ↓reduceIte, hm, hn]
      simp [rawS, hn]
    · obtain ⟨k, rfl⟩ := Int.eq_ofNat_of_zero_le (show 0 ≤ n by omega)
      by_cases hk : (B.length : Int) - a < k
      · simp -implicitDefEqProofs -dsimp +contextual (maxSteps := 9999999) (disch := first | omega | simp only [go_sem] <;> omega | refine ib ?_; kernel_rfl) only [go_sem, seval, ↓reduceIte, hm, hn, hk]
        simp [rawS, show ¬ k ≤ B.length - a by omega, show ¬ (k : Int) < 0 by omega]
      · simp -implicitDefEqProofs -dsimp +contextual (maxSteps := 9999999) (disch := first | omega | simp only [go_sem] <;> omega | refine ib ?_; kernel_rfl) only [go_sem, seval, ↓reduceIte, hm, hn, hk]
        simp [rawS, show k ≤ B.length - a by omega, show ¬ (k : Int) < 0 by omega]
  · simp -implicitDefEqProofs -dsimp +contextual (maxSteps := 9999999) (disch := first | omega | simp only [go_sem] <;> omega | refine ib ?_; kernel_rfl) only [go_sem, seval, ↓reduceIte, hm]
    simp [rawS, hm]
theorem atS_suf {B : List UInt8} {s : Rd} (h : RdOf B s) (n : Int) : atS B (rawS s n).2 = atS B s + (rawS s n).1.length := by
  have h1 := h.le
  have h2 := rawS_len s n
  unfold atS; omega

@[go_sem] theorem e82 (B : List UInt8) (s : Rd) (n : Int) (h : RdOf B s) (hl : B.length ≤ 1000000000) : fn C 82 [] [.uptr [.slice 1 (B.map byteRow), .int .i64 ((atS B s : Nat) : Int), .int .i64 s.met], .int .i64 n] = some (.str (rawS s n).1, [.uptr [.slice 1 (B.map byteRow), .int .i64 ((atS B (rawS s n).2 : Nat) : Int), .int .i64 (rawS s n).2.met]]) := by
  have e := refRaw B (atS B s) s.met n (by unfold atS; omega) hl
  rw [show (⟨B.drop (atS B s), s.met⟩ : Rd) = s by rw [atS, h.eq]] at e
  rw [e, atS_suf h]

set_option maxHeartbeats 2000000 in
theorem refRNum (B : List UInt8) (s : Rd) (n : Nat) (h1 : 1 ≤ n) (h8 : n ≤ 8) (h : RdOf B s) (hl : B.length ≤ 1000000000) : fn C 50 [] [.uptr [.slice 1 (B.map byteRow), .int .i64 ((atS B s : Nat) : Int), .int .i64 s.met], .int .i64 (n : Int)] = some (.int .u64 ((numS s n).1 : Int), [.uptr [.slice 1 (B.map byteRow), .int .i64 ((atS B (numS s n).2 : Nat) : Int), .int .i64 (numS s n).2.met]]) := by
  rw [fn_text Tryz.func50 rfl rfl Tryz.results50 fq50.1 rfl rfl (by kernel_rfl)]
  have hb := rawS_most s n
  rw [numS]
  have hr := e82 B s (n : Int) h hl
  have ha : atS B s ≤ B.length := by unfold atS; omega
  generalize atS B s = a at *
  obtain ⟨r, m⟩ := s
  simp only at hr
  have ha2 : atS B (rawS ⟨r, m⟩ (n : Int)).2 ≤ B.length := by unfold atS; omega
  generalize atS B (rawS ⟨r, m⟩ (n : Int)).2 = a2 at *
  generalize rawS ⟨r, m⟩ (n : Int) = q at *
  obtain ⟨l, ⟨r', m'⟩⟩ := q
  simp only at hb hr
  rcases Decidable.em (m = 0) with rfl | hm
  all_goals
    first | simp -implicitDefEqProofs -dsimp +contextual (maxSteps := 9999999) (disch := first | omega | simp only [go_sem] <;> omega | refine ib ?_; kernel_rfl) only [go_sem, seval, ↓reduceIte, hm, hr, show l.length ≤ 9223372036854775807 by omega] | simp -implicitDefEqProofs -dsimp +contextual (maxSteps := 9999999) (disch := first | omega | simp only [go_sem] <;> omega | refine ib ?_; kernel_rfl) only [go_sem, seval, ↓reduceIte, hr, show ¬ n < 1 by omega, show ¬ 8 < n by omega, show l.length ≤ 9223372036854775807 by omega]
    refine (kLoop_rec (fun (i : Nat) f H => f 0 = .ptr 1 1 0 0 ∧ f 5 = .str l ∧ f 6 = .int .u64 ((beV (l.take i) : Nat) : Int) ∧ f 7 = .int .i64 (i : Int) ∧ H 1 = ⟨1, .live, 3, [[.slice 1 (B.map byteRow), .int .i64 (a2 : Int), .int .i64 m']], false⟩ ∧ i ≤ l.length) (fun i => l.length - i) (fun _ => some (.int .u64 ((beV l : Nat) : Int), [.uptr [.slice 1 (B.map byteRow), .int .i64 (a2 : Int), .int .i64 m']])) ?_ 0 _ _ ?_)
    rotate_left
    · refine ⟨rfl, rfl, rfl, rfl, ?_, by omega⟩; simp [Heap.set]
    rintro i f H ⟨f0, f5, f6, f7, H1, hi⟩ ih
    by_cases hl : i < l.length
    · have b1 := beV_step l i hl (by omega)
      have b2 := u8_lt l[i]
      have e2 := beV_take l i hl
      have b3 : beV (l.take i) * 256 + l[i].toNat ≤ 18446744073709551615 := by omega
      have hw : IntKind.u64.wrap ((beV (l.take i) * 256 + l[i].toUInt64.toNat : Nat) : Int) = ((beV (l.take (i + 1)) : Nat) : Int) := by
        rw [e2, UInt8.toNat_toUInt64]; exact wrap_u64_id (by omega) (by omega)
      simp -implicitDefEqProofs -dsimp +contextual (maxSteps := 9999999) (disch := first | omega | simp only [go_sem] <;> omega | refine ib ?_; kernel_rfl) only [go_sem, seval, ↓reduceIte, f0, f5, f6, f7, H1, hl, hw]
      refine ih (i + 1) _ _ ?_ (by omega)
      exact ⟨f0, f5, rfl, rfl, H1, by omega⟩
    · obtain rfl : i = l.length := by omega
      rw [List.take_length] at f6
      simp -implicitDefEqProofs -dsimp +contextual (maxSteps := 9999999) (disch := first | omega | simp only [go_sem] <;> omega | refine ib ?_; kernel_rfl) only [go_sem, seval, ↓reduceIte, f0, f5, f6, f7, H1]

@[go_sem] theorem packRNum_lit (s : Rd) (n : Nat) (h1 : 1 ≤ OfNat.ofNat n) (h8 : OfNat.ofNat n ≤ 8) (hl : s.rest.length ≤ 1000000000) : fn C 78 [] [.uptr [.str s.rest, .int .i64 s.met], .int .i64 (no_index (OfNat.ofNat n : Int))] = some (.int .u64 ((numS s (OfNat.ofNat n)).1 : Int), [.uptr [.str (numS s (OfNat.ofNat n)).2.rest, .int .i64 (numS s (OfNat.ofNat n)).2.met]]) := packRNum s (OfNat.ofNat n) h1 h8 hl
@[go_sem] theorem refRNum_lit (B : List UInt8) (s : Rd) (n : Nat) (h1 : 1 ≤ OfNat.ofNat n) (h8 : OfNat.ofNat n ≤ 8) (h : RdOf B s) (hl : B.length ≤ 1000000000) : fn C 50 [] [.uptr [.slice 1 (B.map byteRow), .int .i64 ((atS B s : Nat) : Int), .int .i64 s.met], .int .i64 (no_index (OfNat.ofNat n : Int))] = some (.int .u64 ((numS s (OfNat.ofNat n)).1 : Int), [.uptr [.slice 1 (B.map byteRow), .int .i64 ((atS B (numS s (OfNat.ofNat n)).2 : Nat) : Int), .int .i64 (numS s (OfNat.ofNat n)).2.met]]) := refRNum B s (OfNat.ofNat n) h1 h8 h hl
theorem numS_rest (s : Rd) (n : Nat) : (numS s n).2.rest.length ≤ s.rest.length := rest_le s n
theorem RdOf.len {B : List UInt8} {s : Rd} (h : RdOf B s) : atS B s + s.rest.length = B.length := by have := h.le; unfold atS; omega

theorem numS_ok (l : List UInt8) (n : Nat) (h : n ≤ l.length) : numS ⟨l, 0⟩ n = (beV (l.take n), ⟨l.drop n, 0⟩) := by
  simp [numS, rawS, h, show ¬ (n : Int) < 0 by omega]
theorem numS_2 (s : Rd) : (numS s 2).1 ≤ 65535 := by have := numS_lt s 2; omega

set_option maxHeartbeats 2000000 in
@[go_sem] theorem e77 (s : Rd) (k : Int) (hl : s.rest.length ≤ 1000000000) : fn C 77 [] [.uptr [.str s.rest, .int .i64 s.met], .int .i64 k] = some (.str (textS s k).1, [.uptr [.str (textS s k).2.rest, .int .i64 (textS s k).2.met]]) := by
  rw [fn_text Tryz.func77 rfl rfl Tryz.results77 fq77.1 rfl rfl (by kernel_rfl)]
  have h3 := numS_rest s 2
  have h5 := numS_2 s
  rw [textS]
  by_cases hm : (numS s 2).2.met = 0
  · by_cases hk : k < ((numS s 2).1 : Int)
    · simp -implicitDefEqProofs -dsimp +contextual (maxSteps := 9999999) (disch := first | omega | simp only [go_sem] <;> omega | refine ib ?_; kernel_rfl) only [go_sem, seval, ↓reduceIte, hm, hk]
    · have h4 := e112 (numS s 2).2 ((numS s 2).1 : Int) (by omega)
      rw [hm] at h4
      simp -implicitDefEqProofs -dsimp +contextual (maxSteps := 9999999) (disch := first | omega | simp only [go_sem] <;> omega | refine ib ?_; kernel_rfl) only [go_sem, seval, ↓reduceIte, hm, hk, h4]
  · simp -implicitDefEqProofs -dsimp +contextual (maxSteps := 9999999) (disch := first | omega | simp only [go_sem] <;> omega | refine ib ?_; kernel_rfl) only [go_sem, seval, ↓reduceIte, hm]

set_option maxHeartbeats 2000000 in
@[go_sem] theorem e51 (B : List UInt8) (s : Rd) (k : Int) (h : RdOf B s) (hl : B.length ≤ 1000000000) : fn C 51 [] [.uptr [.slice 1 (B.map byteRow), .int .i64 ((atS B s : Nat) : Int), .int .i64 s.met], .int .i64 k] = some (.str (textS s k).1, [.uptr [.slice 1 (B.map byteRow), .int .i64 ((atS B (textS s k).2 : Nat) : Int), .int .i64 (textS s k).2.met]]) := by
  rw [fn_text Tryz.func51 rfl rfl Tryz.results51 fq51.1 rfl rfl (by kernel_rfl)]
  have h3 := RdOf_num 2 h
  have h5 := numS_2 s
  rw [textS]
  by_cases hm : (numS s 2).2.met = 0
  · by_cases hk : k < ((numS s 2).1 : Int)
    · have h6 : fn C 82 [] [.uptr [.slice 1 (B.map byteRow), .int .i64 ((atS B (numS s 2).2 : Nat) : Int), .int .i64 3], .int .i64 ((numS s 2).1 : Int)] = some (.str [], [.uptr [.slice 1 (B.map byteRow), .int .i64 ((atS B (numS s 2).2 : Nat) : Int), .int .i64 3]]) := by
        have h := e82 B ⟨(numS s 2).2.rest, 3⟩ ((numS s 2).1 : Int) ⟨h3.le, h3.eq⟩ hl
        simp only [rawS, show ¬ (3 : Int) = 0 by decide, if_false] at h
        exact h
      simp -implicitDefEqProofs -dsimp +contextual (maxSteps := 9999999) (disch := first | omega | simp only [go_sem] <;> omega | refine ib ?_; kernel_rfl) only [go_sem, seval, ↓reduceIte, hm, hk, h6]
      rfl
    · have h4 := e82 B (numS s 2).2 ((numS s 2).1 : Int) h3 hl
      rw [hm] at h4
      simp -implicitDefEqProofs -dsimp +contextual (maxSteps := 9999999) (disch := first | omega | simp only [go_sem] <;> omega | refine ib ?_; kernel_rfl) only [go_sem, seval, ↓reduceIte, hm, hk, h4]
  · simp -implicitDefEqProofs -dsimp +contextual (maxSteps := 9999999) (disch := first | omega | simp only [go_sem] <;> omega | refine ib ?_; kernel_rfl) only [go_sem, seval, ↓reduceIte, hm]

@[go_sem] theorem e80 (s : Rd) (hl : s.rest.length ≤ 1000000000) : fn C 80 [] [.iptr [.str s.rest, .int .i64 s.met]] = some (.int .i64 ((leftS s : Nat) : Int), []) := by
  rw [fn_text Tryz.func80 rfl rfl Tryz.results80 fq80.1 rfl rfl (by kernel_rfl)]
  by_cases hm : s.met = 0
  · simp -implicitDefEqProofs -dsimp +contextual (maxSteps := 9999999) (disch := first | omega | simp only [go_sem] <;> omega | refine ib ?_; kernel_rfl) only [go_sem, seval, ↓reduceIte, hm]
    simp [leftS, hm]
  · simp -implicitDefEqProofs -dsimp +contextual (maxSteps := 9999999) (disch := first | omega | simp only [go_sem] <;> omega | refine ib ?_; kernel_rfl) only [go_sem, seval, ↓reduceIte, hm]
    simp [leftS, hm]

@[go_sem] theorem e79 (s : Rd) (hl : s.rest.length ≤ 1000000000) : fn C 79 [] [.iptr [.str s.rest, .int .i64 s.met]] = some (.int .i64 (endS s), []) := by
  rw [fn_text Tryz.func79 rfl rfl Tryz.results79 fq79.1 rfl rfl (by kernel_rfl)]
  by_cases hm : s.met = 0
  · by_cases hr : s.rest = []
    · simp -implicitDefEqProofs -dsimp +contextual (maxSteps := 9999999) (disch := first | omega | simp only [go_sem] <;> omega | refine ib ?_; kernel_rfl) only [go_sem, seval, ↓reduceIte, hm, hr]
      simp [endS, hm, hr]
    · simp -implicitDefEqProofs -dsimp +contextual (maxSteps := 9999999) (disch := first | omega | simp only [go_sem] <;> omega | refine ib ?_; kernel_rfl) only [go_sem, seval, ↓reduceIte, hm, hr]
      simp [endS, hm, hr]
  · simp -implicitDefEqProofs -dsimp +contextual (maxSteps := 9999999) (disch := first | omega | simp only [go_sem] <;> omega | refine ib ?_; kernel_rfl) only [go_sem, seval, ↓reduceIte, hm]
    simp [endS, hm]

@[go_sem] theorem e52 (B : List UInt8) (s : Rd) (h : RdOf B s) (hl : B.length ≤ 1000000000) : fn C 52 [] [.iptr [.slice 1 (B.map byteRow), .int .i64 ((atS B s : Nat) : Int), .int .i64 s.met]] = some (.int .i64 (endS s), []) := by
  rw [fn_text Tryz.func52 rfl rfl Tryz.results52 fq52.1 rfl rfl (by kernel_rfl)]
  have := h.len
  by_cases hm : s.met = 0
  · by_cases hr : s.rest = []
    · have h0 : ¬ atS B s < B.length := by rw [hr] at this; simp at this; omega
      simp -implicitDefEqProofs -dsimp +contextual (maxSteps := 9999999) (disch := first | omega | simp only [go_sem] <;> omega | refine ib ?_; kernel_rfl) only [go_sem, seval, ↓reduceIte, hm, h0]
      simp [endS, hm, hr]
    · have h0 : atS B s < B.length := by have := List.length_pos_iff.2 hr; omega
      simp -implicitDefEqProofs -dsimp +contextual (maxSteps := 9999999) (disch := first | omega | simp only [go_sem] <;> omega | refine ib ?_; kernel_rfl) only [go_sem, seval, ↓reduceIte, hm, h0]
      simp [endS, hm, hr]
  · simp -implicitDefEqProofs -dsimp +contextual (maxSteps := 9999999) (disch := first | omega | simp only [go_sem] <;> omega | refine ib ?_; kernel_rfl) only [go_sem, seval, ↓reduceIte, hm]
    simp [endS, hm]

end Go.Proofs.YtccfjidpdlfenaaGreatDoor
namespace Go.Proofs.YtccfjidpdlfenaaGreatDoor
open Go.Am
set_option linter.unusedSimpArgs false
set_option linter.unusedVariables false
set_option maxRecDepth 100000
/-! Layer 1: what was written is read. -/
theorem beV_app (a b : List UInt8) : beV (a ++ b) = beV a * 256 ^ b.length + beV b := by
  have : ∀ (b : List UInt8) (n : Nat), b.foldl (fun n c => n * 256 + c.toNat) n = n * 256 ^ b.length + b.foldl (fun n c => n * 256 + c.toNat) 0 := by
    intro b
    induction b with
    | nil => intro n; simp
    | cons x b ih =>
      intro n
      rw [List.foldl_cons, ih, List.foldl_cons, ih (0 * 256 + x.toNat), List.length_cons, Nat.pow_succ, Nat.add_mul, Nat.zero_mul, Nat.zero_add, Nat.mul_assoc, Nat.mul_comm 256, Nat.add_assoc]
  unfold beV
  rw [List.foldl_append, this]
theorem beN_succ (s n : Nat) : beN (s + 1) n = beN s (n / 256) ++ [UInt8.ofNat n] := by
  unfold beN
  rw [List.range_succ, List.map_append]
  congr 1
  · apply List.map_congr_left
    intro i hi
    have := List.mem_range.1 hi
    rw [Nat.div_div_eq_div_mul, show 256 * 2 ^ (8 * (s - 1 - i)) = 2 ^ (8 * (s + 1 - 1 - i)) by rw [show 8 * (s + 1 - 1 - i) = 8 + 8 * (s - 1 - i) by omega, Nat.pow_add]]
  · simp
theorem beV_beNs (s n : Nat) : beV (beN s n) = n % 256 ^ s := by
  induction s generalizing n with
  | zero => simp [beN, beV, Nat.mod_one]
  | succ s ih =>
    rw [beN_succ, beV_app, ih]
    simp only [List.length_cons, List.length_nil, beV, List.foldl_cons, List.foldl_nil]
    rw [show 256 ^ (s + 1) = 256 * 256 ^ s by rw [Nat.pow_succ, Nat.mul_comm], Nat.mod_mul, show (UInt8.ofNat n).toNat = n % 256 by simp]
    omega
theorem u64V_id (n : Int) (h : 0 ≤ n) (h2 : n ≤ 9223372036854775807) : u64V n = n.toNat := by unfold u64V; omega
theorem take_pre (a b : List UInt8) (n : Nat) (hn : a.length = n) : (a ++ b).take n = a := by rw [List.take_append_of_le_length (by omega), List.take_of_length_le (by omega)]
theorem drop_pre (a b : List UInt8) (n : Nat) (hn : a.length = n) : (a ++ b).drop n = b := by rw [← hn, List.drop_left]
theorem numS_back (k n : Nat) (r : List UInt8) (h : n < 256 ^ k) : numS ⟨beN k n ++ r, 0⟩ k = (n, ⟨r, 0⟩) := by
  rw [numS_ok _ _ (by simp [beN_len]), take_pre _ _ _ (beN_len _ _), drop_pre _ _ _ (beN_len _ _), beV_beNs, Nat.mod_eq_of_lt h]
theorem rawS_back (s r : List UInt8) : rawS ⟨s ++ r, 0⟩ (s.length : Int) = (s, ⟨r, 0⟩) := by
  unfold rawS
  rw [if_pos rfl, if_neg (by omega), if_pos (by simp; omega)]
  simp
theorem textS_back (s r : List UInt8) (k : Nat) (h : s.length ≤ k) (h2 : s.length ≤ 65535) : textS ⟨textB s ++ r, 0⟩ (k : Int) = (s, ⟨r, 0⟩) := by
  have e : numS ⟨textB s ++ r, 0⟩ 2 = (s.length, ⟨s ++ r, 0⟩) := by
    rw [textB, List.append_assoc, numS_back 2 s.length _ (by omega)]
  rw [textS, e, if_neg (by simp only; omega), rawS_back]

end Go.Proofs.YtccfjidpdlfenaaGreatDoor
namespace Go.Proofs.YtccfjidpdlfenaaGreatDoor
open Go.Am
set_option linter.unusedSimpArgs false
set_option linter.unusedVariables false
set_option maxRecDepth 100000
/-! Layer 49: vaults. -/
structure Vt where
  owner : List UInt8
  n : Nat
  items : List It
def titleV : List UInt8 := [99, 97, 114, 99, 97, 110, 101, 116, 32, 118, 97, 117, 108, 116]
@[go_sem] theorem titleV_len : titleV.length = 14 := rfl
theorem titleV_fold : ([99, 97, 114, 99, 97, 110, 101, 116, 32, 118, 97, 117, 108, 116] : List UInt8) = titleV := rfl
def vrightB (v : Vt) : Bool := rightR v.items && decide (v.owner.length ≤ 16)
def vheadB (v : Vt) : List UInt8 := textB titleV ++ textB v.owner ++ beN 8 v.n
@[go_sem] theorem vheadB_len (v : Vt) : (vheadB v).length = v.owner.length + 26 := by simp [vheadB, textB_len, titleV_len, beN_len]; omega
def goneN (g : Bool) : Nat := if g = true then 1 else 0
def itB (x : It) : List UInt8 := textB x.k ++ textB x.v ++ beN 4 (u64V x.n) ++ beN 1 (goneN x.g)
@[go_sem] theorem itB_len (x : It) : (itB x).length = x.k.length + x.v.length + 9 := by simp [itB, textB_len, beN_len]; omega
def vtextB (l : List It) : List UInt8 := UInt8.ofNat l.length :: l.flatMap itB
theorem flat_le (l : List It) (h : ∀ x ∈ l, x.k.length ≤ 300 ∧ x.v.length ≤ 300) : (l.flatMap itB).length ≤ l.length * 609 := by
  induction l with
  | nil => simp
  | cons x l ih =>
    have h1 := h x (by simp)
    have h2 := ih fun y hy => h y (by simp [hy])
    rw [List.flatMap_cons, List.length_append, itB_len, List.length_cons]
    omega

@[go_sem] theorem e14 (v : Vt) (hl : v.items.length ≤ 9223372036854775807) (hk : ∀ x ∈ v.items, x.k.length ≤ 9223372036854775807) : fn C 14 [] [.agg [.str v.owner, .int .u64 (v.n : Int), .slice 4 (v.items.map It.cs)]] = some (.bool (vrightB v), []) := by
  rw [fn_text Tryz.func14 rfl rfl Tryz.results14 fq14.1 rfl rfl (by kernel_rfl)]
  have e := e39 v.items hl hk
  rw [vrightB]
  by_cases h : rightR v.items = true
  · simp -implicitDefEqProofs -dsimp +contextual (maxSteps := 9999999) (disch := first | omega | simp only [go_sem] <;> omega | refine ib ?_; kernel_rfl) only [go_sem, seval, ↓reduceIte, e, h]
  · simp -implicitDefEqProofs -dsimp +contextual (maxSteps := 9999999) (disch := first | omega | simp only [go_sem] <;> omega | refine ib ?_; kernel_rfl) only [go_sem, seval, ↓reduceIte, e, h]

@[go_sem] theorem e15 (v : Vt) (hl : v.items.length ≤ 9223372036854775807) (hk : ∀ x ∈ v.items, x.k.length ≤ 9223372036854775807) : fn C 15 [] [.agg [.str v.owner, .int .u64 (v.n : Int), .slice 4 (v.items.map It.cs)]] = some (.bool (vrightB v), []) := by
  rw [fn_text Tryz.func15 rfl rfl Tryz.results15 fq15.1 rfl rfl (by kernel_rfl)]
  have e := e40 v.items hl hk
  rw [vrightB, show decide (v.owner.length ≤ 16) = decide (v.owner.length < 17) from decide_eq_decide.2 (by omega)]
  by_cases h : rightR v.items = true
  · simp -implicitDefEqProofs -dsimp +contextual (maxSteps := 9999999) (disch := first | omega | simp only [go_sem] <;> omega | refine ib ?_; kernel_rfl) only [go_sem, seval, ↓reduceIte, e, h]
  · simp -implicitDefEqProofs -dsimp +contextual (maxSteps := 9999999) (disch := first | omega | simp only [go_sem] <;> omega | refine ib ?_; kernel_rfl) only [go_sem, seval, ↓reduceIte, e, h]

@[go_sem] theorem e12 (v : Vt) (hn : v.n ≤ 18446744073709551615) (ho : v.owner.length ≤ 65535) : fn C 12 [] [.agg [.str v.owner, .int .u64 (v.n : Int), .slice 4 (v.items.map It.cs)]] = some (.usl 1 ((vheadB v).map byteRow), []) := by
  rw [fn_text Tryz.func12 rfl rfl Tryz.results12 fq12.1 rfl rfl (by kernel_rfl)]
  simp -implicitDefEqProofs -dsimp +contextual (maxSteps := 9999999) (disch := first | omega | simp only [go_sem] <;> omega | refine ib ?_; kernel_rfl) only [go_sem, seval, ↓reduceIte, titleV_fold]
  rfl

@[go_sem] theorem e13 (v : Vt) (hn : v.n ≤ 18446744073709551615) (ho : v.owner.length ≤ 65535) : fn C 13 [] [.agg [.str v.owner, .int .u64 (v.n : Int), .slice 4 (v.items.map It.cs)]] = some (.usl 1 ((vheadB v).map byteRow), []) := by
  rw [fn_text Tryz.func13 rfl rfl Tryz.results13 fq13.1 rfl rfl (by kernel_rfl)]
  simp -implicitDefEqProofs -dsimp +contextual (maxSteps := 9999999) (disch := first | omega | simp only [go_sem] <;> omega | refine ib ?_; kernel_rfl) only [go_sem, seval, ↓reduceIte, titleV_fold]
  rfl

theorem len_row (n : Nat) (h : n ≤ 60) : [[AVal.int .u8 (n : Int)]] = [UInt8.ofNat n].map byteRow := by
  simp [byteRow]; omega
def vtextN (n : Nat) (l : List It) : List UInt8 := UInt8.ofNat n :: l.flatMap itB
theorem vtextN_len (n : Nat) (l : List It) : (vtextN n l).length = 1 + (l.flatMap itB).length := by simp [vtextN]; omega
theorem vtextN_step (n : Nat) (l : List It) (i : Nat) (h : i < l.length) : vtextN n (l.take (i + 1)) = vtextN n (l.take i) ++ (textB l[i].k ++ textB l[i].v ++ beN 4 (u64V l[i].n) ++ beN 1 (goneN l[i].g)) := by
  rw [List.take_succ_eq_append_getElem h, vtextN, List.flatMap_append, List.flatMap_singleton, vtextN, List.cons_append]; rfl

theorem row0v (l : List UInt8) : l.map byteRow ++ [[AVal.int .u8 0]] = (l ++ beN 1 0).map byteRow := by rw [List.map_append]; rfl
theorem row1v (l : List UInt8) : l.map byteRow ++ [[AVal.int .u8 1]] = (l ++ beN 1 1).map byteRow := by rw [List.map_append]; rfl

theorem packNum_01 (l : List UInt8) (hl : l.length ≤ 1000000000) : fn C 35 [] [.usl 1 (l.map byteRow), .int .u64 0, .int .i64 1] = some (.usl 1 ((l ++ beN 1 0).map byteRow), []) := packNum [] (.inl rfl) l 0 1 (by decide) (by decide) (by decide) hl
theorem packNum_11 (l : List UInt8) (hl : l.length ≤ 1000000000) : fn C 35 [] [.usl 1 (l.map byteRow), .int .u64 1, .int .i64 1] = some (.usl 1 ((l ++ beN 1 1).map byteRow), []) := packNum [] (.inl rfl) l 1 1 (by decide) (by decide) (by decide) hl

set_option maxHeartbeats 4000000 in
@[go_sem] theorem e30 (l : List It) (hl : l.length ≤ 60) (hk : ∀ x ∈ l, x.k.length ≤ 300 ∧ x.v.length ≤ 300) : fn C 30 [] [.slice 4 (l.map It.cs)] = some (.slice 1 ((vtextB l).map byteRow), []) := by
  rw [fn_text Tryz.func30 rfl rfl Tryz.results30 fq30.1 rfl rfl (by kernel_rfl)]
  simp -implicitDefEqProofs -dsimp +contextual (maxSteps := 9999999) (disch := first | omega | simp only [go_sem] <;> omega | refine ib ?_; kernel_rfl) only [go_sem, seval, ↓reduceIte]
  rw [len_row l.length hl]
  refine kLoop_rec (fun (i : Nat) f H => f 11 = .slice 4 (l.map It.cs) ∧ f 12 = .int .i64 (l.length : Int) ∧ f 13 = .int .i64 (i : Int) ∧ (∃ o g, (o = 110 ∨ o = 132) ∧ f 3 = .osl o g 0 (vtextN l.length (l.take i)).length ∧ H o = ⟨g, .live, 1, (vtextN l.length (l.take i)).map byteRow, false⟩) ∧ i ≤ l.length) (fun i => l.length - i) (fun _ => some (.slice 1 ((vtextB l).map byteRow), [])) ?_ 0 _ _ ?_
  rotate_left
  · refine ⟨rfl, rfl, rfl, ⟨110, 1, .inl rfl, rfl, ?_⟩, by omega⟩
    simp [Heap.set, vtextN]
  rintro i f H ⟨f11, f12, f13, ⟨o, g, ho, f3, H1⟩, hi⟩ ih
  by_cases hl2 : i < l.length
  · have hx := hk l[i] (List.getElem_mem hl2)
    have hle := flat_le (l.take i) (fun x hx => hk x (List.mem_of_mem_take hx))
    have hn := vtextN_len l.length (l.take i)
    rw [List.length_take] at hle
    have h4 := u64V_le l[i].n
    have hs := vtextN_step l.length l i hl2
    simp only [← List.append_assoc] at hs
    have hs2 := congrArg List.length hs
    simp only [List.length_append, textB_len, beN_len] at hs2
    rcases ho with rfl | rfl
    all_goals
      cases hg : l[i].g
      all_goals
        rw [hg] at hs
        simp -implicitDefEqProofs -dsimp +contextual (maxSteps := 9999999) (disch := first | omega | simp only [go_sem] <;> omega | refine ib ?_; kernel_rfl) only [go_sem, seval, ↓reduceIte, f11, f12, f13, f3, H1, hl2, hg, wrap_u64V l[i].n, packNum_01, packNum_11]
        refine ih (i + 1) _ _ ?_ (by omega)
        refine ⟨f11, f12, rfl, ?_, by omega⟩
        rw [hs2, hs]
        exact ⟨132, _, .inr rfl, rfl, rfl⟩
  · obtain rfl : i = l.length := by omega
    rw [List.take_length] at f3 H1
    rcases ho with rfl | rfl
    · simp -implicitDefEqProofs -dsimp +contextual (maxSteps := 9999999) (disch := first | omega | simp only [go_sem] <;> omega | refine ib ?_; kernel_rfl) only [go_sem, seval, ↓reduceIte, f11, f12, f13, f3, H1]
      rfl
    · simp -implicitDefEqProofs -dsimp +contextual (maxSteps := 9999999) (disch := first | omega | simp only [go_sem] <;> omega | refine ib ?_; kernel_rfl) only [go_sem, seval, ↓reduceIte, f11, f12, f13, f3, H1]
      rfl

set_option maxHeartbeats 4000000 in
@[go_sem] theorem e34 (l : List It) (hl : l.length ≤ 60) (hk : ∀ x ∈ l, x.k.length ≤ 300 ∧ x.v.length ≤ 300) : fn C 34 [] [.slice 4 (l.map It.cs)] = some (.slice 1 ((vtextB l).map byteRow), []) := by
  rw [fn_text Tryz.func34 rfl rfl Tryz.results34 fq34.1 rfl rfl (by kernel_rfl)]
  simp -implicitDefEqProofs -dsimp +contextual (maxSteps := 9999999) (disch := first | omega | simp only [go_sem] <;> omega | refine ib ?_; kernel_rfl) only [go_sem, seval, ↓reduceIte]
  rw [len_row l.length hl]
  refine kLoop_rec (fun (i : Nat) f H => f 0 = .slice 4 (l.map It.cs) ∧ f 4 = .int .i64 (i : Int) ∧ (∃ o g, (o = 108 ∨ o = 136) ∧ f 3 = .osl o g 0 (vtextN l.length (l.take i)).length ∧ H o = ⟨g, .live, 1, (vtextN l.length (l.take i)).map byteRow, false⟩) ∧ i ≤ l.length) (fun i => l.length - i) (fun _ => some (.slice 1 ((vtextB l).map byteRow), [])) ?_ 0 _ _ ?_
  rotate_left
  · refine ⟨rfl, rfl, ⟨108, 1, .inl rfl, rfl, ?_⟩, by omega⟩
    simp [Heap.set, vtextN]
  rintro i f H ⟨f0, f4, ⟨o, g, ho, f3, H1⟩, hi⟩ ih
  by_cases hl2 : i < l.length
  · have hx := hk l[i] (List.getElem_mem hl2)
    have hle := flat_le (l.take i) (fun x hx => hk x (List.mem_of_mem_take hx))
    have hn := vtextN_len l.length (l.take i)
    rw [List.length_take] at hle
    have h4 := u64V_le l[i].n
    have hs := vtextN_step l.length l i hl2
    simp only [← List.append_assoc] at hs
    have hs2 := congrArg List.length hs
    simp only [List.length_append, textB_len, beN_len] at hs2
    rcases ho with rfl | rfl
    all_goals
      cases hg : l[i].g
      all_goals
        rw [hg] at hs
        simp -implicitDefEqProofs -dsimp +contextual (maxSteps := 9999999) (disch := first | omega | simp only [go_sem] <;> omega | refine ib ?_; kernel_rfl) only [go_sem, seval, ↓reduceIte, f0, f4, f3, H1, hl2, hg, wrap_u64V l[i].n, row0v, row1v]
        refine ih (i + 1) _ _ ?_ (by omega)
        refine ⟨f0, rfl, ?_, by omega⟩
        rw [hs2, hs]
        exact ⟨136, _, .inr rfl, rfl, rfl⟩
  · obtain rfl : i = l.length := by omega
    rw [List.take_length] at f3 H1
    rcases ho with rfl | rfl
    · simp -implicitDefEqProofs -dsimp +contextual (maxSteps := 9999999) (disch := first | omega | simp only [go_sem] <;> omega | refine ib ?_; kernel_rfl) only [go_sem, seval, ↓reduceIte, f0, f4, f3, H1]
      rfl
    · simp -implicitDefEqProofs -dsimp +contextual (maxSteps := 9999999) (disch := first | omega | simp only [go_sem] <;> omega | refine ib ?_; kernel_rfl) only [go_sem, seval, ↓reduceIte, f0, f4, f3, H1]
      rfl

theorem met_raw (s : Rd) (n : Int) (h : s.met = 0 ∨ s.met = 2 ∨ s.met = 3 ∨ s.met = 10) : (rawS s n).2.met = 0 ∨ (rawS s n).2.met = 2 ∨ (rawS s n).2.met = 3 ∨ (rawS s n).2.met = 10 := by
  unfold rawS
  split
  · split
    · simp
    · split <;> simp
  · exact h
theorem met_num (s : Rd) (n : Nat) (h : s.met = 0 ∨ s.met = 2 ∨ s.met = 3 ∨ s.met = 10) : (numS s n).2.met = 0 ∨ (numS s n).2.met = 2 ∨ (numS s n).2.met = 3 ∨ (numS s n).2.met = 10 := met_raw s n h
theorem met_text (s : Rd) (n : Int) (h : s.met = 0 ∨ s.met = 2 ∨ s.met = 3 ∨ s.met = 10) : (textS s n).2.met = 0 ∨ (textS s n).2.met = 2 ∨ (textS s n).2.met = 3 ∨ (textS s n).2.met = 10 := by
  unfold textS
  split
  · simp
  · exact met_raw _ _ (met_num s 2 h)
/-- What stands in the open, and behind which place it ends. -/
def peekS (b : List UInt8) : List UInt8 × Nat × Nat × Int :=
  let a := textS (openS b) 14
  let c := textS a.2 16
  let d := numS c.2 8
  if d.2.met = 0 then if a.1 = titleV then (c.1, d.1, atS b d.2, 0) else ([], 0, 0, 11) else ([], 0, 0, d.2.met)

set_option maxHeartbeats 4000000 in
@[go_sem] theorem e45 (b : List UInt8) (hb : b.length ≤ 1000000) : fn C 45 [] [.slice 1 (b.map byteRow)] = some (.tup [.agg [.str (peekS b).1, .int .u64 ((peekS b).2.1 : Int), .slice 4 []], .int .i64 ((peekS b).2.2.1 : Int), .int .i64 (peekS b).2.2.2], []) := by
  rw [fn_text Tryz.func45 rfl rfl Tryz.results45 fq45.1 rfl rfl (by kernel_rfl)]
  have r0 : (openS b).rest.length ≤ 1000000 := hb
  have r1 := textS_le (openS b) 14
  have r2 := textS_le (textS (openS b) 14).2 16
  have r3 := numS_rest (textS (textS (openS b) 14).2 16).2 8
  have hm := met_num _ 8 (met_text _ 16 (met_text (openS b) 14 (.inl rfl)))
  have hle := (RdOf_num 8 (RdOf_text 16 (RdOf_text 14 (RdOf_open b)))).len
  simp -implicitDefEqProofs -dsimp +contextual (maxSteps := 9999999) (disch := first | omega | simp only [go_sem] <;> omega | refine ib ?_; kernel_rfl) only [go_sem, seval, ↓reduceIte, titleV_fold]
  rw [peekS]
  generalize hd : numS (textS (textS (openS b) 14).2 16).2 8 = d at *
  generalize (textS (openS b) 14).1 = a at *
  generalize (textS (textS (openS b) 14).2 16).1 = c at *
  by_cases h1 : d.2.met = 0
  · have hl : leftS d.2 = d.2.rest.length := by rw [leftS, if_pos h1]
    have ha : IntKind.i64.wrap ((b.length : Int) - (d.2.rest.length : Int)) = (atS b d.2 : Int) := by
      rw [IntKind.wrap_i64]; omega
    have he : endS d.2 = 0 ∨ endS d.2 = 12 := by
      rw [endS]
      split
      · exact .inr rfl
      · exact .inl h1
    by_cases ht : a = titleV
    · rcases he with he | he <;> simp [kD, he, ht, hl, ha, h1]
    · rcases he with he | he <;> simp [kD, he, ht, h1]
  · have he : endS d.2 = d.2.met := by rw [endS, if_neg (fun h => h1 h.1)]
    have h12 : ¬ d.2.met = 12 := by omega
    simp [kD, he, h1, h12]

set_option maxHeartbeats 4000000 in
@[go_sem] theorem e22 (b : List UInt8) (hb : b.length ≤ 1000000) : fn C 22 [] [.slice 1 (b.map byteRow)] = some (.tup [.str (peekS b).1, .int .u64 ((peekS b).2.1 : Int), .int .i64 (peekS b).2.2.2], []) := by
  rw [fn_text Tryz.func22 rfl rfl Tryz.results22 fq22.1 rfl rfl (by kernel_rfl)]
  simp -implicitDefEqProofs -dsimp +contextual (maxSteps := 9999999) (disch := first | omega | simp only [go_sem] <;> omega | refine ib ?_; kernel_rfl) only [go_sem, seval, ↓reduceIte]

set_option maxHeartbeats 4000000 in
@[go_sem] theorem e23 (b : List UInt8) (hb : b.length ≤ 1000000) : fn C 23 [] [.slice 1 (b.map byteRow)] = some (.tup [.str (peekS b).1, .int .u64 ((peekS b).2.1 : Int), .int .i64 ((peekS b).2.2.1 : Int), .int .i64 (peekS b).2.2.2], []) := by
  rw [fn_text Tryz.func23 rfl rfl Tryz.results23 fq23.1 rfl rfl (by kernel_rfl)]
  have d1 := RdOf_text 14 (RdOf_open b)
  have d2 := RdOf_text 16 d1
  have d3 := RdOf_num 8 d2
  rw [peekS]
  by_cases hm : (numS (textS (textS (openS b) 14).2 16).2 8).2.met = 0
  · by_cases ht : (textS (openS b) 14).1 = titleV
    · simp -implicitDefEqProofs -dsimp +contextual (maxSteps := 9999999) (disch := first | omega | simp only [go_sem] <;> omega | refine ib ?_; kernel_rfl) only [go_sem, seval, ↓reduceIte, titleV_fold, d1, d2, d3, hm, ht]
    · simp -implicitDefEqProofs -dsimp +contextual (maxSteps := 9999999) (disch := first | omega | simp only [go_sem] <;> omega | refine ib ?_; kernel_rfl) only [go_sem, seval, ↓reduceIte, titleV_fold, d1, d2, d3, hm, ht]
  · simp -implicitDefEqProofs -dsimp +contextual (maxSteps := 9999999) (disch := first | omega | simp only [go_sem] <;> omega | refine ib ?_; kernel_rfl) only [go_sem, seval, ↓reduceIte, titleV_fold, d1, d2, d3, hm]

end Go.Proofs.YtccfjidpdlfenaaGreatDoor
namespace Go.Proofs.YtccfjidpdlfenaaGreatDoor
open Go.Am
set_option linter.unusedSimpArgs false
set_option linter.unusedVariables false
set_option maxRecDepth 100000
/-! Layer 6: words turned, mixed. -/
def q4 (a b c d : UInt32) : UInt32 × UInt32 × UInt32 × UInt32 :=
  let a := a + b
  let d := rotl (d ^^^ a) 16
  let c := c + d
  let b := rotl (b ^^^ c) 12
  let a := a + b
  let d := rotl (d ^^^ a) 8
  let c := c + d
  let b := rotl (b ^^^ c) 7
  (a, b, c, d)
def le4 (a b c d : UInt8) : UInt32 := ((a.toUInt32 ||| W32.shl b.toUInt32 8) ||| W32.shl c.toUInt32 16) ||| W32.shl d.toUInt32 24
def wordOf (b : List UInt8) : UInt32 := le4 (b.getD 0 0) (b.getD 1 0) (b.getD 2 0) (b.getD 3 0)
def firstW (key nonce : List UInt8) (ctr : UInt32) : List UInt32 := [1634760805, 857760878, 2036477234, 1797285236, wordOf key, wordOf (key.drop 4), wordOf (key.drop 8), wordOf (key.drop 12), wordOf (key.drop 16), wordOf (key.drop 20), wordOf (key.drop 24), wordOf (key.drop 28), ctr, wordOf nonce, wordOf (nonce.drop 4), wordOf (nonce.drop 8)]

@[go_sem] theorem e140 (a b c d : UInt32) : fn C 140 [] [.int .u32 (a.toNat : Int), .int .u32 (b.toNat : Int), .int .u32 (c.toNat : Int), .int .u32 (d.toNat : Int)] = some (.tup [.int .u32 ((q4 a b c d).1.toNat : Int), .int .u32 ((q4 a b c d).2.1.toNat : Int), .int .u32 ((q4 a b c d).2.2.1.toNat : Int), .int .u32 ((q4 a b c d).2.2.2.toNat : Int)], []) := by
  rw [fn_text Tryz.func140 rfl rfl Tryz.results140 fq140.1 rfl rfl (by kernel_rfl)]
  simp -implicitDefEqProofs -dsimp +contextual (maxSteps := 5000000) (disch := first | omega | simp only [go_sem] <;> omega | refine ib ?_; kernel_rfl) only [go_sem, Nat.reduceBEq, Int.reduceNeg, Int.reduceLT, Int.reduceLE, Int.reduceAdd, Int.reduceSub, Int.reduceToNat, Int.reduceMul, Int.reduceMod, Int.reduceTMod, Int.reduceTDiv, Int.reduceEq, Nat.reducePow, Nat.reduceDiv, Nat.reduceShiftRight, Nat.reduceMod, List.reduceReplicate, ↓reduceIte, Nat.reduceEqDiff, Nat.reduceAdd, Nat.reduceSub, Nat.reduceLeDiff, Nat.reduceLT, Nat.reduceMul]
  rfl

@[go_sem] theorem e137 (x : UInt32) (m : Nat) (h : m ≤ 32) : fn C 137 [] [.int .u32 (x.toNat : Int), .int .u64 (m : Int)] = some (.int .u32 ((rotl x m).toNat : Int), []) := by
  have e32 : (32 : Int) - (m : Int) = ((32 - m : Nat) : Int) := by omega
  rw [fn_text Tryz.func137 rfl rfl Tryz.results137 fq137.1 rfl rfl (by kernel_rfl)]
  simp -implicitDefEqProofs -dsimp +contextual (maxSteps := 5000000) (disch := first | omega | simp only [go_sem] <;> omega | refine ib ?_; kernel_rfl) only [go_sem, Nat.reduceBEq, Int.reduceNeg, Int.reduceLT, Int.reduceLE, Int.reduceAdd, Int.reduceSub, Int.reduceToNat, Int.reduceMul, Int.reduceMod, Int.reduceTMod, Int.reduceTDiv, Int.reduceEq, Nat.reducePow, Nat.reduceDiv, Nat.reduceShiftRight, Nat.reduceMod, List.reduceReplicate, ↓reduceIte, Nat.reduceEqDiff, Nat.reduceAdd, Nat.reduceSub, Nat.reduceLeDiff, Nat.reduceLT, Nat.reduceMul, e32]
  rfl

@[go_sem] theorem eleft_lit (x : UInt32) (m : Nat) (h : OfNat.ofNat m ≤ 32) : fn C 137 [] [.int .u32 (x.toNat : Int), .int .u64 (no_index (OfNat.ofNat m : Int))] = some (.int .u32 ((rotl x (OfNat.ofNat m)).toNat : Int), []) := e137 x (OfNat.ofNat m) h

@[go_sem] theorem e118 (a b c d : UInt32) : fn C 118 [] [.int .u32 (a.toNat : Int), .int .u32 (b.toNat : Int), .int .u32 (c.toNat : Int), .int .u32 (d.toNat : Int)] = some (.tup [.int .u32 ((q4 a b c d).1.toNat : Int), .int .u32 ((q4 a b c d).2.1.toNat : Int), .int .u32 ((q4 a b c d).2.2.1.toNat : Int), .int .u32 ((q4 a b c d).2.2.2.toNat : Int)], []) := by
  rw [fn_text Tryz.func118 rfl rfl Tryz.results118 fq118.1 rfl rfl (by kernel_rfl)]
  simp -implicitDefEqProofs -dsimp +contextual (maxSteps := 5000000) (disch := first | omega | simp only [go_sem] <;> omega | refine ib ?_; kernel_rfl) only [go_sem, Nat.reduceBEq, Int.reduceNeg, Int.reduceLT, Int.reduceLE, Int.reduceAdd, Int.reduceSub, Int.reduceToNat, Int.reduceMul, Int.reduceMod, Int.reduceTMod, Int.reduceTDiv, Int.reduceEq, Nat.reducePow, Nat.reduceDiv, Nat.reduceShiftRight, Nat.reduceMod, List.reduceReplicate, ↓reduceIte, Nat.reduceEqDiff, Nat.reduceAdd, Nat.reduceSub, Nat.reduceLeDiff, Nat.reduceLT, Nat.reduceMul, kLoop_eq]
  rfl

attribute [irreducible] q4

@[go_sem] theorem e68 (key nonce : List UInt8) : fn C 68 [] [.slice 1 (key.map byteRow), .slice 1 (nonce.map byteRow)] = some (.bool (decide (key.length = 32) && decide (nonce.length = 12)), []) := by
  rw [fn_text Tryz.func68 rfl rfl Tryz.results68 fq68.1 rfl rfl (by kernel_rfl)]
  simp -implicitDefEqProofs -dsimp +contextual (maxSteps := 5000000) (disch := first | omega | simp only [go_sem] <;> omega | refine ib ?_; kernel_rfl) only [go_sem, Nat.reduceBEq, Int.reduceNeg, Int.reduceLT, Int.reduceLE, Int.reduceAdd, Int.reduceSub, Int.reduceToNat, Int.reduceMul, Int.reduceMod, Int.reduceTMod, Int.reduceTDiv, Int.reduceEq, Nat.reducePow, Nat.reduceDiv, Nat.reduceShiftRight, Nat.reduceMod, List.reduceReplicate, ↓reduceIte, Nat.reduceEqDiff, Nat.reduceAdd, Nat.reduceSub, Nat.reduceLeDiff, Nat.reduceLT, Nat.reduceMul]
  (repeat' (refine kD_intro (fun _ => ?_) (fun _ => ?_))) <;> exact Res_bool (by simp [*])

theorem four (b : List UInt8) (h : 4 ≤ b.length) : ∃ x y z w r, b = x :: y :: z :: w :: r := by
  match b, h with
  | x :: y :: z :: w :: r, _ => exact ⟨x, y, z, w, r, rfl⟩

@[go_sem] theorem e96 (b : List UInt8) (h : 4 ≤ b.length) : fn C 96 [] [.slice 1 (b.map byteRow)] = some (.int .u32 ((wordOf b).toNat : Int), []) := by
  obtain ⟨x, y, z, w, r, rfl⟩ := four b h
  rw [fn_text Tryz.func96 rfl rfl Tryz.results96 fq96.1 rfl rfl (by kernel_rfl)]
  simp -implicitDefEqProofs -dsimp +contextual (maxSteps := 5000000) (disch := first | omega | simp only [go_sem] <;> omega | refine ib ?_; kernel_rfl) only [go_sem, Nat.reduceBEq, Int.reduceNeg, Int.reduceLT, Int.reduceLE, Int.reduceAdd, Int.reduceSub, Int.reduceToNat, Int.reduceMul, Int.reduceMod, Int.reduceTMod, Int.reduceTDiv, Int.reduceEq, Nat.reducePow, Nat.reduceDiv, Nat.reduceShiftRight, Nat.reduceMod, List.reduceReplicate, ↓reduceIte, Nat.reduceEqDiff, Nat.reduceAdd, Nat.reduceSub, Nat.reduceLeDiff, Nat.reduceLT, Nat.reduceMul]
  rfl

theorem orAdd (a b k : Nat) (h : b < 2 ^ k) : a * 2 ^ k ||| b = a * 2 ^ k + b := by
  rw [← Nat.shiftLeft_eq, Nat.shiftLeft_add_eq_or_of_lt h]
theorem le4_sum (a b c d : UInt8) : (le4 a b c d).toNat = a.toNat + b.toNat * 256 + c.toNat * 65536 + d.toNat * 16777216 := by
  have ha := u8_lt a; have hb := u8_lt b; have hc := u8_lt c; have hd := u8_lt d
  simp only [le4, W32.shl, UInt32.toNat_or, UInt8.toNat_toUInt32, UInt32.toNat_ofNat']
  rw [Nat.mod_eq_of_lt (show b.toNat * 2 ^ 8 < 2 ^ 32 by omega), Nat.mod_eq_of_lt (show c.toNat * 2 ^ 16 < 2 ^ 32 by omega), Nat.mod_eq_of_lt (show d.toNat * 2 ^ 24 < 2 ^ 32 by omega)]
  rw [Nat.or_comm a.toNat, orAdd _ _ _ (by omega), Nat.or_comm _ (c.toNat * 2 ^ 16), orAdd _ _ _ (by omega), Nat.or_comm _ (d.toNat * 2 ^ 24), orAdd _ _ _ (by omega)]
  omega
theorem word_sum (a b c d : UInt8) : (d.toUInt32 * UInt32.ofNat 16777216 + c.toUInt32 * UInt32.ofNat 65536 + b.toUInt32 * UInt32.ofNat 256 + a.toUInt32) = le4 a b c d := by
  have ha := u8_lt a; have hb := u8_lt b; have hc := u8_lt c; have hd := u8_lt d
  apply UInt32.toNat_inj.1
  rw [le4_sum]
  simp only [UInt32.toNat_add, UInt32.toNat_mul, UInt8.toNat_toUInt32, UInt32.toNat_ofNat']
  omega

@[go_sem] theorem e117 (b : List UInt8) (h : 4 ≤ b.length) : fn C 117 [] [.slice 1 (b.map byteRow)] = some (.int .u32 ((wordOf b).toNat : Int), []) := by
  obtain ⟨x, y, z, w, r, rfl⟩ := four b h
  rw [fn_text Tryz.func117 rfl rfl Tryz.results117 fq117.1 rfl rfl (by kernel_rfl)]
  simp -implicitDefEqProofs -dsimp +contextual (maxSteps := 5000000) (disch := first | omega | simp only [go_sem] <;> omega | refine ib ?_; kernel_rfl) only [go_sem, Nat.reduceBEq, Int.reduceNeg, Int.reduceLT, Int.reduceLE, Int.reduceAdd, Int.reduceSub, Int.reduceToNat, Int.reduceMul, Int.reduceMod, Int.reduceTMod, Int.reduceTDiv, Int.reduceEq, Nat.reducePow, Nat.reduceDiv, Nat.reduceShiftRight, Nat.reduceMod, List.reduceReplicate, ↓reduceIte, Nat.reduceEqDiff, Nat.reduceAdd, Nat.reduceSub, Nat.reduceLeDiff, Nat.reduceLT, Nat.reduceMul]
  rw [show wordOf (x :: y :: z :: w :: r) = le4 x y z w from rfl, ← word_sum]
theorem word_take (b : List UInt8) (h : 4 ≤ b.length) : wordOf (b.take 4) = wordOf b := by
  obtain ⟨x, y, z, w, r, rfl⟩ := four b h
  rfl

set_option maxHeartbeats 4000000 in
@[go_sem] theorem e69 (key nonce : List UInt8) (ctr : UInt32) (hk : key.length = 32) (hn : nonce.length = 12) : fn C 69 [] [.slice 1 (key.map byteRow), .slice 1 (nonce.map byteRow), .int .u32 (ctr.toNat : Int)] = some (.agg ((firstW key nonce ctr).map w32), []) := by
  rw [fn_text Tryz.func69 rfl rfl Tryz.results69 fq69.1 rfl rfl (by kernel_rfl)]
  simp -implicitDefEqProofs -dsimp +contextual (maxSteps := 5000000) (disch := first | omega | simp only [go_sem] <;> omega | refine ib ?_; kernel_rfl) only [go_sem, Nat.reduceBEq, Int.reduceNeg, Int.reduceLT, Int.reduceLE, Int.reduceAdd, Int.reduceSub, Int.reduceToNat, Int.reduceMul, Int.reduceMod, Int.reduceTMod, Int.reduceTDiv, Int.reduceEq, Nat.reducePow, Nat.reduceDiv, Nat.reduceShiftRight, Nat.reduceMod, List.reduceReplicate, ↓reduceIte, Nat.reduceEqDiff, Nat.reduceAdd, Nat.reduceSub, Nat.reduceLeDiff, Nat.reduceLT, Nat.reduceMul, kLoop_eq, hk, hn]
  rfl

def qAt (ws : List UInt32) (i j k l : Nat) : List UInt32 :=
  let r := q4 (ws.getD i 0) (ws.getD j 0) (ws.getD k 0) (ws.getD l 0)
  (((ws.set i r.1).set j r.2.1).set k r.2.2.1).set l r.2.2.2
theorem qAt_len (ws : List UInt32) (i j k l : Nat) : (qAt ws i j k l).length = ws.length := by simp [qAt]
theorem qAt_eq (ws : List UInt32) (i j k l : Nat) (hi : i < ws.length) (hj : j < ws.length) (hk : k < ws.length) (hl : l < ws.length) :
    (((ws.set i (q4 ws[i] ws[j] ws[k] ws[l]).1).set j (q4 ws[i] ws[j] ws[k] ws[l]).2.1).set k (q4 ws[i] ws[j] ws[k] ws[l]).2.2.1).set l (q4 ws[i] ws[j] ws[k] ws[l]).2.2.2 = qAt ws i j k l := by
  simp [qAt, hi, hj, hk, hl]

@[go_sem] theorem e123 (ws : List UInt32) (i j k l : Nat) (h : ws.length = 16) (hi : i < 16) (hj : j < 16) (hk : k < 16) (hl : l < 16) : fn C 123 [] [.agg (ws.map w32), .int .i64 (i : Int), .int .i64 (j : Int), .int .i64 (k : Int), .int .i64 (l : Int)] = some (.agg ((qAt ws i j k l).map w32), []) := by
  rw [fn_text Tryz.func123 rfl rfl Tryz.results123 fq123.1 rfl rfl (okArgs_of (by kernel_rfl) (by kernel_rfl) (by simp only [go_sem]) rfl)]
  simp -implicitDefEqProofs -dsimp +contextual (maxSteps := 5000000) (disch := first | omega | simp only [go_sem] <;> omega | refine ib ?_; kernel_rfl) only [go_sem, Nat.reduceBEq, Int.reduceNeg, Int.reduceLT, Int.reduceLE, Int.reduceAdd, Int.reduceSub, Int.reduceToNat, Int.reduceMul, Int.reduceMod, Int.reduceTMod, Int.reduceTDiv, Int.reduceEq, Nat.reducePow, Nat.reduceDiv, Nat.reduceShiftRight, Nat.reduceMod, List.reduceReplicate, ↓reduceIte, Nat.reduceEqDiff, Nat.reduceAdd, Nat.reduceSub, Nat.reduceLeDiff, Nat.reduceLT, Nat.reduceMul, h, hi, hj, hk, hl]
  rw [qAt_eq]

attribute [irreducible] qAt
def places : List (Nat × Nat × Nat × Nat) := [(0, 4, 8, 12), (1, 5, 9, 13), (2, 6, 10, 14), (3, 7, 11, 15), (0, 5, 10, 15), (1, 6, 11, 12), (2, 7, 8, 13), (3, 4, 9, 14)]
def qP (ws : List UInt32) (p : Nat × Nat × Nat × Nat) : List UInt32 := qAt ws p.1 p.2.1 p.2.2.1 p.2.2.2
def roundW (ws : List UInt32) : List UInt32 := places.foldl qP ws
def roundsW : Nat → List UInt32 → List UInt32
  | 0, ws => ws
  | n + 1, ws => roundsW n (roundW ws)
theorem qP_fold_len (l : List (Nat × Nat × Nat × Nat)) : ∀ ws : List UInt32, (l.foldl qP ws).length = ws.length := by
  induction l with
  | nil => intro ws; rfl
  | cons p l ih => intro ws; rw [List.foldl_cons, ih]; exact qAt_len ..
theorem roundW_len (ws : List UInt32) : (roundW ws).length = ws.length := qP_fold_len _ _
theorem roundsW_len (n : Nat) : ∀ ws : List UInt32, (roundsW n ws).length = ws.length := by
  induction n with
  | zero => intro ws; rfl
  | succ n ih => intro ws; rw [roundsW, ih, roundW_len]
@[go_sem] theorem qAt_len' (ws : List UInt32) (i j k l : Nat) : (qAt ws i j k l).length = ws.length := qAt_len ws i j k l
attribute [go_sem] roundW_len roundsW_len

@[go_sem] theorem equarter_lit (ws : List UInt32) (i j k l : Nat) (h : ws.length = 16) (hi : OfNat.ofNat i < 16) (hj : OfNat.ofNat j < 16) (hk : OfNat.ofNat k < 16) (hl : OfNat.ofNat l < 16) : fn C 123 [] [.agg (ws.map w32), .int .i64 (no_index (OfNat.ofNat i : Int)), .int .i64 (no_index (OfNat.ofNat j : Int)), .int .i64 (no_index (OfNat.ofNat k : Int)), .int .i64 (no_index (OfNat.ofNat l : Int))] = some (.agg ((qAt ws (OfNat.ofNat i) (OfNat.ofNat j) (OfNat.ofNat k) (OfNat.ofNat l)).map w32), []) := e123 ws (OfNat.ofNat i) (OfNat.ofNat j) (OfNat.ofNat k) (OfNat.ofNat l) h hi hj hk hl

@[go_sem] theorem e97 (ws : List UInt32) (h : ws.length = 16) : fn C 97 [] [.agg (ws.map w32)] = some (.agg ((roundW ws).map w32), []) := by
  rw [fn_text Tryz.func97 rfl rfl Tryz.results97 fq97.1 rfl rfl (okArgs_of (by kernel_rfl) (by kernel_rfl) (by simp only [go_sem]) rfl)]
  simp -implicitDefEqProofs -dsimp +contextual (maxSteps := 5000000) (disch := first | omega | simp only [go_sem] <;> omega | refine ib ?_; kernel_rfl) only [go_sem, Nat.reduceBEq, Int.reduceNeg, Int.reduceLT, Int.reduceLE, Int.reduceAdd, Int.reduceSub, Int.reduceToNat, Int.reduceMul, Int.reduceMod, Int.reduceTMod, Int.reduceTDiv, Int.reduceEq, Nat.reducePow, Nat.reduceDiv, Nat.reduceShiftRight, Nat.reduceMod, List.reduceReplicate, ↓reduceIte, Nat.reduceEqDiff, Nat.reduceAdd, Nat.reduceSub, Nat.reduceLeDiff, Nat.reduceLT, Nat.reduceMul, kLoop_eq, h]
  simp only [roundW, places, List.foldl_cons, List.foldl_nil, qP]


end Go.Proofs.YtccfjidpdlfenaaGreatDoor
namespace Go.Proofs.YtccfjidpdlfenaaGreatDoor
open Go.Am
set_option linter.unusedSimpArgs false
set_option linter.unusedVariables false
set_option maxRecDepth 100000
/-! Layer 6: blocks. -/
def bytes4 (x : UInt32) : List UInt8 := [x.toUInt8, (W32.shr x 8).toUInt8, (W32.shr x 16).toUInt8, (W32.shr x 24).toUInt8]
def outW : List UInt32 → List UInt32 → List UInt8
  | a :: us, b :: bs => bytes4 (a + b) ++ outW us bs
  | _, _ => []
theorem outW_len : ∀ (us bs : List UInt32), us.length = bs.length → (outW us bs).length = 4 * us.length
  | [], [], _ => rfl
  | a :: us, b :: bs, h => by
    have := outW_len us bs (by simpa using h)
    simp [outW, bytes4, this]; omega
def blockW (ws : List UInt32) : List UInt8 := outW (roundsW 10 ws) ws
@[go_sem] theorem blockW_len (ws : List UInt32) : (blockW ws).length = 4 * ws.length := by rw [blockW, outW_len _ _ (roundsW_len ..), roundsW_len]
theorem set4_take (bs : List UInt8) (n : Nat) (a b c d : UInt8) (h : 4 * n + 4 ≤ bs.length) : ((((bs.set (4 * n) a).set (4 * n + 1) b).set (4 * n + 2) c).set (4 * n + 3) d).take (4 * (n + 1)) = bs.take (4 * n) ++ [a, b, c, d] := by
  apply List.ext_getElem?
  intro i
  simp only [List.getElem?_take, List.getElem?_set, List.getElem?_append, List.length_set, List.length_take]
  rw [Nat.min_eq_left (by omega)]
  by_cases h0 : i < 4 * n
  · rw [if_pos (by omega), if_neg (by omega), if_neg (by omega), if_neg (by omega), if_neg (by omega), if_pos h0, if_pos h0]
  · by_cases h1 : i < 4 * (n + 1)
    · obtain ⟨k, rfl⟩ : ∃ k, i = 4 * n + k := ⟨i - 4 * n, by omega⟩
      rw [if_pos h1, if_neg h0]
      have hk : k < 4 := by omega
      rw [Nat.add_sub_cancel_left]
      match k, hk with
      | 0, _ => simp; omega
      | 1, _ => simp; omega
      | 2, _ => simp; omega
      | 3, _ => simp; omega
    · rw [if_neg h1, if_neg h0]; simp; omega

def Z64 : List AVal := (List.replicate 64 (0 : UInt8)).map w8
@[go_sem] theorem Z64_len : Z64.length = 64 := rfl
@[go_sem] theorem Z64_drop : Z64.drop 64 = [] := rfl
set_option maxHeartbeats 4000000 in
@[go_sem] theorem e70 (ws : List UInt32) (h : ws.length = 16) : fn C 70 [] [.agg (ws.map w32)] = some (.agg ((blockW ws).map w8), []) := by
  rw [fn_text Tryz.func70 rfl rfl Tryz.results70 fq70.1 rfl rfl (okArgs_of (by kernel_rfl) (by kernel_rfl) (by simp only [go_sem]) rfl)]
  simp -implicitDefEqProofs -dsimp +contextual (maxSteps := 5000000) (disch := first | omega | simp only [go_sem] <;> omega | refine ib ?_; kernel_rfl) only [go_sem, Nat.reduceBEq, Int.reduceNeg, Int.reduceLT, Int.reduceLE, Int.reduceAdd, Int.reduceSub, Int.reduceToNat, Int.reduceMul, Int.reduceMod, Int.reduceTMod, Int.reduceTDiv, Int.reduceEq, Nat.reducePow, Nat.reduceDiv, Nat.reduceShiftRight, Nat.reduceMod, List.reduceReplicate, ↓reduceIte, Nat.reduceEqDiff, Nat.reduceAdd, Nat.reduceSub, Nat.reduceLeDiff, Nat.reduceLT, Nat.reduceMul, h]
  refine (kLoop_rec2 (fun (i : Nat) (vs : List UInt32) f H => f 1 = .ptr 101 1 0 0 ∧ f 2 = .ptr 102 1 0 0 ∧ f 3 = .ptr 103 1 0 0 ∧ f 8 = .int .i64 (i : Int) ∧ H 101 = ⟨1, .live, 16, [ws.map w32], false⟩ ∧ H 102 = ⟨1, .live, 64, [Z64], false⟩ ∧ H 103 = ⟨1, .live, 16, [vs.map w32], false⟩ ∧ H 104 = ⟨0, .dead, 0, [], false⟩ ∧ i ≤ 10 ∧ vs.length = 16) (fun i _ => 10 - i) (fun i vs => some (.agg ((outW (roundsW (10 - i) vs) ws).map w8), [])) ?_ 0 ws _ _ ⟨rfl, rfl, rfl, rfl, rfl, rfl, rfl, rfl, by omega, h⟩).trans (by simp only [blockW, Nat.sub_zero])
  rintro i vs f H ⟨f1, f2, f3, f8, H1, H2, H3, H4, hi, hv⟩ ih
  by_cases hl : i < 10
  · simp -implicitDefEqProofs -dsimp +contextual (maxSteps := 5000000) (disch := first | omega | simp only [go_sem] <;> omega | refine ib ?_; kernel_rfl) only [go_sem, Nat.reduceBEq, Int.reduceNeg, Int.reduceLT, Int.reduceLE, Int.reduceAdd, Int.reduceSub, Int.reduceToNat, Int.reduceMul, Int.reduceMod, Int.reduceTMod, Int.reduceTDiv, Int.reduceEq, Nat.reducePow, Nat.reduceDiv, Nat.reduceShiftRight, Nat.reduceMod, List.reduceReplicate, ↓reduceIte, Nat.reduceEqDiff, Nat.reduceAdd, Nat.reduceSub, Nat.reduceLeDiff, Nat.reduceLT, Nat.reduceMul, f1, f2, f3, f8, H1, H3, hl, hv]
    rw [show 10 - i = (10 - (i + 1)) + 1 by omega, roundsW]
    exact ih (i + 1) (roundW vs) _ _ ⟨f1, f2, f3, rfl, H1, H2, rfl, H4, by omega, by rw [roundW_len]; exact hv⟩ (by omega)
  · simp -implicitDefEqProofs -dsimp +contextual (maxSteps := 5000000) (disch := first | omega | simp only [go_sem] <;> omega | refine ib ?_; kernel_rfl) only [go_sem, Nat.reduceBEq, Int.reduceNeg, Int.reduceLT, Int.reduceLE, Int.reduceAdd, Int.reduceSub, Int.reduceToNat, Int.reduceMul, Int.reduceMod, Int.reduceTMod, Int.reduceTDiv, Int.reduceEq, Nat.reducePow, Nat.reduceDiv, Nat.reduceShiftRight, Nat.reduceMod, List.reduceReplicate, ↓reduceIte, Nat.reduceEqDiff, Nat.reduceAdd, Nat.reduceSub, Nat.reduceLeDiff, Nat.reduceLT, Nat.reduceMul, f1, f2, f3, f8, H1, H3, H4, hl, hv]
    rw [show 10 - i = 0 by omega, roundsW]
    refine (kLoop_rec2 (fun (n : Nat) (bs : List UInt8) f H => f 1 = .ptr 101 1 0 0 ∧ f 2 = .ptr 102 1 0 0 ∧ f 3 = .ptr 103 1 0 0 ∧ f 4 = .ptr 104 1 0 0 ∧ f 13 = .int .i64 (n : Int) ∧ H 101 = ⟨1, .live, 16, [ws.map w32], false⟩ ∧ H 102 = ⟨1, .live, 64, [Z64], false⟩ ∧ H 103 = ⟨1, .live, 16, [vs.map w32], false⟩ ∧ H 104 = ⟨1, .live, 64, [bs.map w8], false⟩ ∧ n ≤ 16 ∧ bs.length = 64) (fun n _ => 16 - n) (fun n bs => some (.agg ((bs.take (4 * n) ++ outW (vs.drop n) (ws.drop n)).map w8), [])) ?_ 0 (List.replicate 64 0) _ _ ?_).trans ?_
    rotate_left
    · exact ⟨f1, f2, f3, rfl, rfl, H1, H2, H3, rfl, by omega, rfl⟩
    · simp only [Nat.mul_zero, List.take_zero, List.drop_zero, List.nil_append]
    rintro n bs f H ⟨f1, f2, f3, f4, f13, H1, H2, H3, H4, hn, hb⟩ ih
    by_cases hl : n < 16
    · simp -implicitDefEqProofs -dsimp +contextual (maxSteps := 5000000) (disch := first | omega | simp only [go_sem] <;> omega | refine ib ?_; kernel_rfl) only [go_sem, Nat.reduceBEq, Int.reduceNeg, Int.reduceLT, Int.reduceLE, Int.reduceAdd, Int.reduceSub, Int.reduceToNat, Int.reduceMul, Int.reduceMod, Int.reduceTMod, Int.reduceTDiv, Int.reduceEq, Nat.reducePow, Nat.reduceDiv, Nat.reduceShiftRight, Nat.reduceMod, List.reduceReplicate, ↓reduceIte, Nat.reduceEqDiff, Nat.reduceAdd, Nat.reduceSub, Nat.reduceLeDiff, Nat.reduceLT, Nat.reduceMul, f1, f2, f3, f4, f13, H1, H2, H3, H4, hl, hv, hb, h]
      rw [List.drop_eq_getElem_cons (by omega : n < vs.length), List.drop_eq_getElem_cons (by omega : n < ws.length)]
      refine (ih (n + 1) ((((bs.set (4 * n) (vs[n] + ws[n]).toUInt8).set (4 * n + 1) (W32.shr (vs[n] + ws[n]) 8).toUInt8).set (4 * n + 2) (W32.shr (vs[n] + ws[n]) 16).toUInt8).set (4 * n + 3) (W32.shr (vs[n] + ws[n]) 24).toUInt8) _ _ (by exact ⟨f1, f2, f3, f4, rfl, H1, H2, H3, rfl, by omega, by simpa using hb⟩) (by omega)).trans ?_
      rw [set4_take _ _ _ _ _ _ (by omega)]
      simp only [outW, bytes4, List.append_assoc]
    · simp -implicitDefEqProofs -dsimp +contextual (maxSteps := 5000000) (disch := first | omega | simp only [go_sem] <;> omega | refine ib ?_; kernel_rfl) only [go_sem, Nat.reduceBEq, Int.reduceNeg, Int.reduceLT, Int.reduceLE, Int.reduceAdd, Int.reduceSub, Int.reduceToNat, Int.reduceMul, Int.reduceMod, Int.reduceTMod, Int.reduceTDiv, Int.reduceEq, Nat.reducePow, Nat.reduceDiv, Nat.reduceShiftRight, Nat.reduceMod, List.reduceReplicate, ↓reduceIte, Nat.reduceEqDiff, Nat.reduceAdd, Nat.reduceSub, Nat.reduceLeDiff, Nat.reduceLT, Nat.reduceMul, f1, f2, f3, f4, f13, H1, H2, H3, H4, hl, hv, hb, h]
      simp [show n = 16 by omega, hb, hv, h, List.take_of_length_le, outW]

theorem blockW_len64 (ws : List UInt32) (h : ws.length = 16) : (blockW ws).length = 64 := by rw [blockW_len, h]
theorem firstW_len (key nonce : List UInt8) (ctr : UInt32) : (firstW key nonce ctr).length = 16 := rfl
attribute [go_sem] firstW_len
def blockB (key nonce : List UInt8) (ctr : UInt32) : List UInt8 := blockW (firstW key nonce ctr)
@[go_sem] theorem blockB_len (key nonce : List UInt8) (ctr : UInt32) : (blockB key nonce ctr).length = 64 := blockW_len64 _ rfl
@[go_sem] theorem blockB_eq (key nonce : List UInt8) (ctr : UInt32) : blockW (firstW key nonce ctr) = blockB key nonce ctr := rfl

set_option maxHeartbeats 4000000 in
@[go_sem] theorem e71 (key nonce : List UInt8) (ctr : UInt32) : fn C 71 [] [.slice 1 (key.map byteRow), .slice 1 (nonce.map byteRow), .int .u32 (ctr.toNat : Int)] = some (if key.length = 32 ∧ nonce.length = 12 then .tup [.slice 1 ((blockB key nonce ctr).map byteRow), .int .i64 0] else .tup [.slice 1 [], .int .i64 2], []) := by
  rw [fn_text Tryz.func71 rfl rfl Tryz.results71 fq71.1 rfl rfl (by kernel_rfl)]
  by_cases hk : key.length = 32
  · by_cases hn : nonce.length = 12
    · have hb := e70 (firstW key nonce ctr) rfl
      simp -implicitDefEqProofs -dsimp +contextual (maxSteps := 5000000) (disch := first | omega | simp only [go_sem] <;> omega | refine ib ?_; kernel_rfl) only [go_sem, Nat.reduceBEq, Int.reduceNeg, Int.reduceLT, Int.reduceLE, Int.reduceAdd, Int.reduceSub, Int.reduceToNat, Int.reduceMul, Int.reduceMod, Int.reduceTMod, Int.reduceTDiv, Int.reduceEq, Nat.reducePow, Nat.reduceDiv, Nat.reduceShiftRight, Nat.reduceMod, List.reduceReplicate, ↓reduceIte, Nat.reduceEqDiff, Nat.reduceAdd, Nat.reduceSub, Nat.reduceLeDiff, Nat.reduceLT, Nat.reduceMul, hk, hn, hb]
    · simp -implicitDefEqProofs -dsimp +contextual (maxSteps := 5000000) (disch := first | omega | simp only [go_sem] <;> omega | refine ib ?_; kernel_rfl) only [go_sem, Nat.reduceBEq, Int.reduceNeg, Int.reduceLT, Int.reduceLE, Int.reduceAdd, Int.reduceSub, Int.reduceToNat, Int.reduceMul, Int.reduceMod, Int.reduceTMod, Int.reduceTDiv, Int.reduceEq, Nat.reducePow, Nat.reduceDiv, Nat.reduceShiftRight, Nat.reduceMod, List.reduceReplicate, ↓reduceIte, Nat.reduceEqDiff, Nat.reduceAdd, Nat.reduceSub, Nat.reduceLeDiff, Nat.reduceLT, Nat.reduceMul, hk, hn]
  · simp -implicitDefEqProofs -dsimp +contextual (maxSteps := 5000000) (disch := first | omega | simp only [go_sem] <;> omega | refine ib ?_; kernel_rfl) only [go_sem, Nat.reduceBEq, Int.reduceNeg, Int.reduceLT, Int.reduceLE, Int.reduceAdd, Int.reduceSub, Int.reduceToNat, Int.reduceMul, Int.reduceMod, Int.reduceTMod, Int.reduceTDiv, Int.reduceEq, Nat.reducePow, Nat.reduceDiv, Nat.reduceShiftRight, Nat.reduceMod, List.reduceReplicate, ↓reduceIte, Nat.reduceEqDiff, Nat.reduceAdd, Nat.reduceSub, Nat.reduceLeDiff, Nat.reduceLT, Nat.reduceMul, hk]

end Go.Proofs.YtccfjidpdlfenaaGreatDoor
namespace Go.Proofs.YtccfjidpdlfenaaGreatDoor
open Go.Am
set_option linter.unusedSimpArgs false
set_option linter.unusedVariables false
set_option maxRecDepth 100000
/-! Layer 6, by the document; texts changed. -/
theorem first_take (key nonce : List UInt8) (ctr : UInt32) (n : Nat) (h : n < 8) : (firstW key nonce ctr).take (4 + n) ++ [wordOf (key.drop (4 * n))] = (firstW key nonce ctr).take (4 + (n + 1)) := by
  match n, h with
  | 0, _ => rfl
  | 1, _ => rfl
  | 2, _ => rfl
  | 3, _ => rfl
  | 4, _ => rfl
  | 5, _ => rfl
  | 6, _ => rfl
  | 7, _ => rfl

def Pl : List Int := [0, 4, 8, 12, 1, 5, 9, 13, 2, 6, 10, 14, 3, 7, 11, 15, 0, 5, 10, 15, 1, 6, 11, 12, 2, 7, 8, 13, 3, 4, 9, 14]
def rI (n : Int) : List AVal := [.int .i64 n]
@[go_sem] theorem rI_eq (n : Int) : rI n = [.int .i64 n] := rfl
@[go_sem] theorem Pl_0 : Pl[0]? = some 0 := rfl
@[go_sem] theorem Pl_1 : Pl[1]? = some 4 := rfl
@[go_sem] theorem Pl_2 : Pl[2]? = some 8 := rfl
@[go_sem] theorem Pl_3 : Pl[3]? = some 12 := rfl
@[go_sem] theorem Pl_4 : Pl[4]? = some 1 := rfl
@[go_sem] theorem Pl_5 : Pl[5]? = some 5 := rfl
@[go_sem] theorem Pl_6 : Pl[6]? = some 9 := rfl
@[go_sem] theorem Pl_7 : Pl[7]? = some 13 := rfl
@[go_sem] theorem Pl_8 : Pl[8]? = some 2 := rfl
@[go_sem] theorem Pl_9 : Pl[9]? = some 6 := rfl
@[go_sem] theorem Pl_10 : Pl[10]? = some 10 := rfl
@[go_sem] theorem Pl_11 : Pl[11]? = some 14 := rfl
@[go_sem] theorem Pl_12 : Pl[12]? = some 3 := rfl
@[go_sem] theorem Pl_13 : Pl[13]? = some 7 := rfl
@[go_sem] theorem Pl_14 : Pl[14]? = some 11 := rfl
@[go_sem] theorem Pl_15 : Pl[15]? = some 15 := rfl
@[go_sem] theorem Pl_16 : Pl[16]? = some 0 := rfl
@[go_sem] theorem Pl_17 : Pl[17]? = some 5 := rfl
@[go_sem] theorem Pl_18 : Pl[18]? = some 10 := rfl
@[go_sem] theorem Pl_19 : Pl[19]? = some 15 := rfl
@[go_sem] theorem Pl_20 : Pl[20]? = some 1 := rfl
@[go_sem] theorem Pl_21 : Pl[21]? = some 6 := rfl
@[go_sem] theorem Pl_22 : Pl[22]? = some 11 := rfl
@[go_sem] theorem Pl_23 : Pl[23]? = some 12 := rfl
@[go_sem] theorem Pl_24 : Pl[24]? = some 2 := rfl
@[go_sem] theorem Pl_25 : Pl[25]? = some 7 := rfl
@[go_sem] theorem Pl_26 : Pl[26]? = some 8 := rfl
@[go_sem] theorem Pl_27 : Pl[27]? = some 13 := rfl
@[go_sem] theorem Pl_28 : Pl[28]? = some 3 := rfl
@[go_sem] theorem Pl_29 : Pl[29]? = some 4 := rfl
@[go_sem] theorem Pl_30 : Pl[30]? = some 9 := rfl
@[go_sem] theorem Pl_31 : Pl[31]? = some 14 := rfl
@[go_sem] theorem Pl_len : Pl.length = 32 := rfl
set_option maxHeartbeats 4000000 in
@[go_sem] theorem e89 (key nonce : List UInt8) (ctr : UInt32) : fn C 89 [] [.slice 1 (key.map byteRow), .slice 1 (nonce.map byteRow), .int .u32 (ctr.toNat : Int)] = some (if key.length = 32 ∧ nonce.length = 12 then .tup [.slice 1 ((blockB key nonce ctr).map byteRow), .int .i64 0] else .tup [.slice 1 [], .int .i64 2], []) := by
  rw [fn_text Tryz.func89 rfl rfl Tryz.results89 fq89.1 rfl rfl (by kernel_rfl)]
  by_cases hk : key.length = 32
  · by_cases hn : nonce.length = 12
    · simp -implicitDefEqProofs -dsimp +contextual (maxSteps := 5000000) (disch := first | omega | simp only [go_sem] <;> omega | refine ib ?_; kernel_rfl) only [go_sem, Nat.reduceBEq, Int.reduceNeg, Int.reduceLT, Int.reduceLE, Int.reduceAdd, Int.reduceSub, Int.reduceToNat, Int.reduceMul, Int.reduceMod, Int.reduceTMod, Int.reduceTDiv, Int.reduceEq, Nat.reducePow, Nat.reduceDiv, Nat.reduceShiftRight, Nat.reduceMod, List.reduceReplicate, ↓reduceIte, Nat.reduceEqDiff, Nat.reduceAdd, Nat.reduceSub, Nat.reduceLeDiff, Nat.reduceLT, Nat.reduceMul, hk, hn]
      refine (kLoop_rec (fun (n : Nat) f H => f 0 = .slice 1 (key.map byteRow) ∧ f 1 = .slice 1 (nonce.map byteRow) ∧ f 2 = .int .u32 (ctr.toNat : Int) ∧ f 8 = .osl 129 (n + 1) 0 (4 + n) ∧ f 9 = .int .i64 ((4 * n : Nat) : Int) ∧ H 129 = ⟨n + 1, .live, 1, ((firstW key nonce ctr).take (4 + n)).map r32, false⟩ ∧ (∀ k, 145 ≤ k → H k = ⟨0, .dead, 0, [], false⟩) ∧ n ≤ 8) (fun n => 8 - n) (fun n => some (.tup [.slice 1 ((blockB key nonce ctr).map byteRow), .int .i64 0], [])) ?_ 0 _ _ ?_).trans rfl
      rotate_left
      · exact ⟨rfl, rfl, rfl, rfl, rfl, rfl, heap_far (m := 145) (far_nil _) (by omega), by omega⟩
      rintro n f H ⟨f0, f1, f2, f8, f9, H129, hf, hn8⟩ ih
      by_cases hl : n < 8
      · have e1 : wordOf (List.take (4 * n + 4 - 4 * n) (List.drop (4 * n) key)) = wordOf (key.drop (4 * n)) := by rw [show 4 * n + 4 - 4 * n = 4 by omega, word_take _ (by simp; omega)]
        simp -implicitDefEqProofs -dsimp +contextual (maxSteps := 5000000) (disch := first | omega | simp only [go_sem] <;> omega | refine ib ?_; kernel_rfl) only [go_sem, Nat.reduceBEq, Int.reduceNeg, Int.reduceLT, Int.reduceLE, Int.reduceAdd, Int.reduceSub, Int.reduceToNat, Int.reduceMul, Int.reduceMod, Int.reduceTMod, Int.reduceTDiv, Int.reduceEq, Nat.reducePow, Nat.reduceDiv, Nat.reduceShiftRight, Nat.reduceMod, List.reduceReplicate, ↓reduceIte, Nat.reduceEqDiff, Nat.reduceAdd, Nat.reduceSub, Nat.reduceLeDiff, Nat.reduceLT, Nat.reduceMul, f0, f1, f2, f8, f9, H129, hl, hk, hn]
        rw [e1, first_take key nonce ctr n hl]
        exact ih (n + 1) _ _ ⟨f0, f1, f2, rfl, rfl, rfl, heap_far (heap_far hf (by omega)) (by omega), by omega⟩ (by omega)
      · have H154 := hf 154 (by omega)
        have H156 := hf 156 (by omega)
        have H159 := hf 159 (by omega)
        obtain rfl : n = 8 := by omega
        have e2 : wordOf (List.take 4 nonce) = wordOf nonce := word_take _ (by omega)
        have e3 : wordOf (List.take 4 (List.drop 4 nonce)) = wordOf (List.drop 4 nonce) := word_take _ (by simp; omega)
        have e4 : List.map r32 (List.take 12 (firstW key nonce ctr)) ++ [[AVal.int IntKind.u32 ↑ctr.toNat], [AVal.int IntKind.u32 ↑(wordOf nonce).toNat], [AVal.int IntKind.u32 ↑(wordOf (List.drop 4 nonce)).toNat], [AVal.int IntKind.u32 ↑(wordOf (List.drop 8 nonce)).toNat]] = List.map r32 (firstW key nonce ctr) := rfl
        simp -implicitDefEqProofs -dsimp +contextual (maxSteps := 5000000) (disch := first | omega | simp only [go_sem] <;> omega | refine ib ?_; kernel_rfl) only [go_sem, Nat.reduceBEq, Int.reduceNeg, Int.reduceLT, Int.reduceLE, Int.reduceAdd, Int.reduceSub, Int.reduceToNat, Int.reduceMul, Int.reduceMod, Int.reduceTMod, Int.reduceTDiv, Int.reduceEq, Nat.reducePow, Nat.reduceDiv, Nat.reduceShiftRight, Nat.reduceMod, List.reduceReplicate, ↓reduceIte, Nat.reduceEqDiff, Nat.reduceAdd, Nat.reduceSub, Nat.reduceLeDiff, Nat.reduceLT, Nat.reduceMul, f0, f1, f2, f8, f9, H129, H154, H156, H159, hl, hk, hn, e2, e3, e4]
        have e5 : (blockB key nonce ctr) = outW (roundsW (10 - 0) (firstW key nonce ctr)) (firstW key nonce ctr) := rfl
        rw [e5]
        have hlen := firstW_len key nonce ctr
        generalize firstW key nonce ctr = bg at hlen ⊢
        refine (kLoop_rec2 (fun (n : Nat) (ws : List UInt32) f H => f 8 = .osl 129 10 0 16 ∧ f 10 = .osl 156 2 0 16 ∧ f 11 = .osl 159 1 0 32 ∧ f 12 = .int .i64 (n : Int) ∧ H 129 = ⟨10, .live, 1, ws.map r32, false⟩ ∧ H 156 = ⟨2, .live, 1, bg.map r32, false⟩ ∧ H 159 = ⟨1, .live, 1, Pl.map rI, false⟩ ∧ (∀ k, 160 ≤ k → H k = ⟨0, .dead, 0, [], false⟩) ∧ n ≤ 10 ∧ ws.length = 16) (fun n _ => 10 - n) (fun n ws => some (.tup [.slice 1 ((outW (roundsW (10 - n) ws) bg).map byteRow), .int .i64 0], [])) ?_ 0 bg _ _ ?_)
        rotate_left
        · refine ⟨rfl, rfl, rfl, rfl, rfl, rfl, rfl, heap_far (heap_far (heap_far (heap_far (far_le hf (by omega)) (by omega)) (by omega)) (by omega)) (by omega), by omega, hlen⟩
        rintro n ws f H ⟨f8, f10, f11, f12, H129, H156, H159, hf, hn10, hw⟩ ih
        by_cases hl : n < 10
        · simp -implicitDefEqProofs -dsimp +contextual (maxSteps := 5000000) (disch := first | omega | simp only [go_sem] <;> omega | refine ib ?_; kernel_rfl) only [go_sem, Nat.reduceBEq, Int.reduceNeg, Int.reduceLT, Int.reduceLE, Int.reduceAdd, Int.reduceSub, Int.reduceToNat, Int.reduceMul, Int.reduceMod, Int.reduceTMod, Int.reduceTDiv, Int.reduceEq, Nat.reducePow, Nat.reduceDiv, Nat.reduceShiftRight, Nat.reduceMod, List.reduceReplicate, ↓reduceIte, Nat.reduceEqDiff, Nat.reduceAdd, Nat.reduceSub, Nat.reduceLeDiff, Nat.reduceLT, Nat.reduceMul, f8, f10, f11, f12, H129, H156, H159, hl, hw]
          rw [show 10 - n = (10 - (n + 1)) + 1 by omega, roundsW]
          refine (kLoop_rec2 (fun (m : Nat) (vs : List UInt32) f H => f 8 = .osl 129 10 0 16 ∧ f 10 = .osl 156 2 0 16 ∧ f 11 = .osl 159 1 0 32 ∧ f 12 = .int .i64 (n : Int) ∧ f 13 = .int .i64 ((4 * m : Nat) : Int) ∧ H 129 = ⟨10, .live, 1, vs.map r32, false⟩ ∧ H 156 = ⟨2, .live, 1, bg.map r32, false⟩ ∧ H 159 = ⟨1, .live, 1, Pl.map rI, false⟩ ∧ (∀ k, 160 ≤ k → H k = ⟨0, .dead, 0, [], false⟩) ∧ m ≤ 8 ∧ vs.length = 16) (fun m _ => 8 - m) (fun m vs => some (.tup [.slice 1 ((outW (roundsW (10 - (n + 1)) ((places.drop m).foldl qP vs)) bg).map byteRow), .int .i64 0], [])) ?_ 0 ws _ _ ?_)
          rotate_left
          · exact ⟨f8, f10, f11, f12, rfl, H129, H156, H159, hf, by omega, hw⟩
          clear f8 f10 f11 f12 H129 H156 H159 hf hw
          rintro m vs f H ⟨f8, f10, f11, f12, f13, H129, H156, H159, hf, hm8, hw⟩ ihm
          by_cases hm : m < 8
          · match m, hm with
            | 0, _ =>
              simp -implicitDefEqProofs -dsimp +contextual (maxSteps := 5000000) (disch := first | omega | simp only [go_sem] <;> omega | refine ib ?_; kernel_rfl) only [go_sem, Nat.reduceBEq, Int.reduceNeg, Int.reduceLT, Int.reduceLE, Int.reduceAdd, Int.reduceSub, Int.reduceToNat, Int.reduceMul, Int.reduceMod, Int.reduceTMod, Int.reduceTDiv, Int.reduceEq, Nat.reducePow, Nat.reduceDiv, Nat.reduceShiftRight, Nat.reduceMod, List.reduceReplicate, ↓reduceIte, Nat.reduceEqDiff, Nat.reduceAdd, Nat.reduceSub, Nat.reduceLeDiff, Nat.reduceLT, Nat.reduceMul, f8, f10, f11, f12, f13, H129, H156, H159, hw]
              rw [qAt_eq]
              refine (ihm 1 (qAt vs 0 4 8 12) _ _ (by exact ⟨f8, f10, f11, f12, rfl, rfl, H156, H159, (by repeat (first | exact hf | refine heap_far ?_ (by omega))), by omega, by rw [qAt_len]; exact hw⟩) (by omega)).trans ?_
              simp only [places, List.drop_succ_cons, List.drop_zero, List.foldl_cons, qP]
            | 1, _ =>
              simp -implicitDefEqProofs -dsimp +contextual (maxSteps := 5000000) (disch := first | omega | simp only [go_sem] <;> omega | refine ib ?_; kernel_rfl) only [go_sem, Nat.reduceBEq, Int.reduceNeg, Int.reduceLT, Int.reduceLE, Int.reduceAdd, Int.reduceSub, Int.reduceToNat, Int.reduceMul, Int.reduceMod, Int.reduceTMod, Int.reduceTDiv, Int.reduceEq, Nat.reducePow, Nat.reduceDiv, Nat.reduceShiftRight, Nat.reduceMod, List.reduceReplicate, ↓reduceIte, Nat.reduceEqDiff, Nat.reduceAdd, Nat.reduceSub, Nat.reduceLeDiff, Nat.reduceLT, Nat.reduceMul, f8, f10, f11, f12, f13, H129, H156, H159, hw]
              rw [qAt_eq]
              refine (ihm 2 (qAt vs 1 5 9 13) _ _ (by exact ⟨f8, f10, f11, f12, rfl, rfl, H156, H159, (by repeat (first | exact hf | refine heap_far ?_ (by omega))), by omega, by rw [qAt_len]; exact hw⟩) (by omega)).trans ?_
              simp only [places, List.drop_succ_cons, List.drop_zero, List.foldl_cons, qP]
            | 2, _ =>
              simp -implicitDefEqProofs -dsimp +contextual (maxSteps := 5000000) (disch := first | omega | simp only [go_sem] <;> omega | refine ib ?_; kernel_rfl) only [go_sem, Nat.reduceBEq, Int.reduceNeg, Int.reduceLT, Int.reduceLE, Int.reduceAdd, Int.reduceSub, Int.reduceToNat, Int.reduceMul, Int.reduceMod, Int.reduceTMod, Int.reduceTDiv, Int.reduceEq, Nat.reducePow, Nat.reduceDiv, Nat.reduceShiftRight, Nat.reduceMod, List.reduceReplicate, ↓reduceIte, Nat.reduceEqDiff, Nat.reduceAdd, Nat.reduceSub, Nat.reduceLeDiff, Nat.reduceLT, Nat.reduceMul, f8, f10, f11, f12, f13, H129, H156, H159, hw]
              rw [qAt_eq]
              refine (ihm 3 (qAt vs 2 6 10 14) _ _ (by exact ⟨f8, f10, f11, f12, rfl, rfl, H156, H159, (by repeat (first | exact hf | refine heap_far ?_ (by omega))), by omega, by rw [qAt_len]; exact hw⟩) (by omega)).trans ?_
              simp only [places, List.drop_succ_cons, List.drop_zero, List.foldl_cons, qP]
            | 3, _ =>
              simp -implicitDefEqProofs -dsimp +contextual (maxSteps := 5000000) (disch := first | omega | simp only [go_sem] <;> omega | refine ib ?_; kernel_rfl) only [go_sem, Nat.reduceBEq, Int.reduceNeg, Int.reduceLT, Int.reduceLE, Int.reduceAdd, Int.reduceSub, Int.reduceToNat, Int.reduceMul, Int.reduceMod, Int.reduceTMod, Int.reduceTDiv, Int.reduceEq, Nat.reducePow, Nat.reduceDiv, Nat.reduceShiftRight, Nat.reduceMod, List.reduceReplicate, ↓reduceIte, Nat.reduceEqDiff, Nat.reduceAdd, Nat.reduceSub, Nat.reduceLeDiff, Nat.reduceLT, Nat.reduceMul, f8, f10, f11, f12, f13, H129, H156, H159, hw]
              rw [qAt_eq]
              refine (ihm 4 (qAt vs 3 7 11 15) _ _ (by exact ⟨f8, f10, f11, f12, rfl, rfl, H156, H159, (by repeat (first | exact hf | refine heap_far ?_ (by omega))), by omega, by rw [qAt_len]; exact hw⟩) (by omega)).trans ?_
              simp only [places, List.drop_succ_cons, List.drop_zero, List.foldl_cons, qP]
            | 4, _ =>
              simp -implicitDefEqProofs -dsimp +contextual (maxSteps := 5000000) (disch := first | omega | simp only [go_sem] <;> omega | refine ib ?_; kernel_rfl) only [go_sem, Nat.reduceBEq, Int.reduceNeg, Int.reduceLT, Int.reduceLE, Int.reduceAdd, Int.reduceSub, Int.reduceToNat, Int.reduceMul, Int.reduceMod, Int.reduceTMod, Int.reduceTDiv, Int.reduceEq, Nat.reducePow, Nat.reduceDiv, Nat.reduceShiftRight, Nat.reduceMod, List.reduceReplicate, ↓reduceIte, Nat.reduceEqDiff, Nat.reduceAdd, Nat.reduceSub, Nat.reduceLeDiff, Nat.reduceLT, Nat.reduceMul, f8, f10, f11, f12, f13, H129, H156, H159, hw]
              rw [qAt_eq]
              refine (ihm 5 (qAt vs 0 5 10 15) _ _ (by exact ⟨f8, f10, f11, f12, rfl, rfl, H156, H159, (by repeat (first | exact hf | refine heap_far ?_ (by omega))), by omega, by rw [qAt_len]; exact hw⟩) (by omega)).trans ?_
              simp only [places, List.drop_succ_cons, List.drop_zero, List.foldl_cons, qP]
            | 5, _ =>
              simp -implicitDefEqProofs -dsimp +contextual (maxSteps := 5000000) (disch := first | omega | simp only [go_sem] <;> omega | refine ib ?_; kernel_rfl) only [go_sem, Nat.reduceBEq, Int.reduceNeg, Int.reduceLT, Int.reduceLE, Int.reduceAdd, Int.reduceSub, Int.reduceToNat, Int.reduceMul, Int.reduceMod, Int.reduceTMod, Int.reduceTDiv, Int.reduceEq, Nat.reducePow, Nat.reduceDiv, Nat.reduceShiftRight, Nat.reduceMod, List.reduceReplicate, ↓reduceIte, Nat.reduceEqDiff, Nat.reduceAdd, Nat.reduceSub, Nat.reduceLeDiff, Nat.reduceLT, Nat.reduceMul, f8, f10, f11, f12, f13, H129, H156, H159, hw]
              rw [qAt_eq]
              refine (ihm 6 (qAt vs 1 6 11 12) _ _ (by exact ⟨f8, f10, f11, f12, rfl, rfl, H156, H159, (by repeat (first | exact hf | refine heap_far ?_ (by omega))), by omega, by rw [qAt_len]; exact hw⟩) (by omega)).trans ?_
              simp only [places, List.drop_succ_cons, List.drop_zero, List.foldl_cons, qP]
            | 6, _ =>
              simp -implicitDefEqProofs -dsimp +contextual (maxSteps := 5000000) (disch := first | omega | simp only [go_sem] <;> omega | refine ib ?_; kernel_rfl) only [go_sem, Nat.reduceBEq, Int.reduceNeg, Int.reduceLT, Int.reduceLE, Int.reduceAdd, Int.reduceSub, Int.reduceToNat, Int.reduceMul, Int.reduceMod, Int.reduceTMod, Int.reduceTDiv, Int.reduceEq, Nat.reducePow, Nat.reduceDiv, Nat.reduceShiftRight, Nat.reduceMod, List.reduceReplicate, ↓reduceIte, Nat.reduceEqDiff, Nat.reduceAdd, Nat.reduceSub, Nat.reduceLeDiff, Nat.reduceLT, Nat.reduceMul, f8, f10, f11, f12, f13, H129, H156, H159, hw]
              rw [qAt_eq]
              refine (ihm 7 (qAt vs 2 7 8 13) _ _ (by exact ⟨f8, f10, f11, f12, rfl, rfl, H156, H159, (by repeat (first | exact hf | refine heap_far ?_ (by omega))), by omega, by rw [qAt_len]; exact hw⟩) (by omega)).trans ?_
              simp only [places, List.drop_succ_cons, List.drop_zero, List.foldl_cons, qP]
            | 7, _ =>
              simp -implicitDefEqProofs -dsimp +contextual (maxSteps := 5000000) (disch := first | omega | simp only [go_sem] <;> omega | refine ib ?_; kernel_rfl) only [go_sem, Nat.reduceBEq, Int.reduceNeg, Int.reduceLT, Int.reduceLE, Int.reduceAdd, Int.reduceSub, Int.reduceToNat, Int.reduceMul, Int.reduceMod, Int.reduceTMod, Int.reduceTDiv, Int.reduceEq, Nat.reducePow, Nat.reduceDiv, Nat.reduceShiftRight, Nat.reduceMod, List.reduceReplicate, ↓reduceIte, Nat.reduceEqDiff, Nat.reduceAdd, Nat.reduceSub, Nat.reduceLeDiff, Nat.reduceLT, Nat.reduceMul, f8, f10, f11, f12, f13, H129, H156, H159, hw]
              rw [qAt_eq]
              refine (ihm 8 (qAt vs 3 4 9 14) _ _ (by exact ⟨f8, f10, f11, f12, rfl, rfl, H156, H159, (by repeat (first | exact hf | refine heap_far ?_ (by omega))), by omega, by rw [qAt_len]; exact hw⟩) (by omega)).trans ?_
              simp only [places, List.drop_succ_cons, List.drop_zero, List.foldl_cons, qP]
          · obtain rfl : m = 8 := by omega
            simp -implicitDefEqProofs -dsimp +contextual (maxSteps := 5000000) (disch := first | omega | simp only [go_sem] <;> omega | refine ib ?_; kernel_rfl) only [go_sem, Nat.reduceBEq, Int.reduceNeg, Int.reduceLT, Int.reduceLE, Int.reduceAdd, Int.reduceSub, Int.reduceToNat, Int.reduceMul, Int.reduceMod, Int.reduceTMod, Int.reduceTDiv, Int.reduceEq, Nat.reducePow, Nat.reduceDiv, Nat.reduceShiftRight, Nat.reduceMod, List.reduceReplicate, ↓reduceIte, Nat.reduceEqDiff, Nat.reduceAdd, Nat.reduceSub, Nat.reduceLeDiff, Nat.reduceLT, Nat.reduceMul, f8, f10, f11, f12, f13, H129, H156, H159, hw]
            exact ih (n + 1) vs _ _ ⟨f8, f10, f11, rfl, H129, H156, H159, hf, by omega, hw⟩ (by omega)
        · simp -implicitDefEqProofs -dsimp +contextual (maxSteps := 5000000) (disch := first | omega | simp only [go_sem] <;> omega | refine ib ?_; kernel_rfl) only [go_sem, Nat.reduceBEq, Int.reduceNeg, Int.reduceLT, Int.reduceLE, Int.reduceAdd, Int.reduceSub, Int.reduceToNat, Int.reduceMul, Int.reduceMod, Int.reduceTMod, Int.reduceTDiv, Int.reduceEq, Nat.reducePow, Nat.reduceDiv, Nat.reduceShiftRight, Nat.reduceMod, List.reduceReplicate, ↓reduceIte, Nat.reduceEqDiff, Nat.reduceAdd, Nat.reduceSub, Nat.reduceLeDiff, Nat.reduceLT, Nat.reduceMul, f8, f10, f11, f12, H129, H156, H159, hl, hw]
          have H246 := hf 246 (by omega)
          have H247 := hf 247 (by omega)
          rw [show 10 - n = 0 by omega, roundsW, kLoop_eq]
          simp -implicitDefEqProofs -dsimp +contextual (maxSteps := 5000000) (disch := first | omega | simp only [go_sem] <;> omega | refine ib ?_; kernel_rfl) only [go_sem, Nat.reduceBEq, Int.reduceNeg, Int.reduceLT, Int.reduceLE, Int.reduceAdd, Int.reduceSub, Int.reduceToNat, Int.reduceMul, Int.reduceMod, Int.reduceTMod, Int.reduceTDiv, Int.reduceEq, Nat.reducePow, Nat.reduceDiv, Nat.reduceShiftRight, Nat.reduceMod, List.reduceReplicate, ↓reduceIte, Nat.reduceEqDiff, Nat.reduceAdd, Nat.reduceSub, Nat.reduceLeDiff, Nat.reduceLT, Nat.reduceMul, f8, f10, f11, f12, H129, H156, H159, H246, H247, hlen, hw]
          refine (kLoop_rec2 (fun (m : Nat) (out : List UInt8) f H => f 8 = .osl 129 10 0 16 ∧ f 10 = .osl 156 2 0 16 ∧ f 18 = .osl 247 m 0 (4 * m) ∧ f 19 = .int .i64 (m : Int) ∧ H 129 = ⟨10, .live, 1, ws.map r32, false⟩ ∧ H 156 = ⟨2, .live, 1, bg.map r32, false⟩ ∧ H 247 = ⟨m, .live, 1, out.map byteRow, false⟩ ∧ out.length = 4 * m ∧ m ≤ 16) (fun m _ => 16 - m) (fun m out => some (.tup [.slice 1 ((out ++ outW (ws.drop m) (bg.drop m)).map byteRow), .int .i64 0], [])) ?_ 1 (bytes4 (ws[0] + bg[0])) _ _ ?_).trans ?_
          rotate_left
          · exact ⟨f8, f10, rfl, rfl, H129, H156, rfl, rfl, by omega⟩
          · rw [show outW ws bg = outW (ws[0] :: ws.drop 1) (bg[0] :: bg.drop 1) by rw [← List.drop_eq_getElem_cons, ← List.drop_eq_getElem_cons]; rfl, outW]
          clear f8 f10 f11 f12 H129 H156 H159 hf H246 H247
          rintro m out f H ⟨f8, f10, f18, f19, H129, H156, H247, ho, hm⟩ ih
          by_cases hl : m < 16
          · simp -implicitDefEqProofs -dsimp +contextual (maxSteps := 5000000) (disch := first | omega | simp only [go_sem] <;> omega | refine ib ?_; kernel_rfl) only [go_sem, Nat.reduceBEq, Int.reduceNeg, Int.reduceLT, Int.reduceLE, Int.reduceAdd, Int.reduceSub, Int.reduceToNat, Int.reduceMul, Int.reduceMod, Int.reduceTMod, Int.reduceTDiv, Int.reduceEq, Nat.reducePow, Nat.reduceDiv, Nat.reduceShiftRight, Nat.reduceMod, List.reduceReplicate, ↓reduceIte, Nat.reduceEqDiff, Nat.reduceAdd, Nat.reduceSub, Nat.reduceLeDiff, Nat.reduceLT, Nat.reduceMul, f8, f10, f18, f19, H129, H156, H247, hl, hlen, hw, ho]
            rw [List.drop_eq_getElem_cons (by omega : m < ws.length), List.drop_eq_getElem_cons (by omega : m < bg.length), outW, ← List.append_assoc]
            exact ih (m + 1) (out ++ bytes4 (ws[m] + bg[m])) _ _ ⟨f8, f10, rfl, rfl, H129, H156, rfl, by simp [ho, bytes4]; omega, by omega⟩ (by omega)
          · simp -implicitDefEqProofs -dsimp +contextual (maxSteps := 5000000) (disch := first | omega | simp only [go_sem] <;> omega | refine ib ?_; kernel_rfl) only [go_sem, Nat.reduceBEq, Int.reduceNeg, Int.reduceLT, Int.reduceLE, Int.reduceAdd, Int.reduceSub, Int.reduceToNat, Int.reduceMul, Int.reduceMod, Int.reduceTMod, Int.reduceTDiv, Int.reduceEq, Nat.reducePow, Nat.reduceDiv, Nat.reduceShiftRight, Nat.reduceMod, List.reduceReplicate, ↓reduceIte, Nat.reduceEqDiff, Nat.reduceAdd, Nat.reduceSub, Nat.reduceLeDiff, Nat.reduceLT, Nat.reduceMul, f8, f10, f18, f19, H129, H156, H247, hl, hlen, hw, ho]
            simp only [outW, List.append_nil]
    · simp -implicitDefEqProofs -dsimp +contextual (maxSteps := 5000000) (disch := first | omega | simp only [go_sem] <;> omega | refine ib ?_; kernel_rfl) only [go_sem, Nat.reduceBEq, Int.reduceNeg, Int.reduceLT, Int.reduceLE, Int.reduceAdd, Int.reduceSub, Int.reduceToNat, Int.reduceMul, Int.reduceMod, Int.reduceTMod, Int.reduceTDiv, Int.reduceEq, Nat.reducePow, Nat.reduceDiv, Nat.reduceShiftRight, Nat.reduceMod, List.reduceReplicate, ↓reduceIte, Nat.reduceEqDiff, Nat.reduceAdd, Nat.reduceSub, Nat.reduceLeDiff, Nat.reduceLT, Nat.reduceMul, hk, hn]
  · simp -implicitDefEqProofs -dsimp +contextual (maxSteps := 5000000) (disch := first | omega | simp only [go_sem] <;> omega | refine ib ?_; kernel_rfl) only [go_sem, Nat.reduceBEq, Int.reduceNeg, Int.reduceLT, Int.reduceLE, Int.reduceAdd, Int.reduceSub, Int.reduceToNat, Int.reduceMul, Int.reduceMod, Int.reduceTMod, Int.reduceTDiv, Int.reduceEq, Nat.reducePow, Nat.reduceDiv, Nat.reduceShiftRight, Nat.reduceMod, List.reduceReplicate, ↓reduceIte, Nat.reduceEqDiff, Nat.reduceAdd, Nat.reduceSub, Nat.reduceLeDiff, Nat.reduceLT, Nat.reduceMul, hk]

end Go.Proofs.YtccfjidpdlfenaaGreatDoor
namespace Go.Proofs.YtccfjidpdlfenaaGreatDoor
open Go.Am
set_option linter.unusedSimpArgs false
set_option linter.unusedVariables false
set_option maxRecDepth 100000
/-! Layer 6: texts changed. -/
/-- A row that is filled from the left. -/
def fillTo (l : List UInt8) (m : Nat) : List UInt8 := l.take m ++ List.replicate (l.length - m) 0
theorem fillTo_len (l : List UInt8) (m : Nat) (h : m ≤ l.length) : (fillTo l m).length = l.length := by simp [fillTo]; omega
theorem fillTo_zero (l : List UInt8) : fillTo l 0 = List.replicate l.length 0 := by simp [fillTo]
theorem fillTo_all (l : List UInt8) (m : Nat) (h : l.length ≤ m) : fillTo l m = l := by simp [fillTo, List.take_of_length_le h, show l.length - m = 0 by omega]
theorem fillTo_set (l : List UInt8) (m : Nat) (h : m < l.length) : (fillTo l m).set m l[m] = fillTo l (m + 1) := by
  unfold fillTo
  rw [List.set_append_right _ _ (by simp; omega), show l.length - m = (l.length - (m + 1)) + 1 by omega, List.replicate_succ, List.length_take, Nat.min_eq_left (by omega), Nat.sub_self, List.set_cons_zero, List.take_succ_eq_append_getElem h, List.append_assoc]
  rfl
def ksAt (key nonce : List UInt8) (ctr : UInt32) (i : Nat) : UInt8 := (blockB key nonce (ctr + UInt32.ofNat (i / 64))).getD (i % 64) 0
def xorB (key nonce : List UInt8) (ctr : UInt32) (msg : List UInt8) : List UInt8 := msg.mapIdx fun i b => b ^^^ ksAt key nonce ctr i
@[go_sem] theorem xorB_len (key nonce : List UInt8) (ctr : UInt32) (msg : List UInt8) : (xorB key nonce ctr msg).length = msg.length := by simp [xorB]
theorem xorB_xorB (key nonce : List UInt8) (ctr : UInt32) (msg : List UInt8) : xorB key nonce ctr (xorB key nonce ctr msg) = msg := by
  apply List.ext_getElem
  · simp [xorB]
  · intro i h1 h2
    simp only [xorB, List.getElem_mapIdx]
    rw [UInt8.xor_assoc, UInt8.xor_self, UInt8.xor_zero]
theorem xorB_get (key nonce : List UInt8) (ctr : UInt32) (msg : List UInt8) (i : Nat) (h : i < msg.length) : (xorB key nonce ctr msg)[i]'(by rw [xorB_len]; exact h) = msg[i] ^^^ ksAt key nonce ctr i := by simp [xorB]
theorem ks_block (key nonce : List UInt8) (ctr : UInt32) (j k : Nat) (hk : k < 64) : ksAt key nonce ctr (64 * j + k) = (blockB key nonce (ctr + UInt32.ofNat j))[k]'(by rw [blockB_len]; exact hk) := by
  simp only [ksAt, show (64 * j + k) / 64 = j by omega, show (64 * j + k) % 64 = k by omega]
  rw [List.getD_eq_getElem?_getD, List.getElem?_eq_getElem (by rw [blockB_len]; exact hk)]; rfl
theorem firstW_up (key nonce : List UInt8) (c : UInt32) : (firstW key nonce c).set 12 (c + 1) = firstW key nonce (c + 1) := rfl
theorem firstW_12 (key nonce : List UInt8) (c : UInt32) : (firstW key nonce c)[12]'(by rw [firstW_len]; omega) = c := rfl
attribute [local irreducible] firstW blockB

def xorR (mk : Nat → List (List AVal) → AVal) (key nonce : List UInt8) (ctr : UInt32) (msg : List UInt8) : Res :=
  if key.length = 32 ∧ nonce.length = 12 then
    if (msg.length + 63) / 64 ≤ 4294967296 - ctr.toNat then (.tup [mk 1 ((xorB key nonce ctr msg).map byteRow), .int .i64 0], [])
    else (.tup [mk 1 [], .int .i64 3], [])
  else (.tup [mk 1 [], .int .i64 2], [])

set_option maxHeartbeats 4000000 in
@[go_sem] theorem e42 (key nonce : List UInt8) (ctr : UInt32) (msg : List UInt8) (hm : msg.length ≤ 1000000000) : fn C 42 [] [.slice 1 (key.map byteRow), .slice 1 (nonce.map byteRow), .int .u32 (ctr.toNat : Int), .slice 1 (msg.map byteRow)] = some (xorR .usl key nonce ctr msg) := by
  rw [fn_text Tryz.func42 rfl rfl Tryz.results42 fq42.1 rfl rfl (by kernel_rfl)]
  have hc := u32_lt ctr
  have ec : IntKind.u64.wrap ((4294967296 : Int) - (ctr.toUInt64.toNat : Int)) = ((4294967296 - ctr.toNat : Nat) : Int) := by
    rw [UInt32.toNat_toUInt64, wrap_u64_id] <;> omega
  by_cases hk : key.length = 32
  · by_cases hn : nonce.length = 12
    · have hb := fun c => e70 (firstW key nonce c) (firstW_len ..)
      have hfl := fun c => firstW_len key nonce c
      by_cases hbig : (msg.length + 63) / 64 ≤ 4294967296 - ctr.toNat
      · have hbig' : ¬ (4294967296 - ctr.toNat < (msg.length + 64 - 1) / 64) := by omega
        simp -implicitDefEqProofs -dsimp +contextual (maxSteps := 5000000) (disch := first | omega | simp only [go_sem] <;> omega | refine ib ?_; kernel_rfl) only [go_sem, Nat.reduceBEq, Int.reduceNeg, Int.reduceLT, Int.reduceLE, Int.reduceAdd, Int.reduceSub, Int.reduceToNat, Int.reduceMul, Int.reduceMod, Int.reduceTMod, Int.reduceTDiv, Int.reduceEq, Nat.reducePow, Nat.reduceDiv, Nat.reduceShiftRight, Nat.reduceMod, List.reduceReplicate, ↓reduceIte, Nat.reduceEqDiff, Nat.reduceAdd, Nat.reduceSub, Nat.reduceLeDiff, Nat.reduceLT, Nat.reduceMul, hk, hn, hb, hfl, ec, hbig']
        rw [xorR, if_pos ⟨hk, hn⟩, if_pos hbig]
        obtain ⟨A, hAdef⟩ : ∃ A, A = xorB key nonce ctr msg := ⟨_, rfl⟩
        have hA : A.length = msg.length := by rw [hAdef, xorB_len]
        have hget : ∀ (i : Nat) (h : i < A.length) (h2 : i < msg.length), A[i] = msg[i] ^^^ ksAt key nonce ctr i := fun i h h2 => by
          subst hAdef; exact xorB_get key nonce ctr msg i h2
        have z1 := fillTo_zero A
        rw [hA] at z1
        rw [← z1, ← hAdef]
        refine kLoop_rec (fun (j : Nat) f H => f 3 = .slice 1 (msg.map byteRow) ∧ f 11 = .ptr 111 1 0 0 ∧ f 12 = .osl 137 1 0 msg.length ∧ f 13 = .int .i64 ((64 * j : Nat) : Int) ∧ H 111 = ⟨1, .live, 16, [(firstW key nonce (ctr + UInt32.ofNat j)).map w32], false⟩ ∧ H 137 = ⟨1, .live, 1, (fillTo A (min (64 * j) msg.length)).map byteRow, true⟩ ∧ (H 114).gen = j ∧ 64 * j < msg.length + 64) (fun j => msg.length + 64 - 64 * j) (fun _ => some (.tup [.usl 1 (A.map byteRow), .int .i64 0], [])) ?_ 0 _ _ ?_
        rotate_left
        · refine ⟨rfl, rfl, rfl, rfl, ?_, rfl, rfl, by omega⟩
          rw [show ctr + UInt32.ofNat 0 = ctr by simp]; rfl
        rintro j f H ⟨f3, f11, f12, f13, H111, H137, hg, hj⟩ ih
        have hfill := fillTo_len A (min (64 * j) msg.length) (by omega)
        by_cases hl : 64 * j < msg.length
        · have e : (if msg.length - 64 * j < 64 then ((msg.length - 64 * j : Nat) : Int) else 64) = ((min 64 (msg.length - 64 * j) : Nat) : Int) := by split <;> omega
          simp -implicitDefEqProofs -dsimp +contextual (maxSteps := 5000000) (disch := first | omega | simp only [go_sem] <;> omega | refine ib ?_; kernel_rfl) only [go_sem, Nat.reduceBEq, Int.reduceNeg, Int.reduceLT, Int.reduceLE, Int.reduceAdd, Int.reduceSub, Int.reduceToNat, Int.reduceMul, Int.reduceMod, Int.reduceTMod, Int.reduceTDiv, Int.reduceEq, Nat.reducePow, Nat.reduceDiv, Nat.reduceShiftRight, Nat.reduceMod, List.reduceReplicate, ↓reduceIte, Nat.reduceEqDiff, Nat.reduceAdd, Nat.reduceSub, Nat.reduceLeDiff, Nat.reduceLT, Nat.reduceMul, f3, f11, f12, f13, H111, H137, hg, hb, hfl, hl, e]
          refine (kLoop_rec (fun (k : Nat) f H => f 3 = .slice 1 (msg.map byteRow) ∧ f 11 = .ptr 111 1 0 0 ∧ f 12 = .osl 137 1 0 msg.length ∧ f 13 = .int .i64 ((64 * j : Nat) : Int) ∧ f 14 = .ptr 114 (j + 1) 0 0 ∧ f 50 = .int .i64 ((min 64 (msg.length - 64 * j) : Nat) : Int) ∧ f 51 = .int .i64 (k : Int) ∧ H 111 = ⟨1, .live, 16, [(firstW key nonce (ctr + UInt32.ofNat j)).map w32], false⟩ ∧ H 137 = ⟨1, .live, 1, (fillTo A (64 * j + k)).map byteRow, true⟩ ∧ H 114 = ⟨j + 1, .live, 64, [(blockB key nonce (ctr + UInt32.ofNat j)).map w8], false⟩ ∧ k ≤ min 64 (msg.length - 64 * j)) (fun k => 64 - k) (fun _ => some (.tup [.usl 1 (A.map byteRow), .int .i64 0], [])) ?_ 0 _ _ ?_)
          rotate_left
          · refine ⟨f3, f11, f12, f13, rfl, rfl, rfl, H111, ?_, rfl, by omega⟩
            rw [show 64 * j + 0 = min (64 * j) msg.length by omega]; exact H137
          clear f3 f11 f12 f13 H111 H137 hg hfill
          rintro k f H ⟨f3, f11, f12, f13, f14, f50, f51, H111, H137, H114, hk64⟩ ihk
          by_cases hkl : k < min 64 (msg.length - 64 * j)
          · have hfill := fillTo_len A (64 * j + k) (by omega)
            have hbl := blockB_len key nonce (ctr + UInt32.ofNat j)
            simp -implicitDefEqProofs -dsimp +contextual (maxSteps := 5000000) (disch := first | omega | simp only [go_sem] <;> omega | refine ib ?_; kernel_rfl) only [go_sem, Nat.reduceBEq, Int.reduceNeg, Int.reduceLT, Int.reduceLE, Int.reduceAdd, Int.reduceSub, Int.reduceToNat, Int.reduceMul, Int.reduceMod, Int.reduceTMod, Int.reduceTDiv, Int.reduceEq, Nat.reducePow, Nat.reduceDiv, Nat.reduceShiftRight, Nat.reduceMod, List.reduceReplicate, ↓reduceIte, Nat.reduceEqDiff, Nat.reduceAdd, Nat.reduceSub, Nat.reduceLeDiff, Nat.reduceLT, Nat.reduceMul, f3, f11, f12, f13, f14, f50, f51, H111, H137, H114, hkl, hfill, hbl]
            rw [← ks_block key nonce ctr j k (by omega), ← hget (64 * j + k) (by omega) (by omega), fillTo_set _ _ (by omega)]
            exact ihk (k + 1) _ _ ⟨f3, f11, f12, f13, f14, f50, rfl, H111, rfl, H114, by omega⟩ (by omega)
          · simp -implicitDefEqProofs -dsimp +contextual (maxSteps := 5000000) (disch := first | omega | simp only [go_sem] <;> omega | refine ib ?_; kernel_rfl) only [go_sem, Nat.reduceBEq, Int.reduceNeg, Int.reduceLT, Int.reduceLE, Int.reduceAdd, Int.reduceSub, Int.reduceToNat, Int.reduceMul, Int.reduceMod, Int.reduceTMod, Int.reduceTDiv, Int.reduceEq, Nat.reducePow, Nat.reduceDiv, Nat.reduceShiftRight, Nat.reduceMod, List.reduceReplicate, ↓reduceIte, Nat.reduceEqDiff, Nat.reduceAdd, Nat.reduceSub, Nat.reduceLeDiff, Nat.reduceLT, Nat.reduceMul, f3, f11, f12, f13, f14, f50, f51, H111, H137, H114, hkl]
            rw [firstW_12, firstW_up, show ctr + UInt32.ofNat j + 1 = ctr + UInt32.ofNat (j + 1) by rw [UInt32.ofNat_add, UInt32.add_assoc]; rfl]
            refine ih (j + 1) _ _ ⟨f3, f11, f12, rfl, rfl, ?_, ?_, by omega⟩ (by omega)
            · rw [show min (64 * (j + 1)) msg.length = 64 * j + k by omega]; exact H137
            · show (H 114).gen = _
              rw [H114]
        · have hfa := fillTo_all A msg.length (by omega)
          simp -implicitDefEqProofs -dsimp +contextual (maxSteps := 5000000) (disch := first | omega | simp only [go_sem] <;> omega | refine ib ?_; kernel_rfl) only [go_sem, Nat.reduceBEq, Int.reduceNeg, Int.reduceLT, Int.reduceLE, Int.reduceAdd, Int.reduceSub, Int.reduceToNat, Int.reduceMul, Int.reduceMod, Int.reduceTMod, Int.reduceTDiv, Int.reduceEq, Nat.reducePow, Nat.reduceDiv, Nat.reduceShiftRight, Nat.reduceMod, List.reduceReplicate, ↓reduceIte, Nat.reduceEqDiff, Nat.reduceAdd, Nat.reduceSub, Nat.reduceLeDiff, Nat.reduceLT, Nat.reduceMul, f3, f11, f12, f13, H111, H137, hg, hl, hfa, hA]
      · have hbig' : 4294967296 - ctr.toNat < (msg.length + 64 - 1) / 64 := by omega
        simp -implicitDefEqProofs -dsimp +contextual (maxSteps := 5000000) (disch := first | omega | simp only [go_sem] <;> omega | refine ib ?_; kernel_rfl) only [go_sem, Nat.reduceBEq, Int.reduceNeg, Int.reduceLT, Int.reduceLE, Int.reduceAdd, Int.reduceSub, Int.reduceToNat, Int.reduceMul, Int.reduceMod, Int.reduceTMod, Int.reduceTDiv, Int.reduceEq, Nat.reducePow, Nat.reduceDiv, Nat.reduceShiftRight, Nat.reduceMod, List.reduceReplicate, ↓reduceIte, Nat.reduceEqDiff, Nat.reduceAdd, Nat.reduceSub, Nat.reduceLeDiff, Nat.reduceLT, Nat.reduceMul, hk, hn, hb, ec, hbig']
        simp [xorR, hn, hk, hbig]
    · simp -implicitDefEqProofs -dsimp +contextual (maxSteps := 5000000) (disch := first | omega | simp only [go_sem] <;> omega | refine ib ?_; kernel_rfl) only [go_sem, Nat.reduceBEq, Int.reduceNeg, Int.reduceLT, Int.reduceLE, Int.reduceAdd, Int.reduceSub, Int.reduceToNat, Int.reduceMul, Int.reduceMod, Int.reduceTMod, Int.reduceTDiv, Int.reduceEq, Nat.reducePow, Nat.reduceDiv, Nat.reduceShiftRight, Nat.reduceMod, List.reduceReplicate, ↓reduceIte, Nat.reduceEqDiff, Nat.reduceAdd, Nat.reduceSub, Nat.reduceLeDiff, Nat.reduceLT, Nat.reduceMul, hk, hn]
      simp [xorR, hn]
  · simp -implicitDefEqProofs -dsimp +contextual (maxSteps := 5000000) (disch := first | omega | simp only [go_sem] <;> omega | refine ib ?_; kernel_rfl) only [go_sem, Nat.reduceBEq, Int.reduceNeg, Int.reduceLT, Int.reduceLE, Int.reduceAdd, Int.reduceSub, Int.reduceToNat, Int.reduceMul, Int.reduceMod, Int.reduceTMod, Int.reduceTDiv, Int.reduceEq, Nat.reducePow, Nat.reduceDiv, Nat.reduceShiftRight, Nat.reduceMod, List.reduceReplicate, ↓reduceIte, Nat.reduceEqDiff, Nat.reduceAdd, Nat.reduceSub, Nat.reduceLeDiff, Nat.reduceLT, Nat.reduceMul, hk]
    simp [xorR, hk]

set_option maxHeartbeats 4000000 in
@[go_sem] theorem e63 (key nonce : List UInt8) (ctr : UInt32) (msg : List UInt8) (hm : msg.length ≤ 1000000000) : fn C 63 [] [.slice 1 (key.map byteRow), .slice 1 (nonce.map byteRow), .int .u32 (ctr.toNat : Int), .slice 1 (msg.map byteRow)] = some (xorR .slice key nonce ctr msg) := by
  rw [fn_text Tryz.func63 rfl rfl Tryz.results63 fq63.1 rfl rfl (by kernel_rfl)]
  have hc := u32_lt ctr
  have ec : ((4294967296 : Int) - (ctr.toNat : Int)) = ((4294967296 - ctr.toNat : Nat) : Int) := by omega
  by_cases hk : key.length = 32
  · by_cases hn : nonce.length = 12
    · by_cases hbig : (msg.length + 63) / 64 ≤ 4294967296 - ctr.toNat
      · simp -implicitDefEqProofs -dsimp +contextual (maxSteps := 5000000) (disch := first | omega | simp only [go_sem] <;> omega | refine ib ?_; kernel_rfl) only [go_sem, Nat.reduceBEq, Int.reduceNeg, Int.reduceLT, Int.reduceLE, Int.reduceAdd, Int.reduceSub, Int.reduceToNat, Int.reduceMul, Int.reduceMod, Int.reduceTMod, Int.reduceTDiv, Int.reduceEq, Nat.reducePow, Nat.reduceDiv, Nat.reduceShiftRight, Nat.reduceMod, List.reduceReplicate, ↓reduceIte, Nat.reduceEqDiff, Nat.reduceAdd, Nat.reduceSub, Nat.reduceLeDiff, Nat.reduceLT, Nat.reduceMul, hk, hn, ec, hbig]
        rw [xorR, if_pos ⟨hk, hn⟩, if_pos hbig]
        have ew : ∀ i : Nat, IntKind.u32.wrap ((ctr.toNat + i / 64 : Nat) : Int) = ((ctr + UInt32.ofNat (i / 64)).toNat : Int) := fun i => by
          rw [u32_wrap, UInt32.ofNat_add, UInt32.ofNat_toNat]
        obtain ⟨A, hAdef⟩ : ∃ A, A = xorB key nonce ctr msg := ⟨_, rfl⟩
        have hA : A.length = msg.length := by rw [hAdef, xorB_len]
        have hget : ∀ (i : Nat) (h : i < A.length) (h2 : i < msg.length), A[i] = msg[i] ^^^ ksAt key nonce ctr i := fun i h h2 => by
          subst hAdef; exact xorB_get key nonce ctr msg i h2
        have hks : ∀ i : Nat, ksAt key nonce ctr i = (blockB key nonce (ctr + UInt32.ofNat (i / 64)))[i % 64]'(by rw [blockB_len]; omega) := fun i => by
          have := ks_block key nonce ctr (i / 64) (i % 64) (by omega)
          rw [show 64 * (i / 64) + i % 64 = i by omega] at this; exact this
        rw [← hAdef]
        have hbl := fun c => blockB_len key nonce c
        have e0 : IntKind.u32.wrap ((ctr.toNat : Nat) : Int) = (ctr.toNat : Int) := u32_id ctr
        by_cases hm0 : msg.length = 0
        · have : msg = [] := List.eq_nil_of_length_eq_zero hm0
          have : A = [] := List.eq_nil_of_length_eq_zero (by omega)
          rw [this]
          subst msg
          rw [kLoop_eq]
          simp -implicitDefEqProofs -dsimp +contextual (maxSteps := 5000000) (disch := first | omega | simp only [go_sem] <;> omega | refine ib ?_; kernel_rfl) only [go_sem, Nat.reduceBEq, Int.reduceNeg, Int.reduceLT, Int.reduceLE, Int.reduceAdd, Int.reduceSub, Int.reduceToNat, Int.reduceMul, Int.reduceMod, Int.reduceTMod, Int.reduceTDiv, Int.reduceEq, Nat.reducePow, Nat.reduceDiv, Nat.reduceShiftRight, Nat.reduceMod, List.reduceReplicate, ↓reduceIte, Nat.reduceEqDiff, Nat.reduceAdd, Nat.reduceSub, Nat.reduceLeDiff, Nat.reduceLT, Nat.reduceMul]
        have hm1 : 0 < msg.length := by omega
        rw [kLoop_eq]
        simp -implicitDefEqProofs -dsimp +contextual (maxSteps := 5000000) (disch := first | omega | simp only [go_sem] <;> omega | refine ib ?_; kernel_rfl) only [go_sem, Nat.reduceBEq, Int.reduceNeg, Int.reduceLT, Int.reduceLE, Int.reduceAdd, Int.reduceSub, Int.reduceToNat, Int.reduceMul, Int.reduceMod, Int.reduceTMod, Int.reduceTDiv, Int.reduceEq, Nat.reducePow, Nat.reduceDiv, Nat.reduceShiftRight, Nat.reduceMod, List.reduceReplicate, ↓reduceIte, Nat.reduceEqDiff, Nat.reduceAdd, Nat.reduceSub, Nat.reduceLeDiff, Nat.reduceLT, Nat.reduceMul, hk, hn, hm1, hbl]
        refine kLoop_rec (fun (i : Nat) f H => f 0 = .slice 1 (key.map byteRow) ∧ f 1 = .slice 1 (nonce.map byteRow) ∧ f 2 = .int .u32 (ctr.toNat : Int) ∧ f 3 = .slice 1 (msg.map byteRow) ∧ f 11 = .osl 163 i 0 i ∧ f 12 = .slice 1 ((blockB key nonce (ctr + UInt32.ofNat ((i - 1) / 64))).map byteRow) ∧ f 13 = .int .i64 (i : Int) ∧ H 163 = ⟨i, .live, 1, (A.take i).map byteRow, false⟩ ∧ 1 ≤ i ∧ i ≤ msg.length) (fun i => msg.length - i) (fun _ => some (.tup [.slice 1 (A.map byteRow), .int .i64 0], [])) ?_ 1 _ _ ?_
        rotate_left
        · refine ⟨rfl, rfl, rfl, rfl, rfl, ?_, rfl, ?_, by omega, by omega⟩
          · rw [show ctr + UInt32.ofNat ((1 - 1) / 64) = ctr by simp]; rfl
          · have e1 : msg[0] ^^^ (blockB key nonce ctr)[0]'(by rw [blockB_len]; omega) = A[0]'(by omega) := by
              rw [hget 0 _ hm1, hks 0]; simp
            have e2 : A.take 1 = [A[0]'(by omega)] := by rw [List.take_succ_eq_append_getElem (by omega : 0 < A.length)]; rfl
            rw [e1, e2]; rfl
        rintro i f H ⟨f0, f1, f2, f3, f11, f12, f13, H163, hi, hi2⟩ ih
        by_cases hl : i < msg.length
        · by_cases h0 : i % 64 = 0
          · have eA : msg[i] ^^^ (blockB key nonce (ctr + UInt32.ofNat (i / 64)))[0]'(by rw [blockB_len]; omega) = A[i]'(by omega) := by
              rw [hget i _ hl, hks i]; simp only [h0]
            simp -implicitDefEqProofs -dsimp +contextual (maxSteps := 5000000) (disch := first | omega | simp only [go_sem] <;> omega | refine ib ?_; kernel_rfl) only [go_sem, Nat.reduceBEq, Int.reduceNeg, Int.reduceLT, Int.reduceLE, Int.reduceAdd, Int.reduceSub, Int.reduceToNat, Int.reduceMul, Int.reduceMod, Int.reduceTMod, Int.reduceTDiv, Int.reduceEq, Nat.reducePow, Nat.reduceDiv, Nat.reduceShiftRight, Nat.reduceMod, List.reduceReplicate, ↓reduceIte, Nat.reduceEqDiff, Nat.reduceAdd, Nat.reduceSub, Nat.reduceLeDiff, Nat.reduceLT, Nat.reduceMul, f0, f1, f2, f3, f11, f12, f13, H163, hl, h0, hk, hn, hbl, ew]
            rw [eA, ← List.take_succ_eq_append_getElem (by omega : i < A.length)]
            exact ih (i + 1) _ _ ⟨f0, f1, f2, f3, rfl, rfl, rfl, rfl, by omega, by omega⟩ (by omega)
          · have eA : msg[i] ^^^ (blockB key nonce (ctr + UInt32.ofNat (i / 64)))[i % 64]'(by rw [blockB_len]; omega) = A[i]'(by omega) := by
              rw [hget i _ hl, hks i]
            rw [show (i - 1) / 64 = i / 64 by omega] at f12
            simp -implicitDefEqProofs -dsimp +contextual (maxSteps := 5000000) (disch := first | omega | simp only [go_sem] <;> omega | refine ib ?_; kernel_rfl) only [go_sem, Nat.reduceBEq, Int.reduceNeg, Int.reduceLT, Int.reduceLE, Int.reduceAdd, Int.reduceSub, Int.reduceToNat, Int.reduceMul, Int.reduceMod, Int.reduceTMod, Int.reduceTDiv, Int.reduceEq, Nat.reducePow, Nat.reduceDiv, Nat.reduceShiftRight, Nat.reduceMod, List.reduceReplicate, ↓reduceIte, Nat.reduceEqDiff, Nat.reduceAdd, Nat.reduceSub, Nat.reduceLeDiff, Nat.reduceLT, Nat.reduceMul, f0, f1, f2, f3, f11, f12, f13, H163, hl, h0, hbl, ew]
            rw [eA, ← List.take_succ_eq_append_getElem (by omega : i < A.length)]
            exact ih (i + 1) _ _ ⟨f0, f1, f2, f3, rfl, f12, rfl, rfl, by omega, by omega⟩ (by omega)
        · simp -implicitDefEqProofs -dsimp +contextual (maxSteps := 5000000) (disch := first | omega | simp only [go_sem] <;> omega | refine ib ?_; kernel_rfl) only [go_sem, Nat.reduceBEq, Int.reduceNeg, Int.reduceLT, Int.reduceLE, Int.reduceAdd, Int.reduceSub, Int.reduceToNat, Int.reduceMul, Int.reduceMod, Int.reduceTMod, Int.reduceTDiv, Int.reduceEq, Nat.reducePow, Nat.reduceDiv, Nat.reduceShiftRight, Nat.reduceMod, List.reduceReplicate, ↓reduceIte, Nat.reduceEqDiff, Nat.reduceAdd, Nat.reduceSub, Nat.reduceLeDiff, Nat.reduceLT, Nat.reduceMul, f0, f1, f2, f3, f11, f12, f13, H163, hl]
      · have hbig' : 4294967296 - ctr.toNat < (msg.length + 63) / 64 := by omega
        simp -implicitDefEqProofs -dsimp +contextual (maxSteps := 5000000) (disch := first | omega | simp only [go_sem] <;> omega | refine ib ?_; kernel_rfl) only [go_sem, Nat.reduceBEq, Int.reduceNeg, Int.reduceLT, Int.reduceLE, Int.reduceAdd, Int.reduceSub, Int.reduceToNat, Int.reduceMul, Int.reduceMod, Int.reduceTMod, Int.reduceTDiv, Int.reduceEq, Nat.reducePow, Nat.reduceDiv, Nat.reduceShiftRight, Nat.reduceMod, List.reduceReplicate, ↓reduceIte, Nat.reduceEqDiff, Nat.reduceAdd, Nat.reduceSub, Nat.reduceLeDiff, Nat.reduceLT, Nat.reduceMul, hk, hn, ec, hbig']
        simp [xorR, hn, hk, hbig]
    · simp -implicitDefEqProofs -dsimp +contextual (maxSteps := 5000000) (disch := first | omega | simp only [go_sem] <;> omega | refine ib ?_; kernel_rfl) only [go_sem, Nat.reduceBEq, Int.reduceNeg, Int.reduceLT, Int.reduceLE, Int.reduceAdd, Int.reduceSub, Int.reduceToNat, Int.reduceMul, Int.reduceMod, Int.reduceTMod, Int.reduceTDiv, Int.reduceEq, Nat.reducePow, Nat.reduceDiv, Nat.reduceShiftRight, Nat.reduceMod, List.reduceReplicate, ↓reduceIte, Nat.reduceEqDiff, Nat.reduceAdd, Nat.reduceSub, Nat.reduceLeDiff, Nat.reduceLT, Nat.reduceMul, hk, hn]
      simp [xorR, hn]
  · simp -implicitDefEqProofs -dsimp +contextual (maxSteps := 5000000) (disch := first | omega | simp only [go_sem] <;> omega | refine ib ?_; kernel_rfl) only [go_sem, Nat.reduceBEq, Int.reduceNeg, Int.reduceLT, Int.reduceLE, Int.reduceAdd, Int.reduceSub, Int.reduceToNat, Int.reduceMul, Int.reduceMod, Int.reduceTMod, Int.reduceTDiv, Int.reduceEq, Nat.reducePow, Nat.reduceDiv, Nat.reduceShiftRight, Nat.reduceMod, List.reduceReplicate, ↓reduceIte, Nat.reduceEqDiff, Nat.reduceAdd, Nat.reduceSub, Nat.reduceLeDiff, Nat.reduceLT, Nat.reduceMul, hk]
    simp [xorR, hk]

end Go.Proofs.YtccfjidpdlfenaaGreatDoor
namespace Go.Proofs.YtccfjidpdlfenaaGreatDoor
open Go.Am
set_option linter.unusedSimpArgs false
set_option linter.unusedVariables false
set_option maxRecDepth 100000
/-! Layer 2: bytes held against one another. -/
def gatherB (l : List UInt8) : UInt8 := l.foldl (· ||| ·) 0
theorem or_zero8 (a b : UInt8) : a ||| b = 0 ↔ a = 0 ∧ b = 0 := by
  have h := @UInt8.toBitVec_inj (a ||| b) 0
  rw [← h, ← @UInt8.toBitVec_inj a 0, ← @UInt8.toBitVec_inj b 0]
  simp [UInt8.toBitVec_or]
theorem gather_foldl (l : List UInt8) : ∀ a : UInt8, l.foldl (· ||| ·) a = 0 ↔ a = 0 ∧ ∀ x ∈ l, x = 0 := by
  induction l with
  | nil => intro a; simp
  | cons x l ih => intro a; rw [List.foldl_cons, ih, or_zero8]; simp [and_assoc]
theorem gather_zero (l : List UInt8) : gatherB l = 0 ↔ ∀ x ∈ l, x = 0 := by rw [gatherB, gather_foldl]; simp

@[go_sem] theorem e144 (l : List UInt8) (hm : l.length ≤ 1000000000) : fn C 144 [] [.slice 1 (l.map byteRow)] = some (.int .u8 ((gatherB l).toNat : Int), []) := by
  rw [fn_text Tryz.func144 rfl rfl Tryz.results144 fq144.1 rfl rfl (by kernel_rfl)]
  simp -implicitDefEqProofs -dsimp +contextual (maxSteps := 9999999) (disch := first | omega | simp only [go_sem] <;> omega | refine ib ?_; kernel_rfl) only [go_sem, seval, ↓reduceIte]
  refine (kLoop_rec (fun i f H => f 3 = .int .u8 ((gatherB (l.take i)).toNat : Int) ∧ f 6 = .slice 1 (l.map byteRow) ∧ f 7 = .int .i64 l.length ∧ f 8 = .int .i64 (i : Nat) ∧ i ≤ l.length) (fun i => l.length - i) (fun _ => some (.int .u8 ((gatherB l).toNat : Int), [])) ?_ 0 _ _ ⟨rfl, rfl, rfl, rfl, by omega⟩)
  rintro i f H ⟨f3, f6, f7, f8, hi⟩ ih
  by_cases hl : i < l.length
  · simp -implicitDefEqProofs -dsimp +contextual (maxSteps := 9999999) (disch := first | omega | simp only [go_sem] <;> omega | refine ib ?_; kernel_rfl) only [go_sem, seval, ↓reduceIte, f3, f6, f7, f8, hl]
    refine ih (i + 1) _ _ ⟨?_, f6, f7, rfl, by omega⟩ (by omega)
    have e : gatherB (l.take (i + 1)) = gatherB (l.take i) ||| l[i] := by
      rw [List.take_succ_eq_append_getElem hl]; simp only [gatherB, List.foldl_append, List.foldl_cons, List.foldl_nil]
    rw [e]; rfl
  · obtain rfl : i = l.length := by omega
    simp -implicitDefEqProofs -dsimp +contextual (maxSteps := 9999999) (disch := first | omega | simp only [go_sem] <;> omega | refine ib ?_; kernel_rfl) only [go_sem, seval, ↓reduceIte, f3, f6, f7, f8, hl]

@[go_sem] theorem e131 (l : List UInt8) (hm : l.length ≤ 1000000000) : fn C 131 [] [.slice 1 (l.map byteRow)] = some (.bool (l.all (· == 0)), []) := by
  rw [fn_text Tryz.func131 rfl rfl Tryz.results131 fq131.1 rfl rfl (by kernel_rfl)]
  simp -implicitDefEqProofs -dsimp +contextual (maxSteps := 9999999) (disch := first | omega | simp only [go_sem] <;> omega | refine ib ?_; kernel_rfl) only [go_sem, seval, ↓reduceIte]
  refine Res_bool ?_
  rw [decide_eq_true_eq, List.all_eq_true]
  have := gather_zero l
  rw [← UInt8.toNat_inj] at this
  simpa using this

@[go_sem] theorem e132 (a b : List UInt8) (h : a.length = b.length) (hm : a.length ≤ 1000000000) : fn C 132 [] [.slice 1 (a.map byteRow), .slice 1 (b.map byteRow)] = some (.slice 1 ((List.zipWith (· ^^^ ·) a b).map byteRow), []) := by
  rw [fn_text Tryz.func132 rfl rfl Tryz.results132 fq132.1 rfl rfl (by kernel_rfl)]
  simp -implicitDefEqProofs -dsimp +contextual (maxSteps := 9999999) (disch := first | omega | simp only [go_sem] <;> omega | refine ib ?_; kernel_rfl) only [go_sem, seval, ↓reduceIte, h, ite_self]
  obtain ⟨A, hA⟩ : ∃ A, A = List.zipWith (· ^^^ ·) a b := ⟨_, rfl⟩
  have hl : A.length = b.length := by rw [hA]; simp [h]
  have hget : ∀ (i : Nat) (h1 : i < A.length) (h2 : i < a.length) (h3 : i < b.length), A[i] = a[i] ^^^ b[i] := fun i h1 h2 h3 => by subst hA; simp
  have z1 := fillTo_zero A
  rw [hl] at z1
  rw [← z1, ← hA]
  refine kLoop_rec (fun i f H => f 0 = .slice 1 (a.map byteRow) ∧ f 1 = .slice 1 (b.map byteRow) ∧ f 6 = .osl 114 1 0 b.length ∧ f 15 = .int .i64 b.length ∧ f 16 = .int .i64 (i : Nat) ∧ H 114 = ⟨1, .live, 1, (fillTo A i).map byteRow, true⟩ ∧ i ≤ b.length) (fun i => b.length - i) (fun _ => some (.slice 1 (A.map byteRow), [])) ?_ 0 _ _ ⟨rfl, rfl, rfl, rfl, rfl, rfl, by omega⟩
  rintro i f H ⟨f0, f1, f6, f15, f16, H114, hi⟩ ih
  have hf := fillTo_len A i (by omega)
  by_cases hlt : i < b.length
  · simp -implicitDefEqProofs -dsimp +contextual (maxSteps := 9999999) (disch := first | omega | simp only [go_sem] <;> omega | refine ib ?_; kernel_rfl) only [go_sem, seval, ↓reduceIte, f0, f1, f6, f15, f16, H114, hlt, hf]
    rw [← hget i (by omega) (by omega) hlt, fillTo_set _ _ (by omega)]
    exact ih (i + 1) _ _ ⟨f0, f1, f6, f15, rfl, rfl, by omega⟩ (by omega)
  · have e : fillTo A b.length = A := fillTo_all _ _ (by omega)
    obtain rfl : i = b.length := by omega
    simp -implicitDefEqProofs -dsimp +contextual (maxSteps := 9999999) (disch := first | omega | simp only [go_sem] <;> omega | refine ib ?_; kernel_rfl) only [go_sem, seval, ↓reduceIte, f0, f1, f6, f15, f16, H114, hlt, hf, e]

theorem xor_zip (a b : List UInt8) (h : a.length = b.length) : (List.zipWith (· ^^^ ·) a b).all (· == 0) = decide (a = b) := by
  induction a generalizing b with
  | nil => cases b <;> simp at h ⊢
  | cons x a ih =>
    cases b with
    | nil => simp at h
    | cons y b =>
      simp only [List.zipWith_cons_cons, List.all_cons, ih b (by simpa using h), List.cons.injEq]
      rw [Bool.eq_iff_iff]
      simp [UInt8.xor_eq_zero_iff]

@[go_sem] theorem e113 (a b : List UInt8) (hm : a.length ≤ 1000000000) : fn C 113 [] [.slice 1 (a.map byteRow), .slice 1 (b.map byteRow)] = some (.bool (decide (a = b)), []) := by
  rw [fn_text Tryz.func113 rfl rfl Tryz.results113 fq113.1 rfl rfl (by kernel_rfl)]
  by_cases h : a.length = b.length
  · have hz : (List.zipWith (· ^^^ ·) a b).length ≤ 1000000000 := by simp; omega
    simp -implicitDefEqProofs -dsimp +contextual (maxSteps := 9999999) (disch := first | omega | simp only [go_sem] <;> omega | refine ib ?_; kernel_rfl) only [go_sem, seval, ↓reduceIte, h]
    rw [xor_zip a b h]
  · simp -implicitDefEqProofs -dsimp +contextual (maxSteps := 9999999) (disch := first | omega | simp only [go_sem] <;> omega | refine ib ?_; kernel_rfl) only [go_sem, seval, ↓reduceIte, h]
    have : a ≠ b := fun e => h (by rw [e])
    simp [this]

end Go.Proofs.YtccfjidpdlfenaaGreatDoor
namespace Go.Proofs.YtccfjidpdlfenaaGreatDoor
open Go.Am
set_option linter.unusedSimpArgs false
set_option linter.unusedVariables false
set_option maxRecDepth 100000
/-! Layer 7: numbers of five parts. -/
structure Nm where
  a : Nat
  b : Nat
  c : Nat
  d : Nat
  e : Nat
def Nm.cs (n : Nm) : List AVal := [.int .u64 (n.a : Int), .int .u64 (n.b : Int), .int .u64 (n.c : Int), .int .u64 (n.d : Int), .int .u64 (n.e : Int)]
@[go_sem] theorem Nm.cs_eq (n : Nm) : n.cs = [.int .u64 (n.a : Int), .int .u64 (n.b : Int), .int .u64 (n.c : Int), .int .u64 (n.d : Int), .int .u64 (n.e : Int)] := rfl
def Nm.le (n : Nm) (m : Nat) : Prop := n.a ≤ m ∧ n.b ≤ m ∧ n.c ≤ m ∧ n.d ≤ m ∧ n.e ≤ m
def Nm.val (n : Nm) : Nat := n.a + n.b * 67108864 + n.c * 4503599627370496 + n.d * 302231454903657293676544 + n.e * 20282409603651670423947251286016
@[go_sem] theorem and26 (P : Program) (t : TypeId) (n : Nat) (h : n < 18446744073709551616) : binV P .and t (.int .u64 (n : Int)) (.int .u64 67108863) = some (.int .u64 ((n % 67108864 : Nat) : Int)) := by
  have e : binV P .and t (.int .u64 (n : Int)) (.int .u64 67108863) = some (.int .u64 (IntKind.u64.wrap (((BitVec.ofInt 64 (n : Int)) &&& (BitVec.ofInt 64 ((67108863 : Nat) : Int))).toNat : Int))) := rfl
  rw [e, BitVec.ofInt_natCast, BitVec.ofInt_natCast, BitVec.toNat_and, BitVec.toNat_ofNat, BitVec.toNat_ofNat, Nat.mod_eq_of_lt (show n < 2 ^ 64 by omega), show (67108863 : Nat) % 2 ^ 64 = 2 ^ 26 - 1 by decide, Nat.and_two_pow_sub_one_eq_mod, IntKind.wrap_u64]
  congr 2; omega

def carryN (n : Nm) : Nm :=
  let b := n.b + n.a / 67108864
  let c := n.c + b / 67108864
  let d := n.d + c / 67108864
  let e := n.e + d / 67108864
  let a := n.a % 67108864 + e / 67108864 * 5
  ⟨a % 67108864, b % 67108864 + a / 67108864, c % 67108864, d % 67108864, e % 67108864⟩
theorem carryN_val (n : Nm) : (carryN n).val + (n.e + (n.d + (n.c + (n.b + n.a / 67108864) / 67108864) / 67108864) / 67108864) / 67108864 * 1361129467683753853853498429727072845819 = n.val := by
  simp only [carryN, Nm.val]; omega
theorem carryN_le (n : Nm) (h : n.le 1152921504606846976) : (carryN n).a < 67108864 ∧ (carryN n).b < 67110864 ∧ (carryN n).c < 67108864 ∧ (carryN n).d < 67108864 ∧ (carryN n).e < 67108864 := by
  obtain ⟨h1, h2, h3, h4, h5⟩ := h
  simp only [carryN]; omega

set_option maxHeartbeats 4000000 in
@[go_sem] theorem e101 (a b c d e : Nat) (h1 : a ≤ 1152921504606846976) (h2 : b ≤ 1152921504606846976) (h3 : c ≤ 1152921504606846976) (h4 : d ≤ 1152921504606846976) (h5 : e ≤ 1152921504606846976) : fn C 101 [] [.agg [.int .u64 (a : Int), .int .u64 (b : Int), .int .u64 (c : Int), .int .u64 (d : Int), .int .u64 (e : Int)]] = some (.agg (carryN ⟨a, b, c, d, e⟩).cs, []) := by
  rw [fn_text Tryz.func101 rfl rfl Tryz.results101 fq101.1 rfl rfl (by kernel_rfl)]
  simp -implicitDefEqProofs -dsimp +contextual (maxSteps := 5000000) (disch := first | omega | simp only [go_sem] <;> omega | refine ib ?_; kernel_rfl) only [go_sem, Nat.reduceBEq, Int.reduceNeg, Int.reduceLT, Int.reduceLE, Int.reduceAdd, Int.reduceSub, Int.reduceToNat, Int.reduceMul, Int.reduceMod, Int.reduceTMod, Int.reduceTDiv, Int.reduceEq, Nat.reducePow, Nat.reduceDiv, Nat.reduceShiftRight, Nat.reduceMod, List.reduceReplicate, ↓reduceIte, Nat.reduceEqDiff, Nat.reduceAdd, Nat.reduceSub, Nat.reduceLeDiff, Nat.reduceLT, Nat.reduceMul, kLoop_eq]
  rfl

@[go_sem] theorem Nm.eta (n : Nm) : (⟨n.a, n.b, n.c, n.d, n.e⟩ : Nm) = n := rfl
def addN (n m : Nm) : Nm := ⟨n.a + m.a, n.b + m.b, n.c + m.c, n.d + m.d, n.e + m.e⟩
set_option maxHeartbeats 4000000 in
@[go_sem] theorem e102 (a b c d e a' b' c' d' e' : Nat) (h1 : a ≤ 1152921504606846976) (h2 : b ≤ 1152921504606846976) (h3 : c ≤ 1152921504606846976) (h4 : d ≤ 1152921504606846976) (h5 : e ≤ 1152921504606846976) (k1 : a' ≤ 1152921504606846976) (k2 : b' ≤ 1152921504606846976) (k3 : c' ≤ 1152921504606846976) (k4 : d' ≤ 1152921504606846976) (k5 : e' ≤ 1152921504606846976) : fn C 102 [] [.agg [.int .u64 (a : Int), .int .u64 (b : Int), .int .u64 (c : Int), .int .u64 (d : Int), .int .u64 (e : Int)], .agg [.int .u64 (a' : Int), .int .u64 (b' : Int), .int .u64 (c' : Int), .int .u64 (d' : Int), .int .u64 (e' : Int)]] = some (.agg (addN ⟨a, b, c, d, e⟩ ⟨a', b', c', d', e'⟩).cs, []) := by
  rw [fn_text Tryz.func102 rfl rfl Tryz.results102 fq102.1 rfl rfl (by kernel_rfl)]
  simp -implicitDefEqProofs -dsimp +contextual (maxSteps := 5000000) (disch := first | omega | simp only [go_sem] <;> omega | refine ib ?_; kernel_rfl) only [go_sem, Nat.reduceBEq, Int.reduceNeg, Int.reduceLT, Int.reduceLE, Int.reduceAdd, Int.reduceSub, Int.reduceToNat, Int.reduceMul, Int.reduceMod, Int.reduceTMod, Int.reduceTDiv, Int.reduceEq, Nat.reducePow, Nat.reduceDiv, Nat.reduceShiftRight, Nat.reduceMod, List.reduceReplicate, ↓reduceIte, Nat.reduceEqDiff, Nat.reduceAdd, Nat.reduceSub, Nat.reduceLeDiff, Nat.reduceLT, Nat.reduceMul, kLoop_eq]
  rfl

def carry5N (n : Nm) : Nm :=
  let a := n.a + 5
  let b := n.b + a / 67108864
  let c := n.c + b / 67108864
  let d := n.d + c / 67108864
  let e := n.e + d / 67108864
  ⟨a % 67108864, b % 67108864, c % 67108864, d % 67108864, e⟩
set_option maxHeartbeats 4000000 in
@[go_sem] theorem e125 (a b c d e : Nat) (h1 : a ≤ 1152921504606846976) (h2 : b ≤ 1152921504606846976) (h3 : c ≤ 1152921504606846976) (h4 : d ≤ 1152921504606846976) (h5 : e ≤ 1152921504606846976) : fn C 125 [] [.agg [.int .u64 (a : Int), .int .u64 (b : Int), .int .u64 (c : Int), .int .u64 (d : Int), .int .u64 (e : Int)]] = some (.agg (carry5N ⟨a, b, c, d, e⟩).cs, []) := by
  rw [fn_text Tryz.func125 rfl rfl Tryz.results125 fq125.1 rfl rfl (by kernel_rfl)]
  simp -implicitDefEqProofs -dsimp +contextual (maxSteps := 5000000) (disch := first | omega | simp only [go_sem] <;> omega | refine ib ?_; kernel_rfl) only [go_sem, Nat.reduceBEq, Int.reduceNeg, Int.reduceLT, Int.reduceLE, Int.reduceAdd, Int.reduceSub, Int.reduceToNat, Int.reduceMul, Int.reduceMod, Int.reduceTMod, Int.reduceTDiv, Int.reduceEq, Nat.reducePow, Nat.reduceDiv, Nat.reduceShiftRight, Nat.reduceMod, List.reduceReplicate, ↓reduceIte, Nat.reduceEqDiff, Nat.reduceAdd, Nat.reduceSub, Nat.reduceLeDiff, Nat.reduceLT, Nat.reduceMul, kLoop_eq]
  rfl

def timesP (n m : Nm) : Nm := ⟨n.a * m.a + n.b * m.e * 5 + n.c * m.d * 5 + n.d * m.c * 5 + n.e * m.b * 5, n.a * m.b + n.b * m.a + n.c * m.e * 5 + n.d * m.d * 5 + n.e * m.c * 5, n.a * m.c + n.b * m.b + n.c * m.a + n.d * m.e * 5 + n.e * m.d * 5, n.a * m.d + n.b * m.c + n.c * m.b + n.d * m.a + n.e * m.e * 5, n.a * m.e + n.b * m.d + n.c * m.c + n.d * m.b + n.e * m.a⟩
set_option maxHeartbeats 4000000 in
@[go_sem] theorem e100 (a b c d e a' b' c' d' e' : Nat) (h1 : a ≤ 67110864) (h2 : b ≤ 67110864) (h3 : c ≤ 67110864) (h4 : d ≤ 67110864) (h5 : e ≤ 67110864) (k1 : a' ≤ 67108864) (k2 : b' ≤ 67108864) (k3 : c' ≤ 67108864) (k4 : d' ≤ 67108864) (k5 : e' ≤ 67108864) : fn C 100 [] [.agg [.int .u64 (a : Int), .int .u64 (b : Int), .int .u64 (c : Int), .int .u64 (d : Int), .int .u64 (e : Int)], .agg [.int .u64 (a' : Int), .int .u64 (b' : Int), .int .u64 (c' : Int), .int .u64 (d' : Int), .int .u64 (e' : Int)]] = some (.agg (carryN (timesP ⟨a, b, c, d, e⟩ ⟨a', b', c', d', e'⟩)).cs, []) := by
  have paa : a * a' ≤ 4503733845098496 := Nat.le_trans (Nat.mul_le_mul h1 k1) (by decide)
  have pab : a * b' ≤ 4503733845098496 := Nat.le_trans (Nat.mul_le_mul h1 k2) (by decide)
  have pac : a * c' ≤ 4503733845098496 := Nat.le_trans (Nat.mul_le_mul h1 k3) (by decide)
  have pad : a * d' ≤ 4503733845098496 := Nat.le_trans (Nat.mul_le_mul h1 k4) (by decide)
  have pae : a * e' ≤ 4503733845098496 := Nat.le_trans (Nat.mul_le_mul h1 k5) (by decide)
  have pba : b * a' ≤ 4503733845098496 := Nat.le_trans (Nat.mul_le_mul h2 k1) (by decide)
  have pbb : b * b' ≤ 4503733845098496 := Nat.le_trans (Nat.mul_le_mul h2 k2) (by decide)
  have pbc : b * c' ≤ 4503733845098496 := Nat.le_trans (Nat.mul_le_mul h2 k3) (by decide)
  have pbd : b * d' ≤ 4503733845098496 := Nat.le_trans (Nat.mul_le_mul h2 k4) (by decide)
  have pbe : b * e' ≤ 4503733845098496 := Nat.le_trans (Nat.mul_le_mul h2 k5) (by decide)
  have pca : c * a' ≤ 4503733845098496 := Nat.le_trans (Nat.mul_le_mul h3 k1) (by decide)
  have pcb : c * b' ≤ 4503733845098496 := Nat.le_trans (Nat.mul_le_mul h3 k2) (by decide)
  have pcc : c * c' ≤ 4503733845098496 := Nat.le_trans (Nat.mul_le_mul h3 k3) (by decide)
  have pcd : c * d' ≤ 4503733845098496 := Nat.le_trans (Nat.mul_le_mul h3 k4) (by decide)
  have pce : c * e' ≤ 4503733845098496 := Nat.le_trans (Nat.mul_le_mul h3 k5) (by decide)
  have pda : d * a' ≤ 4503733845098496 := Nat.le_trans (Nat.mul_le_mul h4 k1) (by decide)
  have pdb : d * b' ≤ 4503733845098496 := Nat.le_trans (Nat.mul_le_mul h4 k2) (by decide)
  have pdc : d * c' ≤ 4503733845098496 := Nat.le_trans (Nat.mul_le_mul h4 k3) (by decide)
  have pdd : d * d' ≤ 4503733845098496 := Nat.le_trans (Nat.mul_le_mul h4 k4) (by decide)
  have pde : d * e' ≤ 4503733845098496 := Nat.le_trans (Nat.mul_le_mul h4 k5) (by decide)
  have pea : e * a' ≤ 4503733845098496 := Nat.le_trans (Nat.mul_le_mul h5 k1) (by decide)
  have peb : e * b' ≤ 4503733845098496 := Nat.le_trans (Nat.mul_le_mul h5 k2) (by decide)
  have pec : e * c' ≤ 4503733845098496 := Nat.le_trans (Nat.mul_le_mul h5 k3) (by decide)
  have ped : e * d' ≤ 4503733845098496 := Nat.le_trans (Nat.mul_le_mul h5 k4) (by decide)
  have pee : e * e' ≤ 4503733845098496 := Nat.le_trans (Nat.mul_le_mul h5 k5) (by decide)
  rw [fn_text Tryz.func100 rfl rfl Tryz.results100 fq100.1 rfl rfl (by kernel_rfl)]
  simp -implicitDefEqProofs -dsimp +contextual (maxSteps := 5000000) (disch := first | omega | simp only [go_sem] <;> omega | refine ib ?_; kernel_rfl) only [go_sem, Nat.reduceBEq, Int.reduceNeg, Int.reduceLT, Int.reduceLE, Int.reduceAdd, Int.reduceSub, Int.reduceToNat, Int.reduceMul, Int.reduceMod, Int.reduceTMod, Int.reduceTDiv, Int.reduceEq, Nat.reducePow, Nat.reduceDiv, Nat.reduceShiftRight, Nat.reduceMod, List.reduceReplicate, ↓reduceIte, Nat.reduceEqDiff, Nat.reduceAdd, Nat.reduceSub, Nat.reduceLeDiff, Nat.reduceLT, Nat.reduceMul, kLoop_eq]
  rfl

end Go.Proofs.YtccfjidpdlfenaaGreatDoor
