import Derived.Test.YtfifgnffipdmeaaDoorTLabel2
namespace Go.Proofs.YtfifgnffipdmeaaDoor
open Go.Am
set_option linter.unusedSimpArgs false
set_option linter.unusedVariables false
set_option maxRecDepth 100000
/-! Layer 10: bytes and numbers as digits. -/
theorem u64_shl8 (P : Program) (t : TypeId) (k : IntKind) (a : Nat) (ha : a < 72057594037927936) : binV P .shl t (.int .u64 (a : Int)) (.int k 8) = some (.int .u64 ((a * 256 : Nat) : Int)) := by
  have e : binV P .shl t (.int .u64 (a : Int)) (.int k 8) = some (.int .u64 (IntKind.u64.wrap ((a : Int) * 2 ^ 8))) := rfl
  rw [e]
  exact congrArg (fun x => some (AVal.int .u64 x)) (by rw [IntKind.wrap_u64]; omega)
theorem or_low8 (a b : Nat) (hb : b < 256) : a * 256 ||| b = a * 256 + b := by
  have := Nat.two_pow_add_eq_or_of_lt (i := 8) (b := b) (by simpa using hb) a
  rw [show 2 ^ 8 * a = a * 256 by omega] at this
  exact this.symm
theorem u64_or8 (P : Program) (t : TypeId) (a b : Nat) (ha : a * 256 < 18446744073709551616) (hb : b < 256) : binV P .or t (.int .u64 ((a * 256 : Nat) : Int)) (.int .u64 (b : Int)) = some (.int .u64 ((a * 256 + b : Nat) : Int)) := by
  have e : binV P .or t (.int .u64 ((a * 256 : Nat) : Int)) (.int .u64 (b : Int)) = some (.int .u64 (IntKind.u64.wrap ((BitVec.ofInt 64 ((a * 256 : Nat) : Int) ||| BitVec.ofInt 64 (b : Int)).toNat : Int))) := rfl
  rw [e, BitVec.ofInt_natCast, BitVec.ofInt_natCast, BitVec.toNat_or, BitVec.toNat_ofNat, BitVec.toNat_ofNat, Nat.mod_eq_of_lt (show a * 256 < 2 ^ 64 by omega), Nat.mod_eq_of_lt (show b < 2 ^ 64 by omega), or_low8 a b hb]
  exact congrArg (fun x => some (AVal.int .u64 x)) (by rw [IntKind.wrap_u64]; omega)

def beV (l : List UInt8) : Nat := l.foldl (fun n c => n * 256 + c.toNat) 0
def hexV (l : List UInt8) : Nat := l.foldl (fun n c => n * 16 + digV c) 0
def digOk (c : UInt8) : Bool := decide (digV c < 16)
theorem beV_take (l : List UInt8) (i : Nat) (h : i < l.length) : beV (l.take (i + 1)) = beV (l.take i) * 256 + l[i].toNat := by
  rw [List.take_succ_eq_append_getElem h, beV, List.foldl_append]; rfl
theorem hexV_take (l : List UInt8) (i : Nat) (h : i < l.length) : hexV (l.take (i + 1)) = hexV (l.take i) * 16 + digV l[i] := by
  rw [List.take_succ_eq_append_getElem h, hexV, List.foldl_append]; rfl
theorem beV_lt (l : List UInt8) : beV l < 256 ^ l.length := by
  have : ∀ (l : List UInt8) (a : Nat), l.foldl (fun n c => n * 256 + c.toNat) a < (a + 1) * 256 ^ l.length := by
    intro l
    induction l with
    | nil => intro a; simp
    | cons x l ih =>
      intro a
      have h := u8_lt x
      refine Nat.lt_of_lt_of_le (ih _) ?_
      rw [List.length_cons, Nat.pow_succ, Nat.mul_comm (256 ^ l.length), ← Nat.mul_assoc]
      exact Nat.mul_le_mul_right _ (by simp only; omega)
  simpa [beV] using this l 0
theorem hexV_lt (l : List UInt8) (h : l.all digOk = true) : hexV l < 16 ^ l.length := by
  have : ∀ (l : List UInt8) (a : Nat), l.all digOk = true → l.foldl (fun n c => n * 16 + digV c) a < (a + 1) * 16 ^ l.length := by
    intro l
    induction l with
    | nil => intro a _; simp
    | cons x l ih =>
      intro a h
      simp only [List.all_cons, Bool.and_eq_true, digOk, decide_eq_true_eq] at h
      refine Nat.lt_of_lt_of_le (ih _ h.2) ?_
      rw [List.length_cons, Nat.pow_succ, Nat.mul_comm (16 ^ l.length), ← Nat.mul_assoc]
      exact Nat.mul_le_mul_right _ (by simp only; omega)
  simpa [hexV] using this l 0 h
theorem unp_cases : ∀ (n : Nat) (l : List UInt8), l.length ≤ n → l.length % 2 = 0 → (l.all digOk = true ∧ ∃ m, unpR l = some m ∧ m.length * 2 = l.length ∧ ∀ a, m.foldl (fun n c => n * 256 + c.toNat) a = l.foldl (fun n c => n * 16 + digV c) a) ∨ (l.all digOk = false ∧ unpR l = none)
  | _, [], _, _ => .inl ⟨rfl, [], rfl, rfl, fun _ => rfl⟩
  | _, [_], _, h => by simp at h
  | 0, _ :: _ :: _, h, _ => by simp at h
  | n + 1, a :: b :: l, h, h2 => by
    simp only [List.length_cons] at h h2
    have hall : (a :: b :: l).all digOk = (digOk a && (digOk b && l.all digOk)) := rfl
    rw [hall, unpR]
    by_cases ha : digV a < 16
    · have da : digOk a = true := by simp [digOk, ha]
      by_cases hb : digV b < 16
      · have db : digOk b = true := by simp [digOk, hb]
        rw [if_pos ⟨ha, hb⟩, da, db]
        rcases unp_cases n l (by omega) (by omega) with ⟨h3, m, h4, h5, h6⟩ | ⟨h3, h4⟩
        · left
          refine ⟨by rw [h3]; rfl, _, by rw [h4]; rfl, by simp only [List.length_cons]; omega, fun x => ?_⟩
          simp only [List.foldl_cons]
          rw [h6]
          congr 1
          have : (UInt8.ofNat (16 * digV a + digV b)).toNat = 16 * digV a + digV b := by simp [UInt8.toNat_ofNat']; omega
          rw [this]; omega
        · right
          exact ⟨by rw [h3]; rfl, by rw [h4]; rfl⟩
      · right
        have db : digOk b = false := by simp [digOk]; omega
        exact ⟨by rw [db]; simp, by rw [if_neg (fun h => hb h.2)]⟩
    · right
      have da : digOk a = false := by simp [digOk]; omega
      exact ⟨by rw [da]; simp, by rw [if_neg (fun h => ha h.1)]⟩
theorem unp_odd : ∀ (n : Nat) (l : List UInt8), l.length ≤ n → l.length % 2 = 1 → ∀ acc, ∃ m : List UInt8, unpK l acc (unpR l) = .tup [.slice 1 (m.map byteRow), .bool false] ∧ m.length ≤ acc.length + l.length := by
  intro n l _ h acc
  cases hu : unpR l with
  | none => exact ⟨[], rfl, by simp⟩
  | some m => 
    have : ∀ (n : Nat) (l m : List UInt8), l.length ≤ n → unpR l = some m → m.length ≤ l.length := by
      intro n
      induction n with
      | zero => intro l m h hm; cases l <;> simp_all [unpR]
      | succ n ih =>
        intro l m h hm
        match l, h, hm with
        | [], _, hm => simp only [unpR, Option.some.injEq] at hm; subst hm; simp
        | [_], _, hm => simp only [unpR, Option.some.injEq] at hm; subst hm; simp
        | a :: b :: l, h, hm =>
          simp only [unpR] at hm
          split at hm
          · rw [Option.map_eq_some_iff] at hm
            obtain ⟨m', h1, rfl⟩ := hm
            have := ih l m' (by simp at h; omega) h1
            simp; omega
          · cases hm
    have hl := this _ l m (Nat.le_refl _) hu
    exact ⟨acc ++ m, by simp [unpK, h], by simp; omega⟩

def readHexR (l : List UInt8) : AVal := if l.length = 16 ∧ l.all digOk = true then .tup [.int .u64 (hexV l : Int), .bool true] else .tup [.int .u64 0, .bool false]
set_option maxHeartbeats 4000000 in
@[go_sem] theorem e14 (l : List UInt8) (hl : l.length ≤ 1000000000000) : fn C 14 [] [.str l] = some (readHexR l, []) := by
  rw [fn_text Tryd.func14 rfl rfl Tryd.results14 locM14 rfl rfl (by kernel_rfl)]
  by_cases h2 : l.length % 2 = 0
  · rcases unp_cases _ l (Nat.le_refl _) h2 with ⟨h3, m, h4, h5, h6⟩ | ⟨h3, h4⟩
    · by_cases h16 : l.length = 16
      · have hu : unpK l [] (unpR l) = .tup [.slice 1 (m.map byteRow), .bool true] := by rw [h4]; simp [unpK, h2]
        have hm : m.length = 8 := by omega
        simp -implicitDefEqProofs -dsimp +contextual (maxSteps := 5000000) (disch := first | omega | (simp only [go_sem] <;> omega) | (show indepB _ _ = true; refine id ?_; kernel_rfl)) only [go_sem, ↓reduceIte, Nat.reduceEqDiff, Nat.reduceBEq, Nat.reduceAdd, Nat.reduceSub, Nat.reduceLeDiff, Nat.reduceLT, Nat.reduceMul, Int.reduceNeg, Int.reduceLT, Int.reduceLE, Int.reduceAdd, Int.reduceSub, Int.reduceToNat, Int.reduceMul, Int.reduceMod, Int.reduceTMod, Int.reduceTDiv, Int.reduceEq, Nat.reducePow, Nat.reduceDiv, Nat.reduceShiftRight, Nat.reduceMod, List.reduceReplicate, hu, h16, hm]
        have hv : hexV l = beV m := (h6 0).symm
        rw [readHexR, if_pos ⟨h16, h3⟩, hv]
        refine (kLoop_rec (fun (i : Nat) f H => f 6 = .int .u64 (beV (m.take i) : Int) ∧ f 21 = .slice 1 (m.map byteRow) ∧ f 22 = .int .i64 8 ∧ f 23 = .int .i64 (i : Int) ∧ i ≤ 8) (fun i => 8 - i) (fun _ => some (.tup [.int .u64 (beV m : Int), .bool true], [])) ?_ 0 _ _ ⟨rfl, rfl, rfl, rfl, by omega⟩)
        rintro i f H ⟨f6, f21, f22, f23, hi⟩ ih
        by_cases hl : i < 8
        · have hb := beV_lt (m.take i)
          have h7 : beV (m.take i) < 72057594037927936 := Nat.lt_of_lt_of_le hb (by
            rw [List.length_take, Nat.min_eq_left (by omega)]
            exact Nat.le_trans (Nat.pow_le_pow_right (by decide) (show i ≤ 7 by omega)) (by decide))
          have hc := u8_lt (m[i]'(by omega))
          have ht := beV_take m i (by omega)
          simp -implicitDefEqProofs -dsimp +contextual (maxSteps := 5000000) (disch := first | omega | (simp only [go_sem] <;> omega) | (show indepB _ _ = true; refine id ?_; kernel_rfl)) only [go_sem, ↓reduceIte, Nat.reduceEqDiff, Nat.reduceBEq, Nat.reduceAdd, Nat.reduceSub, Nat.reduceLeDiff, Nat.reduceLT, Nat.reduceMul, Int.reduceNeg, Int.reduceLT, Int.reduceLE, Int.reduceAdd, Int.reduceSub, Int.reduceToNat, Int.reduceMul, Int.reduceMod, Int.reduceTMod, Int.reduceTDiv, Int.reduceEq, Nat.reducePow, Nat.reduceDiv, Nat.reduceShiftRight, Nat.reduceMod, List.reduceReplicate, f6, f21, f22, f23, hl, hm, u64_shl8, u64_or8, UInt8.toNat_toUInt64]
          rw [← ht]
          exact ih (i + 1) _ _ ⟨rfl, f21, f22, rfl, by omega⟩ (by omega)
        · obtain rfl : i = 8 := by omega
          rw [List.take_of_length_le (by omega)] at f6
          simp -implicitDefEqProofs -dsimp +contextual (maxSteps := 5000000) (disch := first | omega | (simp only [go_sem] <;> omega) | (show indepB _ _ = true; refine id ?_; kernel_rfl)) only [go_sem, ↓reduceIte, Nat.reduceEqDiff, Nat.reduceBEq, Nat.reduceAdd, Nat.reduceSub, Nat.reduceLeDiff, Nat.reduceLT, Nat.reduceMul, Int.reduceNeg, Int.reduceLT, Int.reduceLE, Int.reduceAdd, Int.reduceSub, Int.reduceToNat, Int.reduceMul, Int.reduceMod, Int.reduceTMod, Int.reduceTDiv, Int.reduceEq, Nat.reducePow, Nat.reduceDiv, Nat.reduceShiftRight, Nat.reduceMod, List.reduceReplicate, f6, f21, f22, f23, hl, hm]
      · have hu : unpK l [] (unpR l) = .tup [.slice 1 (m.map byteRow), .bool true] := by rw [h4]; simp [unpK, h2]
        simp -implicitDefEqProofs -dsimp +contextual (maxSteps := 5000000) (disch := first | omega | (simp only [go_sem] <;> omega) | (show indepB _ _ = true; refine id ?_; kernel_rfl)) only [go_sem, ↓reduceIte, Nat.reduceEqDiff, Nat.reduceBEq, Nat.reduceAdd, Nat.reduceSub, Nat.reduceLeDiff, Nat.reduceLT, Nat.reduceMul, Int.reduceNeg, Int.reduceLT, Int.reduceLE, Int.reduceAdd, Int.reduceSub, Int.reduceToNat, Int.reduceMul, Int.reduceMod, Int.reduceTMod, Int.reduceTDiv, Int.reduceEq, Nat.reducePow, Nat.reduceDiv, Nat.reduceShiftRight, Nat.reduceMod, List.reduceReplicate, hu, h16]
        rw [readHexR, if_neg (fun h => h16 h.1)]
    · have hu : unpK l [] (unpR l) = .tup [.slice 1 [], .bool false] := by rw [h4]; rfl
      simp -implicitDefEqProofs -dsimp +contextual (maxSteps := 5000000) (disch := first | omega | (simp only [go_sem] <;> omega) | (show indepB _ _ = true; refine id ?_; kernel_rfl)) only [go_sem, ↓reduceIte, Nat.reduceEqDiff, Nat.reduceBEq, Nat.reduceAdd, Nat.reduceSub, Nat.reduceLeDiff, Nat.reduceLT, Nat.reduceMul, Int.reduceNeg, Int.reduceLT, Int.reduceLE, Int.reduceAdd, Int.reduceSub, Int.reduceToNat, Int.reduceMul, Int.reduceMod, Int.reduceTMod, Int.reduceTDiv, Int.reduceEq, Nat.reducePow, Nat.reduceDiv, Nat.reduceShiftRight, Nat.reduceMod, List.reduceReplicate, hu]
      rw [readHexR, if_neg (by simp [h3])]
  · obtain ⟨m, hu, _⟩ := unp_odd _ l (Nat.le_refl _) (by omega) []
    simp -implicitDefEqProofs -dsimp +contextual (maxSteps := 5000000) (disch := first | omega | (simp only [go_sem] <;> omega) | (show indepB _ _ = true; refine id ?_; kernel_rfl)) only [go_sem, ↓reduceIte, Nat.reduceEqDiff, Nat.reduceBEq, Nat.reduceAdd, Nat.reduceSub, Nat.reduceLeDiff, Nat.reduceLT, Nat.reduceMul, Int.reduceNeg, Int.reduceLT, Int.reduceLE, Int.reduceAdd, Int.reduceSub, Int.reduceToNat, Int.reduceMul, Int.reduceMod, Int.reduceTMod, Int.reduceTDiv, Int.reduceEq, Nat.reducePow, Nat.reduceDiv, Nat.reduceShiftRight, Nat.reduceMod, List.reduceReplicate, hu]
    rw [readHexR, if_neg (by omega)]

theorem all_take_drop (l : List UInt8) (i : Nat) (h : i < l.length) : (l.drop i).all digOk = (digOk l[i] && (l.drop (i + 1)).all digOk) := by
  rw [List.drop_eq_getElem_cons h, List.all_cons]
set_option maxHeartbeats 4000000 in
@[go_sem] theorem e15 (l : List UInt8) (hl : l.length ≤ 1000000000000) : fn C 15 [] [.str l] = some (readHexR l, []) := by
  rw [fn_text Tryd.func15 rfl rfl Tryd.results15 locM15 rfl rfl (by kernel_rfl)]
  by_cases h16 : l.length = 16
  · simp -implicitDefEqProofs -dsimp +contextual (maxSteps := 5000000) (disch := first | omega | (simp only [go_sem] <;> omega) | (show indepB _ _ = true; refine id ?_; kernel_rfl)) only [go_sem, ↓reduceIte, Nat.reduceEqDiff, Nat.reduceBEq, Nat.reduceAdd, Nat.reduceSub, Nat.reduceLeDiff, Nat.reduceLT, Nat.reduceMul, Int.reduceNeg, Int.reduceLT, Int.reduceLE, Int.reduceAdd, Int.reduceSub, Int.reduceToNat, Int.reduceMul, Int.reduceMod, Int.reduceTMod, Int.reduceTDiv, Int.reduceEq, Nat.reducePow, Nat.reduceDiv, Nat.reduceShiftRight, Nat.reduceMod, List.reduceReplicate, h16]
    refine (kLoop_rec (fun (i : Nat) f H => f 0 = .str l ∧ f 4 = .int .u64 (hexV (l.take i) : Int) ∧ f 5 = .int .i64 (i : Int) ∧ i ≤ 16 ∧ (l.take i).all digOk = true) (fun i => 16 - i) (fun i => some (readHexR l, [])) ?_ 0 _ _ ⟨rfl, rfl, rfl, by omega, rfl⟩)
    rintro i f H ⟨f0, f4, f5, hi, ha⟩ ih
    by_cases hl : i < 16
    · have hb := hexV_lt (l.take i) ha
      have h7 : hexV (l.take i) < 1152921504606846976 := Nat.lt_of_lt_of_le hb (by
        rw [List.length_take, Nat.min_eq_left (by omega)]
        exact Nat.le_trans (Nat.pow_le_pow_right (by decide) (show i ≤ 15 by omega)) (by decide))
      have ht := hexV_take l i (by omega)
      have hle := digV_le (l[i]'(by omega))
      by_cases hd : digV (l[i]'(by omega)) = 16
      · simp -implicitDefEqProofs -dsimp +contextual (maxSteps := 5000000) (disch := first | omega | (simp only [go_sem] <;> omega) | (show indepB _ _ = true; refine id ?_; kernel_rfl)) only [go_sem, ↓reduceIte, Nat.reduceEqDiff, Nat.reduceBEq, Nat.reduceAdd, Nat.reduceSub, Nat.reduceLeDiff, Nat.reduceLT, Nat.reduceMul, Int.reduceNeg, Int.reduceLT, Int.reduceLE, Int.reduceAdd, Int.reduceSub, Int.reduceToNat, Int.reduceMul, Int.reduceMod, Int.reduceTMod, Int.reduceTDiv, Int.reduceEq, Nat.reducePow, Nat.reduceDiv, Nat.reduceShiftRight, Nat.reduceMod, List.reduceReplicate, f0, f4, f5, hl, h16, hd]
        rw [readHexR, if_neg]
        rintro ⟨_, h⟩
        have := List.all_eq_true.1 h l[i] (List.getElem_mem (by omega))
        simp only [digOk, decide_eq_true_eq] at this
        omega
      · simp -implicitDefEqProofs -dsimp +contextual (maxSteps := 5000000) (disch := first | omega | (simp only [go_sem] <;> omega) | (show indepB _ _ = true; refine id ?_; kernel_rfl)) only [go_sem, ↓reduceIte, Nat.reduceEqDiff, Nat.reduceBEq, Nat.reduceAdd, Nat.reduceSub, Nat.reduceLeDiff, Nat.reduceLT, Nat.reduceMul, Int.reduceNeg, Int.reduceLT, Int.reduceLE, Int.reduceAdd, Int.reduceSub, Int.reduceToNat, Int.reduceMul, Int.reduceMod, Int.reduceTMod, Int.reduceTDiv, Int.reduceEq, Nat.reducePow, Nat.reduceDiv, Nat.reduceShiftRight, Nat.reduceMod, List.reduceReplicate, f0, f4, f5, hl, h16, hd]
        rw [← ht]
        refine ih (i + 1) _ _ ⟨f0, rfl, rfl, by omega, ?_⟩ (by omega)
        rw [List.take_succ_eq_append_getElem (by omega), List.all_append, ha]
        simp [digOk]; omega
    · obtain rfl : i = 16 := by omega
      rw [List.take_of_length_le (by omega)] at f4 ha
      simp -implicitDefEqProofs -dsimp +contextual (maxSteps := 5000000) (disch := first | omega | (simp only [go_sem] <;> omega) | (show indepB _ _ = true; refine id ?_; kernel_rfl)) only [go_sem, ↓reduceIte, Nat.reduceEqDiff, Nat.reduceBEq, Nat.reduceAdd, Nat.reduceSub, Nat.reduceLeDiff, Nat.reduceLT, Nat.reduceMul, Int.reduceNeg, Int.reduceLT, Int.reduceLE, Int.reduceAdd, Int.reduceSub, Int.reduceToNat, Int.reduceMul, Int.reduceMod, Int.reduceTMod, Int.reduceTDiv, Int.reduceEq, Nat.reducePow, Nat.reduceDiv, Nat.reduceShiftRight, Nat.reduceMod, List.reduceReplicate, f0, f4, f5, hl, h16]
      rw [readHexR, if_pos ⟨h16, ha⟩]
  · simp -implicitDefEqProofs -dsimp +contextual (maxSteps := 5000000) (disch := first | omega | (simp only [go_sem] <;> omega) | (show indepB _ _ = true; refine id ?_; kernel_rfl)) only [go_sem, ↓reduceIte, Nat.reduceEqDiff, Nat.reduceBEq, Nat.reduceAdd, Nat.reduceSub, Nat.reduceLeDiff, Nat.reduceLT, Nat.reduceMul, Int.reduceNeg, Int.reduceLT, Int.reduceLE, Int.reduceAdd, Int.reduceSub, Int.reduceToNat, Int.reduceMul, Int.reduceMod, Int.reduceTMod, Int.reduceTDiv, Int.reduceEq, Nat.reducePow, Nat.reduceDiv, Nat.reduceShiftRight, Nat.reduceMod, List.reduceReplicate, h16]
    rw [readHexR, if_neg (fun h => h16 h.1)]

end Go.Proofs.YtfifgnffipdmeaaDoor
