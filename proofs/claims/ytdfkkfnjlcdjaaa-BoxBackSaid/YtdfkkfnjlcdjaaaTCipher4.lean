import Derived.Test.YtdfkkfnjlcdjaaaTCipher3
namespace Go.Proofs.Ytdfkkfnjlcdjaaa
open Go.Am
set_option linter.unusedSimpArgs false
set_option linter.unusedVariables false
set_option maxRecDepth 100000
/-! Layer 6: texts changed. -/
/-- A row that is filled from the left. -/
def fillTo (l : List UInt8) (m : Nat) : List UInt8 := l.take m ++ List.replicate (l.length - m) 0
theorem fillTo_len (l : List UInt8) (m : Nat) (h : m ≤ l.length) : (fillTo l m).length = l.length := by simp [fillTo]; omega
theorem fillTo_zero (l : List UInt8) : fillTo l 0 = List.replicate l.length 0 := by simp [fillTo]
theorem fillTo_all (l : List UInt8) (m : Nat) (h : l.length ≤ m) : fillTo l m = l := by simp [fillTo, List.take_of_length_le h, show l.length - m = 0 by omega]
theorem fillTo_set (l : List UInt8) (m : Nat) (h : m < l.length) : (fillTo l m).set m l[m] = fillTo l (m + 1) := by
  unfold fillTo
  rw [List.set_append_right _ _ (by simp; omega), show l.length - m = (l.length - (m + 1)) + 1 by omega, List.replicate_succ, List.length_take, Nat.min_eq_left (by omega), Nat.sub_self, List.set_cons_zero, List.take_succ_eq_append_getElem h, List.append_assoc]
  rfl
def ksAt (key nonce : List UInt8) (ctr : UInt32) (i : Nat) : UInt8 := (blockB key nonce (ctr + UInt32.ofNat (i / 64))).getD (i % 64) 0
def xorB (key nonce : List UInt8) (ctr : UInt32) (msg : List UInt8) : List UInt8 := msg.mapIdx fun i b => b ^^^ ksAt key nonce ctr i
@[go_sem] theorem xorB_len (key nonce : List UInt8) (ctr : UInt32) (msg : List UInt8) : (xorB key nonce ctr msg).length = msg.length := by simp [xorB]
theorem xorB_xorB (key nonce : List UInt8) (ctr : UInt32) (msg : List UInt8) : xorB key nonce ctr (xorB key nonce ctr msg) = msg := by
  apply List.ext_getElem
  · simp [xorB]
  · intro i h1 h2
    simp only [xorB, List.getElem_mapIdx]
    rw [UInt8.xor_assoc, UInt8.xor_self, UInt8.xor_zero]
theorem xorB_get (key nonce : List UInt8) (ctr : UInt32) (msg : List UInt8) (i : Nat) (h : i < msg.length) : (xorB key nonce ctr msg)[i]'(by rw [xorB_len]; exact h) = msg[i] ^^^ ksAt key nonce ctr i := by simp [xorB]
theorem ks_block (key nonce : List UInt8) (ctr : UInt32) (j k : Nat) (hk : k < 64) : ksAt key nonce ctr (64 * j + k) = (blockB key nonce (ctr + UInt32.ofNat j))[k]'(by rw [blockB_len]; exact hk) := by
  simp only [ksAt, show (64 * j + k) / 64 = j by omega, show (64 * j + k) % 64 = k by omega]
  rw [List.getD_eq_getElem?_getD, List.getElem?_eq_getElem (by rw [blockB_len]; exact hk)]; rfl
theorem firstW_up (key nonce : List UInt8) (c : UInt32) : (firstW key nonce c).set 12 (c + 1) = firstW key nonce (c + 1) := rfl
theorem firstW_12 (key nonce : List UInt8) (c : UInt32) : (firstW key nonce c)[12]'(by rw [firstW_len]; omega) = c := rfl
attribute [local irreducible] firstW blockB
@[go_sem] theorem rep_byte (n : Nat) : List.replicate n [AVal.int .u8 0] = (List.replicate n (0 : UInt8)).map byteRow := by rw [List.map_replicate]; rfl

def xorR (mk : Nat → List (List AVal) → AVal) (key nonce : List UInt8) (ctr : UInt32) (msg : List UInt8) : Res :=
  if key.length = 32 ∧ nonce.length = 12 then
    if (msg.length + 63) / 64 ≤ 4294967296 - ctr.toNat then (.tup [mk 1 ((xorB key nonce ctr msg).map byteRow), .int .i64 0], [])
    else (.tup [mk 1 [], .int .i64 3], [])
  else (.tup [mk 1 [], .int .i64 2], [])

set_option maxHeartbeats 4000000 in
@[go_sem] theorem e14 (key nonce : List UInt8) (ctr : UInt32) (msg : List UInt8) (hm : msg.length ≤ 1000000000) : fn C 14 [] [.slice 1 (key.map byteRow), .slice 1 (nonce.map byteRow), .int .u32 (ctr.toNat : Int), .slice 1 (msg.map byteRow)] = some (xorR .usl key nonce ctr msg) := by
  rw [fn_text Try.func14 rfl rfl Try.results14 locM14 rfl rfl (by kernel_rfl)]
  have hc := u32_lt ctr
  have ec : IntKind.u64.wrap ((4294967296 : Int) - (ctr.toUInt64.toNat : Int)) = ((4294967296 - ctr.toNat : Nat) : Int) := by
    rw [UInt32.toNat_toUInt64, wrap_u64_id] <;> omega
  by_cases hk : key.length = 32
  · by_cases hn : nonce.length = 12
    · have hb := fun c => e26 (firstW key nonce c) (firstW_len ..)
      have hfl := fun c => firstW_len key nonce c
      by_cases hbig : (msg.length + 63) / 64 ≤ 4294967296 - ctr.toNat
      · have hbig' : ¬ (4294967296 - ctr.toNat < (msg.length + 64 - 1) / 64) := by omega
        simp -implicitDefEqProofs -dsimp +contextual (maxSteps := 5000000) (disch := first | omega | (simp only [go_sem] <;> omega) | (show indepB _ _ = true; refine id ?_; kernel_rfl)) only [go_sem, ↓reduceIte, Nat.reduceEqDiff, Nat.reduceBEq, Nat.reduceAdd, Nat.reduceSub, Nat.reduceLeDiff, Nat.reduceLT, Nat.reduceMul, Int.reduceNeg, Int.reduceLT, Int.reduceLE, Int.reduceAdd, Int.reduceSub, Int.reduceToNat, Int.reduceMul, Int.reduceMod, Int.reduceTMod, Int.reduceTDiv, Int.reduceEq, Nat.reducePow, Nat.reduceDiv, Nat.reduceShiftRight, Nat.reduceMod, List.reduceReplicate, hk, hn, hb, hfl, ec, hbig']
        rw [xorR, if_pos ⟨hk, hn⟩, if_pos hbig]
        obtain ⟨A, hAdef⟩ : ∃ A, A = xorB key nonce ctr msg := ⟨_, rfl⟩
        have hA : A.length = msg.length := by rw [hAdef, xorB_len]
        have hget : ∀ (i : Nat) (h : i < A.length) (h2 : i < msg.length), A[i] = msg[i] ^^^ ksAt key nonce ctr i := fun i h h2 => by
          subst hAdef; exact xorB_get key nonce ctr msg i h2
        have z1 := fillTo_zero A
        rw [hA] at z1
        rw [← z1, ← hAdef]
        refine kLoop_rec (fun (j : Nat) f H => f 3 = .slice 1 (msg.map byteRow) ∧ f 11 = .ptr 111 1 0 0 ∧ f 12 = .osl 137 1 0 msg.length ∧ f 13 = .int .i64 ((64 * j : Nat) : Int) ∧ H 111 = ⟨1, .live, 16, [(firstW key nonce (ctr + UInt32.ofNat j)).map w32], false⟩ ∧ H 137 = ⟨1, .live, 1, (fillTo A (min (64 * j) msg.length)).map byteRow, true⟩ ∧ (H 114).gen = j ∧ 64 * j < msg.length + 64) (fun j => msg.length + 64 - 64 * j) (fun _ => some (.tup [.usl 1 (A.map byteRow), .int .i64 0], [])) ?_ 0 _ _ ?_
        rotate_left
        · refine ⟨rfl, rfl, rfl, rfl, ?_, rfl, rfl, by omega⟩
          rw [show ctr + UInt32.ofNat 0 = ctr by simp]; rfl
        rintro j f H ⟨f3, f11, f12, f13, H111, H137, hg, hj⟩ ih
        have hfill := fillTo_len A (min (64 * j) msg.length) (by omega)
        by_cases hl : 64 * j < msg.length
        · have e : (if msg.length - 64 * j < 64 then ((msg.length - 64 * j : Nat) : Int) else 64) = ((min 64 (msg.length - 64 * j) : Nat) : Int) := by split <;> omega
          simp -implicitDefEqProofs -dsimp +contextual (maxSteps := 5000000) (disch := first | omega | (simp only [go_sem] <;> omega) | (show indepB _ _ = true; refine id ?_; kernel_rfl)) only [go_sem, ↓reduceIte, Nat.reduceEqDiff, Nat.reduceBEq, Nat.reduceAdd, Nat.reduceSub, Nat.reduceLeDiff, Nat.reduceLT, Nat.reduceMul, Int.reduceNeg, Int.reduceLT, Int.reduceLE, Int.reduceAdd, Int.reduceSub, Int.reduceToNat, Int.reduceMul, Int.reduceMod, Int.reduceTMod, Int.reduceTDiv, Int.reduceEq, Nat.reducePow, Nat.reduceDiv, Nat.reduceShiftRight, Nat.reduceMod, List.reduceReplicate, f3, f11, f12, f13, H111, H137, hg, hb, hfl, hl, e]
          refine (kLoop_rec (fun (k : Nat) f H => f 3 = .slice 1 (msg.map byteRow) ∧ f 11 = .ptr 111 1 0 0 ∧ f 12 = .osl 137 1 0 msg.length ∧ f 13 = .int .i64 ((64 * j : Nat) : Int) ∧ f 14 = .ptr 114 (j + 1) 0 0 ∧ f 50 = .int .i64 ((min 64 (msg.length - 64 * j) : Nat) : Int) ∧ f 51 = .int .i64 (k : Int) ∧ H 111 = ⟨1, .live, 16, [(firstW key nonce (ctr + UInt32.ofNat j)).map w32], false⟩ ∧ H 137 = ⟨1, .live, 1, (fillTo A (64 * j + k)).map byteRow, true⟩ ∧ H 114 = ⟨j + 1, .live, 64, [(blockB key nonce (ctr + UInt32.ofNat j)).map w8], false⟩ ∧ k ≤ min 64 (msg.length - 64 * j)) (fun k => 64 - k) (fun _ => some (.tup [.usl 1 (A.map byteRow), .int .i64 0], [])) ?_ 0 _ _ ?_)
          rotate_left
          · refine ⟨f3, f11, f12, f13, rfl, rfl, rfl, H111, ?_, rfl, by omega⟩
            rw [show 64 * j + 0 = min (64 * j) msg.length by omega]; exact H137
          clear f3 f11 f12 f13 H111 H137 hg hfill
          rintro k f H ⟨f3, f11, f12, f13, f14, f50, f51, H111, H137, H114, hk64⟩ ihk
          by_cases hkl : k < min 64 (msg.length - 64 * j)
          · have hfill := fillTo_len A (64 * j + k) (by omega)
            have hbl := blockB_len key nonce (ctr + UInt32.ofNat j)
            simp -implicitDefEqProofs -dsimp +contextual (maxSteps := 5000000) (disch := first | omega | (simp only [go_sem] <;> omega) | (show indepB _ _ = true; refine id ?_; kernel_rfl)) only [go_sem, ↓reduceIte, Nat.reduceEqDiff, Nat.reduceBEq, Nat.reduceAdd, Nat.reduceSub, Nat.reduceLeDiff, Nat.reduceLT, Nat.reduceMul, Int.reduceNeg, Int.reduceLT, Int.reduceLE, Int.reduceAdd, Int.reduceSub, Int.reduceToNat, Int.reduceMul, Int.reduceMod, Int.reduceTMod, Int.reduceTDiv, Int.reduceEq, Nat.reducePow, Nat.reduceDiv, Nat.reduceShiftRight, Nat.reduceMod, List.reduceReplicate, f3, f11, f12, f13, f14, f50, f51, H111, H137, H114, hkl, hfill, hbl]
            rw [← ks_block key nonce ctr j k (by omega), ← hget (64 * j + k) (by omega) (by omega), fillTo_set _ _ (by omega)]
            exact ihk (k + 1) _ _ ⟨f3, f11, f12, f13, f14, f50, rfl, H111, rfl, H114, by omega⟩ (by omega)
          · simp -implicitDefEqProofs -dsimp +contextual (maxSteps := 5000000) (disch := first | omega | (simp only [go_sem] <;> omega) | (show indepB _ _ = true; refine id ?_; kernel_rfl)) only [go_sem, ↓reduceIte, Nat.reduceEqDiff, Nat.reduceBEq, Nat.reduceAdd, Nat.reduceSub, Nat.reduceLeDiff, Nat.reduceLT, Nat.reduceMul, Int.reduceNeg, Int.reduceLT, Int.reduceLE, Int.reduceAdd, Int.reduceSub, Int.reduceToNat, Int.reduceMul, Int.reduceMod, Int.reduceTMod, Int.reduceTDiv, Int.reduceEq, Nat.reducePow, Nat.reduceDiv, Nat.reduceShiftRight, Nat.reduceMod, List.reduceReplicate, f3, f11, f12, f13, f14, f50, f51, H111, H137, H114, hkl]
            rw [firstW_12, firstW_up, show ctr + UInt32.ofNat j + 1 = ctr + UInt32.ofNat (j + 1) by rw [UInt32.ofNat_add, UInt32.add_assoc]; rfl]
            refine ih (j + 1) _ _ ⟨f3, f11, f12, rfl, rfl, ?_, ?_, by omega⟩ (by omega)
            · rw [show min (64 * (j + 1)) msg.length = 64 * j + k by omega]; exact H137
            · show (H 114).gen = _
              rw [H114]
        · have hfa := fillTo_all A msg.length (by omega)
          simp -implicitDefEqProofs -dsimp +contextual (maxSteps := 5000000) (disch := first | omega | (simp only [go_sem] <;> omega) | (show indepB _ _ = true; refine id ?_; kernel_rfl)) only [go_sem, ↓reduceIte, Nat.reduceEqDiff, Nat.reduceBEq, Nat.reduceAdd, Nat.reduceSub, Nat.reduceLeDiff, Nat.reduceLT, Nat.reduceMul, Int.reduceNeg, Int.reduceLT, Int.reduceLE, Int.reduceAdd, Int.reduceSub, Int.reduceToNat, Int.reduceMul, Int.reduceMod, Int.reduceTMod, Int.reduceTDiv, Int.reduceEq, Nat.reducePow, Nat.reduceDiv, Nat.reduceShiftRight, Nat.reduceMod, List.reduceReplicate, f3, f11, f12, f13, H111, H137, hg, hl, hfa, hA]
      · have hbig' : 4294967296 - ctr.toNat < (msg.length + 64 - 1) / 64 := by omega
        simp -implicitDefEqProofs -dsimp +contextual (maxSteps := 5000000) (disch := first | omega | (simp only [go_sem] <;> omega) | (show indepB _ _ = true; refine id ?_; kernel_rfl)) only [go_sem, ↓reduceIte, Nat.reduceEqDiff, Nat.reduceBEq, Nat.reduceAdd, Nat.reduceSub, Nat.reduceLeDiff, Nat.reduceLT, Nat.reduceMul, Int.reduceNeg, Int.reduceLT, Int.reduceLE, Int.reduceAdd, Int.reduceSub, Int.reduceToNat, Int.reduceMul, Int.reduceMod, Int.reduceTMod, Int.reduceTDiv, Int.reduceEq, Nat.reducePow, Nat.reduceDiv, Nat.reduceShiftRight, Nat.reduceMod, List.reduceReplicate, hk, hn, hb, ec, hbig']
        simp [xorR, hn, hk, hbig]
    · simp -implicitDefEqProofs -dsimp +contextual (maxSteps := 5000000) (disch := first | omega | (simp only [go_sem] <;> omega) | (show indepB _ _ = true; refine id ?_; kernel_rfl)) only [go_sem, ↓reduceIte, Nat.reduceEqDiff, Nat.reduceBEq, Nat.reduceAdd, Nat.reduceSub, Nat.reduceLeDiff, Nat.reduceLT, Nat.reduceMul, Int.reduceNeg, Int.reduceLT, Int.reduceLE, Int.reduceAdd, Int.reduceSub, Int.reduceToNat, Int.reduceMul, Int.reduceMod, Int.reduceTMod, Int.reduceTDiv, Int.reduceEq, Nat.reducePow, Nat.reduceDiv, Nat.reduceShiftRight, Nat.reduceMod, List.reduceReplicate, hk, hn]
      simp [xorR, hn]
  · simp -implicitDefEqProofs -dsimp +contextual (maxSteps := 5000000) (disch := first | omega | (simp only [go_sem] <;> omega) | (show indepB _ _ = true; refine id ?_; kernel_rfl)) only [go_sem, ↓reduceIte, Nat.reduceEqDiff, Nat.reduceBEq, Nat.reduceAdd, Nat.reduceSub, Nat.reduceLeDiff, Nat.reduceLT, Nat.reduceMul, Int.reduceNeg, Int.reduceLT, Int.reduceLE, Int.reduceAdd, Int.reduceSub, Int.reduceToNat, Int.reduceMul, Int.reduceMod, Int.reduceTMod, Int.reduceTDiv, Int.reduceEq, Nat.reducePow, Nat.reduceDiv, Nat.reduceShiftRight, Nat.reduceMod, List.reduceReplicate, hk]
    simp [xorR, hk]

set_option maxHeartbeats 4000000 in
@[go_sem] theorem e16 (key nonce : List UInt8) (ctr : UInt32) (msg : List UInt8) (hm : msg.length ≤ 1000000000) : fn C 16 [] [.slice 1 (key.map byteRow), .slice 1 (nonce.map byteRow), .int .u32 (ctr.toNat : Int), .slice 1 (msg.map byteRow)] = some (xorR .slice key nonce ctr msg) := by
  rw [fn_text Try.func16 rfl rfl Try.results16 locM16 rfl rfl (by kernel_rfl)]
  have hc := u32_lt ctr
  have ec : ((4294967296 : Int) - (ctr.toNat : Int)) = ((4294967296 - ctr.toNat : Nat) : Int) := by omega
  by_cases hk : key.length = 32
  · by_cases hn : nonce.length = 12
    · by_cases hbig : (msg.length + 63) / 64 ≤ 4294967296 - ctr.toNat
      · simp -implicitDefEqProofs -dsimp +contextual (maxSteps := 5000000) (disch := first | omega | (simp only [go_sem] <;> omega) | (show indepB _ _ = true; refine id ?_; kernel_rfl)) only [go_sem, ↓reduceIte, Nat.reduceEqDiff, Nat.reduceBEq, Nat.reduceAdd, Nat.reduceSub, Nat.reduceLeDiff, Nat.reduceLT, Nat.reduceMul, Int.reduceNeg, Int.reduceLT, Int.reduceLE, Int.reduceAdd, Int.reduceSub, Int.reduceToNat, Int.reduceMul, Int.reduceMod, Int.reduceTMod, Int.reduceTDiv, Int.reduceEq, Nat.reducePow, Nat.reduceDiv, Nat.reduceShiftRight, Nat.reduceMod, List.reduceReplicate, hk, hn, ec, hbig]
        rw [xorR, if_pos ⟨hk, hn⟩, if_pos hbig]
        have ew : ∀ i : Nat, IntKind.u32.wrap ((ctr.toNat + i / 64 : Nat) : Int) = ((ctr + UInt32.ofNat (i / 64)).toNat : Int) := fun i => by
          rw [u32_wrap, UInt32.ofNat_add, UInt32.ofNat_toNat]
        obtain ⟨A, hAdef⟩ : ∃ A, A = xorB key nonce ctr msg := ⟨_, rfl⟩
        have hA : A.length = msg.length := by rw [hAdef, xorB_len]
        have hget : ∀ (i : Nat) (h : i < A.length) (h2 : i < msg.length), A[i] = msg[i] ^^^ ksAt key nonce ctr i := fun i h h2 => by
          subst hAdef; exact xorB_get key nonce ctr msg i h2
        have hks : ∀ i : Nat, ksAt key nonce ctr i = (blockB key nonce (ctr + UInt32.ofNat (i / 64)))[i % 64]'(by rw [blockB_len]; omega) := fun i => by
          have := ks_block key nonce ctr (i / 64) (i % 64) (by omega)
          rw [show 64 * (i / 64) + i % 64 = i by omega] at this; exact this
        rw [← hAdef]
        have hbl := fun c => blockB_len key nonce c
        have e0 : IntKind.u32.wrap ((ctr.toNat : Nat) : Int) = (ctr.toNat : Int) := u32_id ctr
        by_cases hm0 : msg.length = 0
        · have : msg = [] := List.eq_nil_of_length_eq_zero hm0
          have : A = [] := List.eq_nil_of_length_eq_zero (by omega)
          rw [this]
          subst msg
          rw [kLoop_eq]
          simp -implicitDefEqProofs -dsimp +contextual (maxSteps := 5000000) (disch := first | omega | (simp only [go_sem] <;> omega) | (show indepB _ _ = true; refine id ?_; kernel_rfl)) only [go_sem, ↓reduceIte, Nat.reduceEqDiff, Nat.reduceBEq, Nat.reduceAdd, Nat.reduceSub, Nat.reduceLeDiff, Nat.reduceLT, Nat.reduceMul, Int.reduceNeg, Int.reduceLT, Int.reduceLE, Int.reduceAdd, Int.reduceSub, Int.reduceToNat, Int.reduceMul, Int.reduceMod, Int.reduceTMod, Int.reduceTDiv, Int.reduceEq, Nat.reducePow, Nat.reduceDiv, Nat.reduceShiftRight, Nat.reduceMod, List.reduceReplicate]
        have hm1 : 0 < msg.length := by omega
        rw [kLoop_eq]
        simp -implicitDefEqProofs -dsimp +contextual (maxSteps := 5000000) (disch := first | omega | (simp only [go_sem] <;> omega) | (show indepB _ _ = true; refine id ?_; kernel_rfl)) only [go_sem, ↓reduceIte, Nat.reduceEqDiff, Nat.reduceBEq, Nat.reduceAdd, Nat.reduceSub, Nat.reduceLeDiff, Nat.reduceLT, Nat.reduceMul, Int.reduceNeg, Int.reduceLT, Int.reduceLE, Int.reduceAdd, Int.reduceSub, Int.reduceToNat, Int.reduceMul, Int.reduceMod, Int.reduceTMod, Int.reduceTDiv, Int.reduceEq, Nat.reducePow, Nat.reduceDiv, Nat.reduceShiftRight, Nat.reduceMod, List.reduceReplicate, hk, hn, hm1, hbl]
        refine kLoop_rec (fun (i : Nat) f H => f 0 = .slice 1 (key.map byteRow) ∧ f 1 = .slice 1 (nonce.map byteRow) ∧ f 2 = .int .u32 (ctr.toNat : Int) ∧ f 3 = .slice 1 (msg.map byteRow) ∧ f 11 = .osl 163 i 0 i ∧ f 12 = .slice 1 ((blockB key nonce (ctr + UInt32.ofNat ((i - 1) / 64))).map byteRow) ∧ f 13 = .int .i64 (i : Int) ∧ H 163 = ⟨i, .live, 1, (A.take i).map byteRow, false⟩ ∧ 1 ≤ i ∧ i ≤ msg.length) (fun i => msg.length - i) (fun _ => some (.tup [.slice 1 (A.map byteRow), .int .i64 0], [])) ?_ 1 _ _ ?_
        rotate_left
        · refine ⟨rfl, rfl, rfl, rfl, rfl, ?_, rfl, ?_, by omega, by omega⟩
          · rw [show ctr + UInt32.ofNat ((1 - 1) / 64) = ctr by simp]; rfl
          · have e1 : msg[0] ^^^ (blockB key nonce ctr)[0]'(by rw [blockB_len]; omega) = A[0]'(by omega) := by
              rw [hget 0 _ hm1, hks 0]; simp
            have e2 : A.take 1 = [A[0]'(by omega)] := by rw [List.take_succ_eq_append_getElem (by omega : 0 < A.length)]; rfl
            rw [e1, e2]; rfl
        rintro i f H ⟨f0, f1, f2, f3, f11, f12, f13, H163, hi, hi2⟩ ih
        by_cases hl : i < msg.length
        · by_cases h0 : i % 64 = 0
          · have eA : msg[i] ^^^ (blockB key nonce (ctr + UInt32.ofNat (i / 64)))[0]'(by rw [blockB_len]; omega) = A[i]'(by omega) := by
              rw [hget i _ hl, hks i]; simp only [h0]
            simp -implicitDefEqProofs -dsimp +contextual (maxSteps := 5000000) (disch := first | omega | (simp only [go_sem] <;> omega) | (show indepB _ _ = true; refine id ?_; kernel_rfl)) only [go_sem, ↓reduceIte, Nat.reduceEqDiff, Nat.reduceBEq, Nat.reduceAdd, Nat.reduceSub, Nat.reduceLeDiff, Nat.reduceLT, Nat.reduceMul, Int.reduceNeg, Int.reduceLT, Int.reduceLE, Int.reduceAdd, Int.reduceSub, Int.reduceToNat, Int.reduceMul, Int.reduceMod, Int.reduceTMod, Int.reduceTDiv, Int.reduceEq, Nat.reducePow, Nat.reduceDiv, Nat.reduceShiftRight, Nat.reduceMod, List.reduceReplicate, f0, f1, f2, f3, f11, f12, f13, H163, hl, h0, hk, hn, hbl, ew]
            rw [eA, ← List.take_succ_eq_append_getElem (by omega : i < A.length)]
            exact ih (i + 1) _ _ ⟨f0, f1, f2, f3, rfl, rfl, rfl, rfl, by omega, by omega⟩ (by omega)
          · have eA : msg[i] ^^^ (blockB key nonce (ctr + UInt32.ofNat (i / 64)))[i % 64]'(by rw [blockB_len]; omega) = A[i]'(by omega) := by
              rw [hget i _ hl, hks i]
            rw [show (i - 1) / 64 = i / 64 by omega] at f12
            simp -implicitDefEqProofs -dsimp +contextual (maxSteps := 5000000) (disch := first | omega | (simp only [go_sem] <;> omega) | (show indepB _ _ = true; refine id ?_; kernel_rfl)) only [go_sem, ↓reduceIte, Nat.reduceEqDiff, Nat.reduceBEq, Nat.reduceAdd, Nat.reduceSub, Nat.reduceLeDiff, Nat.reduceLT, Nat.reduceMul, Int.reduceNeg, Int.reduceLT, Int.reduceLE, Int.reduceAdd, Int.reduceSub, Int.reduceToNat, Int.reduceMul, Int.reduceMod, Int.reduceTMod, Int.reduceTDiv, Int.reduceEq, Nat.reducePow, Nat.reduceDiv, Nat.reduceShiftRight, Nat.reduceMod, List.reduceReplicate, f0, f1, f2, f3, f11, f12, f13, H163, hl, h0, hbl, ew]
            rw [eA, ← List.take_succ_eq_append_getElem (by omega : i < A.length)]
            exact ih (i + 1) _ _ ⟨f0, f1, f2, f3, rfl, f12, rfl, rfl, by omega, by omega⟩ (by omega)
        · simp -implicitDefEqProofs -dsimp +contextual (maxSteps := 5000000) (disch := first | omega | (simp only [go_sem] <;> omega) | (show indepB _ _ = true; refine id ?_; kernel_rfl)) only [go_sem, ↓reduceIte, Nat.reduceEqDiff, Nat.reduceBEq, Nat.reduceAdd, Nat.reduceSub, Nat.reduceLeDiff, Nat.reduceLT, Nat.reduceMul, Int.reduceNeg, Int.reduceLT, Int.reduceLE, Int.reduceAdd, Int.reduceSub, Int.reduceToNat, Int.reduceMul, Int.reduceMod, Int.reduceTMod, Int.reduceTDiv, Int.reduceEq, Nat.reducePow, Nat.reduceDiv, Nat.reduceShiftRight, Nat.reduceMod, List.reduceReplicate, f0, f1, f2, f3, f11, f12, f13, H163, hl]
      · have hbig' : 4294967296 - ctr.toNat < (msg.length + 63) / 64 := by omega
        simp -implicitDefEqProofs -dsimp +contextual (maxSteps := 5000000) (disch := first | omega | (simp only [go_sem] <;> omega) | (show indepB _ _ = true; refine id ?_; kernel_rfl)) only [go_sem, ↓reduceIte, Nat.reduceEqDiff, Nat.reduceBEq, Nat.reduceAdd, Nat.reduceSub, Nat.reduceLeDiff, Nat.reduceLT, Nat.reduceMul, Int.reduceNeg, Int.reduceLT, Int.reduceLE, Int.reduceAdd, Int.reduceSub, Int.reduceToNat, Int.reduceMul, Int.reduceMod, Int.reduceTMod, Int.reduceTDiv, Int.reduceEq, Nat.reducePow, Nat.reduceDiv, Nat.reduceShiftRight, Nat.reduceMod, List.reduceReplicate, hk, hn, ec, hbig']
        simp [xorR, hn, hk, hbig]
    · simp -implicitDefEqProofs -dsimp +contextual (maxSteps := 5000000) (disch := first | omega | (simp only [go_sem] <;> omega) | (show indepB _ _ = true; refine id ?_; kernel_rfl)) only [go_sem, ↓reduceIte, Nat.reduceEqDiff, Nat.reduceBEq, Nat.reduceAdd, Nat.reduceSub, Nat.reduceLeDiff, Nat.reduceLT, Nat.reduceMul, Int.reduceNeg, Int.reduceLT, Int.reduceLE, Int.reduceAdd, Int.reduceSub, Int.reduceToNat, Int.reduceMul, Int.reduceMod, Int.reduceTMod, Int.reduceTDiv, Int.reduceEq, Nat.reducePow, Nat.reduceDiv, Nat.reduceShiftRight, Nat.reduceMod, List.reduceReplicate, hk, hn]
      simp [xorR, hn]
  · simp -implicitDefEqProofs -dsimp +contextual (maxSteps := 5000000) (disch := first | omega | (simp only [go_sem] <;> omega) | (show indepB _ _ = true; refine id ?_; kernel_rfl)) only [go_sem, ↓reduceIte, Nat.reduceEqDiff, Nat.reduceBEq, Nat.reduceAdd, Nat.reduceSub, Nat.reduceLeDiff, Nat.reduceLT, Nat.reduceMul, Int.reduceNeg, Int.reduceLT, Int.reduceLE, Int.reduceAdd, Int.reduceSub, Int.reduceToNat, Int.reduceMul, Int.reduceMod, Int.reduceTMod, Int.reduceTDiv, Int.reduceEq, Nat.reducePow, Nat.reduceDiv, Nat.reduceShiftRight, Nat.reduceMod, List.reduceReplicate, hk]
    simp [xorR, hk]

end Go.Proofs.Ytdfkkfnjlcdjaaa
