import Derived.Test.YtnpkhdjgedeppaaGreatDoorTOwnconcat
import Derived.Lib.ItoaLen
namespace Go.Proofs.YtnpkhdjgedeppaaGreatDoor
set_option maxHeartbeats 64000000
open Go.Am
set_option linter.unusedSimpArgs false
set_option linter.unusedVariables false
set_option maxRecDepth 100000
theorem div8 (x : UInt32) : ((x.toNat / 8 : Nat) : Int) = ((W32.shr x 3).toNat : Int) := by
  have := u32_lt x
  simp only [W32.shr, UInt32.toNat_ofNat']; omega
theorem div1024 (x : UInt32) : ((x.toNat / 1024 : Nat) : Int) = ((W32.shr x 10).toNat : Int) := by
  have := u32_lt x
  simp only [W32.shr, UInt32.toNat_ofNat']; omega
@[go_sem] theorem wRow_eq (x : UInt32) : wRow x = [.int .u32 (x.toNat : Int)] := rfl
theorem wds_zero (blk : List UInt8) : wds blk 0 = [] := rfl
@[go_sem] theorem wRow_clos (l : List UInt32) : (l.map wRow).all clos = true := by
  rw [List.all_eq_true]; intro r hr
  rw [List.mem_map] at hr
  obtain ⟨x, _, rfl⟩ := hr
  rfl
@[go_sem] theorem e271 : fn C 271 [] [] = some (.slice 1 (KS.map wRow), []) := by
  rw [fn_text Tryz.func271 rfl rfl Tryz.results271 fq271.1 rfl rfl (by kernel_rfl)]
  have h : [[AVal.int .u32 1116352408], [AVal.int .u32 1899447441], [AVal.int .u32 3049323471], [AVal.int .u32 3921009573], [AVal.int .u32 961987163], [AVal.int .u32 1508970993], [AVal.int .u32 2453635748], [AVal.int .u32 2870763221], [AVal.int .u32 3624381080], [AVal.int .u32 310598401], [AVal.int .u32 607225278], [AVal.int .u32 1426881987], [AVal.int .u32 1925078388], [AVal.int .u32 2162078206], [AVal.int .u32 2614888103], [AVal.int .u32 3248222580], [AVal.int .u32 3835390401], [AVal.int .u32 4022224774], [AVal.int .u32 264347078], [AVal.int .u32 604807628], [AVal.int .u32 770255983], [AVal.int .u32 1249150122], [AVal.int .u32 1555081692], [AVal.int .u32 1996064986], [AVal.int .u32 2554220882], [AVal.int .u32 2821834349], [AVal.int .u32 2952996808], [AVal.int .u32 3210313671], [AVal.int .u32 3336571891], [AVal.int .u32 3584528711], [AVal.int .u32 113926993], [AVal.int .u32 338241895], [AVal.int .u32 666307205], [AVal.int .u32 773529912], [AVal.int .u32 1294757372], [AVal.int .u32 1396182291], [AVal.int .u32 1695183700], [AVal.int .u32 1986661051], [AVal.int .u32 2177026350], [AVal.int .u32 2456956037], [AVal.int .u32 2730485921], [AVal.int .u32 2820302411], [AVal.int .u32 3259730800], [AVal.int .u32 3345764771], [AVal.int .u32 3516065817], [AVal.int .u32 3600352804], [AVal.int .u32 4094571909], [AVal.int .u32 275423344], [AVal.int .u32 430227734], [AVal.int .u32 506948616], [AVal.int .u32 659060556], [AVal.int .u32 883997877], [AVal.int .u32 958139571], [AVal.int .u32 1322822218], [AVal.int .u32 1537002063], [AVal.int .u32 1747873779], [AVal.int .u32 1955562222], [AVal.int .u32 2024104815], [AVal.int .u32 2227730452], [AVal.int .u32 2361852424], [AVal.int .u32 2428436474], [AVal.int .u32 2756734187], [AVal.int .u32 3204031479], [AVal.int .u32 3329325298]] = KS.map wRow := by kernel_rfl
  simp -implicitDefEqProofs -dsimp +contextual (maxSteps := 5000000) (disch := first | omega | simp only [go_sem] <;> omega | refine ib ?_; kernel_rfl) only [go_sem, Nat.reduceBEq, Int.reduceNeg, Int.reduceLT, Int.reduceLE, Int.reduceAdd, Int.reduceSub, Int.reduceToNat, Int.reduceMul, Int.reduceMod, Int.reduceTMod, Int.reduceTDiv, Int.reduceEq, Nat.reducePow, Nat.reduceDiv, Nat.reduceShiftRight, Nat.reduceMod, List.reduceReplicate, ↓reduceIte, Nat.reduceEqDiff, Nat.reduceAdd, Nat.reduceSub, Nat.reduceLeDiff, Nat.reduceLT, Nat.reduceMul, h]
theorem rows_add (u s : S8) : [[AVal.int .u32 ((s.a + u.a).toNat : Int)], [AVal.int .u32 ((s.b + u.b).toNat : Int)], [AVal.int .u32 ((s.c + u.c).toNat : Int)], [AVal.int .u32 ((s.d + u.d).toNat : Int)], [AVal.int .u32 ((s.e + u.e).toNat : Int)], [AVal.int .u32 ((s.f + u.f).toNat : Int)], [AVal.int .u32 ((s.g + u.g).toNat : Int)], [AVal.int .u32 ((s.h + u.h).toNat : Int)]] = (u.add s).l.map wRow := by
  rw [UInt32.add_comm s.a, UInt32.add_comm s.b, UInt32.add_comm s.c, UInt32.add_comm s.d, UInt32.add_comm s.e, UInt32.add_comm s.f, UInt32.add_comm s.g, UInt32.add_comm s.h]; rfl
theorem sstep_eq (u : S8) (k w : UInt32) : sstep u k w = ⟨chx u k w + chy u, u.a, u.b, u.c, u.d + chx u k w, u.e, u.f, u.g⟩ := by unfold sstep; rfl
theorem wsOf_eq (blk : List UInt8) : wsOf blk = extW 48 (wds blk 16) := rfl
theorem extW_succ (n : Nat) (l : List UInt32) : extW (n + 1) l = extW n (l ++ [nxt l]) := rfl
theorem extW_zero (l : List UInt32) : extW 0 l = l := rfl
attribute [local irreducible] wsOf KS rr wds nxt extW wd chx chy sstep S8.add
theorem numB_wd (blk : List UInt8) (t : Nat) (h : 4 * t + 4 ≤ blk.length) : numB ((blk.drop (4 * t)).take (4 * t + 4 - 4 * t)) = wd blk t := by
  rw [show 4 * t + 4 - 4 * t = 4 by omega, wd, numB]
  simp only [List.getD_eq_getElem?_getD, List.getElem?_take, List.getElem?_drop]
  simp
@[go_sem] theorem e254 (s : S8) (blk : List UInt8) (h : blk.length = 64) : fn C 254 [] [.slice 1 (s.l.map wRow), .slice 1 (blk.map byteRow)] = some (.slice 1 ((blockS s blk).l.map wRow), []) := by
  rw [fn_text Tryz.func254 rfl rfl Tryz.results254 fq254.1 rfl rfl (by kernel_rfl)]
  have hw := wsOf_len blk
  have hk := KS_len
  have hsl : s.l.map wRow = [[.int .u32 (s.a.toNat : Int)], [.int .u32 (s.b.toNat : Int)], [.int .u32 (s.c.toNat : Int)], [.int .u32 (s.d.toNat : Int)], [.int .u32 (s.e.toNat : Int)], [.int .u32 (s.f.toNat : Int)], [.int .u32 (s.g.toNat : Int)], [.int .u32 (s.h.toNat : Int)]] := rfl
  rw [hsl]
  simp -implicitDefEqProofs -dsimp +contextual (maxSteps := 5000000) (disch := first | omega | simp only [go_sem] <;> omega | refine ib ?_; kernel_rfl) only [go_sem, Nat.reduceBEq, Int.reduceNeg, Int.reduceLT, Int.reduceLE, Int.reduceAdd, Int.reduceSub, Int.reduceToNat, Int.reduceMul, Int.reduceMod, Int.reduceTMod, Int.reduceTDiv, Int.reduceEq, Nat.reducePow, Nat.reduceDiv, Nat.reduceShiftRight, Nat.reduceMod, List.reduceReplicate, ↓reduceIte, Nat.reduceEqDiff, Nat.reduceAdd, Nat.reduceSub, Nat.reduceLeDiff, Nat.reduceLT, Nat.reduceMul, h, hw]
  refine (kLoop_rec2 (fun (t : Nat) (l : List UInt32) f H => f 0 = .slice 1 [[.int .u32 (s.a.toNat : Int)], [.int .u32 (s.b.toNat : Int)], [.int .u32 (s.c.toNat : Int)], [.int .u32 (s.d.toNat : Int)], [.int .u32 (s.e.toNat : Int)], [.int .u32 (s.f.toNat : Int)], [.int .u32 (s.g.toNat : Int)], [.int .u32 (s.h.toNat : Int)]] ∧ f 1 = .slice 1 (blk.map byteRow) ∧ f 6 = .int .i64 (t : Int) ∧ ((t = 0 ∧ f 5 = .sc (.slice none 0 0) ∧ H 137 = ⟨0, .dead, 0, [], false⟩) ∨ (t ≠ 0 ∧ f 5 = .osl 137 t 0 t ∧ H 137 = ⟨t, .live, 1, l.map wRow, false⟩)) ∧ l.length = t ∧ t ≤ 64 ∧ (t ≤ 16 → l = wds blk t)) (fun t _ => 64 - t) (fun t l => some (.slice 1 (((rnd KS (if t ≤ 16 then wsOf blk else extW (64 - t) l) s).add s).l.map wRow), [])) ?_ 0 [] _ _ ⟨rfl, rfl, rfl, .inl ⟨rfl, rfl, rfl⟩, rfl, by omega, fun _ => by rw [wds]; rfl⟩)
  rintro t l f H ⟨f0, f1, f6, hc, hlen, ht, hwd⟩ ih
  by_cases hlt : t < 64
  · by_cases h16 : t < 16
    · rcases hc with ⟨rfl, f5, H137⟩ | ⟨h0, f5, H137⟩
      · simp -implicitDefEqProofs -dsimp +contextual (maxSteps := 5000000) (disch := first | omega | simp only [go_sem] <;> omega | refine ib ?_; kernel_rfl) only [go_sem, Nat.reduceBEq, Int.reduceNeg, Int.reduceLT, Int.reduceLE, Int.reduceAdd, Int.reduceSub, Int.reduceToNat, Int.reduceMul, Int.reduceMod, Int.reduceTMod, Int.reduceTDiv, Int.reduceEq, Nat.reducePow, Nat.reduceDiv, Nat.reduceShiftRight, Nat.reduceMod, List.reduceReplicate, ↓reduceIte, Nat.reduceEqDiff, Nat.reduceAdd, Nat.reduceSub, Nat.reduceLeDiff, Nat.reduceLT, Nat.reduceMul, f0, f1, f5, f6, H137, h, hlt, h16]
        have hn : numB (blk.take 4) = wd blk 0 := by simpa using numB_wd blk 0 (by omega)
        refine Eq.trans (ih 1 [wd blk 0] _ _ ⟨f0, f1, rfl, .inr ⟨by omega, by simp [upd], ?_⟩, rfl, by omega, fun _ => ?_⟩ (by omega)) ?_
        · rw [hn]; rfl
        · rw [show (1 : Nat) = 0 + 1 from rfl, wds_succ, wds_zero]; rfl
        · rw [if_pos (by decide)]
      · have hn := numB_wd blk t (by omega)
        simp -implicitDefEqProofs -dsimp +contextual (maxSteps := 5000000) (disch := first | omega | simp only [go_sem] <;> omega | refine ib ?_; kernel_rfl) only [go_sem, Nat.reduceBEq, Int.reduceNeg, Int.reduceLT, Int.reduceLE, Int.reduceAdd, Int.reduceSub, Int.reduceToNat, Int.reduceMul, Int.reduceMod, Int.reduceTMod, Int.reduceTDiv, Int.reduceEq, Nat.reducePow, Nat.reduceDiv, Nat.reduceShiftRight, Nat.reduceMod, List.reduceReplicate, ↓reduceIte, Nat.reduceEqDiff, Nat.reduceAdd, Nat.reduceSub, Nat.reduceLeDiff, Nat.reduceLT, Nat.reduceMul, f0, f1, f5, f6, H137, h, hlt, h16, hlen]
        rw [hn]
        refine Eq.trans (ih (t + 1) (l ++ [wd blk t]) _ _ ⟨f0, f1, rfl, .inr ⟨by omega, by simp [upd], ?_⟩, by simp [hlen], by omega, fun _ => ?_⟩ (by omega)) ?_
        · rw [List.map_append]; rfl
        · rw [wds_succ, hwd (by omega)]
        · rw [if_pos (by omega)]
          try rw [if_pos (by omega)]
    · rcases hc with ⟨rfl, f5, H137⟩ | ⟨h0, f5, H137⟩
      · exact absurd (by decide) h16
      · simp -implicitDefEqProofs -dsimp +contextual (maxSteps := 5000000) (disch := first | omega | simp only [go_sem] <;> omega | refine ib ?_; kernel_rfl) only [go_sem, Nat.reduceBEq, Int.reduceNeg, Int.reduceLT, Int.reduceLE, Int.reduceAdd, Int.reduceSub, Int.reduceToNat, Int.reduceMul, Int.reduceMod, Int.reduceTMod, Int.reduceTDiv, Int.reduceEq, Nat.reducePow, Nat.reduceDiv, Nat.reduceShiftRight, Nat.reduceMod, List.reduceReplicate, ↓reduceIte, Nat.reduceEqDiff, Nat.reduceAdd, Nat.reduceSub, Nat.reduceLeDiff, Nat.reduceLT, Nat.reduceMul, f0, f1, f5, f6, H137, h, hlt, h16, hlen, div8, div1024]
        have hn : l[t - 16] + l[t - 7] + (rr l[t - 15] 7 ^^^ rr l[t - 15] 18 ^^^ W32.shr l[t - 15] 3) + (rr l[t - 2] 17 ^^^ rr l[t - 2] 19 ^^^ W32.shr l[t - 2] 10) = nxt l := by
          subst hlen
          rw [nxt, getD_of _ _ _ (by omega), getD_of _ _ _ (by omega), getD_of _ _ _ (by omega), getD_of _ _ _ (by omega), sg0, sg1]
        have hF : (if t ≤ 16 then wsOf blk else extW (64 - t) l) = extW (64 - (t + 1)) (l ++ [nxt l]) := by
          rw [← extW_succ, show 64 - (t + 1) + 1 = 64 - t by omega]
          split
          · obtain rfl : t = 16 := by omega
            rw [wsOf_eq, hwd (by omega)]
          · rfl
        rw [hn, hF]
        refine Eq.trans (ih (t + 1) (l ++ [nxt l]) _ _ ⟨f0, f1, rfl, .inr ⟨by omega, by simp [upd], ?_⟩, by simp [hlen], by omega, fun _ => by omega⟩ (by omega)) ?_
        · rw [List.map_append]; rfl
        · rw [if_neg (by omega)]
  · obtain rfl : t = 64 := by omega
    rcases hc with ⟨h0, _⟩ | ⟨h0, f5, H137⟩
    · omega
    rw [if_neg (by omega), show 64 - 64 = 0 from rfl, extW_zero]
    simp -implicitDefEqProofs -dsimp +contextual (maxSteps := 5000000) (disch := first | omega | simp only [go_sem] <;> omega | refine ib ?_; kernel_rfl) only [go_sem, Nat.reduceBEq, Int.reduceNeg, Int.reduceLT, Int.reduceLE, Int.reduceAdd, Int.reduceSub, Int.reduceToNat, Int.reduceMul, Int.reduceMod, Int.reduceTMod, Int.reduceTDiv, Int.reduceEq, Nat.reducePow, Nat.reduceDiv, Nat.reduceShiftRight, Nat.reduceMod, List.reduceReplicate, ↓reduceIte, Nat.reduceEqDiff, Nat.reduceAdd, Nat.reduceSub, Nat.reduceLeDiff, Nat.reduceLT, Nat.reduceMul, f0, f1, f5, f6, H137, h, hlt, hlen, hk]
    refine (kLoop_rec2 (fun (i : Nat) (u : S8) f H => f 0 = .slice 1 [[.int .u32 (s.a.toNat : Int)], [.int .u32 (s.b.toNat : Int)], [.int .u32 (s.c.toNat : Int)], [.int .u32 (s.d.toNat : Int)], [.int .u32 (s.e.toNat : Int)], [.int .u32 (s.f.toNat : Int)], [.int .u32 (s.g.toNat : Int)], [.int .u32 (s.h.toNat : Int)]] ∧ f 5 = .osl 137 64 0 64 ∧ f 9 = .slice 1 (KS.map wRow) ∧ f 10 = .int .u32 (u.a.toNat : Int) ∧ f 11 = .int .u32 (u.b.toNat : Int) ∧ f 12 = .int .u32 (u.c.toNat : Int) ∧ f 13 = .int .u32 (u.d.toNat : Int) ∧ f 14 = .int .u32 (u.e.toNat : Int) ∧ f 15 = .int .u32 (u.f.toNat : Int) ∧ f 16 = .int .u32 (u.g.toNat : Int) ∧ f 17 = .int .u32 (u.h.toNat : Int) ∧ f 18 = .int .i64 (i : Int) ∧ H 137 = ⟨64, .live, 1, l.map wRow, false⟩ ∧ i ≤ 64) (fun i _ => 64 - i) (fun i u => some (.slice 1 (((rnd (KS.drop i) (l.drop i) u).add s).l.map wRow), [])) ?_ 0 s _ _ ⟨f0, f5, rfl, rfl, rfl, rfl, rfl, rfl, rfl, rfl, rfl, rfl, H137, by omega⟩)
    rintro i u f H ⟨f0, f5, f9, g10, g11, g12, g13, g14, g15, g16, g17, f18, H137, hi⟩ ih
    by_cases hl : i < 64
    · simp -implicitDefEqProofs -dsimp +contextual (maxSteps := 5000000) (disch := first | omega | simp only [go_sem] <;> omega | refine ib ?_; kernel_rfl) only [go_sem, Nat.reduceBEq, Int.reduceNeg, Int.reduceLT, Int.reduceLE, Int.reduceAdd, Int.reduceSub, Int.reduceToNat, Int.reduceMul, Int.reduceMod, Int.reduceTMod, Int.reduceTDiv, Int.reduceEq, Nat.reducePow, Nat.reduceDiv, Nat.reduceShiftRight, Nat.reduceMod, List.reduceReplicate, ↓reduceIte, Nat.reduceEqDiff, Nat.reduceAdd, Nat.reduceSub, Nat.reduceLeDiff, Nat.reduceLT, Nat.reduceMul, f0, f5, f9, g10, g11, g12, g13, g14, g15, g16, g17, f18, H137, hl, hlen, hk]
      have c1 := chx_eq u (KS[i]'(by rw [hk]; exact hl)) (l[i]'(by rw [hlen]; exact hl))
      have c2 := chy_eq u
      have c3 := rnd_drop KS l i (by rw [hk]; exact hl) (by rw [hlen]; exact hl) u
      rw [sstep_eq] at c3
      rw [c1, c2, c3]
      refine ih (i + 1) _ _ _ ?_ (by omega)
      exact ⟨f0, f5, f9, rfl, rfl, rfl, rfl, rfl, rfl, rfl, rfl, rfl, H137, by omega⟩
    · simp -implicitDefEqProofs -dsimp +contextual (maxSteps := 5000000) (disch := first | omega | simp only [go_sem] <;> omega | refine ib ?_; kernel_rfl) only [go_sem, Nat.reduceBEq, Int.reduceNeg, Int.reduceLT, Int.reduceLE, Int.reduceAdd, Int.reduceSub, Int.reduceToNat, Int.reduceMul, Int.reduceMod, Int.reduceTMod, Int.reduceTDiv, Int.reduceEq, Nat.reducePow, Nat.reduceDiv, Nat.reduceShiftRight, Nat.reduceMod, List.reduceReplicate, ↓reduceIte, Nat.reduceEqDiff, Nat.reduceAdd, Nat.reduceSub, Nat.reduceLeDiff, Nat.reduceLT, Nat.reduceMul, f0, f5, f9, g10, g11, g12, g13, g14, g15, g16, g17, f18, H137, hl, hlen, hk]
      obtain rfl : i = 64 := by omega
      rw [rnd_nil]
      exact congrArg (fun x => some (AVal.slice 1 x, ([] : List AVal))) (rows_add u s)
end Go.Proofs.YtnpkhdjgedeppaaGreatDoor
namespace Go.Proofs.YtnpkhdjgedeppaaGreatDoor
set_option maxHeartbeats 64000000
open Go.Am
set_option linter.unusedSimpArgs false
set_option linter.unusedVariables false
set_option maxRecDepth 100000
def padD (n : Nat) : List UInt8 := 128 :: (List.replicate ((119 - n % 64) % 64) 0 ++ beN 8 (n * 8))
@[go_sem] theorem e263 (n : Nat) (h : n ≤ 1000000000000) : fn C 263 [] [.int .i64 (n : Int)] = some (.slice 1 ((padD n).map byteRow), []) := by
  rw [fn_text Tryz.func263 rfl rfl Tryz.results263 fq263.1 rfl rfl (by kernel_rfl)]
  have h119 : (119 : Int) - ((n % 64 : Nat) : Int) = ((119 - n % 64 : Nat) : Int) := by omega
  simp -implicitDefEqProofs -dsimp +contextual (maxSteps := 5000000) (disch := first | omega | simp only [go_sem] <;> omega | refine ib ?_; kernel_rfl) only [go_sem, Nat.reduceBEq, Int.reduceNeg, Int.reduceLT, Int.reduceLE, Int.reduceAdd, Int.reduceSub, Int.reduceToNat, Int.reduceMul, Int.reduceMod, Int.reduceTMod, Int.reduceTDiv, Int.reduceEq, Nat.reducePow, Nat.reduceDiv, Nat.reduceShiftRight, Nat.reduceMod, List.reduceReplicate, ↓reduceIte, Nat.reduceEqDiff, Nat.reduceAdd, Nat.reduceSub, Nat.reduceLeDiff, Nat.reduceLT, Nat.reduceMul, h119, kLoop_eq, Nat.not_lt_zero]
  have b1 : ((n * 8 / 72057594037927936 : Nat) : Int) = ((UInt8.ofNat (n * 8 / 72057594037927936)).toNat : Int) := by simp only [UInt8.toNat_ofNat']; omega
  have b2 : ((n * 8 / 281474976710656 : Nat) : Int) = ((UInt8.ofNat (n * 8 / 281474976710656)).toNat : Int) := by simp only [UInt8.toNat_ofNat']; omega
  have b3 : ((n * 8 / 1099511627776 : Nat) : Int) = ((UInt8.ofNat (n * 8 / 1099511627776)).toNat : Int) := by simp only [UInt8.toNat_ofNat']; omega
  rw [b1, b2, b3, u8_wrap, u8_wrap, u8_wrap, u8_wrap, u8_wrap]
  simp only [padD, beN, show List.range 8 = [0, 1, 2, 3, 4, 5, 6, 7] from rfl, List.map_cons, List.map_nil, List.map_append, List.append_assoc, List.cons_append, List.nil_append, List.append_nil]
  rfl
@[go_sem] theorem e252 (n : Nat) (h : n ≤ 1000000000000) : fn C 252 [] [.int .i64 (n : Int)] = some (.slice 1 ((padD n).map byteRow), []) := by
  rw [fn_text Tryz.func252 rfl rfl Tryz.results252 fq252.1 rfl rfl (by kernel_rfl)]
  simp -implicitDefEqProofs -dsimp +contextual (maxSteps := 5000000) (disch := first | omega | simp only [go_sem] <;> omega | refine ib ?_; kernel_rfl) only [go_sem, Nat.reduceBEq, Int.reduceNeg, Int.reduceLT, Int.reduceLE, Int.reduceAdd, Int.reduceSub, Int.reduceToNat, Int.reduceMul, Int.reduceMod, Int.reduceTMod, Int.reduceTDiv, Int.reduceEq, Nat.reducePow, Nat.reduceDiv, Nat.reduceShiftRight, Nat.reduceMod, List.reduceReplicate, ↓reduceIte, Nat.reduceEqDiff, Nat.reduceAdd, Nat.reduceSub, Nat.reduceLeDiff, Nat.reduceLT, Nat.reduceMul, Nat.not_lt_zero]
  obtain ⟨Z, hZ⟩ : ∃ Z, Z = (119 - n % 64) % 64 := ⟨_, rfl⟩
  refine (kLoop_rec (fun (k : Nat) f H => f 0 = .int .i64 (n : Int) ∧ f 3 = .osl 108 (k + 1) 0 (k + 1) ∧ H 108 = ⟨k + 1, .live, 1, (128 :: List.replicate k (0 : UInt8)).map byteRow, false⟩ ∧ k ≤ Z) (fun k => Z - k) (fun _ => some (.slice 1 ((padD n).map byteRow), [])) ?_ 0 _ _ ⟨rfl, rfl, rfl, by omega⟩)
  rintro k f H ⟨f0, f3, H8, hk⟩ ih
  by_cases hl : (n % 64 + (k + 1) + 8) % 64 = 0
  · obtain rfl : k = Z := by omega
    simp -implicitDefEqProofs -dsimp +contextual (maxSteps := 5000000) (disch := first | omega | simp only [go_sem] <;> omega | refine ib ?_; kernel_rfl) only [go_sem, Nat.reduceBEq, Int.reduceNeg, Int.reduceLT, Int.reduceLE, Int.reduceAdd, Int.reduceSub, Int.reduceToNat, Int.reduceMul, Int.reduceMod, Int.reduceTMod, Int.reduceTDiv, Int.reduceEq, Nat.reducePow, Nat.reduceDiv, Nat.reduceShiftRight, Nat.reduceMod, List.reduceReplicate, ↓reduceIte, Nat.reduceEqDiff, Nat.reduceAdd, Nat.reduceSub, Nat.reduceLeDiff, Nat.reduceLT, Nat.reduceMul, f0, f3, H8, hl, kLoop_eq]
    have hm : ∀ m : Nat, ((m % 256 : Nat) : Int) = ((UInt8.ofNat m).toNat : Int) := fun m => by simp [UInt8.toNat_ofNat']
    rw [hm, hm, hm, hm, hm, hm, hm, hm, hZ]
    simp only [padD, beN, show List.range 8 = [0, 1, 2, 3, 4, 5, 6, 7] from rfl, List.map_cons, List.map_nil, List.map_append, List.append_assoc, List.cons_append, List.nil_append, List.append_nil]
    rfl
  · simp -implicitDefEqProofs -dsimp +contextual (maxSteps := 5000000) (disch := first | omega | simp only [go_sem] <;> omega | refine ib ?_; kernel_rfl) only [go_sem, Nat.reduceBEq, Int.reduceNeg, Int.reduceLT, Int.reduceLE, Int.reduceAdd, Int.reduceSub, Int.reduceToNat, Int.reduceMul, Int.reduceMod, Int.reduceTMod, Int.reduceTDiv, Int.reduceEq, Nat.reducePow, Nat.reduceDiv, Nat.reduceShiftRight, Nat.reduceMod, List.reduceReplicate, ↓reduceIte, Nat.reduceEqDiff, Nat.reduceAdd, Nat.reduceSub, Nat.reduceLeDiff, Nat.reduceLT, Nat.reduceMul, f0, f3, H8, hl]
    refine ih (k + 1) _ _ ⟨f0, rfl, ?_, by omega⟩ (by omega)
    rw [List.replicate_succ', List.map_cons, List.map_append]
    rfl
end Go.Proofs.YtnpkhdjgedeppaaGreatDoor
namespace Go.Proofs.YtnpkhdjgedeppaaGreatDoor
set_option maxHeartbeats 64000000
open Go.Am
set_option linter.unusedSimpArgs false
set_option linter.unusedVariables false
set_option maxRecDepth 100000
def H0 : S8 := ⟨1779033703, 3144134277, 1013904242, 2773480762, 1359893119, 2600822924, 528734635, 1541459225⟩
theorem H0_w : [AVal.int .u32 1779033703, .int .u32 3144134277, .int .u32 1013904242, .int .u32 2773480762, .int .u32 1359893119, .int .u32 2600822924, .int .u32 528734635, .int .u32 1541459225] = H0.l.map w32 := by kernel_rfl
theorem H0_r : [[AVal.int .u32 1779033703], [.int .u32 3144134277], [.int .u32 1013904242], [.int .u32 2773480762], [.int .u32 1359893119], [.int .u32 2600822924], [.int .u32 528734635], [.int .u32 1541459225]] = H0.l.map wRow := by kernel_rfl
@[go_sem] theorem S8_len (s : S8) : s.l.length = 8 := rfl
def stS (all : List UInt8) : Nat → S8
  | 0 => H0
  | i + 1 => blockS (stS all i) ((all.drop (64 * i)).take 64)
def be8 (x : UInt32) : List UInt8 := [(W32.shr x 24).toUInt8, (W32.shr x 16).toUInt8, (W32.shr x 8).toUInt8, x.toUInt8]
def outS (s : S8) : List UInt8 := s.l.flatMap be8
def allB (b : List UInt8) : List UInt8 := b ++ padD b.length
def sumB (b : List UInt8) : List UInt8 := outS (stS (allB b) ((allB b).length / 64))
theorem padD_len (n : Nat) : (padD n).length = (119 - n % 64) % 64 + 9 := by simp [padD, beN_len]
theorem allB_len (b : List UInt8) : (allB b).length = b.length + ((119 - b.length % 64) % 64 + 9) := by rw [allB, List.length_append, padD_len]
theorem allB_mod (b : List UInt8) : (allB b).length % 64 = 0 := by rw [allB_len]; omega
@[go_sem] theorem e264 : fn C 264 [] [] = some (.agg (H0.l.map w32), []) := by
  rw [fn_text Tryz.func264 rfl rfl Tryz.results264 fq264.1 rfl rfl (by kernel_rfl)]
  simp -implicitDefEqProofs -dsimp +contextual (maxSteps := 5000000) (disch := first | omega | simp only [go_sem] <;> omega | refine ib ?_; kernel_rfl) only [go_sem, Nat.reduceBEq, Int.reduceNeg, Int.reduceLT, Int.reduceLE, Int.reduceAdd, Int.reduceSub, Int.reduceToNat, Int.reduceMul, Int.reduceMod, Int.reduceTMod, Int.reduceTDiv, Int.reduceEq, Nat.reducePow, Nat.reduceDiv, Nat.reduceShiftRight, Nat.reduceMod, List.reduceReplicate, ↓reduceIte, Nat.reduceEqDiff, Nat.reduceAdd, Nat.reduceSub, Nat.reduceLeDiff, Nat.reduceLT, Nat.reduceMul, H0_w]
@[go_sem] theorem e253 : fn C 253 [] [] = some (.slice 1 (H0.l.map wRow), []) := by
  rw [fn_text Tryz.func253 rfl rfl Tryz.results253 fq253.1 rfl rfl (by kernel_rfl)]
  simp -implicitDefEqProofs -dsimp +contextual (maxSteps := 5000000) (disch := first | omega | simp only [go_sem] <;> omega | refine ib ?_; kernel_rfl) only [go_sem, Nat.reduceBEq, Int.reduceNeg, Int.reduceLT, Int.reduceLE, Int.reduceAdd, Int.reduceSub, Int.reduceToNat, Int.reduceMul, Int.reduceMod, Int.reduceTMod, Int.reduceTDiv, Int.reduceEq, Nat.reducePow, Nat.reduceDiv, Nat.reduceShiftRight, Nat.reduceMod, List.reduceReplicate, ↓reduceIte, Nat.reduceEqDiff, Nat.reduceAdd, Nat.reduceSub, Nat.reduceLeDiff, Nat.reduceLT, Nat.reduceMul, H0_r]
attribute [local irreducible] blockS padD
@[go_sem] theorem e239 (b : List UInt8) (h : b.length ≤ 1000000) : fn C 239 [] [.slice 1 (b.map byteRow)] = some (.slice 1 ((sumB b).map byteRow), []) := by
  rw [fn_text Tryz.func239 rfl rfl Tryz.results239 fq239.1 rfl rfl (by kernel_rfl)]
  have hp := padD_len b.length
  simp -implicitDefEqProofs -dsimp +contextual (maxSteps := 5000000) (disch := first | omega | simp only [go_sem] <;> omega | refine ib ?_; kernel_rfl) only [go_sem, Nat.reduceBEq, Int.reduceNeg, Int.reduceLT, Int.reduceLE, Int.reduceAdd, Int.reduceSub, Int.reduceToNat, Int.reduceMul, Int.reduceMod, Int.reduceTMod, Int.reduceTDiv, Int.reduceEq, Nat.reducePow, Nat.reduceDiv, Nat.reduceShiftRight, Nat.reduceMod, List.reduceReplicate, ↓reduceIte, Nat.reduceEqDiff, Nat.reduceAdd, Nat.reduceSub, Nat.reduceLeDiff, Nat.reduceLT, Nat.reduceMul, h, hp]
  have hmod := allB_mod b
  have hAl := allB_len b
  rw [show b ++ padD b.length = allB b from rfl, sumB]
  generalize hA : allB b = A at *
  have hAm : A.length ≤ 1001000 := by omega
  obtain ⟨m, hm⟩ : ∃ m, A.length = 64 * m := ⟨A.length / 64, by omega⟩
  rw [show A.length / 64 = m by omega]
  refine (kLoop_rec (fun (i : Nat) f H => f 3 = .slice 1 (A.map byteRow) ∧ f 4 = .ptr 104 1 0 0 ∧ f 5 = .int .i64 ((64 * i : Nat) : Int) ∧ H 104 = ⟨1, .live, 8, [(stS A i).l.map w32], false⟩ ∧ (H 148).gen = 0 ∧ i ≤ m) (fun i => m - i) (fun _ => some (.slice 1 ((outS (stS A m)).map byteRow), [])) ?_ 0 _ _ ⟨rfl, rfl, rfl, rfl, rfl, by omega⟩)
  rintro i f H ⟨f3, f4, f5, H4, g, hi⟩ ih
  by_cases hl : 64 * i + 64 ≤ A.length
  · simp -implicitDefEqProofs -dsimp +contextual (maxSteps := 5000000) (disch := first | omega | simp only [go_sem] <;> omega | refine ib ?_; kernel_rfl) only [go_sem, Nat.reduceBEq, Int.reduceNeg, Int.reduceLT, Int.reduceLE, Int.reduceAdd, Int.reduceSub, Int.reduceToNat, Int.reduceMul, Int.reduceMod, Int.reduceTMod, Int.reduceTDiv, Int.reduceEq, Nat.reducePow, Nat.reduceDiv, Nat.reduceShiftRight, Nat.reduceMod, List.reduceReplicate, ↓reduceIte, Nat.reduceEqDiff, Nat.reduceAdd, Nat.reduceSub, Nat.reduceLeDiff, Nat.reduceLT, Nat.reduceMul, f3, f4, f5, H4, g, hl]
    refine ih (i + 1) _ _ ⟨f3, f4, by simp only [upd, if_true]; congr 1, ?_, g, by omega⟩ (by omega)
    rw [stS, show 64 * i + 64 - 64 * i = 64 by omega]
    rfl
  · obtain rfl : i = m := by omega
    simp -implicitDefEqProofs -dsimp +contextual (maxSteps := 5000000) (disch := first | omega | simp only [go_sem] <;> omega | refine ib ?_; kernel_rfl) only [go_sem, Nat.reduceBEq, Int.reduceNeg, Int.reduceLT, Int.reduceLE, Int.reduceAdd, Int.reduceSub, Int.reduceToNat, Int.reduceMul, Int.reduceMod, Int.reduceTMod, Int.reduceTDiv, Int.reduceEq, Nat.reducePow, Nat.reduceDiv, Nat.reduceShiftRight, Nat.reduceMod, List.reduceReplicate, ↓reduceIte, Nat.reduceEqDiff, Nat.reduceAdd, Nat.reduceSub, Nat.reduceLeDiff, Nat.reduceLT, Nat.reduceMul, f3, f4, f5, H4, g, hl]
    generalize stS A i = s
    have hsl : s.l.map w32 = [.int .u32 (s.a.toNat : Int), .int .u32 (s.b.toNat : Int), .int .u32 (s.c.toNat : Int), .int .u32 (s.d.toNat : Int), .int .u32 (s.e.toNat : Int), .int .u32 (s.f.toNat : Int), .int .u32 (s.g.toNat : Int), .int .u32 (s.h.toNat : Int)] := rfl
    rw [hsl]
    simp -implicitDefEqProofs -dsimp +contextual (maxSteps := 5000000) (disch := first | omega | simp only [go_sem] <;> omega | refine ib ?_; kernel_rfl) only [go_sem, Nat.reduceBEq, Int.reduceNeg, Int.reduceLT, Int.reduceLE, Int.reduceAdd, Int.reduceSub, Int.reduceToNat, Int.reduceMul, Int.reduceMod, Int.reduceTMod, Int.reduceTDiv, Int.reduceEq, Nat.reducePow, Nat.reduceDiv, Nat.reduceShiftRight, Nat.reduceMod, List.reduceReplicate, ↓reduceIte, Nat.reduceEqDiff, Nat.reduceAdd, Nat.reduceSub, Nat.reduceLeDiff, Nat.reduceLT, Nat.reduceMul, kLoop_eq, f3, H4, g]
    rfl
@[go_sem] theorem e217 (b : List UInt8) (h : b.length ≤ 1000000) : fn C 217 [] [.slice 1 (b.map byteRow)] = some (.usl 1 ((sumB b).map byteRow), []) := by
  rw [fn_text Tryz.func217 rfl rfl Tryz.results217 fq217.1 rfl rfl (by kernel_rfl)]
  have hp := padD_len b.length
  simp -implicitDefEqProofs -dsimp +contextual (maxSteps := 5000000) (disch := first | omega | simp only [go_sem] <;> omega | refine ib ?_; kernel_rfl) only [go_sem, Nat.reduceBEq, Int.reduceNeg, Int.reduceLT, Int.reduceLE, Int.reduceAdd, Int.reduceSub, Int.reduceToNat, Int.reduceMul, Int.reduceMod, Int.reduceTMod, Int.reduceTDiv, Int.reduceEq, Nat.reducePow, Nat.reduceDiv, Nat.reduceShiftRight, Nat.reduceMod, List.reduceReplicate, ↓reduceIte, Nat.reduceEqDiff, Nat.reduceAdd, Nat.reduceSub, Nat.reduceLeDiff, Nat.reduceLT, Nat.reduceMul, h, hp]
  have hmod := allB_mod b
  have hAl := allB_len b
  rw [show b ++ padD b.length = allB b from rfl, sumB, ← hAl]
  generalize hA : allB b = A at *
  have hAm : A.length ≤ 1001000 := by omega
  obtain ⟨m, hm⟩ : ∃ m, A.length = 64 * m := ⟨A.length / 64, by omega⟩
  rw [show A.length / 64 = m by omega]
  refine (kLoop_rec (fun (i : Nat) f H => f 3 = .osl 108 3 0 A.length ∧ f 4 = .slice 1 ((stS A i).l.map wRow) ∧ f 5 = .int .i64 ((64 * i : Nat) : Int) ∧ (H 108 = ⟨3, .live, 1, A.map byteRow, false⟩ ∨ H 108 = ⟨3, .froz, 1, A.map byteRow, false⟩) ∧ (H 157).gen = 0 ∧ i ≤ m) (fun i => m - i) (fun _ => some (.usl 1 ((outS (stS A m)).map byteRow), [])) ?_ 0 _ _ ⟨rfl, rfl, rfl, .inl rfl, rfl, by omega⟩)
  rintro i f H ⟨f3, f4, f5, H8, g, hi⟩ ih
  by_cases hl : 64 * i < A.length
  · have h64 : 64 * i + 64 ≤ A.length := by omega
    rcases H8 with H8 | H8
    · simp -implicitDefEqProofs -dsimp +contextual (maxSteps := 5000000) (disch := first | omega | simp only [go_sem] <;> omega | refine ib ?_; kernel_rfl) only [go_sem, Nat.reduceBEq, Int.reduceNeg, Int.reduceLT, Int.reduceLE, Int.reduceAdd, Int.reduceSub, Int.reduceToNat, Int.reduceMul, Int.reduceMod, Int.reduceTMod, Int.reduceTDiv, Int.reduceEq, Nat.reducePow, Nat.reduceDiv, Nat.reduceShiftRight, Nat.reduceMod, List.reduceReplicate, ↓reduceIte, Nat.reduceEqDiff, Nat.reduceAdd, Nat.reduceSub, Nat.reduceLeDiff, Nat.reduceLT, Nat.reduceMul, f3, f4, f5, H8, g, hl, h64]
      refine ih (i + 1) _ _ ⟨f3, ?_, by simp only [upd, if_true]; congr 1, .inr rfl, g, by omega⟩ (by omega)
      rw [stS, show 64 * i + 64 - 64 * i = 64 by omega]
      rfl
    · simp -implicitDefEqProofs -dsimp +contextual (maxSteps := 5000000) (disch := first | omega | simp only [go_sem] <;> omega | refine ib ?_; kernel_rfl) only [go_sem, Nat.reduceBEq, Int.reduceNeg, Int.reduceLT, Int.reduceLE, Int.reduceAdd, Int.reduceSub, Int.reduceToNat, Int.reduceMul, Int.reduceMod, Int.reduceTMod, Int.reduceTDiv, Int.reduceEq, Nat.reducePow, Nat.reduceDiv, Nat.reduceShiftRight, Nat.reduceMod, List.reduceReplicate, ↓reduceIte, Nat.reduceEqDiff, Nat.reduceAdd, Nat.reduceSub, Nat.reduceLeDiff, Nat.reduceLT, Nat.reduceMul, f3, f4, f5, H8, g, hl, h64]
      refine ih (i + 1) _ _ ⟨f3, ?_, by simp only [upd, if_true]; congr 1, .inr rfl, g, by omega⟩ (by omega)
      rw [stS, show 64 * i + 64 - 64 * i = 64 by omega]
      rfl
  · obtain rfl : i = m := by omega
    generalize stS A i = s at *
    have hsl : s.l.map wRow = [[.int .u32 (s.a.toNat : Int)], [.int .u32 (s.b.toNat : Int)], [.int .u32 (s.c.toNat : Int)], [.int .u32 (s.d.toNat : Int)], [.int .u32 (s.e.toNat : Int)], [.int .u32 (s.f.toNat : Int)], [.int .u32 (s.g.toNat : Int)], [.int .u32 (s.h.toNat : Int)]] := rfl
    rw [hsl] at f4
    rcases H8 with H8 | H8
    · simp -implicitDefEqProofs -dsimp +contextual (maxSteps := 5000000) (disch := first | omega | simp only [go_sem] <;> omega | refine ib ?_; kernel_rfl) only [go_sem, Nat.reduceBEq, Int.reduceNeg, Int.reduceLT, Int.reduceLE, Int.reduceAdd, Int.reduceSub, Int.reduceToNat, Int.reduceMul, Int.reduceMod, Int.reduceTMod, Int.reduceTDiv, Int.reduceEq, Nat.reducePow, Nat.reduceDiv, Nat.reduceShiftRight, Nat.reduceMod, List.reduceReplicate, ↓reduceIte, Nat.reduceEqDiff, Nat.reduceAdd, Nat.reduceSub, Nat.reduceLeDiff, Nat.reduceLT, Nat.reduceMul, f3, f4, f5, H8, g, hl, kLoop_eq]
      rfl
    · simp -implicitDefEqProofs -dsimp +contextual (maxSteps := 5000000) (disch := first | omega | simp only [go_sem] <;> omega | refine ib ?_; kernel_rfl) only [go_sem, Nat.reduceBEq, Int.reduceNeg, Int.reduceLT, Int.reduceLE, Int.reduceAdd, Int.reduceSub, Int.reduceToNat, Int.reduceMul, Int.reduceMod, Int.reduceTMod, Int.reduceTDiv, Int.reduceEq, Nat.reducePow, Nat.reduceDiv, Nat.reduceShiftRight, Nat.reduceMod, List.reduceReplicate, ↓reduceIte, Nat.reduceEqDiff, Nat.reduceAdd, Nat.reduceSub, Nat.reduceLeDiff, Nat.reduceLT, Nat.reduceMul, f3, f4, f5, H8, g, hl, kLoop_eq]
      rfl
@[go_sem] theorem sumB_len (b : List UInt8) : (sumB b).length = 32 := by rw [sumB]; rfl
end Go.Proofs.YtnpkhdjgedeppaaGreatDoor
namespace Go.Proofs.YtnpkhdjgedeppaaGreatDoor
set_option maxHeartbeats 64000000
open Go.Am
set_option linter.unusedSimpArgs false
set_option linter.unusedVariables false
set_option maxRecDepth 100000
attribute [local irreducible] sumB
def idB (b : List UInt8) : Nat := beV ((sumB b).take 8)
@[go_sem] theorem e190 (b : List UInt8) (h : b.length ≤ 1000000) : fn C 190 [] [.slice 1 (b.map byteRow)] = some (.int .u64 (idB b : Int), []) := by
  rw [fn_text Tryz.func190 rfl rfl Tryz.results190 fq190.1 rfl rfl (by kernel_rfl)]
  have hl := sumB_len b
  simp -implicitDefEqProofs -dsimp +contextual (maxSteps := 5000000) (disch := first | omega | simp only [go_sem] <;> omega | refine ib ?_; kernel_rfl) only [go_sem, Nat.reduceBEq, Int.reduceNeg, Int.reduceLT, Int.reduceLE, Int.reduceAdd, Int.reduceSub, Int.reduceToNat, Int.reduceMul, Int.reduceMod, Int.reduceTMod, Int.reduceTDiv, Int.reduceEq, Nat.reducePow, Nat.reduceDiv, Nat.reduceShiftRight, Nat.reduceMod, List.reduceReplicate, ↓reduceIte, Nat.reduceEqDiff, Nat.reduceAdd, Nat.reduceSub, Nat.reduceLeDiff, Nat.reduceLT, Nat.reduceMul, h, hl]
  generalize hm : (sumB b).take 8 = m
  have h8 : m.length = 8 := by rw [← hm, List.length_take, hl]; rfl
  rw [idB, hm]
  refine (kLoop_rec (fun (i : Nat) f H => f 3 = .int .u64 (beV (m.take i) : Int) ∧ f 8 = .slice 1 (m.map byteRow) ∧ f 9 = .int .i64 8 ∧ f 10 = .int .i64 (i : Int) ∧ i ≤ 8) (fun i => 8 - i) (fun _ => some (.int .u64 (beV m : Int), [])) ?_ 0 _ _ ⟨rfl, rfl, rfl, rfl, by omega⟩)
  rintro i f H ⟨f3, f8, f9, f10, hi⟩ ih
  by_cases hl : i < 8
  · have hb := beV_lt (m.take i)
    have h7 : beV (m.take i) < 72057594037927936 := Nat.lt_of_lt_of_le hb (by
      rw [List.length_take, Nat.min_eq_left (by omega)]
      exact Nat.le_trans (Nat.pow_le_pow_right (by decide) (show i ≤ 7 by omega)) (by decide))
    have hc := u8_lt (m[i]'(by omega))
    have ht := beV_take m i (by omega)
    simp -implicitDefEqProofs -dsimp +contextual (maxSteps := 5000000) (disch := first | omega | simp only [go_sem] <;> omega | refine ib ?_; kernel_rfl) only [go_sem, Nat.reduceBEq, Int.reduceNeg, Int.reduceLT, Int.reduceLE, Int.reduceAdd, Int.reduceSub, Int.reduceToNat, Int.reduceMul, Int.reduceMod, Int.reduceTMod, Int.reduceTDiv, Int.reduceEq, Nat.reducePow, Nat.reduceDiv, Nat.reduceShiftRight, Nat.reduceMod, List.reduceReplicate, ↓reduceIte, Nat.reduceEqDiff, Nat.reduceAdd, Nat.reduceSub, Nat.reduceLeDiff, Nat.reduceLT, Nat.reduceMul, f3, f8, f9, f10, hl, h8, u64_shl8, u64_or8, UInt8.toNat_toUInt64]
    rw [← ht]
    exact ih (i + 1) _ _ ⟨rfl, f8, f9, rfl, by omega⟩ (by omega)
  · obtain rfl : i = 8 := by omega
    rw [List.take_of_length_le (by omega)] at f3
    simp -implicitDefEqProofs -dsimp +contextual (maxSteps := 5000000) (disch := first | omega | simp only [go_sem] <;> omega | refine ib ?_; kernel_rfl) only [go_sem, Nat.reduceBEq, Int.reduceNeg, Int.reduceLT, Int.reduceLE, Int.reduceAdd, Int.reduceSub, Int.reduceToNat, Int.reduceMul, Int.reduceMod, Int.reduceTMod, Int.reduceTDiv, Int.reduceEq, Nat.reducePow, Nat.reduceDiv, Nat.reduceShiftRight, Nat.reduceMod, List.reduceReplicate, ↓reduceIte, Nat.reduceEqDiff, Nat.reduceAdd, Nat.reduceSub, Nat.reduceLeDiff, Nat.reduceLT, Nat.reduceMul, f3, f8, f9, f10, hl, h8]
theorem num_be (l : List UInt8) (h : 8 ≤ l.length) : (numB (l.take 4)).toNat * 4294967296 + (numB ((l.drop 4).take 4)).toNat = beV (l.take 8) := by
  match l, h with
  | a :: b :: c :: d :: e :: f :: g :: i :: r, _ =>
    have h1 : numB ((a :: b :: c :: d :: e :: f :: g :: i :: r).take 4) = be4 a b c d := rfl
    have h2 : numB (((a :: b :: c :: d :: e :: f :: g :: i :: r).drop 4).take 4) = be4 e f g i := rfl
    rw [h1, h2, be4_sum, be4_sum]
    simp only [beV, List.take_succ_cons, List.take_zero, List.foldl_cons, List.foldl_nil]
    omega
@[go_sem] theorem e159 (b : List UInt8) (h : b.length ≤ 1000000) : fn C 159 [] [.slice 1 (b.map byteRow)] = some (.int .u64 (idB b : Int), []) := by
  rw [fn_text Tryz.func159 rfl rfl Tryz.results159 fq159.1 rfl rfl (by kernel_rfl)]
  have hl := sumB_len b
  have hn := num_be (sumB b) (by omega)
  simp -implicitDefEqProofs -dsimp +contextual (maxSteps := 5000000) (disch := first | omega | simp only [go_sem] <;> omega | refine ib ?_; kernel_rfl) only [go_sem, Nat.reduceBEq, Int.reduceNeg, Int.reduceLT, Int.reduceLE, Int.reduceAdd, Int.reduceSub, Int.reduceToNat, Int.reduceMul, Int.reduceMod, Int.reduceTMod, Int.reduceTDiv, Int.reduceEq, Nat.reducePow, Nat.reduceDiv, Nat.reduceShiftRight, Nat.reduceMod, List.reduceReplicate, ↓reduceIte, Nat.reduceEqDiff, Nat.reduceAdd, Nat.reduceSub, Nat.reduceLeDiff, Nat.reduceLT, Nat.reduceMul, h, hl]
  have e : ((numB (List.take 4 (sumB b))).toUInt64 * UInt64.ofNat 4294967296 + (numB (List.take 4 (List.drop 4 (sumB b)))).toUInt64).toNat = idB b := by
    have h1 := u32_lt (numB (List.take 4 (sumB b)))
    have h2 := u32_lt (numB (List.take 4 (List.drop 4 (sumB b))))
    rw [idB, ← hn]
    simp only [UInt64.toNat_add, UInt64.toNat_mul, UInt32.toNat_toUInt64, UInt64.toNat_ofNat']
    omega
  rw [e]
def keyS : List UInt8 := [107, 101, 121, 32]
@[go_sem] theorem e129 (b : List UInt8) (h : b.length ≤ 10000) : fn C 129 [] [.str b] = some (.int .u64 (idB (keyS ++ b) : Int), []) := by
  rw [fn_text Tryz.func129 rfl rfl Tryz.results129 fq129.1 rfl rfl (by kernel_rfl)]
  have e : fn C 190 [] [.slice 1 ([.int .u8 (UInt8.toNat 107 : Int)] :: [.int .u8 (UInt8.toNat 101 : Int)] :: [.int .u8 (UInt8.toNat 121 : Int)] :: [.int .u8 (UInt8.toNat 32 : Int)] :: b.map byteRow)] = some (.int .u64 (idB (keyS ++ b) : Int), []) := e190 (keyS ++ b) (by simp [keyS]; omega)
  simp -implicitDefEqProofs -dsimp +contextual (maxSteps := 5000000) (disch := first | omega | simp only [go_sem] <;> omega | refine ib ?_; kernel_rfl) only [go_sem, Nat.reduceBEq, Int.reduceNeg, Int.reduceLT, Int.reduceLE, Int.reduceAdd, Int.reduceSub, Int.reduceToNat, Int.reduceMul, Int.reduceMod, Int.reduceTMod, Int.reduceTDiv, Int.reduceEq, Nat.reducePow, Nat.reduceDiv, Nat.reduceShiftRight, Nat.reduceMod, List.reduceReplicate, ↓reduceIte, Nat.reduceEqDiff, Nat.reduceAdd, Nat.reduceSub, Nat.reduceLeDiff, Nat.reduceLT, Nat.reduceMul, e]
@[go_sem] theorem e96 (b : List UInt8) (h : b.length ≤ 10000) : fn C 96 [] [.str b] = some (.int .u64 (idB (keyS ++ b) : Int), []) := by
  rw [fn_text Tryz.func96 rfl rfl Tryz.results96 fq96.1 rfl rfl (by kernel_rfl)]
  have e : fn C 159 [] [.slice 1 ([.int .u8 (UInt8.toNat 107 : Int)] :: [.int .u8 (UInt8.toNat 101 : Int)] :: [.int .u8 (UInt8.toNat 121 : Int)] :: [.int .u8 (UInt8.toNat 32 : Int)] :: b.map byteRow)] = some (.int .u64 (idB (keyS ++ b) : Int), []) := e159 (keyS ++ b) (by simp [keyS]; omega)
  simp -implicitDefEqProofs -dsimp +contextual (maxSteps := 5000000) (disch := first | omega | simp only [go_sem] <;> omega | refine ib ?_; kernel_rfl) only [go_sem, Nat.reduceBEq, Int.reduceNeg, Int.reduceLT, Int.reduceLE, Int.reduceAdd, Int.reduceSub, Int.reduceToNat, Int.reduceMul, Int.reduceMod, Int.reduceTMod, Int.reduceTDiv, Int.reduceEq, Nat.reducePow, Nat.reduceDiv, Nat.reduceShiftRight, Nat.reduceMod, List.reduceReplicate, ↓reduceIte, Nat.reduceEqDiff, Nat.reduceAdd, Nat.reduceSub, Nat.reduceLeDiff, Nat.reduceLT, Nat.reduceMul, e]
end Go.Proofs.YtnpkhdjgedeppaaGreatDoor
namespace Go.Proofs.YtnpkhdjgedeppaaGreatDoor
set_option maxHeartbeats 64000000
open Go.Am
set_option linter.unusedSimpArgs false
set_option linter.unusedVariables false
set_option maxRecDepth 100000
def distR (a b : Nat) : Nat := (b + 18446744073709551616 - a) % 18446744073709551616
@[go_sem] theorem e158 (a b : Nat) (ha : a ≤ 18446744073709551615) (hb : b ≤ 18446744073709551615) : fn C 158 [] [.int .u64 (a : Int), .int .u64 (b : Int)] = some (.int .u64 (distR a b : Int), []) := by
  rw [fn_text Tryz.func158 rfl rfl Tryz.results158 fq158.1 rfl rfl (by kernel_rfl)]
  simp -implicitDefEqProofs -dsimp +contextual (maxSteps := 9999999) (disch := first | omega | simp only [go_sem] <;> omega | refine ib ?_; kernel_rfl) only [go_sem, seval, ↓reduceIte]
  rw [show IntKind.u64.wrap ((b : Int) - a) = ((distR a b : Nat) : Int) by rw [IntKind.wrap_u64, distR]; omega]
end Go.Proofs.YtnpkhdjgedeppaaGreatDoor
namespace Go.Proofs.YtnpkhdjgedeppaaGreatDoor
set_option maxHeartbeats 64000000
open Go.Am
set_option linter.unusedSimpArgs false
set_option linter.unusedVariables false
set_option maxRecDepth 100000
attribute [local irreducible] sumB idB
theorem idB_lt (l : List UInt8) : idB l ≤ 18446744073709551615 := by
  have h := beV_lt ((sumB l).take 8)
  have h8 : ((sumB l).take 8).length = 8 := by rw [List.length_take, sumB_len]; rfl
  rw [h8] at h
  unfold idB
  omega
end Go.Proofs.YtnpkhdjgedeppaaGreatDoor
namespace Go.Proofs.YtnpkhdjgedeppaaGreatDoor
set_option maxHeartbeats 64000000
open Go.Am
set_option linter.unusedSimpArgs false
set_option linter.unusedVariables false
set_option maxRecDepth 100000
def placeG {α : Type} (q : α → Bool) (l : List α) : Int := if l.findIdx q < l.length then (l.findIdx q : Nat) else -1
theorem placeG_at {α : Type} {q : α → Bool} {l : List α} {i : Nat} (h : i < l.length) (hn : (l.take i).any q = false) (he : q l[i] = true) : placeG q l = i := by
  have : l.findIdx q = i := by
    rw [List.findIdx_eq h]
    refine ⟨he, fun j hj => ?_⟩
    exact any_mem hn l[j] (by rw [List.mem_take_iff_getElem]; exact ⟨j, by omega, rfl⟩)
  unfold placeG
  rw [this, if_pos h]
theorem placeG_none {α : Type} {q : α → Bool} {l : List α} (hn : l.any q = false) : placeG q l = -1 := by
  unfold placeG
  rw [if_neg]
  intro hlt
  have := List.findIdx_getElem (w := hlt)
  rw [any_mem hn _ (List.getElem_mem hlt)] at this
  cases this
theorem placeG_cases {α : Type} (q : α → Bool) (l : List α) : (∃ (j : Nat) (h : j < l.length), q l[j] = true ∧ (l.take j).any q = false ∧ placeG q l = j) ∨ (l.any q = false ∧ placeG q l = -1) := by
  rcases Bool.eq_false_or_eq_true (l.any q) with h | h
  · left
    have hlt : l.findIdx q < l.length := by
      rw [List.findIdx_lt_length]; rw [List.any_eq_true] at h; exact h
    have hn : (l.take (l.findIdx q)).any q = false := by
      rw [List.any_eq_false]
      intro x hx
      rw [List.mem_take_iff_getElem] at hx
      obtain ⟨j, hj, rfl⟩ := hx
      have := List.not_of_lt_findIdx (p := q) (xs := l) (i := j) (by omega)
      simpa using this
    exact ⟨_, hlt, List.findIdx_getElem (w := hlt), hn, placeG_at hlt hn (List.findIdx_getElem (w := hlt))⟩
  · exact .inr ⟨h, placeG_none h⟩
theorem take_eq_step {α : Type} {a b : List α} {i : Nat} (ha : i < a.length) (hb : i < b.length) (ht : a.take i = b.take i) (he : a[i] = b[i]) : a.take (i + 1) = b.take (i + 1) := by
  rw [List.take_succ_eq_append_getElem ha, List.take_succ_eq_append_getElem hb, ht, he]
theorem take_eq_end {α : Type} {a b : List α} (hl : a.length = b.length) (ht : a.take a.length = b.take a.length) : a = b := by
  rwa [List.take_length, hl, List.take_length] at ht
theorem take_ne {α : Type} {a b : List α} {i : Nat} (ha : i < a.length) (hb : i < b.length) (he : ¬ a[i] = b[i]) : ¬ a = b := fun e => he (by subst e; rfl)
structure Ac where
  ans : Bool
  to : En
  m : Ms
  why : Int
  job : Int
deriving DecidableEq
theorem Ac.eq_iff (x y : Ac) : x = y ↔ x.ans = y.ans ∧ x.to = y.to ∧ x.why = y.why ∧ x.job = y.job ∧ x.m = y.m :=
  ⟨fun h => by subst h; simp, fun h => by cases x; cases y; simp_all⟩
def Ac.cs (a : Ac) : List AVal := [.bool a.ans, .str a.to.name, .int .u64 (a.to.id : Int), .int .i64 a.to.fr, .int .i64 a.to.un, .int .i64 a.to.ix, .str a.to.tag, .int .i64 a.m.kind, .int .i64 a.m.rid, .int .i64 a.m.ver, .int .i64 a.m.err, .int .u64 (a.m.id : Int), .bool a.m.has, .bool a.m.gone, .str a.m.key, .str a.m.val, .slice 6 (a.m.ents.map En.cs), .slice 4 (a.m.items.map It.cs), .int .i64 a.why, .int .i64 a.job]
@[go_sem] theorem Ac.cs_eq (a : Ac) : a.cs = [.bool a.ans, .str a.to.name, .int .u64 (a.to.id : Int), .int .i64 a.to.fr, .int .i64 a.to.un, .int .i64 a.to.ix, .str a.to.tag, .int .i64 a.m.kind, .int .i64 a.m.rid, .int .i64 a.m.ver, .int .i64 a.m.err, .int .u64 (a.m.id : Int), .bool a.m.has, .bool a.m.gone, .str a.m.key, .str a.m.val, .slice 6 (a.m.ents.map En.cs), .slice 4 (a.m.items.map It.cs), .int .i64 a.why, .int .i64 a.job] := rfl
@[go_sem] theorem Ac_ones (l : List Ac) : ones (l.map Ac.cs) = true := ones_map _ _ fun _ => rfl
@[go_sem] theorem Ac_clos (l : List Ac) : (l.map Ac.cs).all clos = true := allclos_map _ (fun _ => rfl) l
structure Nd.mid (n : Nd) (k : Nat) : Prop where
  pl : n.pred.length ≤ k
  ll : n.list.length ≤ k
  fl : n.fingers.length ≤ k
  sl : n.sessions.length ≤ k
  dl : n.pends.length ≤ k
  il : n.items.length ≤ k
  jl : n.jobs.length ≤ k
  wl : n.draws.length ≤ k
  rl : n.results.length ≤ k
  pe : ∀ p ∈ n.pends, p.m.ents.length ≤ k
  pi : ∀ p ∈ n.pends, p.m.items.length ≤ k
  ja : ∀ j ∈ n.jobs, j.asked.length ≤ k
  ik : ∀ x ∈ n.items, x.k.length ≤ 9223372036854775807
theorem Nd.mid.le {n : Nd} {k m : Nat} (h : n.mid k) (hk : k ≤ m) : n.mid m :=
  ⟨Nat.le_trans h.pl hk, Nat.le_trans h.ll hk, Nat.le_trans h.fl hk, Nat.le_trans h.sl hk, Nat.le_trans h.dl hk, Nat.le_trans h.il hk, Nat.le_trans h.jl hk, Nat.le_trans h.wl hk, Nat.le_trans h.rl hk,
    fun p hp => Nat.le_trans (h.pe p hp) hk, fun p hp => Nat.le_trans (h.pi p hp) hk, fun j hj => Nat.le_trans (h.ja j hj) hk, h.ik⟩
theorem Nd.small.mid {n : Nd} (h : n.small) : n.mid 70 :=
  ⟨by have := h.pl; omega, by have := h.ll; omega, h.fl, by have := h.sl; omega, by have := h.dl; omega, by have := h.il; omega, by have := h.jl; omega, by have := h.wl; omega, by have := h.rl; omega,
    fun p hp => by have := (h.d p hp).m.e; omega, fun p hp => by have := (h.d p hp).m.i; omega, fun j hj => by have := (h.j j hj).a; omega, fun x hx => by have := (h.i x hx).k; omega⟩
def enZ : En := ⟨[], 0, 0, 0, 0, []⟩
def jbZ : Jb := ⟨0, 0, 0, 0, 0, 0, [], [], enZ, zeroIt, 0, 0, [], enZ, 0, 0⟩
def msZ : Ms := ⟨0, 0, 0, 0, 0, false, false, [], [], [], []⟩
def jobAt (id : Int) (j : Jb) : Bool := decide (j.id = id)
def findR (l : List Jb) (id : Int) : Int := placeG (jobAt id) l
def jobG (l : List Jb) (i : Nat) : Jb := l.getD i jbZ
theorem jobG_at {l : List Jb} {i : Nat} (h : i < l.length) : jobG l i = l[i] := by simp [jobG, h]
def lastR (l : List Rs) : List Rs := l.drop (l.length - 16)
def resR (id : Int) (j : Jb) (x : It) (has : Bool) (e : Int) : Rs := ⟨id, j.kind, x.n, j.key, x.v, has, x.g, e⟩
def settleR (n : Nd) (id : Int) (x : It) (has : Bool) (e : Int) : Nd :=
  if 0 ≤ findR n.jobs id then { n with jobs := n.jobs.eraseIdx (findR n.jobs id).toNat, results := lastR (n.results ++ [resR id (jobG n.jobs (findR n.jobs id).toNat) x has e]) } else n
def doneA (back : En) (rid : Int) (x : It) (e : Int) : Ac := ⟨true, back, { msZ with kind := 9, rid := rid, ver := x.n, err := e }, 0, 0⟩
def tellR (n : Nd) (back : En) (rid job : Int) (x : It) (has : Bool) (e : Int) : Nd × List Ac :=
  if job = 0 then (n, [doneA back rid x e]) else (settleR n job x has e, [])
def fewR (n : Int) : Int := if n < 0 then 0 else if 2 < n then 2 else n
def copyA (e : En) (x : It) (id : Int) : Ac := ⟨false, e, { msZ with kind := 12, items := [x] }, 7, id⟩
def askR (id : Int) : List Pr → Jb → Jb × List Ac
  | [], j => (j, [])
  | p :: l, j => if 2 ≤ fewR j.acks + fewR j.waits then (j, []) else if p.e.name ∈ j.asked then askR id l j
      else ((askR id l { j with waits := fewR j.waits + 1, asked := j.asked ++ [p.e.name] }).1, copyA p.e j.item id :: (askR id l { j with waits := fewR j.waits + 1, asked := j.asked ++ [p.e.name] }).2)
def copR (l : List Jb) (id : Int) : Int := if 0 ≤ findR l id ∧ (jobG l (findR l id).toNat).kind = 4 then findR l id else -1
def moreFin (n : Nd) (i : Nat) (q : Jb × List Ac) : Nd × List Ac :=
  if 0 < q.1.waits then ({ n with jobs := n.jobs.set i q.1 }, q.2)
  else ((tellR { n with jobs := n.jobs.eraseIdx i } q.1.back q.1.backRid q.1.backJob q.1.item (!q.1.item.g) 0).1, q.2 ++ (tellR { n with jobs := n.jobs.eraseIdx i } q.1.back q.1.backRid q.1.backJob q.1.item (!q.1.item.g) 0).2)
def moreAt (n : Nd) (id : Int) (i : Nat) : Nd × List Ac := moreFin n i (askR id n.list (jobG n.jobs i))
def moreR (n : Nd) (id : Int) : Nd × List Ac := if 0 ≤ copR n.jobs id then moreAt n id (copR n.jobs id).toNat else (n, [])
def nextI (id : Int) : Int := if id < 0 ∨ 1073741824 ≤ id then 1 else id + 1
def copyJ (n : Nd) (x : It) (back : En) (rid job : Int) : Jb := { jbZ with id := nextI n.jobId, kind := 4, til := n.clock + 192, item := x, back := back, backRid := rid, backJob := job }
def beginE (n : Nd) (key val : List UInt8) (gone : Bool) : Int := if 8 ≤ n.jobs.length then 41 else (putR n.items key val gone).2.2
def begunR (n : Nd) (key val : List UInt8) (gone : Bool) (back : En) (rid job : Int) : Nd :=
  { n with items := (putR n.items key val gone).1, jobId := nextI n.jobId, jobs := n.jobs ++ [copyJ n (putR n.items key val gone).2.1 back rid job] }
def beginR (n : Nd) (key val : List UInt8) (gone : Bool) (back : En) (rid job : Int) : Nd × List Ac :=
  if beginE n key val gone = 0 then moreR (begunR n key val gone back rid job) (nextI n.jobId) else tellR n back rid job zeroIt false (beginE n key val gone)
theorem set_row {α : Type} (f : α → List AVal) (l : List α) (i : Nat) (h : i < l.length) : (l.map f).set i (f l[i]) = l.map f := by
  rw [← List.map_set, List.set_getElem_self]
theorem erase_take {α : Type} (l : List α) (i : Nat) : l.take i ++ l.drop (i + 1) = l.eraseIdx i := List.eraseIdx_eq_take_drop_succ .. |>.symm
theorem findR_cases (l : List Jb) (id : Int) : (∃ (j : Nat) (h : j < l.length), l[j].id = id ∧ (l.take j).any (jobAt id) = false ∧ findR l id = (j : Int)) ∨ (l.any (jobAt id) = false ∧ findR l id = -1) := by
  rcases placeG_cases (jobAt id) l with ⟨j, hj, h1, h2, h3⟩ | h
  · exact .inl ⟨j, hj, by simpa [jobAt] using h1, h2, h3⟩
  · exact .inr h
theorem jb_row (l : List Jb) (i : Nat) (h : i < l.length) : (l.map Jb.cs)[i]? = some [.int .i64 l[i].id, .int .i64 l[i].kind, .int .i64 l[i].phase, .int .i64 l[i].hops, .int .i64 l[i].tries, .int .i64 l[i].til, .str l[i].key, .str l[i].val, .str l[i].owner.name, .int .u64 (l[i].owner.id : Int), .int .i64 l[i].owner.fr, .int .i64 l[i].owner.un, .int .i64 l[i].owner.ix, .str l[i].owner.tag, .str l[i].item.k, .str l[i].item.v, .int .i64 l[i].item.n, .bool l[i].item.g, .int .i64 l[i].acks, .int .i64 l[i].waits, .slice 1 (l[i].asked.map strRow), .str l[i].back.name, .int .u64 (l[i].back.id : Int), .int .i64 l[i].back.fr, .int .i64 l[i].back.un, .int .i64 l[i].back.ix, .str l[i].back.tag, .int .i64 l[i].backRid, .int .i64 l[i].backJob] := by
  rw [List.getElem?_map, List.getElem?_eq_getElem h]; rfl
def Nd.ocs (n : Nd) : List AVal := [.str n.me.name, .int .u64 (n.me.id : Int), .int .i64 n.me.fr, .int .i64 n.me.un, .int .i64 n.me.ix, .str n.me.tag, .int .i64 n.clock, .str n.psk, .int .i64 n.gateI, .str n.gateK, .bool n.ready, .slice 8 (n.pred.map Pr.cs), .slice 8 (n.list.map Pr.cs), .slice 9 (n.fingers.map Fg.cs), .usl 20 (n.sessions.map Se.cs), .usl 23 (n.pends.map Pd.cs), .slice 4 (n.items.map It.cs), .usl 29 (n.jobs.map Jb.cs), .int .i64 n.rid, .int .i64 n.jobId, .slice 1 (n.draws.map u64Row), .usl 8 (n.results.map Rs.cs)]
@[go_sem] theorem Nd.ocs_eq (n : Nd) : n.ocs = [.str n.me.name, .int .u64 (n.me.id : Int), .int .i64 n.me.fr, .int .i64 n.me.un, .int .i64 n.me.ix, .str n.me.tag, .int .i64 n.clock, .str n.psk, .int .i64 n.gateI, .str n.gateK, .bool n.ready, .slice 8 (n.pred.map Pr.cs), .slice 8 (n.list.map Pr.cs), .slice 9 (n.fingers.map Fg.cs), .usl 20 (n.sessions.map Se.cs), .usl 23 (n.pends.map Pd.cs), .slice 4 (n.items.map It.cs), .usl 29 (n.jobs.map Jb.cs), .int .i64 n.rid, .int .i64 n.jobId, .slice 1 (n.draws.map u64Row), .usl 8 (n.results.map Rs.cs)] := rfl
theorem settle_ocs (n : Nd) (id : Int) (x : It) (has : Bool) (e : Int) : (settleR n id x has e).ocs = [.str n.me.name, .int .u64 (n.me.id : Int), .int .i64 n.me.fr, .int .i64 n.me.un, .int .i64 n.me.ix, .str n.me.tag, .int .i64 n.clock, .str n.psk, .int .i64 n.gateI, .str n.gateK, .bool n.ready, .slice 8 (n.pred.map Pr.cs), .slice 8 (n.list.map Pr.cs), .slice 9 (n.fingers.map Fg.cs), .usl 20 (n.sessions.map Se.cs), .usl 23 (n.pends.map Pd.cs), .slice 4 (n.items.map It.cs), .usl 29 ((settleR n id x has e).jobs.map Jb.cs), .int .i64 n.rid, .int .i64 n.jobId, .slice 1 (n.draws.map u64Row), .usl 8 ((settleR n id x has e).results.map Rs.cs)] := by
  unfold settleR; split <;> rfl
theorem settle_eta (n : Nd) (id : Int) (x : It) (has : Bool) (e : Int) : ∃ js rs, settleR n id x has e = { n with jobs := js, results := rs } := by
  unfold settleR; split
  · exact ⟨_, _, rfl⟩
  · exact ⟨n.jobs, n.results, rfl⟩
theorem pd_row (l : List Pd) (i : Nat) (h : i < l.length) : (l.map Pd.cs)[i]? = some [.int .i64 l[i].rid, .int .i64 l[i].why, .int .i64 l[i].job, .int .i64 l[i].til, .int .i64 l[i].tries, .int .u64 (l[i].session : Int), .str l[i].to.name, .int .u64 (l[i].to.id : Int), .int .i64 l[i].to.fr, .int .i64 l[i].to.un, .int .i64 l[i].to.ix, .str l[i].to.tag, .int .i64 l[i].m.kind, .int .i64 l[i].m.rid, .int .i64 l[i].m.ver, .int .i64 l[i].m.err, .int .u64 (l[i].m.id : Int), .bool l[i].m.has, .bool l[i].m.gone, .str l[i].m.key, .str l[i].m.val, .slice 6 (l[i].m.ents.map En.cs), .slice 4 (l[i].m.items.map It.cs)] := by
  rw [List.getElem?_map, List.getElem?_eq_getElem h]; rfl
@[go_sem] theorem e148 (m : Ms) (h1 : m.ents.length ≤ 1000000) (h2 : m.items.length ≤ 1000000) : fn C 148 [] [.agg [.int .i64 m.kind, .int .i64 m.rid, .int .i64 m.ver, .int .i64 m.err, .int .u64 (m.id : Int), .bool m.has, .bool m.gone, .str m.key, .str m.val, .slice 6 (m.ents.map En.cs), .slice 4 (m.items.map It.cs)]] = some (.agg [.int .i64 m.kind, .int .i64 m.rid, .int .i64 m.ver, .int .i64 m.err, .int .u64 (m.id : Int), .bool m.has, .bool m.gone, .str m.key, .str m.val, .slice 6 (m.ents.map En.cs), .slice 4 (m.items.map It.cs)], []) := by
  rw [fn_text Tryz.func148 rfl rfl Tryz.results148 fq148.1 rfl rfl (by kernel_rfl)]
  simp -implicitDefEqProofs -dsimp +contextual (maxSteps := 9999999) (disch := first | omega | simp only [go_sem] <;> omega | refine ib ?_; kernel_rfl) only [go_sem, seval, ↓reduceIte]
@[go_sem] theorem e57 (l : List Pd) (hl : l.length ≤ 1000000) (h1 : ∀ p ∈ l, p.m.ents.length ≤ 1000000) (h2 : ∀ p ∈ l, p.m.items.length ≤ 1000000) : fn C 57 [] [.slice 23 (l.map Pd.cs)] = some (.usl 23 (l.map Pd.cs), []) := by
  rw [fn_text Tryz.func57 rfl rfl Tryz.results57 fq57.1 rfl rfl (by kernel_rfl)]
  simp -implicitDefEqProofs -dsimp +contextual (maxSteps := 9999999) (disch := first | omega | simp only [go_sem] <;> omega | refine ib ?_; kernel_rfl) only [go_sem, seval, ↓reduceIte]
  refine kFor l.length (fun i f H => f 3 = .osl 106 1 0 l.length ∧ f 8 = .int .i64 (l.length : Nat) ∧ f 9 = .int .i64 (i : Nat) ∧ H 106 = ⟨1, .live, 23, l.map Pd.cs, false⟩) ?_ ?_ (by exact ⟨rfl, rfl, rfl, by simp [Heap.set, Heap.nil]⟩)
  · rintro i f H hi ⟨f3, f8, f9, H1⟩ ih
    have row := pd_row l i hi
    have st : (l.map Pd.cs).set i [.int .i64 l[i].rid, .int .i64 l[i].why, .int .i64 l[i].job, .int .i64 l[i].til, .int .i64 l[i].tries, .int .u64 (l[i].session : Int), .str l[i].to.name, .int .u64 (l[i].to.id : Int), .int .i64 l[i].to.fr, .int .i64 l[i].to.un, .int .i64 l[i].to.ix, .str l[i].to.tag, .int .i64 l[i].m.kind, .int .i64 l[i].m.rid, .int .i64 l[i].m.ver, .int .i64 l[i].m.err, .int .u64 (l[i].m.id : Int), .bool l[i].m.has, .bool l[i].m.gone, .str l[i].m.key, .str l[i].m.val, .slice 6 (l[i].m.ents.map En.cs), .slice 4 (l[i].m.items.map It.cs)] = l.map Pd.cs := set_row Pd.cs l i hi
    have c := e148 l[i].m (h1 _ (List.getElem_mem hi)) (h2 _ (List.getElem_mem hi))
    simp -implicitDefEqProofs -dsimp +contextual (maxSteps := 9999999) (disch := first | omega | simp only [go_sem] <;> omega | refine ib ?_; kernel_rfl) only [go_sem, seval, ↓reduceIte, f3, f8, f9, H1, hi, row, c, st]
    exact ih _ _ (by exact ⟨f3, f8, rfl, rfl⟩)
  · rintro f H ⟨f3, f8, f9, H1⟩
    simp -implicitDefEqProofs -dsimp +contextual (maxSteps := 9999999) (disch := first | omega | simp only [go_sem] <;> omega | refine ib ?_; kernel_rfl) only [go_sem, seval, ↓reduceIte, f3, f8, f9, H1]
@[go_sem] theorem e13 (n : Nd) (h : n.mid 1000000) : fn C 13 [] [(aNd n)] = some (.agg [.str n.me.name, .int .u64 (n.me.id : Int), .int .i64 n.me.fr, .int .i64 n.me.un, .int .i64 n.me.ix, .str n.me.tag, .int .i64 n.clock, .str n.psk, .int .i64 n.gateI, .str n.gateK, .bool n.ready, .slice 8 (n.pred.map Pr.cs), .slice 8 (n.list.map Pr.cs), .slice 9 (n.fingers.map Fg.cs), .usl 20 (n.sessions.map Se.cs), .usl 23 (n.pends.map Pd.cs), .slice 4 (n.items.map It.cs), .usl 29 (n.jobs.map Jb.cs), .int .i64 n.rid, .int .i64 n.jobId, .slice 1 (n.draws.map u64Row), .usl 8 (n.results.map Rs.cs)], []) := by
  have := h.pl; have := h.ll; have := h.fl; have := h.sl; have := h.dl; have := h.il; have := h.jl; have := h.wl; have := h.rl
  have pc := e57 n.pends h.dl h.pe h.pi
  rw [fn_text Tryz.func13 rfl rfl Tryz.results13 fq13.1 rfl rfl (by kernel_rfl)]
  simp -implicitDefEqProofs -dsimp +contextual (maxSteps := 9999999) (disch := first | omega | simp only [go_sem] <;> omega | refine ib ?_; kernel_rfl) only [go_sem, seval, ↓reduceIte, pc]
  refine kFor n.jobs.length (fun i f H => f 1 = .ptr 101 1 0 0 ∧ f 2 = .ptr 102 1 0 0 ∧ f 42 = .int .i64 (n.jobs.length : Nat) ∧ f 43 = .int .i64 (i : Nat) ∧
    H 101 = ⟨1, .live, 22, [[.str n.me.name, .int .u64 (n.me.id : Int), .int .i64 n.me.fr, .int .i64 n.me.un, .int .i64 n.me.ix, .str n.me.tag, .int .i64 n.clock, .str n.psk, .int .i64 n.gateI, .str n.gateK, .bool n.ready, .slice 8 (n.pred.map Pr.cs), .slice 8 (n.list.map Pr.cs), .slice 9 (n.fingers.map Fg.cs), .osl 118 1 0 n.sessions.length, .osl 121 1 0 n.pends.length, .slice 4 (n.items.map It.cs), .osl 130 1 0 n.jobs.length, .int .i64 n.rid, .int .i64 n.jobId, .slice 1 (n.draws.map u64Row), .osl 136 1 0 n.results.length]], false⟩ ∧ (H 102).gen = 1 ∧ (H 102).mode = .live ∧ (∃ r : List AVal, r.length = 22 ∧ (H 102).rows = [r]) ∧
    H 118 = ⟨1, .live, 20, n.sessions.map Se.cs, false⟩ ∧ H 121 = ⟨1, .live, 23, n.pends.map Pd.cs, false⟩ ∧ H 130 = ⟨1, .live, 29, n.jobs.map Jb.cs, false⟩ ∧ H 136 = ⟨1, .live, 8, n.results.map Rs.cs, false⟩) ?_ ?_ (by exact ⟨rfl, rfl, rfl, rfl, rfl, rfl, rfl, ⟨_, rfl, rfl⟩, rfl, rfl, rfl, rfl⟩)
  · rintro i f H hi ⟨f1, f2, f42, f43, H1, H2, H2m, ⟨r, hr, H2r⟩, H3, H4, H5, H6⟩ ih
    have row := jb_row n.jobs i hi
    have st : (n.jobs.map Jb.cs).set i [.int .i64 n.jobs[i].id, .int .i64 n.jobs[i].kind, .int .i64 n.jobs[i].phase, .int .i64 n.jobs[i].hops, .int .i64 n.jobs[i].tries, .int .i64 n.jobs[i].til, .str n.jobs[i].key, .str n.jobs[i].val, .str n.jobs[i].owner.name, .int .u64 (n.jobs[i].owner.id : Int), .int .i64 n.jobs[i].owner.fr, .int .i64 n.jobs[i].owner.un, .int .i64 n.jobs[i].owner.ix, .str n.jobs[i].owner.tag, .str n.jobs[i].item.k, .str n.jobs[i].item.v, .int .i64 n.jobs[i].item.n, .bool n.jobs[i].item.g, .int .i64 n.jobs[i].acks, .int .i64 n.jobs[i].waits, .slice 1 (n.jobs[i].asked.map strRow), .str n.jobs[i].back.name, .int .u64 (n.jobs[i].back.id : Int), .int .i64 n.jobs[i].back.fr, .int .i64 n.jobs[i].back.un, .int .i64 n.jobs[i].back.ix, .str n.jobs[i].back.tag, .int .i64 n.jobs[i].backRid, .int .i64 n.jobs[i].backJob] = n.jobs.map Jb.cs := set_row Jb.cs n.jobs i hi
    have al := h.ja _ (List.getElem_mem hi)
    simp -implicitDefEqProofs -dsimp +contextual (maxSteps := 9999999) (disch := first | omega | simp only [go_sem] <;> omega | refine ib ?_; kernel_rfl) only [go_sem, seval, ↓reduceIte, f1, f2, f42, f43, H1, H5, hi, row, st, al]
    exact ih _ _ (by exact ⟨f1, f2, f42, rfl, H1, H2, H2m, ⟨r, hr, H2r⟩, H3, H4, rfl, H6⟩)
  · rintro f H ⟨f1, f2, f42, f43, H1, H2, H2m, ⟨r, hr, H2r⟩, H3, H4, H5, H6⟩
    simp -implicitDefEqProofs -dsimp +contextual (maxSteps := 9999999) (disch := first | omega | simp only [go_sem] <;> omega | refine ib ?_; kernel_rfl) only [go_sem, seval, ↓reduceIte, f1, f2, f42, f43, H1, H2, H2m, H2r, hr, H3, H4, H5, H6]
    trace_state
inductive AcC : AVal → List Ac → Prop
  | nil : AcC (.sc (.slice none 0 0)) []
  | us (l : List Ac) : AcC (.usl 20 (l.map Ac.cs)) l
@[go_sem] theorem e211 (j : Jb) (id : Int) : fn C 211 [] [.agg [.int .i64 j.id, .int .i64 j.kind, .int .i64 j.phase, .int .i64 j.hops, .int .i64 j.tries, .int .i64 j.til, .str j.key, .str j.val, .str j.owner.name, .int .u64 (j.owner.id : Int), .int .i64 j.owner.fr, .int .i64 j.owner.un, .int .i64 j.owner.ix, .str j.owner.tag, .str j.item.k, .str j.item.v, .int .i64 j.item.n, .bool j.item.g, .int .i64 j.acks, .int .i64 j.waits, .slice 1 (j.asked.map strRow), .str j.back.name, .int .u64 (j.back.id : Int), .int .i64 j.back.fr, .int .i64 j.back.un, .int .i64 j.back.ix, .str j.back.tag, .int .i64 j.backRid, .int .i64 j.backJob], .iptr [.int .i64 id]] = some (.bool (decide (j.id = id)), []) := by
  rw [fn_text Tryz.func211 rfl rfl Tryz.results211 fq211.1 rfl rfl (by kernel_rfl)]
  simp -implicitDefEqProofs -dsimp +contextual (maxSteps := 9999999) (disch := first | omega | simp only [go_sem] <;> omega | refine ib ?_; kernel_rfl) only [go_sem, seval, ↓reduceIte]
@[go_sem] theorem eIdxFind (l : List Jb) (id : Int) (hl : l.length ≤ 9223372036854775807) : fn C 84 [] [.slice 29 (l.map Jb.cs), .fn (.func 211) [] [.iptr [.int .i64 id]]] = some (.int .i64 (findR l id), []) := by
  rw [fn_text Tryz.func84 rfl rfl Tryz.results84 fq84.1 rfl rfl (by kernel_rfl)]
  simp -implicitDefEqProofs -dsimp +contextual (maxSteps := 9999999) (disch := first | omega | simp only [go_sem] <;> omega | refine ib ?_; kernel_rfl) only [go_sem, seval, ↓reduceIte]
  refine kFor l.length (fun i f H => f 0 = .slice 29 (l.map Jb.cs) ∧ f 1 = .fn (.func 211) [] [.iptr [.int .i64 id]] ∧ f 7 = .int .i64 l.length ∧ f 8 = .int .i64 (i : Nat) ∧ H = Heap.nil ∧ (l.take i).any (jobAt id) = false) ?_ ?_ (by exact ⟨rfl, rfl, rfl, rfl, rfl, rfl⟩)
  · rintro i f _ hi ⟨f0, f1, f7, f8, rfl, ha⟩ ih
    simp -implicitDefEqProofs -dsimp +contextual (maxSteps := 9999999) (disch := first | omega | simp only [go_sem] <;> omega | refine ib ?_; kernel_rfl) only [go_sem, seval, ↓reduceIte, f0, f1, f7, f8, hi]
    (repeat' (refine kD_intro (fun _ => ?_) (fun _ => ?_)))
    · rename_i h; rw [findR, placeG_at hi ha (by simp [jobAt, h])]
    · rename_i h; exact ih _ _ ⟨f0, f1, f7, rfl, rfl, any_take hi ha (by simp [jobAt, h])⟩
  · rintro f _ ⟨f0, f1, f7, f8, rfl, ha⟩
    simp -implicitDefEqProofs -dsimp +contextual (maxSteps := 9999999) (disch := first | omega | simp only [go_sem] <;> omega | refine ib ?_; kernel_rfl) only [go_sem, seval, ↓reduceIte, f0, f1, f7, f8]
    rw [findR, placeG_none (any_end ha)]
@[go_sem] theorem e150 (l : List Jb) (id : Int) (hl : l.length ≤ 9223372036854775807) : fn C 150 [] [.slice 29 (l.map Jb.cs), .int .i64 id] = some (.int .i64 (findR l id), []) := by
  rw [fn_text Tryz.func150 rfl rfl Tryz.results150 fq150.1 rfl rfl (by kernel_rfl)]
  simp -implicitDefEqProofs -dsimp +contextual (maxSteps := 9999999) (disch := first | omega | simp only [go_sem] <;> omega | refine ib ?_; kernel_rfl) only [go_sem, seval, ↓reduceIte]
@[go_sem] theorem e225 (n : Int) : fn C 225 [] [.int .i64 n] = some (.int .i64 (fewR n), []) := by
  rw [fn_text Tryz.func225 rfl rfl Tryz.results225 fq225.1 rfl rfl (by kernel_rfl)]
  simp -implicitDefEqProofs -dsimp +contextual (maxSteps := 9999999) (disch := first | omega | simp only [go_sem] <;> omega | refine ib ?_; kernel_rfl) only [go_sem, seval, ↓reduceIte]
  refine congrArg (fun z => some (AVal.int .i64 z, [])) ?_
  unfold fewR
  repeat' split
  all_goals omega
@[go_sem] theorem e167 (n : Int) : fn C 167 [] [.int .i64 n] = some (.int .i64 (nextI n), []) := by
  rw [fn_text Tryz.func167 rfl rfl Tryz.results167 fq167.1 rfl rfl (by kernel_rfl)]
  simp -implicitDefEqProofs -dsimp +contextual (maxSteps := 9999999) (disch := first | omega | simp only [go_sem] <;> omega | refine ib ?_; kernel_rfl) only [go_sem, seval, ↓reduceIte]
  (repeat' (refine kD_intro (fun _ => ?_) (fun _ => ?_)))
  all_goals (unfold nextI; simp [*])
theorem eDelJob (es : List (List AVal)) (i : Nat) (hi : i < es.length) (hl : es.length ≤ 1000001) (h1 : es.all clos = true) (h2 : ones es = true) : fn C 85 [] [.usl 29 es, .int .i64 (i : Nat), .int .i64 ((i + 1 : Nat) : Int)] = some (.usl 29 (es.eraseIdx i), []) := by
  rw [fn_textN Tryz.func85 rfl rfl Tryz.results85 fq85.1 rfl rfl (by kernel_rfl)]
  have h3 : ones (es.drop (i + 1)) = true := List.all_eq_true.2 fun r hr => List.all_eq_true.1 h2 r (List.mem_of_mem_drop hr)
  simp -implicitDefEqProofs -dsimp +contextual (maxSteps := 9999999) (disch := first | omega | simp only [go_sem] <;> omega | refine ib ?_; kernel_rfl) only [go_sem, seval, ↓reduceIte, hi, h1, h2, h3]
  rw [if_pos (by omega), if_pos ⟨List.all_eq_true.2 fun r hr => List.all_eq_true.1 h1 r (List.mem_of_mem_take hr), List.all_eq_true.2 fun r hr => List.all_eq_true.1 h1 r (List.mem_of_mem_drop hr)⟩, erase_take]
theorem erase_map {α : Type} (f : α → List AVal) (l : List α) (i : Nat) : (l.map f).eraseIdx i = (l.eraseIdx i).map f := by
  rw [← erase_take, ← erase_take, List.map_append, List.map_take, List.map_drop]
theorem eDelJobs (l : List Jb) (i : Nat) (hi : i < l.length) (hl : l.length ≤ 1000001) : fn C 85 [] [.usl 29 (l.map Jb.cs), .int .i64 (i : Nat), .int .i64 ((i + 1 : Nat) : Int)] = some (.usl 29 ((l.eraseIdx i).map Jb.cs), []) := by
  rw [eDelJob _ i (by simpa using hi) (by simpa using hl) (Jb_clos l) (Jb_ones l), erase_map]
theorem dropW (n : Nd) (A : AVal) (acts : List Ac) (hA : AcC A acts) (i : Nat) (hi : i < n.jobs.length) (h : n.mid 1000001) : fn C 213 [] [.uptr [.str n.me.name, .int .u64 (n.me.id : Int), .int .i64 n.me.fr, .int .i64 n.me.un, .int .i64 n.me.ix, .str n.me.tag, .int .i64 n.clock, .str n.psk, .int .i64 n.gateI, .str n.gateK, .bool n.ready, .slice 8 (n.pred.map Pr.cs), .slice 8 (n.list.map Pr.cs), .slice 9 (n.fingers.map Fg.cs), .usl 20 (n.sessions.map Se.cs), .usl 23 (n.pends.map Pd.cs), .slice 4 (n.items.map It.cs), .usl 29 (n.jobs.map Jb.cs), .int .i64 n.rid, .int .i64 n.jobId, .slice 1 (n.draws.map u64Row), .usl 8 (n.results.map Rs.cs), A], .int .i64 (i : Nat)] = some (.agg [.int .i64 n.jobs[i].id, .int .i64 n.jobs[i].kind, .int .i64 n.jobs[i].phase, .int .i64 n.jobs[i].hops, .int .i64 n.jobs[i].tries, .int .i64 n.jobs[i].til, .str n.jobs[i].key, .str n.jobs[i].val, .str n.jobs[i].owner.name, .int .u64 (n.jobs[i].owner.id : Int), .int .i64 n.jobs[i].owner.fr, .int .i64 n.jobs[i].owner.un, .int .i64 n.jobs[i].owner.ix, .str n.jobs[i].owner.tag, .str n.jobs[i].item.k, .str n.jobs[i].item.v, .int .i64 n.jobs[i].item.n, .bool n.jobs[i].item.g, .int .i64 n.jobs[i].acks, .int .i64 n.jobs[i].waits, .slice 1 (n.jobs[i].asked.map strRow), .str n.jobs[i].back.name, .int .u64 (n.jobs[i].back.id : Int), .int .i64 n.jobs[i].back.fr, .int .i64 n.jobs[i].back.un, .int .i64 n.jobs[i].back.ix, .str n.jobs[i].back.tag, .int .i64 n.jobs[i].backRid, .int .i64 n.jobs[i].backJob], [.uptr [.str n.me.name, .int .u64 (n.me.id : Int), .int .i64 n.me.fr, .int .i64 n.me.un, .int .i64 n.me.ix, .str n.me.tag, .int .i64 n.clock, .str n.psk, .int .i64 n.gateI, .str n.gateK, .bool n.ready, .slice 8 (n.pred.map Pr.cs), .slice 8 (n.list.map Pr.cs), .slice 9 (n.fingers.map Fg.cs), .usl 20 (n.sessions.map Se.cs), .usl 23 (n.pends.map Pd.cs), .slice 4 (n.items.map It.cs), .usl 29 ((n.jobs.eraseIdx i).map Jb.cs), .int .i64 n.rid, .int .i64 n.jobId, .slice 1 (n.draws.map u64Row), .usl 8 (n.results.map Rs.cs), A]]) := by
  have row := jb_row n.jobs i hi
  have jl := h.jl
  have del := eDelJobs n.jobs i hi h.jl
  rcases hA with _ | l
  · rw [fn_text Tryz.func213 rfl rfl Tryz.results213 fq213.1 rfl rfl (by kernel_rfl)]
    simp -implicitDefEqProofs -dsimp +contextual (maxSteps := 9999999) (disch := first | omega | simp only [go_sem] <;> omega | refine ib ?_; kernel_rfl) only [go_sem, seval, ↓reduceIte, row, del, hi]
  · rw [fn_text Tryz.func213 rfl rfl Tryz.results213 fq213.1 rfl rfl (by kernel_rfl)]
    simp -implicitDefEqProofs -dsimp +contextual (maxSteps := 9999999) (disch := first | omega | simp only [go_sem] <;> omega | refine ib ?_; kernel_rfl) only [go_sem, seval, ↓reduceIte, row, del, hi]
theorem Rs_app (l : List Rs) (a b c e : Int) (k v : List UInt8) (x g : Bool) : l.map Rs.cs ++ [[.int .i64 a, .int .i64 b, .int .i64 c, .str k, .str v, .bool x, .bool g, .int .i64 e]] = (l ++ [(⟨a, b, c, k, v, x, g, e⟩ : Rs)]).map Rs.cs := by rw [List.map_append]; rfl
theorem settleW (n : Nd) (A : AVal) (acts : List Ac) (hA : AcC A acts) (id : Int) (x : It) (has : Bool) (e : Int) (h : n.mid 1000000) : fn C 155 [] [.uptr [.str n.me.name, .int .u64 (n.me.id : Int), .int .i64 n.me.fr, .int .i64 n.me.un, .int .i64 n.me.ix, .str n.me.tag, .int .i64 n.clock, .str n.psk, .int .i64 n.gateI, .str n.gateK, .bool n.ready, .slice 8 (n.pred.map Pr.cs), .slice 8 (n.list.map Pr.cs), .slice 9 (n.fingers.map Fg.cs), .usl 20 (n.sessions.map Se.cs), .usl 23 (n.pends.map Pd.cs), .slice 4 (n.items.map It.cs), .usl 29 (n.jobs.map Jb.cs), .int .i64 n.rid, .int .i64 n.jobId, .slice 1 (n.draws.map u64Row), .usl 8 (n.results.map Rs.cs), A], .int .i64 id, .agg [.str x.k, .str x.v, .int .i64 x.n, .bool x.g], .bool has, .int .i64 e] =
    some (.tup [], [.uptr [.str n.me.name, .int .u64 (n.me.id : Int), .int .i64 n.me.fr, .int .i64 n.me.un, .int .i64 n.me.ix, .str n.me.tag, .int .i64 n.clock, .str n.psk, .int .i64 n.gateI, .str n.gateK, .bool n.ready, .slice 8 (n.pred.map Pr.cs), .slice 8 (n.list.map Pr.cs), .slice 9 (n.fingers.map Fg.cs), .usl 20 (n.sessions.map Se.cs), .usl 23 (n.pends.map Pd.cs), .slice 4 (n.items.map It.cs), .usl 29 ((settleR n id x has e).jobs.map Jb.cs), .int .i64 n.rid, .int .i64 n.jobId, .slice 1 (n.draws.map u64Row), .usl 8 ((settleR n id x has e).results.map Rs.cs), A]]) := by
  have jl := h.jl; have rl := h.rl
  rcases findR_cases n.jobs id with ⟨i, hi, hid, _, hf⟩ | ⟨_, hf⟩
  · have drp := dropW n A acts hA i hi (h.le (by omega))
    have hs : settleR n id x has e = { n with jobs := n.jobs.eraseIdx i, results := lastR (n.results ++ [resR id n.jobs[i] x has e]) } := by
      unfold settleR; rw [hf, if_pos (by omega), Int.toNat_natCast, jobG_at hi]
    rw [hs]
    simp only [lastR, List.length_append, List.length_singleton, resR]
    by_cases hc : 16 ≤ n.results.length
    · have dd : (if 0 < n.results.length - 15 then ((n.results.length - 15 : Nat) : Int) else 0).toNat = n.results.length - 15 := by split <;> omega
      rcases hA with _ | l
      · rw [fn_text Tryz.func155 rfl rfl Tryz.results155 fq155.1 rfl rfl (by kernel_rfl)]
        simp -implicitDefEqProofs -dsimp +contextual (maxSteps := 9999999) (disch := first | omega | simp only [go_sem] <;> omega | refine ib ?_; kernel_rfl) only [go_sem, seval, ↓reduceIte, drp, hf, hi, hid, hc, Rs_app]
        rw [dd]
      · rw [fn_text Tryz.func155 rfl rfl Tryz.results155 fq155.1 rfl rfl (by kernel_rfl)]
        simp -implicitDefEqProofs -dsimp +contextual (maxSteps := 9999999) (disch := first | omega | simp only [go_sem] <;> omega | refine ib ?_; kernel_rfl) only [go_sem, seval, ↓reduceIte, drp, hf, hi, hid, hc, Rs_app]
        rw [dd]
    · rw [show n.results.length + 1 - 16 = 0 from by omega, List.drop_zero]
      rcases hA with _ | l
      · rw [fn_text Tryz.func155 rfl rfl Tryz.results155 fq155.1 rfl rfl (by kernel_rfl)]
        simp -implicitDefEqProofs -dsimp +contextual (maxSteps := 9999999) (disch := first | omega | simp only [go_sem] <;> omega | refine ib ?_; kernel_rfl) only [go_sem, seval, ↓reduceIte, drp, hf, hi, hid, hc, Rs_app]
        rw [if_neg (by omega)]
        rfl
      · rw [fn_text Tryz.func155 rfl rfl Tryz.results155 fq155.1 rfl rfl (by kernel_rfl)]
        simp -implicitDefEqProofs -dsimp +contextual (maxSteps := 9999999) (disch := first | omega | simp only [go_sem] <;> omega | refine ib ?_; kernel_rfl) only [go_sem, seval, ↓reduceIte, drp, hf, hi, hid, hc, Rs_app]
        rw [if_neg (by omega)]
        rfl
  · have hs : settleR n id x has e = n := by unfold settleR; rw [hf, if_neg (by omega)]
    rw [hs]
    rcases hA with _ | l
    · rw [fn_text Tryz.func155 rfl rfl Tryz.results155 fq155.1 rfl rfl (by kernel_rfl)]
      simp -implicitDefEqProofs -dsimp +contextual (maxSteps := 9999999) (disch := first | omega | simp only [go_sem] <;> omega | refine ib ?_; kernel_rfl) only [go_sem, seval, ↓reduceIte, hf]
    · rw [fn_text Tryz.func155 rfl rfl Tryz.results155 fq155.1 rfl rfl (by kernel_rfl)]
      simp -implicitDefEqProofs -dsimp +contextual (maxSteps := 9999999) (disch := first | omega | simp only [go_sem] <;> omega | refine ib ?_; kernel_rfl) only [go_sem, seval, ↓reduceIte, hf]
theorem Ac_app (l : List Ac) (a : Ac) : l.map Ac.cs ++ [[.bool a.ans, .str a.to.name, .int .u64 (a.to.id : Int), .int .i64 a.to.fr, .int .i64 a.to.un, .int .i64 a.to.ix, .str a.to.tag, .int .i64 a.m.kind, .int .i64 a.m.rid, .int .i64 a.m.ver, .int .i64 a.m.err, .int .u64 (a.m.id : Int), .bool a.m.has, .bool a.m.gone, .str a.m.key, .str a.m.val, .slice 6 (a.m.ents.map En.cs), .slice 4 (a.m.items.map It.cs), .int .i64 a.why, .int .i64 a.job]] = (l ++ [a]).map Ac.cs := by rw [List.map_append]; rfl
theorem tellW0 (n : Nd) (A : AVal) (acts : List Ac) (hA : AcC A acts) (back : En) (rid : Int) (x : It) (has : Bool) (e : Int) (h : n.mid 1000000) (ha : acts.length ≤ 1000000) : fn C 165 [] [.uptr [.str n.me.name, .int .u64 (n.me.id : Int), .int .i64 n.me.fr, .int .i64 n.me.un, .int .i64 n.me.ix, .str n.me.tag, .int .i64 n.clock, .str n.psk, .int .i64 n.gateI, .str n.gateK, .bool n.ready, .slice 8 (n.pred.map Pr.cs), .slice 8 (n.list.map Pr.cs), .slice 9 (n.fingers.map Fg.cs), .usl 20 (n.sessions.map Se.cs), .usl 23 (n.pends.map Pd.cs), .slice 4 (n.items.map It.cs), .usl 29 (n.jobs.map Jb.cs), .int .i64 n.rid, .int .i64 n.jobId, .slice 1 (n.draws.map u64Row), .usl 8 (n.results.map Rs.cs), A], .agg [.str back.name, .int .u64 (back.id : Int), .int .i64 back.fr, .int .i64 back.un, .int .i64 back.ix, .str back.tag], .int .i64 rid, .int .i64 0, .agg [.str x.k, .str x.v, .int .i64 x.n, .bool x.g], .bool has, .int .i64 e] =
    some (.tup [], [.uptr [.str n.me.name, .int .u64 (n.me.id : Int), .int .i64 n.me.fr, .int .i64 n.me.un, .int .i64 n.me.ix, .str n.me.tag, .int .i64 n.clock, .str n.psk, .int .i64 n.gateI, .str n.gateK, .bool n.ready, .slice 8 (n.pred.map Pr.cs), .slice 8 (n.list.map Pr.cs), .slice 9 (n.fingers.map Fg.cs), .usl 20 (n.sessions.map Se.cs), .usl 23 (n.pends.map Pd.cs), .slice 4 (n.items.map It.cs), .usl 29 (n.jobs.map Jb.cs), .int .i64 n.rid, .int .i64 n.jobId, .slice 1 (n.draws.map u64Row), .usl 8 (n.results.map Rs.cs), .usl 20 ((acts ++ [doneA back rid x e]).map Ac.cs)]]) := by
  have ap := fun l : List Ac => (Ac_app l (doneA back rid x e)).symm
  rw [List.map_append]
  rcases hA with _ | l
  · rw [fn_textN Tryz.func165 rfl rfl Tryz.results165 fq165.1 rfl rfl (by kernel_rfl)]
    simp -implicitDefEqProofs -dsimp +contextual (maxSteps := 9999999) (disch := first | omega | simp only [go_sem] <;> omega | refine ib ?_; kernel_rfl) only [go_sem, seval, ↓reduceIte]
    rfl
  · rw [fn_textN Tryz.func165 rfl rfl Tryz.results165 fq165.1 rfl rfl (by kernel_rfl)]
    simp -implicitDefEqProofs -dsimp +contextual (maxSteps := 9999999) (disch := first | omega | simp only [go_sem] <;> omega | refine ib ?_; kernel_rfl) only [go_sem, seval, ↓reduceIte]
    rfl
theorem tellW1 (n : Nd) (A : AVal) (acts : List Ac) (hA : AcC A acts) (back : En) (rid job : Int) (x : It) (has : Bool) (e : Int) (hj : ¬ job = 0) (h : n.mid 1000000) : fn C 165 [] [.uptr [.str n.me.name, .int .u64 (n.me.id : Int), .int .i64 n.me.fr, .int .i64 n.me.un, .int .i64 n.me.ix, .str n.me.tag, .int .i64 n.clock, .str n.psk, .int .i64 n.gateI, .str n.gateK, .bool n.ready, .slice 8 (n.pred.map Pr.cs), .slice 8 (n.list.map Pr.cs), .slice 9 (n.fingers.map Fg.cs), .usl 20 (n.sessions.map Se.cs), .usl 23 (n.pends.map Pd.cs), .slice 4 (n.items.map It.cs), .usl 29 (n.jobs.map Jb.cs), .int .i64 n.rid, .int .i64 n.jobId, .slice 1 (n.draws.map u64Row), .usl 8 (n.results.map Rs.cs), A], .agg [.str back.name, .int .u64 (back.id : Int), .int .i64 back.fr, .int .i64 back.un, .int .i64 back.ix, .str back.tag], .int .i64 rid, .int .i64 job, .agg [.str x.k, .str x.v, .int .i64 x.n, .bool x.g], .bool has, .int .i64 e] =
    some (.tup [], [.uptr [.str n.me.name, .int .u64 (n.me.id : Int), .int .i64 n.me.fr, .int .i64 n.me.un, .int .i64 n.me.ix, .str n.me.tag, .int .i64 n.clock, .str n.psk, .int .i64 n.gateI, .str n.gateK, .bool n.ready, .slice 8 (n.pred.map Pr.cs), .slice 8 (n.list.map Pr.cs), .slice 9 (n.fingers.map Fg.cs), .usl 20 (n.sessions.map Se.cs), .usl 23 (n.pends.map Pd.cs), .slice 4 (n.items.map It.cs), .usl 29 ((settleR n job x has e).jobs.map Jb.cs), .int .i64 n.rid, .int .i64 n.jobId, .slice 1 (n.draws.map u64Row), .usl 8 ((settleR n job x has e).results.map Rs.cs), A]]) := by
  have st := settleW n A acts hA job x has e h
  rcases hA with _ | l
  · rw [fn_textN Tryz.func165 rfl rfl Tryz.results165 fq165.1 rfl rfl (by kernel_rfl)]
    simp -implicitDefEqProofs -dsimp +contextual (maxSteps := 9999999) (disch := first | omega | simp only [go_sem] <;> omega | refine ib ?_; kernel_rfl) only [go_sem, seval, ↓reduceIte, hj, st]
  · rw [fn_textN Tryz.func165 rfl rfl Tryz.results165 fq165.1 rfl rfl (by kernel_rfl)]
    simp -implicitDefEqProofs -dsimp +contextual (maxSteps := 9999999) (disch := first | omega | simp only [go_sem] <;> omega | refine ib ?_; kernel_rfl) only [go_sem, seval, ↓reduceIte, hj, st]
theorem endW0 (n : Nd) (A : AVal) (acts : List Ac) (hA : AcC A acts) (j : Jb) (hj : j.backJob = 0) (h : n.mid 1000000) (ha : acts.length ≤ 1000000) : fn C 227 [] [.uptr [.str n.me.name, .int .u64 (n.me.id : Int), .int .i64 n.me.fr, .int .i64 n.me.un, .int .i64 n.me.ix, .str n.me.tag, .int .i64 n.clock, .str n.psk, .int .i64 n.gateI, .str n.gateK, .bool n.ready, .slice 8 (n.pred.map Pr.cs), .slice 8 (n.list.map Pr.cs), .slice 9 (n.fingers.map Fg.cs), .usl 20 (n.sessions.map Se.cs), .usl 23 (n.pends.map Pd.cs), .slice 4 (n.items.map It.cs), .usl 29 (n.jobs.map Jb.cs), .int .i64 n.rid, .int .i64 n.jobId, .slice 1 (n.draws.map u64Row), .usl 8 (n.results.map Rs.cs), A], .agg [.int .i64 j.id, .int .i64 j.kind, .int .i64 j.phase, .int .i64 j.hops, .int .i64 j.tries, .int .i64 j.til, .str j.key, .str j.val, .str j.owner.name, .int .u64 (j.owner.id : Int), .int .i64 j.owner.fr, .int .i64 j.owner.un, .int .i64 j.owner.ix, .str j.owner.tag, .str j.item.k, .str j.item.v, .int .i64 j.item.n, .bool j.item.g, .int .i64 j.acks, .int .i64 j.waits, .slice 1 (j.asked.map strRow), .str j.back.name, .int .u64 (j.back.id : Int), .int .i64 j.back.fr, .int .i64 j.back.un, .int .i64 j.back.ix, .str j.back.tag, .int .i64 j.backRid, .int .i64 j.backJob]] = some (.tup [], [.uptr [.str n.me.name, .int .u64 (n.me.id : Int), .int .i64 n.me.fr, .int .i64 n.me.un, .int .i64 n.me.ix, .str n.me.tag, .int .i64 n.clock, .str n.psk, .int .i64 n.gateI, .str n.gateK, .bool n.ready, .slice 8 (n.pred.map Pr.cs), .slice 8 (n.list.map Pr.cs), .slice 9 (n.fingers.map Fg.cs), .usl 20 (n.sessions.map Se.cs), .usl 23 (n.pends.map Pd.cs), .slice 4 (n.items.map It.cs), .usl 29 (n.jobs.map Jb.cs), .int .i64 n.rid, .int .i64 n.jobId, .slice 1 (n.draws.map u64Row), .usl 8 (n.results.map Rs.cs), .usl 20 ((acts ++ [doneA j.back j.backRid j.item 0]).map Ac.cs)]]) := by
  have t := tellW0 n A acts hA j.back j.backRid j.item (!j.item.g) 0 h ha
  rcases hA with _ | l
  · rw [fn_text Tryz.func227 rfl rfl Tryz.results227 fq227.1 rfl rfl (by kernel_rfl)]
    simp -implicitDefEqProofs -dsimp +contextual (maxSteps := 9999999) (disch := first | omega | simp only [go_sem] <;> omega | refine ib ?_; kernel_rfl) only [go_sem, seval, ↓reduceIte, hj, t]
  · rw [fn_text Tryz.func227 rfl rfl Tryz.results227 fq227.1 rfl rfl (by kernel_rfl)]
    simp -implicitDefEqProofs -dsimp +contextual (maxSteps := 9999999) (disch := first | omega | simp only [go_sem] <;> omega | refine ib ?_; kernel_rfl) only [go_sem, seval, ↓reduceIte, hj, t]
theorem endW1 (n : Nd) (A : AVal) (acts : List Ac) (hA : AcC A acts) (j : Jb) (hj : ¬ j.backJob = 0) (h : n.mid 1000000) : fn C 227 [] [.uptr [.str n.me.name, .int .u64 (n.me.id : Int), .int .i64 n.me.fr, .int .i64 n.me.un, .int .i64 n.me.ix, .str n.me.tag, .int .i64 n.clock, .str n.psk, .int .i64 n.gateI, .str n.gateK, .bool n.ready, .slice 8 (n.pred.map Pr.cs), .slice 8 (n.list.map Pr.cs), .slice 9 (n.fingers.map Fg.cs), .usl 20 (n.sessions.map Se.cs), .usl 23 (n.pends.map Pd.cs), .slice 4 (n.items.map It.cs), .usl 29 (n.jobs.map Jb.cs), .int .i64 n.rid, .int .i64 n.jobId, .slice 1 (n.draws.map u64Row), .usl 8 (n.results.map Rs.cs), A], .agg [.int .i64 j.id, .int .i64 j.kind, .int .i64 j.phase, .int .i64 j.hops, .int .i64 j.tries, .int .i64 j.til, .str j.key, .str j.val, .str j.owner.name, .int .u64 (j.owner.id : Int), .int .i64 j.owner.fr, .int .i64 j.owner.un, .int .i64 j.owner.ix, .str j.owner.tag, .str j.item.k, .str j.item.v, .int .i64 j.item.n, .bool j.item.g, .int .i64 j.acks, .int .i64 j.waits, .slice 1 (j.asked.map strRow), .str j.back.name, .int .u64 (j.back.id : Int), .int .i64 j.back.fr, .int .i64 j.back.un, .int .i64 j.back.ix, .str j.back.tag, .int .i64 j.backRid, .int .i64 j.backJob]] =
    some (.tup [], [.uptr [.str n.me.name, .int .u64 (n.me.id : Int), .int .i64 n.me.fr, .int .i64 n.me.un, .int .i64 n.me.ix, .str n.me.tag, .int .i64 n.clock, .str n.psk, .int .i64 n.gateI, .str n.gateK, .bool n.ready, .slice 8 (n.pred.map Pr.cs), .slice 8 (n.list.map Pr.cs), .slice 9 (n.fingers.map Fg.cs), .usl 20 (n.sessions.map Se.cs), .usl 23 (n.pends.map Pd.cs), .slice 4 (n.items.map It.cs), .usl 29 ((settleR n j.backJob j.item (!j.item.g) 0).jobs.map Jb.cs), .int .i64 n.rid, .int .i64 n.jobId, .slice 1 (n.draws.map u64Row), .usl 8 ((settleR n j.backJob j.item (!j.item.g) 0).results.map Rs.cs), A]]) := by
  have t := tellW1 n A acts hA j.back j.backRid j.backJob j.item (!j.item.g) 0 hj h
  rcases hA with _ | l
  · rw [fn_text Tryz.func227 rfl rfl Tryz.results227 fq227.1 rfl rfl (by kernel_rfl)]
    simp -implicitDefEqProofs -dsimp +contextual (maxSteps := 9999999) (disch := first | omega | simp only [go_sem] <;> omega | refine ib ?_; kernel_rfl) only [go_sem, seval, ↓reduceIte, t]
  · rw [fn_text Tryz.func227 rfl rfl Tryz.results227 fq227.1 rfl rfl (by kernel_rfl)]
    simp -implicitDefEqProofs -dsimp +contextual (maxSteps := 9999999) (disch := first | omega | simp only [go_sem] <;> omega | refine ib ?_; kernel_rfl) only [go_sem, seval, ↓reduceIte, t]
theorem copR_at {l : List Jb} {id : Int} {i : Nat} (hi : i < l.length) (hf : findR l id = (i : Int)) (hk : l[i].kind = 4) : copR l id = (i : Int) := by
  unfold copR; rw [hf, if_pos ⟨by omega, by rw [Int.toNat_natCast, jobG_at hi]; exact hk⟩]
theorem copR_kind {l : List Jb} {id : Int} {i : Nat} (hi : i < l.length) (hf : findR l id = (i : Int)) (hk : ¬ l[i].kind = 4) : copR l id = -1 := by
  unfold copR; rw [hf, if_neg (fun h => hk (by rw [Int.toNat_natCast, jobG_at hi] at h; exact h.2))]
theorem copR_none {l : List Jb} {id : Int} (hf : findR l id = -1) : copR l id = -1 := by
  unfold copR; rw [hf, if_neg (fun h => by omega)]
theorem placeI (n : Nd) (A : AVal) (id : Int) (h : n.jobs.length ≤ 1000000) : fn C 224 [] [.iptr [.str n.me.name, .int .u64 (n.me.id : Int), .int .i64 n.me.fr, .int .i64 n.me.un, .int .i64 n.me.ix, .str n.me.tag, .int .i64 n.clock, .str n.psk, .int .i64 n.gateI, .str n.gateK, .bool n.ready, .slice 8 (n.pred.map Pr.cs), .slice 8 (n.list.map Pr.cs), .slice 9 (n.fingers.map Fg.cs), .slice 20 (n.sessions.map Se.cs), .slice 23 (n.pends.map Pd.cs), .slice 4 (n.items.map It.cs), .slice 29 (n.jobs.map Jb.cs), .int .i64 n.rid, .int .i64 n.jobId, .slice 1 (n.draws.map u64Row), .slice 8 (n.results.map Rs.cs), A], .int .i64 id] = some (.int .i64 (copR n.jobs id), []) := by
  rcases findR_cases n.jobs id with ⟨i, hi, hid, _, hf⟩ | ⟨_, hf⟩
  · have row := jb_row n.jobs i hi
    by_cases hk : n.jobs[i].kind = 4
    · rw [copR_at hi hf hk]
      rw [fn_text Tryz.func224 rfl rfl Tryz.results224 fq224.1 rfl rfl (by kernel_rfl)]
      simp -implicitDefEqProofs -dsimp +contextual (maxSteps := 9999999) (disch := first | omega | simp only [go_sem] <;> omega | refine ib ?_; kernel_rfl) only [go_sem, seval, ↓reduceIte, hf, row, hk, Nat.not_lt_zero]
    · rw [copR_kind hi hf hk]
      rw [fn_text Tryz.func224 rfl rfl Tryz.results224 fq224.1 rfl rfl (by kernel_rfl)]
      simp -implicitDefEqProofs -dsimp +contextual (maxSteps := 9999999) (disch := first | omega | simp only [go_sem] <;> omega | refine ib ?_; kernel_rfl) only [go_sem, seval, ↓reduceIte, hf, row, hk, Nat.not_lt_zero]
  · rw [copR_none hf]
    rw [fn_text Tryz.func224 rfl rfl Tryz.results224 fq224.1 rfl rfl (by kernel_rfl)]
    simp -implicitDefEqProofs -dsimp +contextual (maxSteps := 9999999) (disch := first | omega | simp only [go_sem] <;> omega | refine ib ?_; kernel_rfl) only [go_sem, seval, ↓reduceIte, hf]
@[go_sem] theorem e154 (n : Nd) (h : n.mid 1000000) : fn C 154 [] [(aNd n)] = some (.uptr [.str n.me.name, .int .u64 (n.me.id : Int), .int .i64 n.me.fr, .int .i64 n.me.un, .int .i64 n.me.ix, .str n.me.tag, .int .i64 n.clock, .str n.psk, .int .i64 n.gateI, .str n.gateK, .bool n.ready, .slice 8 (n.pred.map Pr.cs), .slice 8 (n.list.map Pr.cs), .slice 9 (n.fingers.map Fg.cs), .usl 20 (n.sessions.map Se.cs), .usl 23 (n.pends.map Pd.cs), .slice 4 (n.items.map It.cs), .usl 29 (n.jobs.map Jb.cs), .int .i64 n.rid, .int .i64 n.jobId, .slice 1 (n.draws.map u64Row), .usl 8 (n.results.map Rs.cs), .sc (.slice none 0 0)], []) := by
  rw [fn_text Tryz.func154 rfl rfl Tryz.results154 fq154.1 rfl rfl (by kernel_rfl)]
  simp -implicitDefEqProofs -dsimp +contextual (maxSteps := 9999999) (disch := first | omega | simp only [go_sem] <;> omega | refine ib ?_; kernel_rfl) only [go_sem, seval, ↓reduceIte, e13 n h]
@[go_sem] theorem e86 (n : Nd) (id : Int) (x : It) (has : Bool) (e : Int) (h : n.mid 1000000) : fn C 86 [] [(aNd n), .int .i64 id, .agg [.str x.k, .str x.v, .int .i64 x.n, .bool x.g], .bool has, .int .i64 e] = some (.agg (settleR n id x has e).ocs, []) := by
  have st := settleW n _ _ .nil id x has e h
  rw [settle_ocs]
  rw [fn_text Tryz.func86 rfl rfl Tryz.results86 fq86.1 rfl rfl (by kernel_rfl)]
  simp -implicitDefEqProofs -dsimp +contextual (maxSteps := 9999999) (disch := first | omega | simp only [go_sem] <;> omega | refine ib ?_; kernel_rfl) only [go_sem, seval, ↓reduceIte, e154 n h, st]
theorem mid_erase {n : Nd} {k : Nat} (i : Nat) (h : n.mid k) : ({ n with jobs := n.jobs.eraseIdx i } : Nd).mid k :=
  ⟨h.pl, h.ll, h.fl, h.sl, h.dl, h.il, Nat.le_trans (List.length_eraseIdx_le ..) h.jl, h.wl, h.rl, h.pe, h.pi, fun j hj => h.ja j (List.mem_of_mem_eraseIdx hj), h.ik⟩
theorem lastR_le (l : List Rs) : (lastR l).length ≤ 16 := by unfold lastR; simp; omega
theorem mid_settle {n : Nd} {k : Nat} (id : Int) (x : It) (has : Bool) (e : Int) (h : n.mid k) (hk : 16 ≤ k) : (settleR n id x has e).mid k := by
  unfold settleR
  split
  · exact ⟨h.pl, h.ll, h.fl, h.sl, h.dl, h.il, Nat.le_trans (List.length_eraseIdx_le ..) h.jl, h.wl, Nat.le_trans (lastR_le _) hk, h.pe, h.pi, fun j hj => h.ja j (List.mem_of_mem_eraseIdx hj), h.ik⟩
  · exact h
def WorkAt (o : Nat) (n : Nd) (acts : List Ac) (H : Heap) : Prop := ∃ A a b c d : Nat, ∃ X, H o = ⟨1, .live, 23, [[.str n.me.name, .int .u64 (n.me.id : Int), .int .i64 n.me.fr, .int .i64 n.me.un, .int .i64 n.me.ix, .str n.me.tag, .int .i64 n.clock, .str n.psk, .int .i64 n.gateI, .str n.gateK, .bool n.ready, .slice 8 (n.pred.map Pr.cs), .slice 8 (n.list.map Pr.cs), .slice 9 (n.fingers.map Fg.cs), .osl (o * 1000 + 15) a 0 n.sessions.length, .osl (o * 1000 + 16) b 0 n.pends.length, .slice 4 (n.items.map It.cs), .osl (o * 1000 + 18) c 0 n.jobs.length, .int .i64 n.rid, .int .i64 n.jobId, .slice 1 (n.draws.map u64Row), .osl (o * 1000 + 22) d 0 n.results.length, X]], false⟩ ∧
  H (o * 1000 + 15) = ⟨a, .live, 20, n.sessions.map Se.cs, false⟩ ∧ H (o * 1000 + 16) = ⟨b, .live, 23, n.pends.map Pd.cs, false⟩ ∧ H (o * 1000 + 18) = ⟨c, .live, 29, n.jobs.map Jb.cs, false⟩ ∧ H (o * 1000 + 22) = ⟨d, .live, 8, n.results.map Rs.cs, false⟩ ∧
  ((X = .sc (.slice none 0 0) ∧ acts = []) ∨ (X = .osl (o * 1000 + 23) A 0 acts.length ∧ H (o * 1000 + 23) = ⟨A, .live, 20, acts.map Ac.cs, false⟩))
@[go_sem] theorem e152 (l : List Jb) (id : Int) (hl : l.length ≤ 9223372036854775807) : fn C 152 [] [.slice 29 (l.map Jb.cs), .int .i64 id] = some (.int .i64 (findR l id), []) := by
  rw [fn_text Tryz.func152 rfl rfl Tryz.results152 fq152.1 rfl rfl (by kernel_rfl)]
  simp -implicitDefEqProofs -dsimp +contextual (maxSteps := 9999999) (disch := first | omega | simp only [go_sem] <;> omega | refine ib ?_; kernel_rfl) only [go_sem, seval, ↓reduceIte]
  refine kFor l.length (fun i f H => f 0 = .slice 29 (l.map Jb.cs) ∧ f 1 = .int .i64 id ∧ f 5 = .int .i64 (i : Nat) ∧ H = Heap.nil ∧ (l.take i).any (jobAt id) = false) ?_ ?_ (by exact ⟨rfl, rfl, rfl, rfl, rfl⟩)
  · rintro i f _ hi ⟨f0, f1, f5, rfl, ha⟩ ih
    have row := jb_row l i hi
    by_cases h : l[i].id = id
    · simp -implicitDefEqProofs -dsimp +contextual (maxSteps := 9999999) (disch := first | omega | simp only [go_sem] <;> omega | refine ib ?_; kernel_rfl) only [go_sem, seval, ↓reduceIte, f0, f1, f5, hi, row, h]
      rw [findR, placeG_at hi ha (by simp [jobAt, h])]
    · simp -implicitDefEqProofs -dsimp +contextual (maxSteps := 9999999) (disch := first | omega | simp only [go_sem] <;> omega | refine ib ?_; kernel_rfl) only [go_sem, seval, ↓reduceIte, f0, f1, f5, hi, row, h]
      exact ih _ _ ⟨f0, f1, rfl, rfl, any_take hi ha (by simp [jobAt, h])⟩
  · rintro f _ ⟨f0, f1, f5, rfl, ha⟩
    simp -implicitDefEqProofs -dsimp +contextual (maxSteps := 9999999) (disch := first | omega | simp only [go_sem] <;> omega | refine ib ?_; kernel_rfl) only [go_sem, seval, ↓reduceIte, f0, f1, f5]
    rw [findR, placeG_none (any_end ha)]
theorem erase_step {α : Type} (l : List α) (at_ i : Nat) (hi : i < l.length) : (l.take (i + 1)).eraseIdx at_ = if i = at_ then (l.take i).eraseIdx at_ else (l.take i).eraseIdx at_ ++ [l[i]] := by
  have hlen : (l.take i).length = i := by simp; omega
  rw [List.take_succ_eq_append_getElem hi]
  by_cases h : i = at_
  · subst h
    rw [if_pos rfl, List.eraseIdx_append_of_length_le (by omega), hlen, Nat.sub_self]
    simp [List.eraseIdx_of_length_le (Nat.le_of_eq hlen)]
  · rw [if_neg h]
    rcases Nat.lt_or_ge at_ i with h2 | h2
    · rw [List.eraseIdx_append_of_lt_length (by omega)]
    · rw [List.eraseIdx_append_of_length_le (by omega), hlen, List.eraseIdx_of_length_le (l := l.take i) (by omega), List.eraseIdx_of_length_le (by simp; omega)]
@[go_sem] theorem Jb.app_cs (l : List Jb) (j : Jb) : l.map Jb.cs ++ [[.int .i64 j.id, .int .i64 j.kind, .int .i64 j.phase, .int .i64 j.hops, .int .i64 j.tries, .int .i64 j.til, .str j.key, .str j.val, .str j.owner.name, .int .u64 (j.owner.id : Int), .int .i64 j.owner.fr, .int .i64 j.owner.un, .int .i64 j.owner.ix, .str j.owner.tag, .str j.item.k, .str j.item.v, .int .i64 j.item.n, .bool j.item.g, .int .i64 j.acks, .int .i64 j.waits, .slice 1 (j.asked.map strRow), .str j.back.name, .int .u64 (j.back.id : Int), .int .i64 j.back.fr, .int .i64 j.back.un, .int .i64 j.back.ix, .str j.back.tag, .int .i64 j.backRid, .int .i64 j.backJob]] = (l ++ [j]).map Jb.cs := by rw [List.map_append]; rfl
@[go_sem] theorem e156 (l : List Jb) (at_ : Nat) (hl : l.length ≤ 1000000) : fn C 156 [] [.slice 29 (l.map Jb.cs), .int .i64 (at_ : Nat)] = some (.slice 29 ((l.eraseIdx at_).map Jb.cs), []) := by
  rw [fn_textN Tryz.func156 rfl rfl Tryz.results156 fq156.1 rfl rfl (by kernel_rfl)]
  simp -implicitDefEqProofs -dsimp +contextual (maxSteps := 9999999) (disch := first | omega | simp only [go_sem] <;> omega | refine ib ?_; kernel_rfl) only [go_sem, seval, ↓reduceIte]
  refine kFor l.length (fun i f H => f 0 = .slice 29 (l.map Jb.cs) ∧ f 1 = .int .i64 (at_ : Nat) ∧ f 6 = .int .i64 (i : Nat) ∧ ∃ g, f 5 = .osl 105 g 0 ((l.take i).eraseIdx at_).length ∧ H 105 = ⟨g, .live, 29, ((l.take i).eraseIdx at_).map Jb.cs, false⟩) ?_ ?_ (by exact ⟨rfl, rfl, rfl, 1, rfl, rfl⟩)
  · rintro i f H hi ⟨f0, f1, f6, g, f5, H1⟩ ih
    have row := jb_row l i hi
    have st := erase_step l at_ i hi
    have le : ((l.take i).eraseIdx at_).length ≤ l.length := Nat.le_trans (List.length_eraseIdx_le ..) (by simp; omega)
    by_cases h : i = at_
    · rw [if_pos h] at st
      subst h
      simp -implicitDefEqProofs -dsimp +contextual (maxSteps := 9999999) (disch := first | omega | simp only [go_sem] <;> omega | refine ib ?_; kernel_rfl) only [go_sem, seval, ↓reduceIte, f0, f1, f5, f6, H1, hi, row]
      exact ih _ _ (by exact ⟨f0, f1, rfl, g, by rw [st]; exact f5, by rw [st]; exact H1⟩)
    · rw [if_neg h] at st
      simp -implicitDefEqProofs -dsimp +contextual (maxSteps := 9999999) (disch := first | omega | simp only [go_sem] <;> omega | refine ib ?_; kernel_rfl) only [go_sem, seval, ↓reduceIte, f0, f1, f5, f6, H1, hi, row, h]
      exact ih _ _ (by exact ⟨f0, f1, rfl, g + 1, by rw [st]; simp [upd], by rw [st]; simp [Heap.set]⟩)
  · rintro f H ⟨f0, f1, f6, g, f5, H1⟩
    rw [List.take_length] at f5 H1
    simp -implicitDefEqProofs -dsimp +contextual (maxSteps := 9999999) (disch := first | omega | simp only [go_sem] <;> omega | refine ib ?_; kernel_rfl) only [go_sem, seval, ↓reduceIte, f0, f1, f5, f6, H1]
@[go_sem] theorem Nd.cs_eq (n : Nd) : n.cs = [.str n.me.name, .int .u64 (n.me.id : Int), .int .i64 n.me.fr, .int .i64 n.me.un, .int .i64 n.me.ix, .str n.me.tag, .int .i64 n.clock, .str n.psk, .int .i64 n.gateI, .str n.gateK, .bool n.ready, .slice 8 (n.pred.map Pr.cs), .slice 8 (n.list.map Pr.cs), .slice 9 (n.fingers.map Fg.cs), .slice 20 (n.sessions.map Se.cs), .slice 23 (n.pends.map Pd.cs), .slice 4 (n.items.map It.cs), .slice 29 (n.jobs.map Jb.cs), .int .i64 n.rid, .int .i64 n.jobId, .slice 1 (n.draws.map u64Row), .slice 8 (n.results.map Rs.cs)] := rfl
@[go_sem] theorem e87 (n : Nd) (id : Int) (x : It) (has : Bool) (e : Int) (h : n.mid 1000000) : fn C 87 [] [(aNd n), .int .i64 id, .agg [.str x.k, .str x.v, .int .i64 x.n, .bool x.g], .bool has, .int .i64 e] = some (.agg (settleR n id x has e).cs, []) := by
  have jl := h.jl; have rl := h.rl
  rcases findR_cases n.jobs id with ⟨i, hi, hid, _, hf⟩ | ⟨_, hf⟩
  · have hs : settleR n id x has e = { n with jobs := n.jobs.eraseIdx i, results := lastR (n.results ++ [resR id n.jobs[i] x has e]) } := by
      unfold settleR; rw [hf, if_pos (by omega), Int.toNat_natCast, jobG_at hi]
    rw [hs]
    have row := jb_row n.jobs i hi
    have wo := e156 n.jobs i jl
    rw [fn_text Tryz.func87 rfl rfl Tryz.results87 fq87.1 rfl rfl (by kernel_rfl)]
    simp -implicitDefEqProofs -dsimp +contextual (maxSteps := 9999999) (disch := first | omega | simp only [go_sem] <;> omega | refine ib ?_; kernel_rfl) only [go_sem, seval, ↓reduceIte, hf, row, wo, Rs_app, Nat.not_lt_zero]
    rw [show resR id n.jobs[i] x has e = ⟨id, n.jobs[i].kind, x.n, n.jobs[i].key, x.v, has, x.g, e⟩ from rfl]
    obtain ⟨L, hL⟩ : ∃ L, L = n.results ++ [(⟨id, n.jobs[i].kind, x.n, n.jobs[i].key, x.v, has, x.g, e⟩ : Rs)] := ⟨_, rfl⟩
    have hLl : L.length = n.results.length + 1 := by rw [hL]; simp
    rw [← hL, ← hLl]
    clear hL
    refine kLoop_rec (fun (k : Nat) f H => k ≤ L.length ∧ (k = 0 ∨ k + 16 ≤ L.length) ∧ f 5 = .ptr 105 1 0 0 ∧ f 10 = .ptr 110 1 0 0 ∧ (H 110).gen = 1 ∧ (H 110).mode = .live ∧ (∃ r : List AVal, r.length = 22 ∧ (H 110).rows = [r]) ∧
      H 105 = ⟨1, .live, 22, [[.str n.me.name, .int .u64 (n.me.id : Int), .int .i64 n.me.fr, .int .i64 n.me.un, .int .i64 n.me.ix, .str n.me.tag, .int .i64 n.clock, .str n.psk, .int .i64 n.gateI, .str n.gateK, .bool n.ready, .slice 8 (n.pred.map Pr.cs), .slice 8 (n.list.map Pr.cs), .slice 9 (n.fingers.map Fg.cs), .slice 20 (n.sessions.map Se.cs), .slice 23 (n.pends.map Pd.cs), .slice 4 (n.items.map It.cs), .slice 29 ((n.jobs.eraseIdx i).map Jb.cs), .int .i64 n.rid, .int .i64 n.jobId, .slice 1 (n.draws.map u64Row), .osl 145 3 k (L.length - k)]], false⟩ ∧ H 145 = ⟨3, .live, 8, L.map Rs.cs, false⟩) (fun k => L.length - k) (fun _ => _) ?_ 0 _ _ (by exact ⟨Nat.zero_le _, .inl rfl, rfl, rfl, rfl, rfl, ⟨_, rfl, rfl⟩, rfl, rfl⟩)
    rintro k f H ⟨k1, k2, f5, f10, H2, H2m, ⟨r, hr, H2r⟩, H1, H3⟩ ih
    by_cases hlt : 16 < L.length - k
    · simp -implicitDefEqProofs -dsimp +contextual (maxSteps := 9999999) (disch := first | omega | simp only [go_sem] <;> omega | refine ib ?_; kernel_rfl) only [go_sem, seval, ↓reduceIte, f5, f10, H1, H2, H2m, H2r, hr, H3, hlt]
      exact ih (k + 1) _ _ (by exact ⟨by omega, .inr (by omega), f5, f10, H2, H2m, ⟨r, hr, H2r⟩, by simp [Heap.set, Nat.sub_sub], H3⟩) (by omega)
    · simp -implicitDefEqProofs -dsimp +contextual (maxSteps := 9999999) (disch := first | omega | simp only [go_sem] <;> omega | refine ib ?_; kernel_rfl) only [go_sem, seval, ↓reduceIte, f5, f10, H1, H2, H2m, H2r, hr, H3, hlt]
      rw [lastR, show k = L.length - 16 by omega]
  · have hs : settleR n id x has e = n := by unfold settleR; rw [hf, if_neg (by omega)]
    rw [hs]
    rw [fn_text Tryz.func87 rfl rfl Tryz.results87 fq87.1 rfl rfl (by kernel_rfl)]
    simp -implicitDefEqProofs -dsimp +contextual (maxSteps := 9999999) (disch := first | omega | simp only [go_sem] <;> omega | refine ib ?_; kernel_rfl) only [go_sem, seval, ↓reduceIte, hf]
theorem rTell0 (n : Nd) (back : En) (rid : Int) (x : It) (has : Bool) (e : Int) : fn C 178 [] [(aNd n), .agg [.str back.name, .int .u64 (back.id : Int), .int .i64 back.fr, .int .i64 back.un, .int .i64 back.ix, .str back.tag], .int .i64 rid, .int .i64 0, .agg [.str x.k, .str x.v, .int .i64 x.n, .bool x.g], .bool has, .int .i64 e] = some (.tup [(aNd n), .slice 20 [[.bool (doneA back rid x e).ans, .str (doneA back rid x e).to.name, .int .u64 ((doneA back rid x e).to.id : Int), .int .i64 (doneA back rid x e).to.fr, .int .i64 (doneA back rid x e).to.un, .int .i64 (doneA back rid x e).to.ix, .str (doneA back rid x e).to.tag, .int .i64 (doneA back rid x e).m.kind, .int .i64 (doneA back rid x e).m.rid, .int .i64 (doneA back rid x e).m.ver, .int .i64 (doneA back rid x e).m.err, .int .u64 ((doneA back rid x e).m.id : Int), .bool (doneA back rid x e).m.has, .bool (doneA back rid x e).m.gone, .str (doneA back rid x e).m.key, .str (doneA back rid x e).m.val, .slice 6 ((doneA back rid x e).m.ents.map En.cs), .slice 4 ((doneA back rid x e).m.items.map It.cs), .int .i64 (doneA back rid x e).why, .int .i64 (doneA back rid x e).job]]], []) := by
  rw [fn_textN Tryz.func178 rfl rfl Tryz.results178 fq178.1 rfl rfl (by kernel_rfl)]
  simp -implicitDefEqProofs -dsimp +contextual (maxSteps := 9999999) (disch := first | omega | simp only [go_sem] <;> omega | refine ib ?_; kernel_rfl) only [go_sem, seval, ↓reduceIte]
  rfl
theorem rTell1 (n : Nd) (back : En) (rid job : Int) (x : It) (has : Bool) (e : Int) (hj : ¬ job = 0) (h : n.mid 1000000) : fn C 178 [] [(aNd n), .agg [.str back.name, .int .u64 (back.id : Int), .int .i64 back.fr, .int .i64 back.un, .int .i64 back.ix, .str back.tag], .int .i64 rid, .int .i64 job, .agg [.str x.k, .str x.v, .int .i64 x.n, .bool x.g], .bool has, .int .i64 e] = some (.tup [.agg (settleR n job x has e).cs, .slice 20 []], []) := by
  have st := e87 n job x has e h
  rw [fn_textN Tryz.func178 rfl rfl Tryz.results178 fq178.1 rfl rfl (by kernel_rfl)]
  simp -implicitDefEqProofs -dsimp +contextual (maxSteps := 9999999) (disch := first | omega | simp only [go_sem] <;> omega | refine ib ?_; kernel_rfl) only [go_sem, seval, ↓reduceIte, hj, st]
theorem rTell (n : Nd) (back : En) (rid job : Int) (x : It) (has : Bool) (e : Int) (h : n.mid 1000000) : fn C 178 [] [(aNd n), .agg [.str back.name, .int .u64 (back.id : Int), .int .i64 back.fr, .int .i64 back.un, .int .i64 back.ix, .str back.tag], .int .i64 rid, .int .i64 job, .agg [.str x.k, .str x.v, .int .i64 x.n, .bool x.g], .bool has, .int .i64 e] = some (.tup [.agg (tellR n back rid job x has e).1.cs, .slice 20 ((tellR n back rid job x has e).2.map Ac.cs)], []) := by
  unfold tellR
  by_cases hj : job = 0
  · subst hj; rw [if_pos rfl, rTell0]; rfl
  · rw [if_neg hj, rTell1 _ _ _ _ _ _ _ hj h]; rfl
@[go_sem] theorem e231 (n : Int) : fn C 231 [] [.int .i64 n] = some (.int .i64 (fewR n), []) := by
  rw [fn_text Tryz.func231 rfl rfl Tryz.results231 fq231.1 rfl rfl (by kernel_rfl)]
  simp -implicitDefEqProofs -dsimp +contextual (maxSteps := 9999999) (disch := first | omega | simp only [go_sem] <;> omega | refine ib ?_; kernel_rfl) only [go_sem, seval, ↓reduceIte]
  (repeat' (refine kD_intro (fun _ => ?_) (fun _ => ?_)))
  all_goals (refine congrArg (fun z => some (AVal.int .i64 z, [])) ?_; unfold fewR; repeat' split)
  all_goals omega
@[go_sem] theorem e232 (l : List (List UInt8)) (name : List UInt8) (hl : l.length ≤ 9223372036854775807) : fn C 232 [] [.slice 1 (l.map strRow), .str name] = some (.bool (decide (name ∈ l)), []) := by
  rw [fn_text Tryz.func232 rfl rfl Tryz.results232 fq232.1 rfl rfl (by kernel_rfl)]
  simp -implicitDefEqProofs -dsimp +contextual (maxSteps := 9999999) (disch := first | omega | simp only [go_sem] <;> omega | refine ib ?_; kernel_rfl) only [go_sem, seval, ↓reduceIte]
  refine kFor l.length (fun i f H => f 0 = .slice 1 (l.map strRow) ∧ f 1 = .str name ∧ f 5 = .int .i64 (i : Nat) ∧ H = Heap.nil ∧ ¬ name ∈ l.take i) ?_ ?_ (by exact ⟨rfl, rfl, rfl, rfl, by simp⟩)
  · rintro i f _ hi ⟨f0, f1, f5, rfl, ha⟩ ih
    have row : (l.map strRow)[i]? = some [.str l[i]] := by rw [List.getElem?_map, List.getElem?_eq_getElem hi]; rfl
    by_cases h : l[i] = name
    · simp -implicitDefEqProofs -dsimp +contextual (maxSteps := 9999999) (disch := first | omega | simp only [go_sem] <;> omega | refine ib ?_; kernel_rfl) only [go_sem, seval, ↓reduceIte, f0, f1, f5, hi, row, h]
      rw [decide_eq_true (by rw [← h]; exact List.getElem_mem hi)]
    · simp -implicitDefEqProofs -dsimp +contextual (maxSteps := 9999999) (disch := first | omega | simp only [go_sem] <;> omega | refine ib ?_; kernel_rfl) only [go_sem, seval, ↓reduceIte, f0, f1, f5, hi, row, h]
      exact ih _ _ ⟨f0, f1, rfl, rfl, by
        rw [List.take_succ_eq_append_getElem hi, List.mem_append, List.mem_singleton]
        rintro (h2 | h2)
        · exact ha h2
        · exact h h2.symm⟩
  · rintro f _ ⟨f0, f1, f5, rfl, ha⟩
    rw [List.take_length] at ha
    simp -implicitDefEqProofs -dsimp +contextual (maxSteps := 9999999) (disch := first | omega | simp only [go_sem] <;> omega | refine ib ?_; kernel_rfl) only [go_sem, seval, ↓reduceIte, f0, f1, f5]
    rw [decide_eq_false ha]
@[go_sem] theorem e258 (l : List (List UInt8)) (name : List UInt8) (hl : l.length ≤ 9223372036854775807) : fn C 258 [] [.slice 1 (l.map strRow), .str name] = some (.int .i64 (placeG (fun s => decide (s = name)) l), []) := by
  rw [fn_text Tryz.func258 rfl rfl Tryz.results258 fq258.1 rfl rfl (by kernel_rfl)]
  simp -implicitDefEqProofs -dsimp +contextual (maxSteps := 9999999) (disch := first | omega | simp only [go_sem] <;> omega | refine ib ?_; kernel_rfl) only [go_sem, seval, ↓reduceIte]
  refine kFor l.length (fun i f H => f 0 = .slice 1 (l.map strRow) ∧ f 1 = .str name ∧ f 7 = .int .i64 (l.length : Nat) ∧ f 8 = .int .i64 (i : Nat) ∧ H = Heap.nil ∧ (l.take i).any (fun s => decide (s = name)) = false) ?_ ?_ (by exact ⟨rfl, rfl, rfl, rfl, rfl, rfl⟩)
  · rintro i f _ hi ⟨f0, f1, f7, f8, rfl, ha⟩ ih
    have row : (l.map strRow)[i]? = some [.str l[i]] := by rw [List.getElem?_map, List.getElem?_eq_getElem hi]; rfl
    by_cases h : l[i] = name
    · simp -implicitDefEqProofs -dsimp +contextual (maxSteps := 9999999) (disch := first | omega | simp only [go_sem] <;> omega | refine ib ?_; kernel_rfl) only [go_sem, seval, ↓reduceIte, f0, f1, f7, f8, hi, row, h]
      rw [placeG_at hi ha (by simp [h])]
    · have h' : ¬ name = l[i] := fun e => h e.symm
      simp -implicitDefEqProofs -dsimp +contextual (maxSteps := 9999999) (disch := first | omega | simp only [go_sem] <;> omega | refine ib ?_; kernel_rfl) only [go_sem, seval, ↓reduceIte, f0, f1, f7, f8, hi, row, h, h']
      exact ih _ _ ⟨f0, f1, f7, rfl, rfl, any_take hi ha (by simp [h])⟩
  · rintro f _ ⟨f0, f1, f7, f8, rfl, ha⟩
    simp -implicitDefEqProofs -dsimp +contextual (maxSteps := 9999999) (disch := first | omega | simp only [go_sem] <;> omega | refine ib ?_; kernel_rfl) only [go_sem, seval, ↓reduceIte, f0, f1, f7, f8]
    rw [placeG_none (any_end ha)]
@[go_sem] theorem e226 (l : List (List UInt8)) (name : List UInt8) (hl : l.length ≤ 9223372036854775807) : fn C 226 [] [.slice 1 (l.map strRow), .str name] = some (.bool (decide (name ∈ l)), []) := by
  rw [fn_text Tryz.func226 rfl rfl Tryz.results226 fq226.1 rfl rfl (by kernel_rfl)]
  rcases placeG_cases (fun s => decide (s = name)) l with ⟨i, hi, h1, _, h3⟩ | ⟨h1, h3⟩
  · simp -implicitDefEqProofs -dsimp +contextual (maxSteps := 9999999) (disch := first | omega | simp only [go_sem] <;> omega | refine ib ?_; kernel_rfl) only [go_sem, seval, ↓reduceIte, h3, Nat.not_lt_zero, Nat.zero_le]
    rw [decide_eq_true (by have := of_decide_eq_true h1; rw [← this]; exact List.getElem_mem hi)]
  · simp -implicitDefEqProofs -dsimp +contextual (maxSteps := 9999999) (disch := first | omega | simp only [go_sem] <;> omega | refine ib ?_; kernel_rfl) only [go_sem, seval, ↓reduceIte, h3]
    rw [decide_eq_false (fun hm => by have := any_mem h1 name hm; simp at this)]
theorem rSet (n : Nd) (i : Nat) (j : Jb) (hi : i < n.jobs.length) (h : n.mid 1000000) : fn C 233 [] [(aNd n), .int .i64 (i : Nat), .agg [.int .i64 j.id, .int .i64 j.kind, .int .i64 j.phase, .int .i64 j.hops, .int .i64 j.tries, .int .i64 j.til, .str j.key, .str j.val, .str j.owner.name, .int .u64 (j.owner.id : Int), .int .i64 j.owner.fr, .int .i64 j.owner.un, .int .i64 j.owner.ix, .str j.owner.tag, .str j.item.k, .str j.item.v, .int .i64 j.item.n, .bool j.item.g, .int .i64 j.acks, .int .i64 j.waits, .slice 1 (j.asked.map strRow), .str j.back.name, .int .u64 (j.back.id : Int), .int .i64 j.back.fr, .int .i64 j.back.un, .int .i64 j.back.ix, .str j.back.tag, .int .i64 j.backRid, .int .i64 j.backJob]] = some (.agg ({ n with jobs := n.jobs.set i j } : Nd).cs, []) := by
  have jl := h.jl
  have st : (n.jobs.map Jb.cs).set i [.int .i64 j.id, .int .i64 j.kind, .int .i64 j.phase, .int .i64 j.hops, .int .i64 j.tries, .int .i64 j.til, .str j.key, .str j.val, .str j.owner.name, .int .u64 (j.owner.id : Int), .int .i64 j.owner.fr, .int .i64 j.owner.un, .int .i64 j.owner.ix, .str j.owner.tag, .str j.item.k, .str j.item.v, .int .i64 j.item.n, .bool j.item.g, .int .i64 j.acks, .int .i64 j.waits, .slice 1 (j.asked.map strRow), .str j.back.name, .int .u64 (j.back.id : Int), .int .i64 j.back.fr, .int .i64 j.back.un, .int .i64 j.back.ix, .str j.back.tag, .int .i64 j.backRid, .int .i64 j.backJob] = (n.jobs.set i j).map Jb.cs := by rw [List.map_set]; rfl
  rw [fn_text Tryz.func233 rfl rfl Tryz.results233 fq233.1 rfl rfl (by kernel_rfl)]
  simp -implicitDefEqProofs -dsimp +contextual (maxSteps := 9999999) (disch := first | omega | simp only [go_sem] <;> omega | refine ib ?_; kernel_rfl) only [go_sem, seval, ↓reduceIte, hi, st]
theorem askR_full (id : Int) {j : Jb} (h : 2 ≤ fewR j.acks + fewR j.waits) : ∀ l, askR id l j = (j, [])
  | [] => rfl
  | p :: l => by rw [askR, if_pos h]
theorem fewR_b (n : Int) : 0 ≤ fewR n ∧ fewR n ≤ 2 := by unfold fewR; split <;> (try split) <;> omega
theorem askR_go (id : Int) (p : Pr) (l : List Pr) {j : Jb} (h : ¬ 2 ≤ fewR j.acks + fewR j.waits) (hn : ¬ p.e.name ∈ j.asked) :
    askR id (p :: l) j = ((askR id l { j with waits := fewR j.waits + 1, asked := j.asked ++ [p.e.name] }).1, copyA p.e j.item id :: (askR id l { j with waits := fewR j.waits + 1, asked := j.asked ++ [p.e.name] }).2) := by
  rw [askR, if_neg h, if_neg hn]
theorem askR_skip (id : Int) (p : Pr) (l : List Pr) {j : Jb} (h : ¬ 2 ≤ fewR j.acks + fewR j.waits) (hn : p.e.name ∈ j.asked) : askR id (p :: l) j = askR id l j := by
  rw [askR, if_neg h, if_pos hn]
def finRes (n : Nd) (i : Nat) (q : Jb × List Ac) : Option Res := some (.tup [.agg (moreFin n i q).1.cs, .slice 20 ((moreFin n i q).2.map Ac.cs)], [])
def askFin (n : Nd) (id : Int) (i : Nat) (l : List Pr) (j : Jb) (acts : List Ac) : Option Res := finRes n i ((askR id l j).1, acts ++ (askR id l j).2)
theorem askFin_full {n : Nd} {id : Int} {i : Nat} {l l' : List Pr} {j : Jb} {acts : List Ac} (h : 2 ≤ fewR j.acks + fewR j.waits) : askFin n id i l j acts = askFin n id i l' j acts := by
  unfold askFin; rw [askR_full id h, askR_full id h]
theorem askFin_skip {n : Nd} {id : Int} {i : Nat} {p : Pr} {l : List Pr} {j : Jb} {acts : List Ac} (h : ¬ 2 ≤ fewR j.acks + fewR j.waits) (hn : p.e.name ∈ j.asked) : askFin n id i (p :: l) j acts = askFin n id i l j acts := by
  unfold askFin; rw [askR_skip id p l h hn]
theorem askFin_go {n : Nd} {id : Int} {i : Nat} {p : Pr} {l : List Pr} {j : Jb} {acts : List Ac} (h : ¬ 2 ≤ fewR j.acks + fewR j.waits) (hn : ¬ p.e.name ∈ j.asked) :
    askFin n id i (p :: l) j acts = askFin n id i l { j with waits := fewR j.waits + 1, asked := j.asked ++ [p.e.name] } (acts ++ [copyA p.e j.item id]) := by
  unfold askFin; rw [askR_go id p l h hn]; simp only; rw [← List.append_cons]
theorem pr_row (l : List Pr) (i : Nat) (h : i < l.length) : (l.map Pr.cs)[i]? = some [.str l[i].e.name, .int .u64 (l[i].e.id : Int), .int .i64 l[i].e.fr, .int .i64 l[i].e.un, .int .i64 l[i].e.ix, .str l[i].e.tag, .int .i64 l[i].since, .int .i64 l[i].under] := by
  rw [List.getElem?_map, List.getElem?_eq_getElem h]; rfl
theorem rMoreAt (n : Nd) (id : Int) (i : Nat) (hi : i < n.jobs.length) (hid : findR n.jobs id = (i : Int)) (hk : n.jobs[i].kind = 4) (h : n.mid 100000) : fn C 180 [] [(aNd n), .int .i64 id] = askFin n id i n.list n.jobs[i] [] := by
  have jl := h.jl; have ll := h.ll
  have row := jb_row n.jobs i hi
  have al := h.ja _ (List.getElem_mem hi)
  rw [fn_textN Tryz.func180 rfl rfl Tryz.results180 fq180.1 rfl rfl (by kernel_rfl)]
  simp -implicitDefEqProofs -dsimp +contextual (maxSteps := 9999999) (disch := first | omega | simp only [go_sem] <;> omega | refine ib ?_; kernel_rfl) only [go_sem, seval, ↓reduceIte, hid, row, hk, Nat.not_lt_zero]
  refine (kLoop_rec (fun (a : Nat × Jb × List Ac) f H => a.1 ≤ n.list.length ∧ a.2.1.kind = 4 ∧ a.2.1.asked.length ≤ 100000 + a.1 ∧ a.2.2.length ≤ a.1 ∧ f 1 = .int .i64 id ∧ f 2 = .ptr 102 1 0 0 ∧ f 4 = .ptr 104 1 0 0 ∧ f 6 = .int .i64 (i : Nat) ∧ f 7 = .ptr 107 1 0 0 ∧ f 9 = .int .i64 (a.1 : Nat) ∧
    H 102 = ⟨1, .live, 22, [[.str n.me.name, .int .u64 (n.me.id : Int), .int .i64 n.me.fr, .int .i64 n.me.un, .int .i64 n.me.ix, .str n.me.tag, .int .i64 n.clock, .str n.psk, .int .i64 n.gateI, .str n.gateK, .bool n.ready, .slice 8 (n.pred.map Pr.cs), .slice 8 (n.list.map Pr.cs), .slice 9 (n.fingers.map Fg.cs), .slice 20 (n.sessions.map Se.cs), .slice 23 (n.pends.map Pd.cs), .slice 4 (n.items.map It.cs), .slice 29 (n.jobs.map Jb.cs), .int .i64 n.rid, .int .i64 n.jobId, .slice 1 (n.draws.map u64Row), .slice 8 (n.results.map Rs.cs)]], false⟩ ∧ (H 104).gen = 1 ∧ (H 104).mode = .live ∧ (∃ r : List AVal, r.length = 22 ∧ (H 104).rows = [r]) ∧
    (∃ g, f 8 = .osl 108 g 0 a.2.2.length ∧ H 108 = ⟨g, .live, 20, a.2.2.map Ac.cs, false⟩) ∧ (∃ g, H 107 = ⟨1, .live, 29, [[.int .i64 a.2.1.id, .int .i64 4, .int .i64 a.2.1.phase, .int .i64 a.2.1.hops, .int .i64 a.2.1.tries, .int .i64 a.2.1.til, .str a.2.1.key, .str a.2.1.val, .str a.2.1.owner.name, .int .u64 (a.2.1.owner.id : Int), .int .i64 a.2.1.owner.fr, .int .i64 a.2.1.owner.un, .int .i64 a.2.1.owner.ix, .str a.2.1.owner.tag, .str a.2.1.item.k, .str a.2.1.item.v, .int .i64 a.2.1.item.n, .bool a.2.1.item.g, .int .i64 a.2.1.acks, .int .i64 a.2.1.waits, .osl 133 g 0 a.2.1.asked.length, .str a.2.1.back.name, .int .u64 (a.2.1.back.id : Int), .int .i64 a.2.1.back.fr, .int .i64 a.2.1.back.un, .int .i64 a.2.1.back.ix, .str a.2.1.back.tag, .int .i64 a.2.1.backRid, .int .i64 a.2.1.backJob]], false⟩ ∧ H 133 = ⟨g, .live, 1, a.2.1.asked.map strRow, false⟩))
    (fun a => n.list.length - a.1) (fun a => askFin n id i (n.list.drop a.1) a.2.1 a.2.2) ?_ (0, n.jobs[i], []) _ _ (by exact ⟨Nat.zero_le _, hk, by omega, Nat.le_refl _, rfl, rfl, rfl, rfl, rfl, rfl, rfl, rfl, rfl, ⟨_, rfl, rfl⟩, ⟨1, rfl, rfl⟩, ⟨2, rfl, rfl⟩⟩)).trans (by rw [List.drop_zero])
  rintro ⟨k, j, acts⟩ f H ⟨hk2, kd, hal, hac, f1, f2, f4, f6, f7, f9, H1, H2, H2m, ⟨r, hr, H2r⟩, ⟨g, f8, H3⟩, ⟨g2, H4, H5⟩⟩ ih
  try simp only at hk2 kd hal hac f8 f9 H3 H4 H5 ih ⊢
  by_cases hl : k < n.list.length
  · have prow := pr_row n.list k hl
    rw [List.drop_eq_getElem_cons hl]
    have b1 := fewR_b j.acks
    have b2 := fewR_b j.waits
    by_cases hfu : 2 ≤ fewR j.acks + fewR j.waits
    · rw [askFin_full (l' := n.list.drop (k + 1)) hfu]
      have ih' := ih (k + 1, j, acts)
      try simp only at ih'
      clear ih
      generalize askFin n id i _ j acts = R at ih' ⊢
      simp -implicitDefEqProofs -dsimp +contextual (maxSteps := 9999999) (disch := first | omega | simp only [go_sem] <;> omega | refine ib ?_; kernel_rfl) only [go_sem, seval, ↓reduceIte, f1, f2, f4, f6, f7, f8, f9, H1, H3, H4, H5, hl, prow, hfu]
      exact ih' _ _ (by exact ⟨hl, kd, by omega, by omega, f1, f2, f4, f6, f7, rfl, H1, H2, H2m, ⟨r, hr, H2r⟩, ⟨g, f8, H3⟩, ⟨g2, H4, H5⟩⟩) (by omega)
    · by_cases hm : n.list[k].e.name ∈ j.asked
      · rw [askFin_skip hfu hm]
        have nm := e232 j.asked n.list[k].e.name (by omega)
        rw [decide_eq_true hm] at nm
        have ih' := ih (k + 1, j, acts)
        try simp only at ih'
        clear ih
        generalize askFin n id i _ j acts = R at ih' ⊢
        simp -implicitDefEqProofs -dsimp +contextual (maxSteps := 9999999) (disch := first | omega | simp only [go_sem] <;> omega | refine ib ?_; kernel_rfl) only [go_sem, seval, ↓reduceIte, f1, f2, f4, f6, f7, f8, f9, H1, H3, H4, H5, hl, prow, hfu, nm, hal]
        exact ih' _ _ (by exact ⟨hl, kd, by omega, by omega, f1, f2, f4, f6, f7, rfl, H1, H2, H2m, ⟨r, hr, H2r⟩, ⟨g, f8, H3⟩, ⟨g2, H4, H5⟩⟩) (by omega)
      · rw [askFin_go hfu hm]
        have nm := e232 j.asked n.list[k].e.name (by omega)
        rw [decide_eq_false hm] at nm
        have ih' := ih (k + 1, { j with waits := fewR j.waits + 1, asked := j.asked ++ [n.list[k].e.name] }, acts ++ [copyA n.list[k].e j.item id])
        try simp only at ih'
        clear ih
        generalize askFin n id i _ _ _ = R at ih' ⊢
        simp -implicitDefEqProofs -dsimp +contextual (maxSteps := 9999999) (disch := first | omega | simp only [go_sem] <;> omega | refine ib ?_; kernel_rfl) only [go_sem, seval, ↓reduceIte, f1, f2, f4, f6, f7, f8, f9, H1, H3, H4, H5, hl, prow, hfu, nm, hal]
        refine ih' _ _ ?_ (by omega)
        refine ⟨hl, kd, by simp; omega, by simp; omega, f1, f2, f4, f6, f7, rfl, H1, H2, H2m, ⟨r, hr, H2r⟩, ⟨g + 1, by rw [List.length_append, List.length_singleton]; rfl, by rw [List.map_append]; rfl⟩, ⟨g2 + 1, ?_, by rw [List.map_append]; rfl⟩⟩
        simp only [List.length_append, List.length_singleton]
        rfl
  · obtain rfl : k = n.list.length := by omega
    clear ih
    rw [List.drop_length, askFin, askR, List.append_nil, finRes]
    by_cases hw : 0 < j.waits
    · have rs := rSet n i j hi (h.le (by omega))
      rw [kd] at rs
      rw [moreFin, if_pos hw]
      simp -implicitDefEqProofs -dsimp +contextual (maxSteps := 9999999) (disch := first | omega | simp only [go_sem] <;> omega | refine ib ?_; kernel_rfl) only [go_sem, seval, ↓reduceIte, f1, f2, f4, f6, f7, f8, f9, H1, H2, H2m, hr, H2r, H3, H4, H5, hw, rs]
    · have wo := e156 n.jobs i (by omega)
      have te := rTell { n with jobs := n.jobs.eraseIdx i } j.back j.backRid j.backJob j.item (!j.item.g) 0 (mid_erase i (h.le (by omega)))
      try simp only at te
      rw [moreFin, if_neg hw]
      have tl : (tellR { n with jobs := n.jobs.eraseIdx i } j.back j.backRid j.backJob j.item (!j.item.g) 0).2.length ≤ 1 := by unfold tellR; split <;> simp
      generalize tellR { n with jobs := n.jobs.eraseIdx i } j.back j.backRid j.backJob j.item (!j.item.g) 0 = t at *
      simp -implicitDefEqProofs -dsimp +contextual (maxSteps := 9999999) (disch := first | omega | simp only [go_sem] <;> omega | refine ib ?_; kernel_rfl) only [go_sem, seval, ↓reduceIte, f1, f2, f4, f6, f7, f8, f9, H1, H2, H2m, hr, H2r, H3, H4, H5, hw, wo, te]
def pairC (q : Nd × List Ac) : AVal := .tup [.agg q.1.cs, .slice 20 (q.2.map Ac.cs)]
@[go_sem] theorem pairC_eq (q : Nd × List Ac) : pairC q = .tup [.agg q.1.cs, .slice 20 (q.2.map Ac.cs)] := rfl
theorem e180 (n : Nd) (id : Int) (h : n.mid 100000) : fn C 180 [] [(aNd n), .int .i64 id] = some (pairC (moreR n id), []) := by
  have jl := h.jl
  unfold moreR
  rcases findR_cases n.jobs id with ⟨i, hi, hid, _, hf⟩ | ⟨_, hf⟩
  · by_cases hk : n.jobs[i].kind = 4
    · rw [rMoreAt n id i hi hf hk h, copR_at hi hf hk, if_pos (by omega), Int.toNat_natCast, moreAt, jobG_at hi]
      rfl
    · rw [copR_kind hi hf hk, if_neg (by omega)]
      have row := jb_row n.jobs i hi
      rw [fn_textN Tryz.func180 rfl rfl Tryz.results180 fq180.1 rfl rfl (by kernel_rfl)]
      simp -implicitDefEqProofs -dsimp +contextual (maxSteps := 9999999) (disch := first | omega | simp only [go_sem] <;> omega | refine ib ?_; kernel_rfl) only [go_sem, seval, ↓reduceIte, hf, row, hk, Nat.not_lt_zero]
  · rw [copR_none hf, if_neg (by omega)]
    rw [fn_textN Tryz.func180 rfl rfl Tryz.results180 fq180.1 rfl rfl (by kernel_rfl)]
    simp -implicitDefEqProofs -dsimp +contextual (maxSteps := 9999999) (disch := first | omega | simp only [go_sem] <;> omega | refine ib ?_; kernel_rfl) only [go_sem, seval, ↓reduceIte, hf]
theorem mid_set {n : Nd} {k : Nat} (i : Nat) (j : Jb) (h : n.mid k) (hj : j.asked.length ≤ k) : ({ n with jobs := n.jobs.set i j } : Nd).mid k :=
  ⟨h.pl, h.ll, h.fl, h.sl, h.dl, h.il, by simp; exact h.jl, h.wl, h.rl, h.pe, h.pi, fun x hx => by
    rcases List.mem_or_eq_of_mem_set hx with hx | rfl
    · exact h.ja x hx
    · exact hj, h.ik⟩
theorem setR_len (l : List It) (x : It) : (setR l x).length ≤ l.length + 1 := by
  unfold setR; split
  · simp
  · simp; omega
theorem setR_mem (l : List It) (x y : It) (h : y ∈ setR l x) : y ∈ l ∨ y = x := by
  unfold setR at h; split at h
  · exact List.mem_or_eq_of_mem_set h
  · rcases List.mem_append.1 h with h | h
    · exact .inl (List.mem_of_mem_take h)
    · rcases List.mem_cons.1 h with h | h
      · exact .inr h
      · exact .inl (List.mem_of_mem_drop h)
theorem putR_len (l : List It) (k v : List UInt8) (g : Bool) : (putR l k v g).1.length ≤ l.length + 1 := by
  have := setR_len l ⟨k, if g = true then [] else v, putV (getR l k).1.n, g⟩
  unfold putR; split
  · split
    · simp
    · split
      · simp
      · exact this
  · simp
theorem putR_key (l : List It) (k v : List UInt8) (g : Bool) (hk : k.length ≤ 9223372036854775807) (h : ∀ x ∈ l, x.k.length ≤ 9223372036854775807) : ∀ x ∈ (putR l k v g).1, x.k.length ≤ 9223372036854775807 := by
  intro y hy
  unfold putR at hy; split at hy
  · split at hy
    · exact h y hy
    · split at hy
      · exact h y hy
      · rcases setR_mem _ _ _ hy with hy | rfl
        · exact h y hy
        · exact hk
  · exact h y hy
theorem mid_begun {n : Nd} {k : Nat} (key val : List UInt8) (gone : Bool) (back : En) (rid job : Int) (hk : key.length ≤ 9223372036854775807) (h : n.mid k) : (begunR n key val gone back rid job).mid (k + 1) :=
  ⟨Nat.le_succ_of_le h.pl, Nat.le_succ_of_le h.ll, Nat.le_succ_of_le h.fl, Nat.le_succ_of_le h.sl, Nat.le_succ_of_le h.dl, Nat.le_trans (putR_len ..) (Nat.succ_le_succ h.il), by simp [begunR]; exact h.jl, Nat.le_succ_of_le h.wl, Nat.le_succ_of_le h.rl,
    fun p hp => Nat.le_succ_of_le (h.pe p hp), fun p hp => Nat.le_succ_of_le (h.pi p hp), fun j hj => by
      rcases List.mem_append.1 hj with hj | hj
      · exact Nat.le_succ_of_le (h.ja j hj)
      · rw [List.mem_singleton] at hj; rw [hj]; exact Nat.zero_le _, putR_key _ _ _ _ hk h.ik⟩
theorem rTellC (n : Nd) (back : En) (rid job : Int) (x : It) (has : Bool) (e : Int) (h : n.mid 1000000) : fn C 178 [] [(aNd n), .agg [.str back.name, .int .u64 (back.id : Int), .int .i64 back.fr, .int .i64 back.un, .int .i64 back.ix, .str back.tag], .int .i64 rid, .int .i64 job, .agg [.str x.k, .str x.v, .int .i64 x.n, .bool x.g], .bool has, .int .i64 e] = some (pairC (tellR n back rid job x has e), []) := rTell n back rid job x has e h
theorem e115 (n : Nd) (key val : List UInt8) (gone : Bool) (back : En) (rid job : Int) (hk : key.length ≤ 9223372036854775807) (hv : val.length ≤ 9223372036854775807) (hc : 0 ≤ n.clock ∧ n.clock ≤ 1099511627776) (hj0 : -9223372036854775808 ≤ n.jobId ∧ n.jobId ≤ 9223372036854775807) (h : n.mid 90000) :
    fn C 115 [] [(aNd n), .str key, .str val, .bool gone, .agg [.str back.name, .int .u64 (back.id : Int), .int .i64 back.fr, .int .i64 back.un, .int .i64 back.ix, .str back.tag], .int .i64 rid, .int .i64 job] = some (pairC (beginR n key val gone back rid job), []) := by
  have jl := h.jl
  have il := h.il
  have put := e179 n.items key val gone (by omega) h.ik hk
  unfold beginR
  by_cases h8 : 8 ≤ n.jobs.length
  · have te := rTellC n back rid job zeroIt false 41 (h.le (by omega))
    simp only [aNd, zeroIt_k, zeroIt_v, zeroIt_n, zeroIt_g] at te
    have hb : beginE n key val gone = 41 := by unfold beginE; rw [if_pos h8]
    rw [hb, if_neg (by decide)]
    generalize tellR n back rid job zeroIt false 41 = q at te ⊢
    have h7 : 7 < n.jobs.length := by omega
    rw [fn_textN Tryz.func115 rfl rfl Tryz.results115 fq115.1 rfl rfl (by kernel_rfl)]
    simp -implicitDefEqProofs -dsimp +contextual (maxSteps := 9999999) (disch := first | omega | simp only [go_sem] <;> omega | refine ib ?_; kernel_rfl) only [go_sem, seval, ↓reduceIte, h7, te]
  · have hb : beginE n key val gone = (putR n.items key val gone).2.2 := by unfold beginE; rw [if_neg h8]
    have h7 : ¬ 7 < n.jobs.length := by omega
    rw [hb]
    by_cases he : (putR n.items key val gone).2.2 = 0
    · rw [if_pos he]
      have mr := e180 (begunR n key val gone back rid job) (nextI n.jobId) ((mid_begun key val gone back rid job hk h).le (by omega))
      have hq : (putR n.items key val gone).1.length ≤ 100000 := Nat.le_trans (putR_len ..) (by omega)
      unfold begunR copyJ jbZ enZ at mr ⊢
      try simp only at mr ⊢
      generalize putR n.items key val gone = p at *
      generalize moreR _ _ = q at mr ⊢
      obtain ⟨p1, p2, p3⟩ := p
      try simp only at he hq put mr
      subst he
      simp only [aNd, List.map_append, List.map_cons, List.map_nil, Jb.cs_eq, zeroIt_k, zeroIt_v, zeroIt_n, zeroIt_g, Int.cast_ofNat_Int] at mr
      by_cases g1 : n.jobId < 0
      · have hn : nextI n.jobId = 1 := by unfold nextI; rw [if_pos (.inl g1)]
        rw [hn] at mr
        rw [fn_textN Tryz.func115 rfl rfl Tryz.results115 fq115.1 rfl rfl (by kernel_rfl)]
        simp -implicitDefEqProofs -dsimp +contextual (maxSteps := 9999999) (disch := first | omega | simp only [go_sem] <;> omega | refine ib ?_; kernel_rfl) only [go_sem, seval, ↓reduceIte, h7, put, g1, mr]
      · by_cases g2 : 1073741824 ≤ n.jobId
        · have hn : nextI n.jobId = 1 := by unfold nextI; rw [if_pos (.inr g2)]
          rw [hn] at mr
          rw [fn_textN Tryz.func115 rfl rfl Tryz.results115 fq115.1 rfl rfl (by kernel_rfl)]
          simp -implicitDefEqProofs -dsimp +contextual (maxSteps := 9999999) (disch := first | omega | simp only [go_sem] <;> omega | refine ib ?_; kernel_rfl) only [go_sem, seval, ↓reduceIte, h7, put, g1, g2, mr]
        · have hn : nextI n.jobId = n.jobId + 1 := by unfold nextI; rw [if_neg (by omega)]
          rw [hn] at mr
          rw [fn_textN Tryz.func115 rfl rfl Tryz.results115 fq115.1 rfl rfl (by kernel_rfl)]
          simp -implicitDefEqProofs -dsimp +contextual (maxSteps := 9999999) (disch := first | omega | simp only [go_sem] <;> omega | refine ib ?_; kernel_rfl) only [go_sem, seval, ↓reduceIte, h7, put, g1, g2, mr]
    · rw [if_neg he]
      have te := rTellC n back rid job zeroIt false (putR n.items key val gone).2.2 (h.le (by omega))
      simp only [aNd, zeroIt_k, zeroIt_v, zeroIt_n, zeroIt_g] at te
      generalize tellR n back rid job zeroIt false _ = q at te ⊢
      generalize putR n.items key val gone = p at *
      rw [fn_textN Tryz.func115 rfl rfl Tryz.results115 fq115.1 rfl rfl (by kernel_rfl)]
      simp -implicitDefEqProofs -dsimp +contextual (maxSteps := 9999999) (disch := first | omega | simp only [go_sem] <;> omega | refine ib ?_; kernel_rfl) only [go_sem, seval, ↓reduceIte, h7, put, he, te]
end Go.Proofs.YtnpkhdjgedeppaaGreatDoor
