import Derived.Test.YtnpkhdjgedeppaaGreatDoorTOwnconcat
import Derived.Lib.ItoaLen
namespace Go.Proofs.YtnpkhdjgedeppaaGreatDoor
set_option maxHeartbeats 64000000
open Go.Am
set_option linter.unusedSimpArgs false
set_option linter.unusedVariables false
set_option maxRecDepth 100000
theorem div8 (x : UInt32) : ((x.toNat / 8 : Nat) : Int) = ((W32.shr x 3).toNat : Int) := by
  have := u32_lt x
  simp only [W32.shr, UInt32.toNat_ofNat']; omega
theorem div1024 (x : UInt32) : ((x.toNat / 1024 : Nat) : Int) = ((W32.shr x 10).toNat : Int) := by
  have := u32_lt x
  simp only [W32.shr, UInt32.toNat_ofNat']; omega
@[go_sem] theorem wRow_eq (x : UInt32) : wRow x = [.int .u32 (x.toNat : Int)] := rfl
theorem wds_zero (blk : List UInt8) : wds blk 0 = [] := rfl
@[go_sem] theorem wRow_clos (l : List UInt32) : (l.map wRow).all clos = true := by
  rw [List.all_eq_true]; intro r hr
  rw [List.mem_map] at hr
  obtain ⟨x, _, rfl⟩ := hr
  rfl
@[go_sem] theorem e271 : fn C 271 [] [] = some (.slice 1 (KS.map wRow), []) := by
  rw [fn_text Tryz.func271 rfl rfl Tryz.results271 fq271.1 rfl rfl (by kernel_rfl)]
  have h : [[AVal.int .u32 1116352408], [AVal.int .u32 1899447441], [AVal.int .u32 3049323471], [AVal.int .u32 3921009573], [AVal.int .u32 961987163], [AVal.int .u32 1508970993], [AVal.int .u32 2453635748], [AVal.int .u32 2870763221], [AVal.int .u32 3624381080], [AVal.int .u32 310598401], [AVal.int .u32 607225278], [AVal.int .u32 1426881987], [AVal.int .u32 1925078388], [AVal.int .u32 2162078206], [AVal.int .u32 2614888103], [AVal.int .u32 3248222580], [AVal.int .u32 3835390401], [AVal.int .u32 4022224774], [AVal.int .u32 264347078], [AVal.int .u32 604807628], [AVal.int .u32 770255983], [AVal.int .u32 1249150122], [AVal.int .u32 1555081692], [AVal.int .u32 1996064986], [AVal.int .u32 2554220882], [AVal.int .u32 2821834349], [AVal.int .u32 2952996808], [AVal.int .u32 3210313671], [AVal.int .u32 3336571891], [AVal.int .u32 3584528711], [AVal.int .u32 113926993], [AVal.int .u32 338241895], [AVal.int .u32 666307205], [AVal.int .u32 773529912], [AVal.int .u32 1294757372], [AVal.int .u32 1396182291], [AVal.int .u32 1695183700], [AVal.int .u32 1986661051], [AVal.int .u32 2177026350], [AVal.int .u32 2456956037], [AVal.int .u32 2730485921], [AVal.int .u32 2820302411], [AVal.int .u32 3259730800], [AVal.int .u32 3345764771], [AVal.int .u32 3516065817], [AVal.int .u32 3600352804], [AVal.int .u32 4094571909], [AVal.int .u32 275423344], [AVal.int .u32 430227734], [AVal.int .u32 506948616], [AVal.int .u32 659060556], [AVal.int .u32 883997877], [AVal.int .u32 958139571], [AVal.int .u32 1322822218], [AVal.int .u32 1537002063], [AVal.int .u32 1747873779], [AVal.int .u32 1955562222], [AVal.int .u32 2024104815], [AVal.int .u32 2227730452], [AVal.int .u32 2361852424], [AVal.int .u32 2428436474], [AVal.int .u32 2756734187], [AVal.int .u32 3204031479], [AVal.int .u32 3329325298]] = KS.map wRow := by kernel_rfl
  simp -implicitDefEqProofs -dsimp +contextual (maxSteps := 5000000) (disch := first | omega | simp only [go_sem] <;> omega | refine ib ?_; kernel_rfl) only [go_sem, Nat.reduceBEq, Int.reduceNeg, Int.reduceLT, Int.reduceLE, Int.reduceAdd, Int.reduceSub, Int.reduceToNat, Int.reduceMul, Int.reduceMod, Int.reduceTMod, Int.reduceTDiv, Int.reduceEq, Nat.reducePow, Nat.reduceDiv, Nat.reduceShiftRight, Nat.reduceMod, List.reduceReplicate, ↓reduceIte, Nat.reduceEqDiff, Nat.reduceAdd, Nat.reduceSub, Nat.reduceLeDiff, Nat.reduceLT, Nat.reduceMul, h]
theorem rows_add (u s : S8) : [[AVal.int .u32 ((s.a + u.a).toNat : Int)], [AVal.int .u32 ((s.b + u.b).toNat : Int)], [AVal.int .u32 ((s.c + u.c).toNat : Int)], [AVal.int .u32 ((s.d + u.d).toNat : Int)], [AVal.int .u32 ((s.e + u.e).toNat : Int)], [AVal.int .u32 ((s.f + u.f).toNat : Int)], [AVal.int .u32 ((s.g + u.g).toNat : Int)], [AVal.int .u32 ((s.h + u.h).toNat : Int)]] = (u.add s).l.map wRow := by
  rw [UInt32.add_comm s.a, UInt32.add_comm s.b, UInt32.add_comm s.c, UInt32.add_comm s.d, UInt32.add_comm s.e, UInt32.add_comm s.f, UInt32.add_comm s.g, UInt32.add_comm s.h]; rfl
theorem sstep_eq (u : S8) (k w : UInt32) : sstep u k w = ⟨chx u k w + chy u, u.a, u.b, u.c, u.d + chx u k w, u.e, u.f, u.g⟩ := by unfold sstep; rfl
theorem wsOf_eq (blk : List UInt8) : wsOf blk = extW 48 (wds blk 16) := rfl
theorem extW_succ (n : Nat) (l : List UInt32) : extW (n + 1) l = extW n (l ++ [nxt l]) := rfl
theorem extW_zero (l : List UInt32) : extW 0 l = l := rfl
attribute [local irreducible] wsOf KS rr wds nxt extW wd chx chy sstep S8.add
theorem numB_wd (blk : List UInt8) (t : Nat) (h : 4 * t + 4 ≤ blk.length) : numB ((blk.drop (4 * t)).take (4 * t + 4 - 4 * t)) = wd blk t := by
  rw [show 4 * t + 4 - 4 * t = 4 by omega, wd, numB]
  simp only [List.getD_eq_getElem?_getD, List.getElem?_take, List.getElem?_drop]
  simp
@[go_sem] theorem e254 (s : S8) (blk : List UInt8) (h : blk.length = 64) : fn C 254 [] [.slice 1 (s.l.map wRow), .slice 1 (blk.map byteRow)] = some (.slice 1 ((blockS s blk).l.map wRow), []) := by
  rw [fn_text Tryz.func254 rfl rfl Tryz.results254 fq254.1 rfl rfl (by kernel_rfl)]
  have hw := wsOf_len blk
  have hk := KS_len
  have hsl : s.l.map wRow = [[.int .u32 (s.a.toNat : Int)], [.int .u32 (s.b.toNat : Int)], [.int .u32 (s.c.toNat : Int)], [.int .u32 (s.d.toNat : Int)], [.int .u32 (s.e.toNat : Int)], [.int .u32 (s.f.toNat : Int)], [.int .u32 (s.g.toNat : Int)], [.int .u32 (s.h.toNat : Int)]] := rfl
  rw [hsl]
  simp -implicitDefEqProofs -dsimp +contextual (maxSteps := 5000000) (disch := first | omega | simp only [go_sem] <;> omega | refine ib ?_; kernel_rfl) only [go_sem, Nat.reduceBEq, Int.reduceNeg, Int.reduceLT, Int.reduceLE, Int.reduceAdd, Int.reduceSub, Int.reduceToNat, Int.reduceMul, Int.reduceMod, Int.reduceTMod, Int.reduceTDiv, Int.reduceEq, Nat.reducePow, Nat.reduceDiv, Nat.reduceShiftRight, Nat.reduceMod, List.reduceReplicate, ↓reduceIte, Nat.reduceEqDiff, Nat.reduceAdd, Nat.reduceSub, Nat.reduceLeDiff, Nat.reduceLT, Nat.reduceMul, h, hw]
  refine (kLoop_rec2 (fun (t : Nat) (l : List UInt32) f H => f 0 = .slice 1 [[.int .u32 (s.a.toNat : Int)], [.int .u32 (s.b.toNat : Int)], [.int .u32 (s.c.toNat : Int)], [.int .u32 (s.d.toNat : Int)], [.int .u32 (s.e.toNat : Int)], [.int .u32 (s.f.toNat : Int)], [.int .u32 (s.g.toNat : Int)], [.int .u32 (s.h.toNat : Int)]] ∧ f 1 = .slice 1 (blk.map byteRow) ∧ f 6 = .int .i64 (t : Int) ∧ ((t = 0 ∧ f 5 = .sc (.slice none 0 0) ∧ H 137 = ⟨0, .dead, 0, [], false⟩) ∨ (t ≠ 0 ∧ f 5 = .osl 137 t 0 t ∧ H 137 = ⟨t, .live, 1, l.map wRow, false⟩)) ∧ l.length = t ∧ t ≤ 64 ∧ (t ≤ 16 → l = wds blk t)) (fun t _ => 64 - t) (fun t l => some (.slice 1 (((rnd KS (if t ≤ 16 then wsOf blk else extW (64 - t) l) s).add s).l.map wRow), [])) ?_ 0 [] _ _ ⟨rfl, rfl, rfl, .inl ⟨rfl, rfl, rfl⟩, rfl, by omega, fun _ => by rw [wds]; rfl⟩)
  rintro t l f H ⟨f0, f1, f6, hc, hlen, ht, hwd⟩ ih
  by_cases hlt : t < 64
  · by_cases h16 : t < 16
    · rcases hc with ⟨rfl, f5, H137⟩ | ⟨h0, f5, H137⟩
      · simp -implicitDefEqProofs -dsimp +contextual (maxSteps := 5000000) (disch := first | omega | simp only [go_sem] <;> omega | refine ib ?_; kernel_rfl) only [go_sem, Nat.reduceBEq, Int.reduceNeg, Int.reduceLT, Int.reduceLE, Int.reduceAdd, Int.reduceSub, Int.reduceToNat, Int.reduceMul, Int.reduceMod, Int.reduceTMod, Int.reduceTDiv, Int.reduceEq, Nat.reducePow, Nat.reduceDiv, Nat.reduceShiftRight, Nat.reduceMod, List.reduceReplicate, ↓reduceIte, Nat.reduceEqDiff, Nat.reduceAdd, Nat.reduceSub, Nat.reduceLeDiff, Nat.reduceLT, Nat.reduceMul, f0, f1, f5, f6, H137, h, hlt, h16]
        have hn : numB (blk.take 4) = wd blk 0 := by simpa using numB_wd blk 0 (by omega)
        refine Eq.trans (ih 1 [wd blk 0] _ _ ⟨f0, f1, rfl, .inr ⟨by omega, by simp [upd], ?_⟩, rfl, by omega, fun _ => ?_⟩ (by omega)) ?_
        · rw [hn]; rfl
        · rw [show (1 : Nat) = 0 + 1 from rfl, wds_succ, wds_zero]; rfl
        · rw [if_pos (by decide)]
      · have hn := numB_wd blk t (by omega)
        simp -implicitDefEqProofs -dsimp +contextual (maxSteps := 5000000) (disch := first | omega | simp only [go_sem] <;> omega | refine ib ?_; kernel_rfl) only [go_sem, Nat.reduceBEq, Int.reduceNeg, Int.reduceLT, Int.reduceLE, Int.reduceAdd, Int.reduceSub, Int.reduceToNat, Int.reduceMul, Int.reduceMod, Int.reduceTMod, Int.reduceTDiv, Int.reduceEq, Nat.reducePow, Nat.reduceDiv, Nat.reduceShiftRight, Nat.reduceMod, List.reduceReplicate, ↓reduceIte, Nat.reduceEqDiff, Nat.reduceAdd, Nat.reduceSub, Nat.reduceLeDiff, Nat.reduceLT, Nat.reduceMul, f0, f1, f5, f6, H137, h, hlt, h16, hlen]
        rw [hn]
        refine Eq.trans (ih (t + 1) (l ++ [wd blk t]) _ _ ⟨f0, f1, rfl, .inr ⟨by omega, by simp [upd], ?_⟩, by simp [hlen], by omega, fun _ => ?_⟩ (by omega)) ?_
        · rw [List.map_append]; rfl
        · rw [wds_succ, hwd (by omega)]
        · rw [if_pos (by omega)]
          try rw [if_pos (by omega)]
    · rcases hc with ⟨rfl, f5, H137⟩ | ⟨h0, f5, H137⟩
      · exact absurd (by decide) h16
      · simp -implicitDefEqProofs -dsimp +contextual (maxSteps := 5000000) (disch := first | omega | simp only [go_sem] <;> omega | refine ib ?_; kernel_rfl) only [go_sem, Nat.reduceBEq, Int.reduceNeg, Int.reduceLT, Int.reduceLE, Int.reduceAdd, Int.reduceSub, Int.reduceToNat, Int.reduceMul, Int.reduceMod, Int.reduceTMod, Int.reduceTDiv, Int.reduceEq, Nat.reducePow, Nat.reduceDiv, Nat.reduceShiftRight, Nat.reduceMod, List.reduceReplicate, ↓reduceIte, Nat.reduceEqDiff, Nat.reduceAdd, Nat.reduceSub, Nat.reduceLeDiff, Nat.reduceLT, Nat.reduceMul, f0, f1, f5, f6, H137, h, hlt, h16, hlen, div8, div1024]
        have hn : l[t - 16] + l[t - 7] + (rr l[t - 15] 7 ^^^ rr l[t - 15] 18 ^^^ W32.shr l[t - 15] 3) + (rr l[t - 2] 17 ^^^ rr l[t - 2] 19 ^^^ W32.shr l[t - 2] 10) = nxt l := by
          subst hlen
          rw [nxt, getD_of _ _ _ (by omega), getD_of _ _ _ (by omega), getD_of _ _ _ (by omega), getD_of _ _ _ (by omega), sg0, sg1]
        have hF : (if t ≤ 16 then wsOf blk else extW (64 - t) l) = extW (64 - (t + 1)) (l ++ [nxt l]) := by
          rw [← extW_succ, show 64 - (t + 1) + 1 = 64 - t by omega]
          split
          · obtain rfl : t = 16 := by omega
            rw [wsOf_eq, hwd (by omega)]
          · rfl
        rw [hn, hF]
        refine Eq.trans (ih (t + 1) (l ++ [nxt l]) _ _ ⟨f0, f1, rfl, .inr ⟨by omega, by simp [upd], ?_⟩, by simp [hlen], by omega, fun _ => by omega⟩ (by omega)) ?_
        · rw [List.map_append]; rfl
        · rw [if_neg (by omega)]
  · obtain rfl : t = 64 := by omega
    rcases hc with ⟨h0, _⟩ | ⟨h0, f5, H137⟩
    · omega
    rw [if_neg (by omega), show 64 - 64 = 0 from rfl, extW_zero]
    simp -implicitDefEqProofs -dsimp +contextual (maxSteps := 5000000) (disch := first | omega | simp only [go_sem] <;> omega | refine ib ?_; kernel_rfl) only [go_sem, Nat.reduceBEq, Int.reduceNeg, Int.reduceLT, Int.reduceLE, Int.reduceAdd, Int.reduceSub, Int.reduceToNat, Int.reduceMul, Int.reduceMod, Int.reduceTMod, Int.reduceTDiv, Int.reduceEq, Nat.reducePow, Nat.reduceDiv, Nat.reduceShiftRight, Nat.reduceMod, List.reduceReplicate, ↓reduceIte, Nat.reduceEqDiff, Nat.reduceAdd, Nat.reduceSub, Nat.reduceLeDiff, Nat.reduceLT, Nat.reduceMul, f0, f1, f5, f6, H137, h, hlt, hlen, hk]
    refine (kLoop_rec2 (fun (i : Nat) (u : S8) f H => f 0 = .slice 1 [[.int .u32 (s.a.toNat : Int)], [.int .u32 (s.b.toNat : Int)], [.int .u32 (s.c.toNat : Int)], [.int .u32 (s.d.toNat : Int)], [.int .u32 (s.e.toNat : Int)], [.int .u32 (s.f.toNat : Int)], [.int .u32 (s.g.toNat : Int)], [.int .u32 (s.h.toNat : Int)]] ∧ f 5 = .osl 137 64 0 64 ∧ f 9 = .slice 1 (KS.map wRow) ∧ f 10 = .int .u32 (u.a.toNat : Int) ∧ f 11 = .int .u32 (u.b.toNat : Int) ∧ f 12 = .int .u32 (u.c.toNat : Int) ∧ f 13 = .int .u32 (u.d.toNat : Int) ∧ f 14 = .int .u32 (u.e.toNat : Int) ∧ f 15 = .int .u32 (u.f.toNat : Int) ∧ f 16 = .int .u32 (u.g.toNat : Int) ∧ f 17 = .int .u32 (u.h.toNat : Int) ∧ f 18 = .int .i64 (i : Int) ∧ H 137 = ⟨64, .live, 1, l.map wRow, false⟩ ∧ i ≤ 64) (fun i _ => 64 - i) (fun i u => some (.slice 1 (((rnd (KS.drop i) (l.drop i) u).add s).l.map wRow), [])) ?_ 0 s _ _ ⟨f0, f5, rfl, rfl, rfl, rfl, rfl, rfl, rfl, rfl, rfl, rfl, H137, by omega⟩)
    rintro i u f H ⟨f0, f5, f9, g10, g11, g12, g13, g14, g15, g16, g17, f18, H137, hi⟩ ih
    by_cases hl : i < 64
    · simp -implicitDefEqProofs -dsimp +contextual (maxSteps := 5000000) (disch := first | omega | simp only [go_sem] <;> omega | refine ib ?_; kernel_rfl) only [go_sem, Nat.reduceBEq, Int.reduceNeg, Int.reduceLT, Int.reduceLE, Int.reduceAdd, Int.reduceSub, Int.reduceToNat, Int.reduceMul, Int.reduceMod, Int.reduceTMod, Int.reduceTDiv, Int.reduceEq, Nat.reducePow, Nat.reduceDiv, Nat.reduceShiftRight, Nat.reduceMod, List.reduceReplicate, ↓reduceIte, Nat.reduceEqDiff, Nat.reduceAdd, Nat.reduceSub, Nat.reduceLeDiff, Nat.reduceLT, Nat.reduceMul, f0, f5, f9, g10, g11, g12, g13, g14, g15, g16, g17, f18, H137, hl, hlen, hk]
      have c1 := chx_eq u (KS[i]'(by rw [hk]; exact hl)) (l[i]'(by rw [hlen]; exact hl))
      have c2 := chy_eq u
      have c3 := rnd_drop KS l i (by rw [hk]; exact hl) (by rw [hlen]; exact hl) u
      rw [sstep_eq] at c3
      rw [c1, c2, c3]
      refine ih (i + 1) _ _ _ ?_ (by omega)
      exact ⟨f0, f5, f9, rfl, rfl, rfl, rfl, rfl, rfl, rfl, rfl, rfl, H137, by omega⟩
    · simp -implicitDefEqProofs -dsimp +contextual (maxSteps := 5000000) (disch := first | omega | simp only [go_sem] <;> omega | refine ib ?_; kernel_rfl) only [go_sem, Nat.reduceBEq, Int.reduceNeg, Int.reduceLT, Int.reduceLE, Int.reduceAdd, Int.reduceSub, Int.reduceToNat, Int.reduceMul, Int.reduceMod, Int.reduceTMod, Int.reduceTDiv, Int.reduceEq, Nat.reducePow, Nat.reduceDiv, Nat.reduceShiftRight, Nat.reduceMod, List.reduceReplicate, ↓reduceIte, Nat.reduceEqDiff, Nat.reduceAdd, Nat.reduceSub, Nat.reduceLeDiff, Nat.reduceLT, Nat.reduceMul, f0, f5, f9, g10, g11, g12, g13, g14, g15, g16, g17, f18, H137, hl, hlen, hk]
      obtain rfl : i = 64 := by omega
      rw [rnd_nil]
      exact congrArg (fun x => some (AVal.slice 1 x, ([] : List AVal))) (rows_add u s)
end Go.Proofs.YtnpkhdjgedeppaaGreatDoor
namespace Go.Proofs.YtnpkhdjgedeppaaGreatDoor
set_option maxHeartbeats 64000000
open Go.Am
set_option linter.unusedSimpArgs false
set_option linter.unusedVariables false
set_option maxRecDepth 100000
def padD (n : Nat) : List UInt8 := 128 :: (List.replicate ((119 - n % 64) % 64) 0 ++ beN 8 (n * 8))
@[go_sem] theorem e263 (n : Nat) (h : n ≤ 1000000000000) : fn C 263 [] [.int .i64 (n : Int)] = some (.slice 1 ((padD n).map byteRow), []) := by
  rw [fn_text Tryz.func263 rfl rfl Tryz.results263 fq263.1 rfl rfl (by kernel_rfl)]
  have h119 : (119 : Int) - ((n % 64 : Nat) : Int) = ((119 - n % 64 : Nat) : Int) := by omega
  simp -implicitDefEqProofs -dsimp +contextual (maxSteps := 5000000) (disch := first | omega | simp only [go_sem] <;> omega | refine ib ?_; kernel_rfl) only [go_sem, Nat.reduceBEq, Int.reduceNeg, Int.reduceLT, Int.reduceLE, Int.reduceAdd, Int.reduceSub, Int.reduceToNat, Int.reduceMul, Int.reduceMod, Int.reduceTMod, Int.reduceTDiv, Int.reduceEq, Nat.reducePow, Nat.reduceDiv, Nat.reduceShiftRight, Nat.reduceMod, List.reduceReplicate, ↓reduceIte, Nat.reduceEqDiff, Nat.reduceAdd, Nat.reduceSub, Nat.reduceLeDiff, Nat.reduceLT, Nat.reduceMul, h119, kLoop_eq, Nat.not_lt_zero]
  have b1 : ((n * 8 / 72057594037927936 : Nat) : Int) = ((UInt8.ofNat (n * 8 / 72057594037927936)).toNat : Int) := by simp only [UInt8.toNat_ofNat']; omega
  have b2 : ((n * 8 / 281474976710656 : Nat) : Int) = ((UInt8.ofNat (n * 8 / 281474976710656)).toNat : Int) := by simp only [UInt8.toNat_ofNat']; omega
  have b3 : ((n * 8 / 1099511627776 : Nat) : Int) = ((UInt8.ofNat (n * 8 / 1099511627776)).toNat : Int) := by simp only [UInt8.toNat_ofNat']; omega
  rw [b1, b2, b3, u8_wrap, u8_wrap, u8_wrap, u8_wrap, u8_wrap]
  simp only [padD, beN, show List.range 8 = [0, 1, 2, 3, 4, 5, 6, 7] from rfl, List.map_cons, List.map_nil, List.map_append, List.append_assoc, List.cons_append, List.nil_append, List.append_nil]
  rfl
@[go_sem] theorem e252 (n : Nat) (h : n ≤ 1000000000000) : fn C 252 [] [.int .i64 (n : Int)] = some (.slice 1 ((padD n).map byteRow), []) := by
  rw [fn_text Tryz.func252 rfl rfl Tryz.results252 fq252.1 rfl rfl (by kernel_rfl)]
  simp -implicitDefEqProofs -dsimp +contextual (maxSteps := 5000000) (disch := first | omega | simp only [go_sem] <;> omega | refine ib ?_; kernel_rfl) only [go_sem, Nat.reduceBEq, Int.reduceNeg, Int.reduceLT, Int.reduceLE, Int.reduceAdd, Int.reduceSub, Int.reduceToNat, Int.reduceMul, Int.reduceMod, Int.reduceTMod, Int.reduceTDiv, Int.reduceEq, Nat.reducePow, Nat.reduceDiv, Nat.reduceShiftRight, Nat.reduceMod, List.reduceReplicate, ↓reduceIte, Nat.reduceEqDiff, Nat.reduceAdd, Nat.reduceSub, Nat.reduceLeDiff, Nat.reduceLT, Nat.reduceMul, Nat.not_lt_zero]
  obtain ⟨Z, hZ⟩ : ∃ Z, Z = (119 - n % 64) % 64 := ⟨_, rfl⟩
  refine (kLoop_rec (fun (k : Nat) f H => f 0 = .int .i64 (n : Int) ∧ f 3 = .osl 108 (k + 1) 0 (k + 1) ∧ H 108 = ⟨k + 1, .live, 1, (128 :: List.replicate k (0 : UInt8)).map byteRow, false⟩ ∧ k ≤ Z) (fun k => Z - k) (fun _ => some (.slice 1 ((padD n).map byteRow), [])) ?_ 0 _ _ ⟨rfl, rfl, rfl, by omega⟩)
  rintro k f H ⟨f0, f3, H8, hk⟩ ih
  by_cases hl : (n % 64 + (k + 1) + 8) % 64 = 0
  · obtain rfl : k = Z := by omega
    simp -implicitDefEqProofs -dsimp +contextual (maxSteps := 5000000) (disch := first | omega | simp only [go_sem] <;> omega | refine ib ?_; kernel_rfl) only [go_sem, Nat.reduceBEq, Int.reduceNeg, Int.reduceLT, Int.reduceLE, Int.reduceAdd, Int.reduceSub, Int.reduceToNat, Int.reduceMul, Int.reduceMod, Int.reduceTMod, Int.reduceTDiv, Int.reduceEq, Nat.reducePow, Nat.reduceDiv, Nat.reduceShiftRight, Nat.reduceMod, List.reduceReplicate, ↓reduceIte, Nat.reduceEqDiff, Nat.reduceAdd, Nat.reduceSub, Nat.reduceLeDiff, Nat.reduceLT, Nat.reduceMul, f0, f3, H8, hl, kLoop_eq]
    have hm : ∀ m : Nat, ((m % 256 : Nat) : Int) = ((UInt8.ofNat m).toNat : Int) := fun m => by simp [UInt8.toNat_ofNat']
    rw [hm, hm, hm, hm, hm, hm, hm, hm, hZ]
    simp only [padD, beN, show List.range 8 = [0, 1, 2, 3, 4, 5, 6, 7] from rfl, List.map_cons, List.map_nil, List.map_append, List.append_assoc, List.cons_append, List.nil_append, List.append_nil]
    rfl
  · simp -implicitDefEqProofs -dsimp +contextual (maxSteps := 5000000) (disch := first | omega | simp only [go_sem] <;> omega | refine ib ?_; kernel_rfl) only [go_sem, Nat.reduceBEq, Int.reduceNeg, Int.reduceLT, Int.reduceLE, Int.reduceAdd, Int.reduceSub, Int.reduceToNat, Int.reduceMul, Int.reduceMod, Int.reduceTMod, Int.reduceTDiv, Int.reduceEq, Nat.reducePow, Nat.reduceDiv, Nat.reduceShiftRight, Nat.reduceMod, List.reduceReplicate, ↓reduceIte, Nat.reduceEqDiff, Nat.reduceAdd, Nat.reduceSub, Nat.reduceLeDiff, Nat.reduceLT, Nat.reduceMul, f0, f3, H8, hl]
    refine ih (k + 1) _ _ ⟨f0, rfl, ?_, by omega⟩ (by omega)
    rw [List.replicate_succ', List.map_cons, List.map_append]
    rfl
end Go.Proofs.YtnpkhdjgedeppaaGreatDoor
namespace Go.Proofs.YtnpkhdjgedeppaaGreatDoor
set_option maxHeartbeats 64000000
open Go.Am
set_option linter.unusedSimpArgs false
set_option linter.unusedVariables false
set_option maxRecDepth 100000
def H0 : S8 := ⟨1779033703, 3144134277, 1013904242, 2773480762, 1359893119, 2600822924, 528734635, 1541459225⟩
theorem H0_w : [AVal.int .u32 1779033703, .int .u32 3144134277, .int .u32 1013904242, .int .u32 2773480762, .int .u32 1359893119, .int .u32 2600822924, .int .u32 528734635, .int .u32 1541459225] = H0.l.map w32 := by kernel_rfl
theorem H0_r : [[AVal.int .u32 1779033703], [.int .u32 3144134277], [.int .u32 1013904242], [.int .u32 2773480762], [.int .u32 1359893119], [.int .u32 2600822924], [.int .u32 528734635], [.int .u32 1541459225]] = H0.l.map wRow := by kernel_rfl
@[go_sem] theorem S8_len (s : S8) : s.l.length = 8 := rfl
def stS (all : List UInt8) : Nat → S8
  | 0 => H0
  | i + 1 => blockS (stS all i) ((all.drop (64 * i)).take 64)
def be8 (x : UInt32) : List UInt8 := [(W32.shr x 24).toUInt8, (W32.shr x 16).toUInt8, (W32.shr x 8).toUInt8, x.toUInt8]
def outS (s : S8) : List UInt8 := s.l.flatMap be8
def allB (b : List UInt8) : List UInt8 := b ++ padD b.length
def sumB (b : List UInt8) : List UInt8 := outS (stS (allB b) ((allB b).length / 64))
theorem padD_len (n : Nat) : (padD n).length = (119 - n % 64) % 64 + 9 := by simp [padD, beN_len]
theorem allB_len (b : List UInt8) : (allB b).length = b.length + ((119 - b.length % 64) % 64 + 9) := by rw [allB, List.length_append, padD_len]
theorem allB_mod (b : List UInt8) : (allB b).length % 64 = 0 := by rw [allB_len]; omega
@[go_sem] theorem e264 : fn C 264 [] [] = some (.agg (H0.l.map w32), []) := by
  rw [fn_text Tryz.func264 rfl rfl Tryz.results264 fq264.1 rfl rfl (by kernel_rfl)]
  simp -implicitDefEqProofs -dsimp +contextual (maxSteps := 5000000) (disch := first | omega | simp only [go_sem] <;> omega | refine ib ?_; kernel_rfl) only [go_sem, Nat.reduceBEq, Int.reduceNeg, Int.reduceLT, Int.reduceLE, Int.reduceAdd, Int.reduceSub, Int.reduceToNat, Int.reduceMul, Int.reduceMod, Int.reduceTMod, Int.reduceTDiv, Int.reduceEq, Nat.reducePow, Nat.reduceDiv, Nat.reduceShiftRight, Nat.reduceMod, List.reduceReplicate, ↓reduceIte, Nat.reduceEqDiff, Nat.reduceAdd, Nat.reduceSub, Nat.reduceLeDiff, Nat.reduceLT, Nat.reduceMul, H0_w]
@[go_sem] theorem e253 : fn C 253 [] [] = some (.slice 1 (H0.l.map wRow), []) := by
  rw [fn_text Tryz.func253 rfl rfl Tryz.results253 fq253.1 rfl rfl (by kernel_rfl)]
  simp -implicitDefEqProofs -dsimp +contextual (maxSteps := 5000000) (disch := first | omega | simp only [go_sem] <;> omega | refine ib ?_; kernel_rfl) only [go_sem, Nat.reduceBEq, Int.reduceNeg, Int.reduceLT, Int.reduceLE, Int.reduceAdd, Int.reduceSub, Int.reduceToNat, Int.reduceMul, Int.reduceMod, Int.reduceTMod, Int.reduceTDiv, Int.reduceEq, Nat.reducePow, Nat.reduceDiv, Nat.reduceShiftRight, Nat.reduceMod, List.reduceReplicate, ↓reduceIte, Nat.reduceEqDiff, Nat.reduceAdd, Nat.reduceSub, Nat.reduceLeDiff, Nat.reduceLT, Nat.reduceMul, H0_r]
attribute [local irreducible] blockS padD
@[go_sem] theorem e239 (b : List UInt8) (h : b.length ≤ 1000000) : fn C 239 [] [.slice 1 (b.map byteRow)] = some (.slice 1 ((sumB b).map byteRow), []) := by
  rw [fn_text Tryz.func239 rfl rfl Tryz.results239 fq239.1 rfl rfl (by kernel_rfl)]
  have hp := padD_len b.length
  simp -implicitDefEqProofs -dsimp +contextual (maxSteps := 5000000) (disch := first | omega | simp only [go_sem] <;> omega | refine ib ?_; kernel_rfl) only [go_sem, Nat.reduceBEq, Int.reduceNeg, Int.reduceLT, Int.reduceLE, Int.reduceAdd, Int.reduceSub, Int.reduceToNat, Int.reduceMul, Int.reduceMod, Int.reduceTMod, Int.reduceTDiv, Int.reduceEq, Nat.reducePow, Nat.reduceDiv, Nat.reduceShiftRight, Nat.reduceMod, List.reduceReplicate, ↓reduceIte, Nat.reduceEqDiff, Nat.reduceAdd, Nat.reduceSub, Nat.reduceLeDiff, Nat.reduceLT, Nat.reduceMul, h, hp]
  have hmod := allB_mod b
  have hAl := allB_len b
  rw [show b ++ padD b.length = allB b from rfl, sumB]
  generalize hA : allB b = A at *
  have hAm : A.length ≤ 1001000 := by omega
  obtain ⟨m, hm⟩ : ∃ m, A.length = 64 * m := ⟨A.length / 64, by omega⟩
  rw [show A.length / 64 = m by omega]
  refine (kLoop_rec (fun (i : Nat) f H => f 3 = .slice 1 (A.map byteRow) ∧ f 4 = .ptr 104 1 0 0 ∧ f 5 = .int .i64 ((64 * i : Nat) : Int) ∧ H 104 = ⟨1, .live, 8, [(stS A i).l.map w32], false⟩ ∧ (H 148).gen = 0 ∧ i ≤ m) (fun i => m - i) (fun _ => some (.slice 1 ((outS (stS A m)).map byteRow), [])) ?_ 0 _ _ ⟨rfl, rfl, rfl, rfl, rfl, by omega⟩)
  rintro i f H ⟨f3, f4, f5, H4, g, hi⟩ ih
  by_cases hl : 64 * i + 64 ≤ A.length
  · simp -implicitDefEqProofs -dsimp +contextual (maxSteps := 5000000) (disch := first | omega | simp only [go_sem] <;> omega | refine ib ?_; kernel_rfl) only [go_sem, Nat.reduceBEq, Int.reduceNeg, Int.reduceLT, Int.reduceLE, Int.reduceAdd, Int.reduceSub, Int.reduceToNat, Int.reduceMul, Int.reduceMod, Int.reduceTMod, Int.reduceTDiv, Int.reduceEq, Nat.reducePow, Nat.reduceDiv, Nat.reduceShiftRight, Nat.reduceMod, List.reduceReplicate, ↓reduceIte, Nat.reduceEqDiff, Nat.reduceAdd, Nat.reduceSub, Nat.reduceLeDiff, Nat.reduceLT, Nat.reduceMul, f3, f4, f5, H4, g, hl]
    refine ih (i + 1) _ _ ⟨f3, f4, by simp only [upd, if_true]; congr 1, ?_, g, by omega⟩ (by omega)
    rw [stS, show 64 * i + 64 - 64 * i = 64 by omega]
    rfl
  · obtain rfl : i = m := by omega
    simp -implicitDefEqProofs -dsimp +contextual (maxSteps := 5000000) (disch := first | omega | simp only [go_sem] <;> omega | refine ib ?_; kernel_rfl) only [go_sem, Nat.reduceBEq, Int.reduceNeg, Int.reduceLT, Int.reduceLE, Int.reduceAdd, Int.reduceSub, Int.reduceToNat, Int.reduceMul, Int.reduceMod, Int.reduceTMod, Int.reduceTDiv, Int.reduceEq, Nat.reducePow, Nat.reduceDiv, Nat.reduceShiftRight, Nat.reduceMod, List.reduceReplicate, ↓reduceIte, Nat.reduceEqDiff, Nat.reduceAdd, Nat.reduceSub, Nat.reduceLeDiff, Nat.reduceLT, Nat.reduceMul, f3, f4, f5, H4, g, hl]
    generalize stS A i = s
    have hsl : s.l.map w32 = [.int .u32 (s.a.toNat : Int), .int .u32 (s.b.toNat : Int), .int .u32 (s.c.toNat : Int), .int .u32 (s.d.toNat : Int), .int .u32 (s.e.toNat : Int), .int .u32 (s.f.toNat : Int), .int .u32 (s.g.toNat : Int), .int .u32 (s.h.toNat : Int)] := rfl
    rw [hsl]
    simp -implicitDefEqProofs -dsimp +contextual (maxSteps := 5000000) (disch := first | omega | simp only [go_sem] <;> omega | refine ib ?_; kernel_rfl) only [go_sem, Nat.reduceBEq, Int.reduceNeg, Int.reduceLT, Int.reduceLE, Int.reduceAdd, Int.reduceSub, Int.reduceToNat, Int.reduceMul, Int.reduceMod, Int.reduceTMod, Int.reduceTDiv, Int.reduceEq, Nat.reducePow, Nat.reduceDiv, Nat.reduceShiftRight, Nat.reduceMod, List.reduceReplicate, ↓reduceIte, Nat.reduceEqDiff, Nat.reduceAdd, Nat.reduceSub, Nat.reduceLeDiff, Nat.reduceLT, Nat.reduceMul, kLoop_eq, f3, H4, g]
    rfl
@[go_sem] theorem e217 (b : List UInt8) (h : b.length ≤ 1000000) : fn C 217 [] [.slice 1 (b.map byteRow)] = some (.usl 1 ((sumB b).map byteRow), []) := by
  rw [fn_text Tryz.func217 rfl rfl Tryz.results217 fq217.1 rfl rfl (by kernel_rfl)]
  have hp := padD_len b.length
  simp -implicitDefEqProofs -dsimp +contextual (maxSteps := 5000000) (disch := first | omega | simp only [go_sem] <;> omega | refine ib ?_; kernel_rfl) only [go_sem, Nat.reduceBEq, Int.reduceNeg, Int.reduceLT, Int.reduceLE, Int.reduceAdd, Int.reduceSub, Int.reduceToNat, Int.reduceMul, Int.reduceMod, Int.reduceTMod, Int.reduceTDiv, Int.reduceEq, Nat.reducePow, Nat.reduceDiv, Nat.reduceShiftRight, Nat.reduceMod, List.reduceReplicate, ↓reduceIte, Nat.reduceEqDiff, Nat.reduceAdd, Nat.reduceSub, Nat.reduceLeDiff, Nat.reduceLT, Nat.reduceMul, h, hp]
  have hmod := allB_mod b
  have hAl := allB_len b
  rw [show b ++ padD b.length = allB b from rfl, sumB, ← hAl]
  generalize hA : allB b = A at *
  have hAm : A.length ≤ 1001000 := by omega
  obtain ⟨m, hm⟩ : ∃ m, A.length = 64 * m := ⟨A.length / 64, by omega⟩
  rw [show A.length / 64 = m by omega]
  refine (kLoop_rec (fun (i : Nat) f H => f 3 = .osl 108 3 0 A.length ∧ f 4 = .slice 1 ((stS A i).l.map wRow) ∧ f 5 = .int .i64 ((64 * i : Nat) : Int) ∧ (H 108 = ⟨3, .live, 1, A.map byteRow, false⟩ ∨ H 108 = ⟨3, .froz, 1, A.map byteRow, false⟩) ∧ (H 157).gen = 0 ∧ i ≤ m) (fun i => m - i) (fun _ => some (.usl 1 ((outS (stS A m)).map byteRow), [])) ?_ 0 _ _ ⟨rfl, rfl, rfl, .inl rfl, rfl, by omega⟩)
  rintro i f H ⟨f3, f4, f5, H8, g, hi⟩ ih
  by_cases hl : 64 * i < A.length
  · have h64 : 64 * i + 64 ≤ A.length := by omega
    rcases H8 with H8 | H8
    · simp -implicitDefEqProofs -dsimp +contextual (maxSteps := 5000000) (disch := first | omega | simp only [go_sem] <;> omega | refine ib ?_; kernel_rfl) only [go_sem, Nat.reduceBEq, Int.reduceNeg, Int.reduceLT, Int.reduceLE, Int.reduceAdd, Int.reduceSub, Int.reduceToNat, Int.reduceMul, Int.reduceMod, Int.reduceTMod, Int.reduceTDiv, Int.reduceEq, Nat.reducePow, Nat.reduceDiv, Nat.reduceShiftRight, Nat.reduceMod, List.reduceReplicate, ↓reduceIte, Nat.reduceEqDiff, Nat.reduceAdd, Nat.reduceSub, Nat.reduceLeDiff, Nat.reduceLT, Nat.reduceMul, f3, f4, f5, H8, g, hl, h64]
      refine ih (i + 1) _ _ ⟨f3, ?_, by simp only [upd, if_true]; congr 1, .inr rfl, g, by omega⟩ (by omega)
      rw [stS, show 64 * i + 64 - 64 * i = 64 by omega]
      rfl
    · simp -implicitDefEqProofs -dsimp +contextual (maxSteps := 5000000) (disch := first | omega | simp only [go_sem] <;> omega | refine ib ?_; kernel_rfl) only [go_sem, Nat.reduceBEq, Int.reduceNeg, Int.reduceLT, Int.reduceLE, Int.reduceAdd, Int.reduceSub, Int.reduceToNat, Int.reduceMul, Int.reduceMod, Int.reduceTMod, Int.reduceTDiv, Int.reduceEq, Nat.reducePow, Nat.reduceDiv, Nat.reduceShiftRight, Nat.reduceMod, List.reduceReplicate, ↓reduceIte, Nat.reduceEqDiff, Nat.reduceAdd, Nat.reduceSub, Nat.reduceLeDiff, Nat.reduceLT, Nat.reduceMul, f3, f4, f5, H8, g, hl, h64]
      refine ih (i + 1) _ _ ⟨f3, ?_, by simp only [upd, if_true]; congr 1, .inr rfl, g, by omega⟩ (by omega)
      rw [stS, show 64 * i + 64 - 64 * i = 64 by omega]
      rfl
  · obtain rfl : i = m := by omega
    generalize stS A i = s at *
    have hsl : s.l.map wRow = [[.int .u32 (s.a.toNat : Int)], [.int .u32 (s.b.toNat : Int)], [.int .u32 (s.c.toNat : Int)], [.int .u32 (s.d.toNat : Int)], [.int .u32 (s.e.toNat : Int)], [.int .u32 (s.f.toNat : Int)], [.int .u32 (s.g.toNat : Int)], [.int .u32 (s.h.toNat : Int)]] := rfl
    rw [hsl] at f4
    rcases H8 with H8 | H8
    · simp -implicitDefEqProofs -dsimp +contextual (maxSteps := 5000000) (disch := first | omega | simp only [go_sem] <;> omega | refine ib ?_; kernel_rfl) only [go_sem, Nat.reduceBEq, Int.reduceNeg, Int.reduceLT, Int.reduceLE, Int.reduceAdd, Int.reduceSub, Int.reduceToNat, Int.reduceMul, Int.reduceMod, Int.reduceTMod, Int.reduceTDiv, Int.reduceEq, Nat.reducePow, Nat.reduceDiv, Nat.reduceShiftRight, Nat.reduceMod, List.reduceReplicate, ↓reduceIte, Nat.reduceEqDiff, Nat.reduceAdd, Nat.reduceSub, Nat.reduceLeDiff, Nat.reduceLT, Nat.reduceMul, f3, f4, f5, H8, g, hl, kLoop_eq]
      rfl
    · simp -implicitDefEqProofs -dsimp +contextual (maxSteps := 5000000) (disch := first | omega | simp only [go_sem] <;> omega | refine ib ?_; kernel_rfl) only [go_sem, Nat.reduceBEq, Int.reduceNeg, Int.reduceLT, Int.reduceLE, Int.reduceAdd, Int.reduceSub, Int.reduceToNat, Int.reduceMul, Int.reduceMod, Int.reduceTMod, Int.reduceTDiv, Int.reduceEq, Nat.reducePow, Nat.reduceDiv, Nat.reduceShiftRight, Nat.reduceMod, List.reduceReplicate, ↓reduceIte, Nat.reduceEqDiff, Nat.reduceAdd, Nat.reduceSub, Nat.reduceLeDiff, Nat.reduceLT, Nat.reduceMul, f3, f4, f5, H8, g, hl, kLoop_eq]
      rfl
@[go_sem] theorem sumB_len (b : List UInt8) : (sumB b).length = 32 := by rw [sumB]; rfl
end Go.Proofs.YtnpkhdjgedeppaaGreatDoor
namespace Go.Proofs.YtnpkhdjgedeppaaGreatDoor
set_option maxHeartbeats 64000000
open Go.Am
set_option linter.unusedSimpArgs false
set_option linter.unusedVariables false
set_option maxRecDepth 100000
attribute [local irreducible] sumB
def idB (b : List UInt8) : Nat := beV ((sumB b).take 8)
@[go_sem] theorem e190 (b : List UInt8) (h : b.length ≤ 1000000) : fn C 190 [] [.slice 1 (b.map byteRow)] = some (.int .u64 (idB b : Int), []) := by
  rw [fn_text Tryz.func190 rfl rfl Tryz.results190 fq190.1 rfl rfl (by kernel_rfl)]
  have hl := sumB_len b
  simp -implicitDefEqProofs -dsimp +contextual (maxSteps := 5000000) (disch := first | omega | simp only [go_sem] <;> omega | refine ib ?_; kernel_rfl) only [go_sem, Nat.reduceBEq, Int.reduceNeg, Int.reduceLT, Int.reduceLE, Int.reduceAdd, Int.reduceSub, Int.reduceToNat, Int.reduceMul, Int.reduceMod, Int.reduceTMod, Int.reduceTDiv, Int.reduceEq, Nat.reducePow, Nat.reduceDiv, Nat.reduceShiftRight, Nat.reduceMod, List.reduceReplicate, ↓reduceIte, Nat.reduceEqDiff, Nat.reduceAdd, Nat.reduceSub, Nat.reduceLeDiff, Nat.reduceLT, Nat.reduceMul, h, hl]
  generalize hm : (sumB b).take 8 = m
  have h8 : m.length = 8 := by rw [← hm, List.length_take, hl]; rfl
  rw [idB, hm]
  refine (kLoop_rec (fun (i : Nat) f H => f 3 = .int .u64 (beV (m.take i) : Int) ∧ f 8 = .slice 1 (m.map byteRow) ∧ f 9 = .int .i64 8 ∧ f 10 = .int .i64 (i : Int) ∧ i ≤ 8) (fun i => 8 - i) (fun _ => some (.int .u64 (beV m : Int), [])) ?_ 0 _ _ ⟨rfl, rfl, rfl, rfl, by omega⟩)
  rintro i f H ⟨f3, f8, f9, f10, hi⟩ ih
  by_cases hl : i < 8
  · have hb := beV_lt (m.take i)
    have h7 : beV (m.take i) < 72057594037927936 := Nat.lt_of_lt_of_le hb (by
      rw [List.length_take, Nat.min_eq_left (by omega)]
      exact Nat.le_trans (Nat.pow_le_pow_right (by decide) (show i ≤ 7 by omega)) (by decide))
    have hc := u8_lt (m[i]'(by omega))
    have ht := beV_take m i (by omega)
    simp -implicitDefEqProofs -dsimp +contextual (maxSteps := 5000000) (disch := first | omega | simp only [go_sem] <;> omega | refine ib ?_; kernel_rfl) only [go_sem, Nat.reduceBEq, Int.reduceNeg, Int.reduceLT, Int.reduceLE, Int.reduceAdd, Int.reduceSub, Int.reduceToNat, Int.reduceMul, Int.reduceMod, Int.reduceTMod, Int.reduceTDiv, Int.reduceEq, Nat.reducePow, Nat.reduceDiv, Nat.reduceShiftRight, Nat.reduceMod, List.reduceReplicate, ↓reduceIte, Nat.reduceEqDiff, Nat.reduceAdd, Nat.reduceSub, Nat.reduceLeDiff, Nat.reduceLT, Nat.reduceMul, f3, f8, f9, f10, hl, h8, u64_shl8, u64_or8, UInt8.toNat_toUInt64]
    rw [← ht]
    exact ih (i + 1) _ _ ⟨rfl, f8, f9, rfl, by omega⟩ (by omega)
  · obtain rfl : i = 8 := by omega
    rw [List.take_of_length_le (by omega)] at f3
    simp -implicitDefEqProofs -dsimp +contextual (maxSteps := 5000000) (disch := first | omega | simp only [go_sem] <;> omega | refine ib ?_; kernel_rfl) only [go_sem, Nat.reduceBEq, Int.reduceNeg, Int.reduceLT, Int.reduceLE, Int.reduceAdd, Int.reduceSub, Int.reduceToNat, Int.reduceMul, Int.reduceMod, Int.reduceTMod, Int.reduceTDiv, Int.reduceEq, Nat.reducePow, Nat.reduceDiv, Nat.reduceShiftRight, Nat.reduceMod, List.reduceReplicate, ↓reduceIte, Nat.reduceEqDiff, Nat.reduceAdd, Nat.reduceSub, Nat.reduceLeDiff, Nat.reduceLT, Nat.reduceMul, f3, f8, f9, f10, hl, h8]
theorem num_be (l : List UInt8) (h : 8 ≤ l.length) : (numB (l.take 4)).toNat * 4294967296 + (numB ((l.drop 4).take 4)).toNat = beV (l.take 8) := by
  match l, h with
  | a :: b :: c :: d :: e :: f :: g :: i :: r, _ =>
    have h1 : numB ((a :: b :: c :: d :: e :: f :: g :: i :: r).take 4) = be4 a b c d := rfl
    have h2 : numB (((a :: b :: c :: d :: e :: f :: g :: i :: r).drop 4).take 4) = be4 e f g i := rfl
    rw [h1, h2, be4_sum, be4_sum]
    simp only [beV, List.take_succ_cons, List.take_zero, List.foldl_cons, List.foldl_nil]
    omega
@[go_sem] theorem e159 (b : List UInt8) (h : b.length ≤ 1000000) : fn C 159 [] [.slice 1 (b.map byteRow)] = some (.int .u64 (idB b : Int), []) := by
  rw [fn_text Tryz.func159 rfl rfl Tryz.results159 fq159.1 rfl rfl (by kernel_rfl)]
  have hl := sumB_len b
  have hn := num_be (sumB b) (by omega)
  simp -implicitDefEqProofs -dsimp +contextual (maxSteps := 5000000) (disch := first | omega | simp only [go_sem] <;> omega | refine ib ?_; kernel_rfl) only [go_sem, Nat.reduceBEq, Int.reduceNeg, Int.reduceLT, Int.reduceLE, Int.reduceAdd, Int.reduceSub, Int.reduceToNat, Int.reduceMul, Int.reduceMod, Int.reduceTMod, Int.reduceTDiv, Int.reduceEq, Nat.reducePow, Nat.reduceDiv, Nat.reduceShiftRight, Nat.reduceMod, List.reduceReplicate, ↓reduceIte, Nat.reduceEqDiff, Nat.reduceAdd, Nat.reduceSub, Nat.reduceLeDiff, Nat.reduceLT, Nat.reduceMul, h, hl]
  have e : ((numB (List.take 4 (sumB b))).toUInt64 * UInt64.ofNat 4294967296 + (numB (List.take 4 (List.drop 4 (sumB b)))).toUInt64).toNat = idB b := by
    have h1 := u32_lt (numB (List.take 4 (sumB b)))
    have h2 := u32_lt (numB (List.take 4 (List.drop 4 (sumB b))))
    rw [idB, ← hn]
    simp only [UInt64.toNat_add, UInt64.toNat_mul, UInt32.toNat_toUInt64, UInt64.toNat_ofNat']
    omega
  rw [e]
def keyS : List UInt8 := [107, 101, 121, 32]
@[go_sem] theorem e129 (b : List UInt8) (h : b.length ≤ 10000) : fn C 129 [] [.str b] = some (.int .u64 (idB (keyS ++ b) : Int), []) := by
  rw [fn_text Tryz.func129 rfl rfl Tryz.results129 fq129.1 rfl rfl (by kernel_rfl)]
  have e : fn C 190 [] [.slice 1 ([.int .u8 (UInt8.toNat 107 : Int)] :: [.int .u8 (UInt8.toNat 101 : Int)] :: [.int .u8 (UInt8.toNat 121 : Int)] :: [.int .u8 (UInt8.toNat 32 : Int)] :: b.map byteRow)] = some (.int .u64 (idB (keyS ++ b) : Int), []) := e190 (keyS ++ b) (by simp [keyS]; omega)
  simp -implicitDefEqProofs -dsimp +contextual (maxSteps := 5000000) (disch := first | omega | simp only [go_sem] <;> omega | refine ib ?_; kernel_rfl) only [go_sem, Nat.reduceBEq, Int.reduceNeg, Int.reduceLT, Int.reduceLE, Int.reduceAdd, Int.reduceSub, Int.reduceToNat, Int.reduceMul, Int.reduceMod, Int.reduceTMod, Int.reduceTDiv, Int.reduceEq, Nat.reducePow, Nat.reduceDiv, Nat.reduceShiftRight, Nat.reduceMod, List.reduceReplicate, ↓reduceIte, Nat.reduceEqDiff, Nat.reduceAdd, Nat.reduceSub, Nat.reduceLeDiff, Nat.reduceLT, Nat.reduceMul, e]
@[go_sem] theorem e96 (b : List UInt8) (h : b.length ≤ 10000) : fn C 96 [] [.str b] = some (.int .u64 (idB (keyS ++ b) : Int), []) := by
  rw [fn_text Tryz.func96 rfl rfl Tryz.results96 fq96.1 rfl rfl (by kernel_rfl)]
  have e : fn C 159 [] [.slice 1 ([.int .u8 (UInt8.toNat 107 : Int)] :: [.int .u8 (UInt8.toNat 101 : Int)] :: [.int .u8 (UInt8.toNat 121 : Int)] :: [.int .u8 (UInt8.toNat 32 : Int)] :: b.map byteRow)] = some (.int .u64 (idB (keyS ++ b) : Int), []) := e159 (keyS ++ b) (by simp [keyS]; omega)
  simp -implicitDefEqProofs -dsimp +contextual (maxSteps := 5000000) (disch := first | omega | simp only [go_sem] <;> omega | refine ib ?_; kernel_rfl) only [go_sem, Nat.reduceBEq, Int.reduceNeg, Int.reduceLT, Int.reduceLE, Int.reduceAdd, Int.reduceSub, Int.reduceToNat, Int.reduceMul, Int.reduceMod, Int.reduceTMod, Int.reduceTDiv, Int.reduceEq, Nat.reducePow, Nat.reduceDiv, Nat.reduceShiftRight, Nat.reduceMod, List.reduceReplicate, ↓reduceIte, Nat.reduceEqDiff, Nat.reduceAdd, Nat.reduceSub, Nat.reduceLeDiff, Nat.reduceLT, Nat.reduceMul, e]
end Go.Proofs.YtnpkhdjgedeppaaGreatDoor
namespace Go.Proofs.YtnpkhdjgedeppaaGreatDoor
set_option maxHeartbeats 64000000
open Go.Am
set_option linter.unusedSimpArgs false
set_option linter.unusedVariables false
set_option maxRecDepth 100000
def distR (a b : Nat) : Nat := (b + 18446744073709551616 - a) % 18446744073709551616
@[go_sem] theorem e158 (a b : Nat) (ha : a ≤ 18446744073709551615) (hb : b ≤ 18446744073709551615) : fn C 158 [] [.int .u64 (a : Int), .int .u64 (b : Int)] = some (.int .u64 (distR a b : Int), []) := by
  rw [fn_text Tryz.func158 rfl rfl Tryz.results158 fq158.1 rfl rfl (by kernel_rfl)]
  simp -implicitDefEqProofs -dsimp +contextual (maxSteps := 9999999) (disch := first | omega | simp only [go_sem] <;> omega | refine ib ?_; kernel_rfl) only [go_sem, seval, ↓reduceIte]
  rw [show IntKind.u64.wrap ((b : Int) - a) = ((distR a b : Nat) : Int) by rw [IntKind.wrap_u64, distR]; omega]
end Go.Proofs.YtnpkhdjgedeppaaGreatDoor
namespace Go.Proofs.YtnpkhdjgedeppaaGreatDoor
set_option maxHeartbeats 64000000
open Go.Am
set_option linter.unusedSimpArgs false
set_option linter.unusedVariables false
set_option maxRecDepth 100000
attribute [local irreducible] sumB idB
def withinR (a x b : Nat) : Bool := decide (a = b) || (!decide (x = a) && decide (distR a x ≤ distR a b))
theorem idB_lt (l : List UInt8) : idB l ≤ 18446744073709551615 := by
  have h := beV_lt ((sumB l).take 8)
  have h8 : ((sumB l).take 8).length = 8 := by rw [List.length_take, sumB_len]; rfl
  rw [h8] at h
  unfold idB
  omega
def inR (a b : Nat) (x : It) : Bool := withinR a (idB (keyS ++ x.k)) b
end Go.Proofs.YtnpkhdjgedeppaaGreatDoor
namespace Go.Proofs.YtnpkhdjgedeppaaGreatDoor
set_option maxHeartbeats 64000000
open Go.Am
set_option linter.unusedSimpArgs false
set_option linter.unusedVariables false
set_option maxRecDepth 100000
@[go_sem] theorem e267 (a b : List UInt8) (h : a.length + b.length ≤ 1000000) : fn C 267 [] [.slice 1 (a.map byteRow), .slice 1 (b.map byteRow)] = some (.slice 1 ((sumB (a ++ b)).map byteRow), []) := by
  rw [fn_text Tryz.func267 rfl rfl Tryz.results267 fq267.1 rfl rfl (by kernel_rfl)]
  simp -implicitDefEqProofs -dsimp +contextual (maxSteps := 9999999) (disch := first | omega | simp only [go_sem] <;> omega | refine ib ?_; kernel_rfl) only [go_sem, seval, ↓reduceIte]
def keyB (k : List UInt8) : List UInt8 := (if 64 < k.length then sumB k else k) ++ List.replicate (64 - (if 64 < k.length then sumB k else k).length) 0
@[go_sem] theorem keyB_len (k : List UInt8) : (keyB k).length = 64 := by
  unfold keyB; split
  · simp [sumB_len]
  · simp; omega
def xorK (k : List UInt8) (y : UInt8) : List UInt8 := k.map (· ^^^ y)
@[go_sem] theorem xorK_len (k : List UInt8) (y : UInt8) : (xorK k y).length = k.length := by simp [xorK]
theorem xorK_take (k : List UInt8) (y : UInt8) (i : Nat) (h : i < k.length) : (xorK k y).take (i + 1) = (xorK k y).take i ++ [k[i] ^^^ y] := by
  rw [List.take_succ_eq_append_getElem (by rw [xorK_len]; exact h)]; simp [xorK]
def macB (k m : List UInt8) : List UInt8 := sumB (xorK (keyB k) 92 ++ sumB (xorK (keyB k) 54 ++ m))
@[go_sem] theorem macB_len (k m : List UInt8) : (macB k m).length = 32 := sumB_len _
theorem keyB_short (k : List UInt8) (h : ¬ 64 < k.length) : keyB k = k ++ List.replicate (64 - k.length) 0 := by simp [keyB, h]
theorem keyB_long (k : List UInt8) (h : 64 < k.length) : keyB k = sumB k ++ List.replicate 32 0 := by simp [keyB, h, sumB_len]
theorem turn_get (k : List UInt8) (y : UInt8) (i : Nat) (h : i < k.length) : ((xorK k y).take i ++ k.drop i)[i]'(by simp [xorK_len]; omega) = k[i] := by
  rw [List.getElem_append_right (by simp [xorK_len]; omega)]
  simp [xorK_len, show min i k.length = i by omega]
theorem turn_len (k : List UInt8) (y : UInt8) (i : Nat) : ((xorK k y).take i ++ k.drop i).length = k.length := by simp [xorK_len]; omega
theorem turn_set (k : List UInt8) (y : UInt8) (i : Nat) (h : i < k.length) : ((xorK k y).take i ++ k.drop i).set i (k[i] ^^^ y) = (xorK k y).take (i + 1) ++ k.drop (i + 1) := by
  rw [xorK_take k y i h, List.set_append_right _ _ (by simp [xorK_len]; omega)]
  simp only [List.length_take, xorK_len, show min i k.length = i by omega, Nat.sub_self]
  rw [List.drop_eq_getElem_cons h, List.set_cons_zero, List.append_assoc]; rfl
@[go_sem] theorem e281 (k : List UInt8) (h : k.length ≤ 1000000) : fn C 281 [] [.slice 1 (k.map byteRow)] = some (.usl 1 ((keyB k).map byteRow), []) := by
  rw [fn_text Tryz.func281 rfl rfl Tryz.results281 fq281.1 rfl rfl (by kernel_rfl)]
  by_cases h1 : 64 < k.length
  · simp -implicitDefEqProofs -dsimp +contextual (maxSteps := 9999999) (disch := first | omega | simp only [go_sem] <;> omega | refine ib ?_; kernel_rfl) only [go_sem, seval, ↓reduceIte, h1]
    rw [keyB_long k h1, List.map_append]; rfl
  · simp -implicitDefEqProofs -dsimp +contextual (maxSteps := 9999999) (disch := first | omega | simp only [go_sem] <;> omega | refine ib ?_; kernel_rfl) only [go_sem, seval, ↓reduceIte, h1]
    rw [keyB_short k h1, show (64 - (k.length : Int)).toNat = 64 - k.length by omega]
@[go_sem] theorem e284 (k : List UInt8) (h : k.length ≤ 1000000) : fn C 284 [] [.slice 1 (k.map byteRow)] = some (.usl 1 ((keyB k).map byteRow), []) := by
  rw [fn_text Tryz.func284 rfl rfl Tryz.results284 fq284.1 rfl rfl (by kernel_rfl)]
  have snoc : ∀ (l : List UInt8) (n : Nat), (l ++ List.replicate n 0).map byteRow ++ [[AVal.int IntKind.u8 0]] = (l ++ List.replicate (n + 1) 0).map byteRow := fun l n => by
    rw [List.replicate_succ', ← List.append_assoc, List.map_append (l₁ := l ++ List.replicate n 0)]; rfl
  by_cases h1 : 64 < k.length
  · simp -implicitDefEqProofs -dsimp +contextual (maxSteps := 9999999) (disch := first | omega | simp only [go_sem] <;> omega | refine ib ?_; kernel_rfl) only [go_sem, seval, ↓reduceIte, h1]
    refine (kLoop_rec (fun (i : Nat) f H => 32 + i ≤ 64 ∧ ∃ g, f 3 = .osl 111 g 0 (32 + i) ∧ H 111 = ⟨g, .live, 1, (sumB k ++ List.replicate i 0).map byteRow, false⟩) (fun i => 64 - i) (fun _ => some (.usl 1 ((keyB k).map byteRow), [])) ?_ 0 _ _ ⟨by omega, 1, rfl, by simp [Heap.set]⟩)
    rintro i f H ⟨hi, g, h3, hH⟩ ih
    by_cases hl : 32 + i < 64
    · simp -implicitDefEqProofs -dsimp +contextual (maxSteps := 9999999) (disch := first | omega | simp only [go_sem] <;> omega | refine ib ?_; kernel_rfl) only [go_sem, seval, ↓reduceIte, h3, hH, hl]
      exact ih (i + 1) _ _ ⟨by omega, g + 1, rfl, by rw [← snoc]; rfl⟩ (by omega)
    · simp -implicitDefEqProofs -dsimp +contextual (maxSteps := 9999999) (disch := first | omega | simp only [go_sem] <;> omega | refine ib ?_; kernel_rfl) only [go_sem, seval, ↓reduceIte, h3, hH, hl]
      rw [keyB_long k h1, show i = 32 by omega]
  · simp -implicitDefEqProofs -dsimp +contextual (maxSteps := 9999999) (disch := first | omega | simp only [go_sem] <;> omega | refine ib ?_; kernel_rfl) only [go_sem, seval, ↓reduceIte, h1]
    refine (kLoop_rec (fun (i : Nat) f H => k.length + i ≤ 64 ∧ ∃ g, f 3 = .osl 104 g 0 (k.length + i) ∧ H 104 = ⟨g, .live, 1, (k ++ List.replicate i 0).map byteRow, false⟩) (fun i => 64 - i) (fun _ => some (.usl 1 ((keyB k).map byteRow), [])) ?_ 0 _ _ ⟨by omega, 2, by simp [upd], by simp [Heap.set]⟩)
    rintro i f H ⟨hi, g, h3, hH⟩ ih
    by_cases hl : k.length + i < 64
    · simp -implicitDefEqProofs -dsimp +contextual (maxSteps := 9999999) (disch := first | omega | simp only [go_sem] <;> omega | refine ib ?_; kernel_rfl) only [go_sem, seval, ↓reduceIte, h3, hH, hl]
      exact ih (i + 1) _ _ ⟨by omega, g + 1, rfl, by rw [← snoc]; rfl⟩ (by omega)
    · simp -implicitDefEqProofs -dsimp +contextual (maxSteps := 9999999) (disch := first | omega | simp only [go_sem] <;> omega | refine ib ?_; kernel_rfl) only [go_sem, seval, ↓reduceIte, h3, hH, hl]
      rw [keyB_short k h1, show i = 64 - k.length by omega]
@[go_sem] theorem e266 (k : List UInt8) (y : UInt8) (h : k.length ≤ 1000000) : fn C 266 [] [.slice 1 (k.map byteRow), .int .u8 (y.toNat : Int)] = some (.slice 1 ((xorK (keyB k) y).map byteRow), []) := by
  rw [fn_text Tryz.func266 rfl rfl Tryz.results266 fq266.1 rfl rfl (by kernel_rfl)]
  simp -implicitDefEqProofs -dsimp +contextual (maxSteps := 9999999) (disch := first | omega | simp only [go_sem] <;> omega | refine ib ?_; kernel_rfl) only [go_sem, seval, ↓reduceIte]
  have hk := keyB_len k
  generalize keyB k = K at *
  refine (kLoop_rec (fun (i : Nat) f H => f 1 = .int .u8 (y.toNat : Int) ∧ f 5 = .osl 108 1 0 64 ∧ f 10 = .int .i64 64 ∧ f 11 = .int .i64 (i : Int) ∧ H 108 = ⟨1, .live, 1, ((xorK K y).take i ++ K.drop i).map byteRow, false⟩ ∧ i ≤ 64) (fun i => 64 - i) (fun _ => some (.slice 1 ((xorK K y).map byteRow), [])) ?_ 0 _ _ ⟨rfl, rfl, rfl, rfl, rfl, by omega⟩)
  rintro i f H ⟨h1, h5, h10, h11, hH, hi⟩ ih
  by_cases hl : i < 64
  · have hc := turn_get K y i (by omega)
    have hs := turn_set K y i (by omega)
    have hn := turn_len K y i
    obtain ⟨L, hL⟩ : ∃ L, L = (xorK K y).take i ++ K.drop i := ⟨_, rfl⟩
    simp only [← hL] at hH hc hs hn
    simp -implicitDefEqProofs -dsimp +contextual (maxSteps := 9999999) (disch := first | omega | simp only [go_sem] <;> omega | refine ib ?_; kernel_rfl) only [go_sem, seval, ↓reduceIte, h1, h5, h10, h11, hH, hl, hn, hk, hc]
    exact ih (i + 1) _ _ ⟨h1, h5, h10, rfl, by rw [← hs]; rfl, by omega⟩ (by omega)
  · obtain rfl : i = 64 := by omega
    rw [List.take_of_length_le (by simp [xorK_len, hk]), List.drop_of_length_le (by omega), List.append_nil] at hH
    simp -implicitDefEqProofs -dsimp +contextual (maxSteps := 9999999) (disch := first | omega | simp only [go_sem] <;> omega | refine ib ?_; kernel_rfl) only [go_sem, seval, ↓reduceIte, h1, h5, h10, h11, hH]
@[go_sem] theorem eTurn54 (k : List UInt8) (h : k.length ≤ 1000000) : fn C 266 [] [.slice 1 (k.map byteRow), .int .u8 54] = some (.slice 1 ((xorK (keyB k) 54).map byteRow), []) := e266 k 54 h
@[go_sem] theorem eTurn92 (k : List UInt8) (h : k.length ≤ 1000000) : fn C 266 [] [.slice 1 (k.map byteRow), .int .u8 92] = some (.slice 1 ((xorK (keyB k) 92).map byteRow), []) := e266 k 92 h
theorem e240 (k : List UInt8) (rs : List (List AVal)) (ps : List (List UInt8)) (hr : rs.map normRow = ps.map partRow) (ho : ones rs = true) (hc : rs.all clos = true) (hp : ps.length ≤ 900) (h : k.length ≤ 1000000) (hf : ps.flatten.length ≤ 500000) : fn C 240 [] [.slice 1 (k.map byteRow), .slice 1 rs] = some (.slice 1 ((macB k ps.flatten).map byteRow), []) := by
  rw [fn_text Tryz.func240 rfl rfl Tryz.results240 fq240.1 rfl rfl (by kernel_rfl)]
  have hrl : rs.length = ps.length := by have := congrArg List.length hr; simpa using this
  have hcc := concat_all (xorK (keyB k) 54) rs ps hr (by omega) (by rw [List.length_append, xorK_len, keyB_len]; omega)
  simp -implicitDefEqProofs -dsimp +contextual (maxSteps := 9999999) (disch := first | omega | simp only [go_sem] <;> omega | refine ib ?_; kernel_rfl) only [go_sem, seval, ↓reduceIte, hcc, ho, hc]
  rfl
@[go_sem] theorem e191 (k m : List UInt8) (h : k.length ≤ 1000000) (hf : m.length ≤ 500000) : fn C 191 [] [.slice 1 (k.map byteRow), .slice 1 (m.map byteRow)] = some (.slice 1 ((macB k m).map byteRow), []) := by
  rw [fn_text Tryz.func191 rfl rfl Tryz.results191 fq191.1 rfl rfl (by kernel_rfl)]
  have hc := e240 k [[.slice 1 (m.map byteRow)]] [m] rfl rfl (by simp only [go_sem]) (by simp) h (by simpa using hf)
  simp only [List.flatten_cons, List.flatten_nil, List.append_nil] at hc
  simp -implicitDefEqProofs -dsimp +contextual (maxSteps := 9999999) (disch := first | omega | simp only [go_sem] <;> omega | refine ib ?_; kernel_rfl) only [go_sem, seval, ↓reduceIte, hc]
@[go_sem] theorem e273 (k m : List UInt8) (h : k.length ≤ 1000000) (hf : m.length ≤ 500000) : fn C 273 [] [.slice 1 (k.map byteRow), .slice 1 (m.map byteRow)] = some (.slice 1 ((macB k m).map byteRow), []) := by
  rw [fn_text Tryz.func273 rfl rfl Tryz.results273 fq273.1 rfl rfl (by kernel_rfl)]
  simp -implicitDefEqProofs -dsimp +contextual (maxSteps := 9999999) (disch := first | omega | simp only [go_sem] <;> omega | refine ib ?_; kernel_rfl) only [go_sem, seval, ↓reduceIte]
  have hk := keyB_len k
  rw [macB]
  generalize keyB k = K at *
  have a54 := fun i (hi : i < K.length) => xorK_take K 54 i hi
  have a92 := fun i (hi : i < K.length) => xorK_take K 92 i hi
  have l54 := xorK_len K 54
  have l92 := xorK_len K 92
  refine (kLoop_rec (fun (i : Nat) f H => f 1 = .slice 1 (m.map byteRow) ∧ f 5 = .osl 110 1 0 64 ∧ f 8 = .int .i64 (i : Int) ∧ H 110 = ⟨1, .live, 1, K.map byteRow, false⟩ ∧ ((i = 0 ∧ f 6 = .sc (.slice none 0 0) ∧ f 7 = .sc (.slice none 0 0)) ∨ (∃ g g', f 6 = .osl 122 g 0 i ∧ f 7 = .osl 130 g' 0 i ∧ H 122 = ⟨g, .live, 1, ((xorK K 54).take i).map byteRow, false⟩ ∧ H 130 = ⟨g', .live, 1, ((xorK K 92).take i).map byteRow, false⟩)) ∧ i ≤ 64) (fun i => 64 - i) (fun _ => some (.slice 1 ((sumB (xorK K 92 ++ sumB (xorK K 54 ++ m))).map byteRow), [])) ?_ 0 _ _ ⟨rfl, rfl, rfl, rfl, .inl ⟨rfl, rfl, rfl⟩, by omega⟩)
  rintro i f H ⟨h1, h5, h8, hH, h67, hi⟩ ih
  by_cases hl : i < 64
  · have b54 := a54 i (by omega)
    have b92 := a92 i (by omega)
    rcases h67 with ⟨rfl, h6, h7⟩ | ⟨g, g', h6, h7, G6, G7⟩
    · simp -implicitDefEqProofs -dsimp +contextual (maxSteps := 9999999) (disch := first | omega | simp only [go_sem] <;> omega | refine ib ?_; kernel_rfl) only [go_sem, seval, ↓reduceIte, h1, h5, h6, h7, h8, hH, hl, hk]
      exact ih 1 _ _ ⟨h1, h5, rfl, hH, .inr ⟨_, _, rfl, rfl, by rw [b54]; rfl, by rw [b92]; rfl⟩, by omega⟩ (by omega)
    · simp -implicitDefEqProofs -dsimp +contextual (maxSteps := 9999999) (disch := first | omega | simp only [go_sem] <;> omega | refine ib ?_; kernel_rfl) only [go_sem, seval, ↓reduceIte, h1, h5, h6, h7, h8, hH, hl, hk, G6, G7, l54, l92]
      exact ih (i + 1) _ _ ⟨h1, h5, rfl, hH, .inr ⟨_, _, rfl, rfl, by rw [b54]; rfl, by rw [b92]; rfl⟩, by omega⟩ (by omega)
  · obtain rfl : i = 64 := by omega
    rcases h67 with ⟨h0, h6, h7⟩ | ⟨g, g', h6, h7, G6, G7⟩
    · omega
    · rw [List.take_of_length_le (by omega)] at G6 G7
      simp -implicitDefEqProofs -dsimp +contextual (maxSteps := 9999999) (disch := first | omega | simp only [go_sem] <;> omega | refine ib ?_; kernel_rfl) only [go_sem, seval, ↓reduceIte, h1, h5, h6, h7, h8, hH, hk, G6, G7, l54, l92]
def fillTo (l : List UInt8) (m : Nat) : List UInt8 := l.take m ++ List.replicate (l.length - m) 0
theorem fillTo_len (l : List UInt8) (m : Nat) (h : m ≤ l.length) : (fillTo l m).length = l.length := by simp [fillTo]; omega
theorem fillTo_zero (l : List UInt8) : fillTo l 0 = List.replicate l.length 0 := by simp [fillTo]
theorem fillTo_all (l : List UInt8) (m : Nat) (h : l.length ≤ m) : fillTo l m = l := by simp [fillTo, List.take_of_length_le h, show l.length - m = 0 by omega]
theorem fillTo_set (l : List UInt8) (m : Nat) (h : m < l.length) : (fillTo l m).set m l[m] = fillTo l (m + 1) := by
  unfold fillTo
  rw [List.set_append_right _ _ (by simp; omega), show l.length - m = (l.length - (m + 1)) + 1 by omega, List.replicate_succ, List.length_take, Nat.min_eq_left (by omega), Nat.sub_self, List.set_cons_zero, List.take_succ_eq_append_getElem h, List.append_assoc]
  rfl
def gatherB (l : List UInt8) : UInt8 := l.foldl (· ||| ·) 0
theorem or_zero8 (a b : UInt8) : a ||| b = 0 ↔ a = 0 ∧ b = 0 := by
  have h := @UInt8.toBitVec_inj (a ||| b) 0
  rw [← h, ← @UInt8.toBitVec_inj a 0, ← @UInt8.toBitVec_inj b 0]
  simp [UInt8.toBitVec_or]
theorem gather_foldl (l : List UInt8) : ∀ a : UInt8, l.foldl (· ||| ·) a = 0 ↔ a = 0 ∧ ∀ x ∈ l, x = 0 := by
  induction l with
  | nil => intro a; simp
  | cons x l ih => intro a; rw [List.foldl_cons, ih, or_zero8]; simp [and_assoc]
theorem gather_zero (l : List UInt8) : gatherB l = 0 ↔ ∀ x ∈ l, x = 0 := by rw [gatherB, gather_foldl]; simp
@[go_sem] theorem e290 (l : List UInt8) (hm : l.length ≤ 1000000000) : fn C 290 [] [.slice 1 (l.map byteRow)] = some (.int .u8 ((gatherB l).toNat : Int), []) := by
  rw [fn_text Tryz.func290 rfl rfl Tryz.results290 fq290.1 rfl rfl (by kernel_rfl)]
  simp -implicitDefEqProofs -dsimp +contextual (maxSteps := 9999999) (disch := first | omega | simp only [go_sem] <;> omega | refine ib ?_; kernel_rfl) only [go_sem, seval, ↓reduceIte]
  refine (kLoop_rec (fun i f H => f 3 = .int .u8 ((gatherB (l.take i)).toNat : Int) ∧ f 6 = .slice 1 (l.map byteRow) ∧ f 7 = .int .i64 l.length ∧ f 8 = .int .i64 (i : Nat) ∧ i ≤ l.length) (fun i => l.length - i) (fun _ => some (.int .u8 ((gatherB l).toNat : Int), [])) ?_ 0 _ _ ⟨rfl, rfl, rfl, rfl, by omega⟩)
  rintro i f H ⟨f3, f6, f7, f8, hi⟩ ih
  by_cases hl : i < l.length
  · simp -implicitDefEqProofs -dsimp +contextual (maxSteps := 9999999) (disch := first | omega | simp only [go_sem] <;> omega | refine ib ?_; kernel_rfl) only [go_sem, seval, ↓reduceIte, f3, f6, f7, f8, hl]
    refine ih (i + 1) _ _ ⟨?_, f6, f7, rfl, by omega⟩ (by omega)
    have e : gatherB (l.take (i + 1)) = gatherB (l.take i) ||| l[i] := by
      rw [List.take_succ_eq_append_getElem hl]; simp only [gatherB, List.foldl_append, List.foldl_cons, List.foldl_nil]
    rw [e]; rfl
  · obtain rfl : i = l.length := by omega
    simp -implicitDefEqProofs -dsimp +contextual (maxSteps := 9999999) (disch := first | omega | simp only [go_sem] <;> omega | refine ib ?_; kernel_rfl) only [go_sem, seval, ↓reduceIte, f3, f6, f7, f8, hl]
@[go_sem] theorem e282 (l : List UInt8) (hm : l.length ≤ 1000000000) : fn C 282 [] [.slice 1 (l.map byteRow)] = some (.bool (l.all (· == 0)), []) := by
  rw [fn_text Tryz.func282 rfl rfl Tryz.results282 fq282.1 rfl rfl (by kernel_rfl)]
  simp -implicitDefEqProofs -dsimp +contextual (maxSteps := 9999999) (disch := first | omega | simp only [go_sem] <;> omega | refine ib ?_; kernel_rfl) only [go_sem, seval, ↓reduceIte]
  refine Res_bool ?_
  rw [decide_eq_true_eq, List.all_eq_true]
  have := gather_zero l
  rw [← UInt8.toNat_inj] at this
  simpa using this
@[go_sem] theorem e283 (a b : List UInt8) (h : a.length = b.length) (hm : a.length ≤ 1000000000) : fn C 283 [] [.slice 1 (a.map byteRow), .slice 1 (b.map byteRow)] = some (.slice 1 ((List.zipWith (· ^^^ ·) a b).map byteRow), []) := by
  rw [fn_text Tryz.func283 rfl rfl Tryz.results283 fq283.1 rfl rfl (by kernel_rfl)]
  simp -implicitDefEqProofs -dsimp +contextual (maxSteps := 9999999) (disch := first | omega | simp only [go_sem] <;> omega | refine ib ?_; kernel_rfl) only [go_sem, seval, ↓reduceIte, h, ite_self]
  obtain ⟨A, hA⟩ : ∃ A, A = List.zipWith (· ^^^ ·) a b := ⟨_, rfl⟩
  have hl : A.length = b.length := by rw [hA]; simp [h]
  have hget : ∀ (i : Nat) (h1 : i < A.length) (h2 : i < a.length) (h3 : i < b.length), A[i] = a[i] ^^^ b[i] := fun i h1 h2 h3 => by subst hA; simp
  have z1 := fillTo_zero A
  rw [hl] at z1
  rw [← z1, ← hA]
  refine kLoop_rec (fun i f H => f 0 = .slice 1 (a.map byteRow) ∧ f 1 = .slice 1 (b.map byteRow) ∧ f 6 = .osl 114 1 0 b.length ∧ f 15 = .int .i64 b.length ∧ f 16 = .int .i64 (i : Nat) ∧ H 114 = ⟨1, .live, 1, (fillTo A i).map byteRow, true⟩ ∧ i ≤ b.length) (fun i => b.length - i) (fun _ => some (.slice 1 (A.map byteRow), [])) ?_ 0 _ _ ⟨rfl, rfl, rfl, rfl, rfl, rfl, by omega⟩
  rintro i f H ⟨f0, f1, f6, f15, f16, H114, hi⟩ ih
  have hf := fillTo_len A i (by omega)
  by_cases hlt : i < b.length
  · simp -implicitDefEqProofs -dsimp +contextual (maxSteps := 9999999) (disch := first | omega | simp only [go_sem] <;> omega | refine ib ?_; kernel_rfl) only [go_sem, seval, ↓reduceIte, f0, f1, f6, f15, f16, H114, hlt, hf]
    rw [← hget i (by omega) (by omega) hlt, fillTo_set _ _ (by omega)]
    exact ih (i + 1) _ _ ⟨f0, f1, f6, f15, rfl, rfl, by omega⟩ (by omega)
  · have e : fillTo A b.length = A := fillTo_all _ _ (by omega)
    obtain rfl : i = b.length := by omega
    simp -implicitDefEqProofs -dsimp +contextual (maxSteps := 9999999) (disch := first | omega | simp only [go_sem] <;> omega | refine ib ?_; kernel_rfl) only [go_sem, seval, ↓reduceIte, f0, f1, f6, f15, f16, H114, hlt, hf, e]
theorem xor_zip (a b : List UInt8) (h : a.length = b.length) : (List.zipWith (· ^^^ ·) a b).all (· == 0) = decide (a = b) := by
  induction a generalizing b with
  | nil => cases b <;> simp at h ⊢
  | cons x a ih =>
    cases b with
    | nil => simp at h
    | cons y b =>
      simp only [List.zipWith_cons_cons, List.all_cons, ih b (by simpa using h), List.cons.injEq]
      rw [Bool.eq_iff_iff]
      simp [UInt8.xor_eq_zero_iff]
@[go_sem] theorem e269 (a b : List UInt8) (hm : a.length ≤ 1000000000) : fn C 269 [] [.slice 1 (a.map byteRow), .slice 1 (b.map byteRow)] = some (.bool (decide (a = b)), []) := by
  rw [fn_text Tryz.func269 rfl rfl Tryz.results269 fq269.1 rfl rfl (by kernel_rfl)]
  by_cases h : a.length = b.length
  · have hz : (List.zipWith (· ^^^ ·) a b).length ≤ 1000000000 := by simp; omega
    simp -implicitDefEqProofs -dsimp +contextual (maxSteps := 9999999) (disch := first | omega | simp only [go_sem] <;> omega | refine ib ?_; kernel_rfl) only [go_sem, seval, ↓reduceIte, h]
    rw [xor_zip a b h]
  · simp -implicitDefEqProofs -dsimp +contextual (maxSteps := 9999999) (disch := first | omega | simp only [go_sem] <;> omega | refine ib ?_; kernel_rfl) only [go_sem, seval, ↓reduceIte, h]
    have : a ≠ b := fun e => h (by rw [e])
    simp [this]
def bodyB (e : En) : List UInt8 := textB e.name ++ beN 8 e.id ++ beN 4 (u64V e.fr) ++ beN 4 (u64V e.un) ++ beN 2 (u64V e.ix)
@[go_sem] theorem bodyB_len (e : En) : (bodyB e).length = e.name.length + 20 := by simp [bodyB, beN_len, textB_len]
@[go_sem] theorem e192 (e : En) (h : e.ok) (hn : e.name.length ≤ 60000) : fn C 192 [] [.agg [.str e.name, .int .u64 (e.id : Int), .int .i64 e.fr, .int .i64 e.un, .int .i64 e.ix, .str e.tag]] = some (.usl 1 ((bodyB e).map byteRow), []) := by
  rw [fn_text Tryz.func192 rfl rfl Tryz.results192 fq192.1 rfl rfl (by kernel_rfl)]
  have h1 := u64V_le e.fr; have h2 := u64V_le e.un; have h3 := u64V_le e.ix
  have h4 := h.id
  simp -implicitDefEqProofs -dsimp +contextual (maxSteps := 9999999) (disch := first | omega | simp only [go_sem] <;> omega | refine ib ?_; kernel_rfl) only [go_sem, seval, ↓reduceIte, wrap_u64V e.fr, wrap_u64V e.un, wrap_u64V e.ix]
  rfl
@[go_sem] theorem e274 (e : En) (h : e.ok) (hn : e.name.length ≤ 60000) : fn C 274 [] [.agg [.str e.name, .int .u64 (e.id : Int), .int .i64 e.fr, .int .i64 e.un, .int .i64 e.ix, .str e.tag]] = some (.usl 1 ((bodyB e).map byteRow), []) := by
  rw [fn_text Tryz.func274 rfl rfl Tryz.results274 fq274.1 rfl rfl (by kernel_rfl)]
  have h1 := u64V_le e.fr; have h2 := u64V_le e.un; have h3 := u64V_le e.ix
  have h4 := h.id
  simp -implicitDefEqProofs -dsimp +contextual (maxSteps := 9999999) (disch := first | omega | simp only [go_sem] <;> omega | refine ib ?_; kernel_rfl) only [go_sem, seval, ↓reduceIte, wrap_u64V e.fr, wrap_u64V e.un, wrap_u64V e.ix]
  rfl
def placeG {α : Type} (q : α → Bool) (l : List α) : Int := if l.findIdx q < l.length then (l.findIdx q : Nat) else -1
theorem placeG_at {α : Type} {q : α → Bool} {l : List α} {i : Nat} (h : i < l.length) (hn : (l.take i).any q = false) (he : q l[i] = true) : placeG q l = i := by
  have : l.findIdx q = i := by
    rw [List.findIdx_eq h]
    refine ⟨he, fun j hj => ?_⟩
    exact any_mem hn l[j] (by rw [List.mem_take_iff_getElem]; exact ⟨j, by omega, rfl⟩)
  unfold placeG
  rw [this, if_pos h]
theorem placeG_none {α : Type} {q : α → Bool} {l : List α} (hn : l.any q = false) : placeG q l = -1 := by
  unfold placeG
  rw [if_neg]
  intro hlt
  have := List.findIdx_getElem (w := hlt)
  rw [any_mem hn _ (List.getElem_mem hlt)] at this
  cases this
theorem placeG_cases {α : Type} (q : α → Bool) (l : List α) : (∃ (j : Nat) (h : j < l.length), q l[j] = true ∧ (l.take j).any q = false ∧ placeG q l = j) ∨ (l.any q = false ∧ placeG q l = -1) := by
  rcases Bool.eq_false_or_eq_true (l.any q) with h | h
  · left
    have hlt : l.findIdx q < l.length := by
      rw [List.findIdx_lt_length]; rw [List.any_eq_true] at h; exact h
    have hn : (l.take (l.findIdx q)).any q = false := by
      rw [List.any_eq_false]
      intro x hx
      rw [List.mem_take_iff_getElem] at hx
      obtain ⟨j, hj, rfl⟩ := hx
      have := List.not_of_lt_findIdx (p := q) (xs := l) (i := j) (by omega)
      simpa using this
    exact ⟨_, hlt, List.findIdx_getElem (w := hlt), hn, placeG_at hlt hn (List.findIdx_getElem (w := hlt))⟩
  · exact .inr ⟨h, placeG_none h⟩
theorem take_eq_step {α : Type} {a b : List α} {i : Nat} (ha : i < a.length) (hb : i < b.length) (ht : a.take i = b.take i) (he : a[i] = b[i]) : a.take (i + 1) = b.take (i + 1) := by
  rw [List.take_succ_eq_append_getElem ha, List.take_succ_eq_append_getElem hb, ht, he]
theorem take_eq_end {α : Type} {a b : List α} (hl : a.length = b.length) (ht : a.take a.length = b.take a.length) : a = b := by
  rwa [List.take_length, hl, List.take_length] at ht
theorem take_ne {α : Type} {a b : List α} {i : Nat} (ha : i < a.length) (hb : i < b.length) (he : ¬ a[i] = b[i]) : ¬ a = b := fun e => he (by subst e; rfl)
structure Ac where
  ans : Bool
  to : En
  m : Ms
  why : Int
  job : Int
deriving DecidableEq
theorem Ac.eq_iff (x y : Ac) : x = y ↔ x.ans = y.ans ∧ x.to = y.to ∧ x.why = y.why ∧ x.job = y.job ∧ x.m = y.m :=
  ⟨fun h => by subst h; simp, fun h => by cases x; cases y; simp_all⟩
def Ac.cs (a : Ac) : List AVal := [.bool a.ans, .str a.to.name, .int .u64 (a.to.id : Int), .int .i64 a.to.fr, .int .i64 a.to.un, .int .i64 a.to.ix, .str a.to.tag, .int .i64 a.m.kind, .int .i64 a.m.rid, .int .i64 a.m.ver, .int .i64 a.m.err, .int .u64 (a.m.id : Int), .bool a.m.has, .bool a.m.gone, .str a.m.key, .str a.m.val, .slice 6 (a.m.ents.map En.cs), .slice 4 (a.m.items.map It.cs), .int .i64 a.why, .int .i64 a.job]
@[go_sem] theorem Ac.cs_eq (a : Ac) : a.cs = [.bool a.ans, .str a.to.name, .int .u64 (a.to.id : Int), .int .i64 a.to.fr, .int .i64 a.to.un, .int .i64 a.to.ix, .str a.to.tag, .int .i64 a.m.kind, .int .i64 a.m.rid, .int .i64 a.m.ver, .int .i64 a.m.err, .int .u64 (a.m.id : Int), .bool a.m.has, .bool a.m.gone, .str a.m.key, .str a.m.val, .slice 6 (a.m.ents.map En.cs), .slice 4 (a.m.items.map It.cs), .int .i64 a.why, .int .i64 a.job] := rfl
def aheadR (me : En) (a b : Pr) : Bool := if distR me.id a.e.id = distR me.id b.e.id then Op.bytesLess a.e.name b.e.name else decide (distR me.id a.e.id < distR me.id b.e.id)
@[go_sem] theorem e185 (me : En) (a b : Pr) (h1 : U64 me.id) (h2 : U64 a.e.id) (h3 : U64 b.e.id) : fn C 185 [] [.agg [.str me.name, .int .u64 (me.id : Int), .int .i64 me.fr, .int .i64 me.un, .int .i64 me.ix, .str me.tag], .agg [.str a.e.name, .int .u64 (a.e.id : Int), .int .i64 a.e.fr, .int .i64 a.e.un, .int .i64 a.e.ix, .str a.e.tag, .int .i64 a.since, .int .i64 a.under], .agg [.str b.e.name, .int .u64 (b.e.id : Int), .int .i64 b.e.fr, .int .i64 b.e.un, .int .i64 b.e.ix, .str b.e.tag, .int .i64 b.since, .int .i64 b.under]] = some (.bool (aheadR me a b), []) := by
  rw [fn_text Tryz.func185 rfl rfl Tryz.results185 fq185.1 rfl rfl (by kernel_rfl)]
  simp -implicitDefEqProofs -dsimp +contextual (maxSteps := 9999999) (disch := first | omega | simp only [go_sem] <;> omega | refine ib ?_; kernel_rfl) only [go_sem, seval, ↓reduceIte]
  (repeat' (refine kD_intro (fun _ => ?_) (fun _ => ?_)))
  · rename_i h; exact Res_bool (by simp [aheadR, h])
  · rename_i h; exact Res_bool (by simp [aheadR, h])
structure Nd.mid (n : Nd) (k : Nat) : Prop where
  pl : n.pred.length ≤ k
  ll : n.list.length ≤ k
  fl : n.fingers.length ≤ k
  sl : n.sessions.length ≤ k
  dl : n.pends.length ≤ k
  il : n.items.length ≤ k
  jl : n.jobs.length ≤ k
  wl : n.draws.length ≤ k
  rl : n.results.length ≤ k
  pe : ∀ p ∈ n.pends, p.m.ents.length ≤ k
  pi : ∀ p ∈ n.pends, p.m.items.length ≤ k
  ja : ∀ j ∈ n.jobs, j.asked.length ≤ k
  ik : ∀ x ∈ n.items, x.k.length ≤ 9223372036854775807
theorem Nd.mid.le {n : Nd} {k m : Nat} (h : n.mid k) (hk : k ≤ m) : n.mid m :=
  ⟨Nat.le_trans h.pl hk, Nat.le_trans h.ll hk, Nat.le_trans h.fl hk, Nat.le_trans h.sl hk, Nat.le_trans h.dl hk, Nat.le_trans h.il hk, Nat.le_trans h.jl hk, Nat.le_trans h.wl hk, Nat.le_trans h.rl hk,
    fun p hp => Nat.le_trans (h.pe p hp) hk, fun p hp => Nat.le_trans (h.pi p hp) hk, fun j hj => Nat.le_trans (h.ja j hj) hk, h.ik⟩
theorem Nd.small.mid {n : Nd} (h : n.small) : n.mid 70 :=
  ⟨by have := h.pl; omega, by have := h.ll; omega, h.fl, by have := h.sl; omega, by have := h.dl; omega, by have := h.il; omega, by have := h.jl; omega, by have := h.wl; omega, by have := h.rl; omega,
    fun p hp => by have := (h.d p hp).m.e; omega, fun p hp => by have := (h.d p hp).m.i; omega, fun j hj => by have := (h.j j hj).a; omega, fun x hx => by have := (h.i x hx).k; omega⟩
def enZ : En := ⟨[], 0, 0, 0, 0, []⟩
def jbZ : Jb := ⟨0, 0, 0, 0, 0, 0, [], [], enZ, zeroIt, 0, 0, [], enZ, 0, 0⟩
def msZ : Ms := ⟨0, 0, 0, 0, 0, false, false, [], [], [], []⟩
def jobAt (id : Int) (j : Jb) : Bool := decide (j.id = id)
def findR (l : List Jb) (id : Int) : Int := placeG (jobAt id) l
def jobG (l : List Jb) (i : Nat) : Jb := l.getD i jbZ
def lastR (l : List Rs) : List Rs := l.drop (l.length - 16)
def resR (id : Int) (j : Jb) (x : It) (has : Bool) (e : Int) : Rs := ⟨id, j.kind, x.n, j.key, x.v, has, x.g, e⟩
def settleR (n : Nd) (id : Int) (x : It) (has : Bool) (e : Int) : Nd :=
  if 0 ≤ findR n.jobs id then { n with jobs := n.jobs.eraseIdx (findR n.jobs id).toNat, results := lastR (n.results ++ [resR id (jobG n.jobs (findR n.jobs id).toNat) x has e]) } else n
def doneA (back : En) (rid : Int) (x : It) (e : Int) : Ac := ⟨true, back, { msZ with kind := 9, rid := rid, ver := x.n, err := e }, 0, 0⟩
def tellR (n : Nd) (back : En) (rid job : Int) (x : It) (has : Bool) (e : Int) : Nd × List Ac :=
  if job = 0 then (n, [doneA back rid x e]) else (settleR n job x has e, [])
def fewR (n : Int) : Int := if n < 0 then 0 else if 2 < n then 2 else n
def copyA (e : En) (x : It) (id : Int) : Ac := ⟨false, e, { msZ with kind := 12, items := [x] }, 7, id⟩
def askR (id : Int) : List Pr → Jb → Jb × List Ac
  | [], j => (j, [])
  | p :: l, j => if 2 ≤ fewR j.acks + fewR j.waits then (j, []) else if p.e.name ∈ j.asked then askR id l j
      else ((askR id l { j with waits := fewR j.waits + 1, asked := j.asked ++ [p.e.name] }).1, copyA p.e j.item id :: (askR id l { j with waits := fewR j.waits + 1, asked := j.asked ++ [p.e.name] }).2)
def copR (l : List Jb) (id : Int) : Int := if 0 ≤ findR l id ∧ (jobG l (findR l id).toNat).kind = 4 then findR l id else -1
def moreFin (n : Nd) (i : Nat) (q : Jb × List Ac) : Nd × List Ac :=
  if 0 < q.1.waits then ({ n with jobs := n.jobs.set i q.1 }, q.2)
  else ((tellR { n with jobs := n.jobs.eraseIdx i } q.1.back q.1.backRid q.1.backJob q.1.item (!q.1.item.g) 0).1, q.2 ++ (tellR { n with jobs := n.jobs.eraseIdx i } q.1.back q.1.backRid q.1.backJob q.1.item (!q.1.item.g) 0).2)
def moreAt (n : Nd) (id : Int) (i : Nat) : Nd × List Ac := moreFin n i (askR id n.list (jobG n.jobs i))
def moreR (n : Nd) (id : Int) : Nd × List Ac := if 0 ≤ copR n.jobs id then moreAt n id (copR n.jobs id).toNat else (n, [])
def nextI (id : Int) : Int := if id < 0 ∨ 1073741824 ≤ id then 1 else id + 1
def copyJ (n : Nd) (x : It) (back : En) (rid job : Int) : Jb := { jbZ with id := nextI n.jobId, kind := 4, til := n.clock + 192, item := x, back := back, backRid := rid, backJob := job }
def beginE (n : Nd) (key val : List UInt8) (gone : Bool) : Int := if 8 ≤ n.jobs.length then 41 else (putR n.items key val gone).2.2
def begunR (n : Nd) (key val : List UInt8) (gone : Bool) (back : En) (rid job : Int) : Nd :=
  { n with items := (putR n.items key val gone).1, jobId := nextI n.jobId, jobs := n.jobs ++ [copyJ n (putR n.items key val gone).2.1 back rid job] }
def beginR (n : Nd) (key val : List UInt8) (gone : Bool) (back : En) (rid job : Int) : Nd × List Ac :=
  if beginE n key val gone = 0 then moreR (begunR n key val gone back rid job) (nextI n.jobId) else tellR n back rid job zeroIt false (beginE n key val gone)
theorem set_row {α : Type} (f : α → List AVal) (l : List α) (i : Nat) (h : i < l.length) : (l.map f).set i (f l[i]) = l.map f := by
  rw [← List.map_set, List.set_getElem_self]
theorem jb_row (l : List Jb) (i : Nat) (h : i < l.length) : (l.map Jb.cs)[i]? = some [.int .i64 l[i].id, .int .i64 l[i].kind, .int .i64 l[i].phase, .int .i64 l[i].hops, .int .i64 l[i].tries, .int .i64 l[i].til, .str l[i].key, .str l[i].val, .str l[i].owner.name, .int .u64 (l[i].owner.id : Int), .int .i64 l[i].owner.fr, .int .i64 l[i].owner.un, .int .i64 l[i].owner.ix, .str l[i].owner.tag, .str l[i].item.k, .str l[i].item.v, .int .i64 l[i].item.n, .bool l[i].item.g, .int .i64 l[i].acks, .int .i64 l[i].waits, .slice 1 (l[i].asked.map strRow), .str l[i].back.name, .int .u64 (l[i].back.id : Int), .int .i64 l[i].back.fr, .int .i64 l[i].back.un, .int .i64 l[i].back.ix, .str l[i].back.tag, .int .i64 l[i].backRid, .int .i64 l[i].backJob] := by
  rw [List.getElem?_map, List.getElem?_eq_getElem h]; rfl
def Nd.ocs (n : Nd) : List AVal := [.str n.me.name, .int .u64 (n.me.id : Int), .int .i64 n.me.fr, .int .i64 n.me.un, .int .i64 n.me.ix, .str n.me.tag, .int .i64 n.clock, .str n.psk, .int .i64 n.gateI, .str n.gateK, .bool n.ready, .slice 8 (n.pred.map Pr.cs), .slice 8 (n.list.map Pr.cs), .slice 9 (n.fingers.map Fg.cs), .usl 20 (n.sessions.map Se.cs), .usl 23 (n.pends.map Pd.cs), .slice 4 (n.items.map It.cs), .usl 29 (n.jobs.map Jb.cs), .int .i64 n.rid, .int .i64 n.jobId, .slice 1 (n.draws.map u64Row), .usl 8 (n.results.map Rs.cs)]
@[go_sem] theorem Nd.ocs_eq (n : Nd) : n.ocs = [.str n.me.name, .int .u64 (n.me.id : Int), .int .i64 n.me.fr, .int .i64 n.me.un, .int .i64 n.me.ix, .str n.me.tag, .int .i64 n.clock, .str n.psk, .int .i64 n.gateI, .str n.gateK, .bool n.ready, .slice 8 (n.pred.map Pr.cs), .slice 8 (n.list.map Pr.cs), .slice 9 (n.fingers.map Fg.cs), .usl 20 (n.sessions.map Se.cs), .usl 23 (n.pends.map Pd.cs), .slice 4 (n.items.map It.cs), .usl 29 (n.jobs.map Jb.cs), .int .i64 n.rid, .int .i64 n.jobId, .slice 1 (n.draws.map u64Row), .usl 8 (n.results.map Rs.cs)] := rfl
theorem pd_row (l : List Pd) (i : Nat) (h : i < l.length) : (l.map Pd.cs)[i]? = some [.int .i64 l[i].rid, .int .i64 l[i].why, .int .i64 l[i].job, .int .i64 l[i].til, .int .i64 l[i].tries, .int .u64 (l[i].session : Int), .str l[i].to.name, .int .u64 (l[i].to.id : Int), .int .i64 l[i].to.fr, .int .i64 l[i].to.un, .int .i64 l[i].to.ix, .str l[i].to.tag, .int .i64 l[i].m.kind, .int .i64 l[i].m.rid, .int .i64 l[i].m.ver, .int .i64 l[i].m.err, .int .u64 (l[i].m.id : Int), .bool l[i].m.has, .bool l[i].m.gone, .str l[i].m.key, .str l[i].m.val, .slice 6 (l[i].m.ents.map En.cs), .slice 4 (l[i].m.items.map It.cs)] := by
  rw [List.getElem?_map, List.getElem?_eq_getElem h]; rfl
@[go_sem] theorem e148 (m : Ms) (h1 : m.ents.length ≤ 1000000) (h2 : m.items.length ≤ 1000000) : fn C 148 [] [.agg [.int .i64 m.kind, .int .i64 m.rid, .int .i64 m.ver, .int .i64 m.err, .int .u64 (m.id : Int), .bool m.has, .bool m.gone, .str m.key, .str m.val, .slice 6 (m.ents.map En.cs), .slice 4 (m.items.map It.cs)]] = some (.agg [.int .i64 m.kind, .int .i64 m.rid, .int .i64 m.ver, .int .i64 m.err, .int .u64 (m.id : Int), .bool m.has, .bool m.gone, .str m.key, .str m.val, .slice 6 (m.ents.map En.cs), .slice 4 (m.items.map It.cs)], []) := by
  rw [fn_text Tryz.func148 rfl rfl Tryz.results148 fq148.1 rfl rfl (by kernel_rfl)]
  simp -implicitDefEqProofs -dsimp +contextual (maxSteps := 9999999) (disch := first | omega | simp only [go_sem] <;> omega | refine ib ?_; kernel_rfl) only [go_sem, seval, ↓reduceIte]
@[go_sem] theorem e57 (l : List Pd) (hl : l.length ≤ 1000000) (h1 : ∀ p ∈ l, p.m.ents.length ≤ 1000000) (h2 : ∀ p ∈ l, p.m.items.length ≤ 1000000) : fn C 57 [] [.slice 23 (l.map Pd.cs)] = some (.usl 23 (l.map Pd.cs), []) := by
  rw [fn_text Tryz.func57 rfl rfl Tryz.results57 fq57.1 rfl rfl (by kernel_rfl)]
  simp -implicitDefEqProofs -dsimp +contextual (maxSteps := 9999999) (disch := first | omega | simp only [go_sem] <;> omega | refine ib ?_; kernel_rfl) only [go_sem, seval, ↓reduceIte]
  refine kFor l.length (fun i f H => f 3 = .osl 106 1 0 l.length ∧ f 8 = .int .i64 (l.length : Nat) ∧ f 9 = .int .i64 (i : Nat) ∧ H 106 = ⟨1, .live, 23, l.map Pd.cs, false⟩) ?_ ?_ (by exact ⟨rfl, rfl, rfl, by simp [Heap.set, Heap.nil]⟩)
  · rintro i f H hi ⟨f3, f8, f9, H1⟩ ih
    have row := pd_row l i hi
    have st : (l.map Pd.cs).set i [.int .i64 l[i].rid, .int .i64 l[i].why, .int .i64 l[i].job, .int .i64 l[i].til, .int .i64 l[i].tries, .int .u64 (l[i].session : Int), .str l[i].to.name, .int .u64 (l[i].to.id : Int), .int .i64 l[i].to.fr, .int .i64 l[i].to.un, .int .i64 l[i].to.ix, .str l[i].to.tag, .int .i64 l[i].m.kind, .int .i64 l[i].m.rid, .int .i64 l[i].m.ver, .int .i64 l[i].m.err, .int .u64 (l[i].m.id : Int), .bool l[i].m.has, .bool l[i].m.gone, .str l[i].m.key, .str l[i].m.val, .slice 6 (l[i].m.ents.map En.cs), .slice 4 (l[i].m.items.map It.cs)] = l.map Pd.cs := set_row Pd.cs l i hi
    have c := e148 l[i].m (h1 _ (List.getElem_mem hi)) (h2 _ (List.getElem_mem hi))
    simp -implicitDefEqProofs -dsimp +contextual (maxSteps := 9999999) (disch := first | omega | simp only [go_sem] <;> omega | refine ib ?_; kernel_rfl) only [go_sem, seval, ↓reduceIte, f3, f8, f9, H1, hi, row, c, st]
    exact ih _ _ (by exact ⟨f3, f8, rfl, rfl⟩)
  · rintro f H ⟨f3, f8, f9, H1⟩
    simp -implicitDefEqProofs -dsimp +contextual (maxSteps := 9999999) (disch := first | omega | simp only [go_sem] <;> omega | refine ib ?_; kernel_rfl) only [go_sem, seval, ↓reduceIte, f3, f8, f9, H1]
@[go_sem] theorem e13 (n : Nd) (h : n.mid 1000000) : fn C 13 [] [(aNd n)] = some (.agg [.str n.me.name, .int .u64 (n.me.id : Int), .int .i64 n.me.fr, .int .i64 n.me.un, .int .i64 n.me.ix, .str n.me.tag, .int .i64 n.clock, .str n.psk, .int .i64 n.gateI, .str n.gateK, .bool n.ready, .slice 8 (n.pred.map Pr.cs), .slice 8 (n.list.map Pr.cs), .slice 9 (n.fingers.map Fg.cs), .usl 20 (n.sessions.map Se.cs), .usl 23 (n.pends.map Pd.cs), .slice 4 (n.items.map It.cs), .usl 29 (n.jobs.map Jb.cs), .int .i64 n.rid, .int .i64 n.jobId, .slice 1 (n.draws.map u64Row), .usl 8 (n.results.map Rs.cs)], []) := by
  have := h.pl; have := h.ll; have := h.fl; have := h.sl; have := h.dl; have := h.il; have := h.jl; have := h.wl; have := h.rl
  have pc := e57 n.pends h.dl h.pe h.pi
  rw [fn_text Tryz.func13 rfl rfl Tryz.results13 fq13.1 rfl rfl (by kernel_rfl)]
  simp -implicitDefEqProofs -dsimp +contextual (maxSteps := 9999999) (disch := first | omega | simp only [go_sem] <;> omega | refine ib ?_; kernel_rfl) only [go_sem, seval, ↓reduceIte, pc]
  refine kFor n.jobs.length (fun i f H => f 1 = .ptr 101 1 0 0 ∧ f 2 = .ptr 102 1 0 0 ∧ f 42 = .int .i64 (n.jobs.length : Nat) ∧ f 43 = .int .i64 (i : Nat) ∧
    H 101 = ⟨1, .live, 22, [[.str n.me.name, .int .u64 (n.me.id : Int), .int .i64 n.me.fr, .int .i64 n.me.un, .int .i64 n.me.ix, .str n.me.tag, .int .i64 n.clock, .str n.psk, .int .i64 n.gateI, .str n.gateK, .bool n.ready, .slice 8 (n.pred.map Pr.cs), .slice 8 (n.list.map Pr.cs), .slice 9 (n.fingers.map Fg.cs), .osl 118 1 0 n.sessions.length, .osl 121 1 0 n.pends.length, .slice 4 (n.items.map It.cs), .osl 130 1 0 n.jobs.length, .int .i64 n.rid, .int .i64 n.jobId, .slice 1 (n.draws.map u64Row), .osl 136 1 0 n.results.length]], false⟩ ∧ (H 102).gen = 1 ∧ (H 102).mode = .live ∧ (∃ r : List AVal, r.length = 22 ∧ (H 102).rows = [r]) ∧
    H 118 = ⟨1, .live, 20, n.sessions.map Se.cs, false⟩ ∧ H 121 = ⟨1, .live, 23, n.pends.map Pd.cs, false⟩ ∧ H 130 = ⟨1, .live, 29, n.jobs.map Jb.cs, false⟩ ∧ H 136 = ⟨1, .live, 8, n.results.map Rs.cs, false⟩) ?_ ?_ (by exact ⟨rfl, rfl, rfl, rfl, rfl, rfl, rfl, ⟨_, rfl, rfl⟩, rfl, rfl, rfl, rfl⟩)
  · rintro i f H hi ⟨f1, f2, f42, f43, H1, H2, H2m, ⟨r, hr, H2r⟩, H3, H4, H5, H6⟩ ih
    have row := jb_row n.jobs i hi
    have st : (n.jobs.map Jb.cs).set i [.int .i64 n.jobs[i].id, .int .i64 n.jobs[i].kind, .int .i64 n.jobs[i].phase, .int .i64 n.jobs[i].hops, .int .i64 n.jobs[i].tries, .int .i64 n.jobs[i].til, .str n.jobs[i].key, .str n.jobs[i].val, .str n.jobs[i].owner.name, .int .u64 (n.jobs[i].owner.id : Int), .int .i64 n.jobs[i].owner.fr, .int .i64 n.jobs[i].owner.un, .int .i64 n.jobs[i].owner.ix, .str n.jobs[i].owner.tag, .str n.jobs[i].item.k, .str n.jobs[i].item.v, .int .i64 n.jobs[i].item.n, .bool n.jobs[i].item.g, .int .i64 n.jobs[i].acks, .int .i64 n.jobs[i].waits, .slice 1 (n.jobs[i].asked.map strRow), .str n.jobs[i].back.name, .int .u64 (n.jobs[i].back.id : Int), .int .i64 n.jobs[i].back.fr, .int .i64 n.jobs[i].back.un, .int .i64 n.jobs[i].back.ix, .str n.jobs[i].back.tag, .int .i64 n.jobs[i].backRid, .int .i64 n.jobs[i].backJob] = n.jobs.map Jb.cs := set_row Jb.cs n.jobs i hi
    have al := h.ja _ (List.getElem_mem hi)
    simp -implicitDefEqProofs -dsimp +contextual (maxSteps := 9999999) (disch := first | omega | simp only [go_sem] <;> omega | refine ib ?_; kernel_rfl) only [go_sem, seval, ↓reduceIte, f1, f2, f42, f43, H1, H5, hi, row, st, al]
    exact ih _ _ (by exact ⟨f1, f2, f42, rfl, H1, H2, H2m, ⟨r, hr, H2r⟩, H3, H4, rfl, H6⟩)
  · rintro f H ⟨f1, f2, f42, f43, H1, H2, H2m, ⟨r, hr, H2r⟩, H3, H4, H5, H6⟩
    simp -implicitDefEqProofs -dsimp +contextual (maxSteps := 9999999) (disch := first | omega | simp only [go_sem] <;> omega | refine ib ?_; kernel_rfl) only [go_sem, seval, ↓reduceIte, f1, f2, f42, f43, H1, H2, H2m, H2r, hr, H3, H4, H5, H6]
    trace_state
inductive AcC : AVal → List Ac → Prop
  | nil : AcC (.sc (.slice none 0 0)) []
  | us (l : List Ac) : AcC (.usl 20 (l.map Ac.cs)) l
@[go_sem] theorem Nd.cs_eq (n : Nd) : n.cs = [.str n.me.name, .int .u64 (n.me.id : Int), .int .i64 n.me.fr, .int .i64 n.me.un, .int .i64 n.me.ix, .str n.me.tag, .int .i64 n.clock, .str n.psk, .int .i64 n.gateI, .str n.gateK, .bool n.ready, .slice 8 (n.pred.map Pr.cs), .slice 8 (n.list.map Pr.cs), .slice 9 (n.fingers.map Fg.cs), .slice 20 (n.sessions.map Se.cs), .slice 23 (n.pends.map Pd.cs), .slice 4 (n.items.map It.cs), .slice 29 (n.jobs.map Jb.cs), .int .i64 n.rid, .int .i64 n.jobId, .slice 1 (n.draws.map u64Row), .slice 8 (n.results.map Rs.cs)] := rfl
theorem askR_go (id : Int) (p : Pr) (l : List Pr) {j : Jb} (h : ¬ 2 ≤ fewR j.acks + fewR j.waits) (hn : ¬ p.e.name ∈ j.asked) :
    askR id (p :: l) j = ((askR id l { j with waits := fewR j.waits + 1, asked := j.asked ++ [p.e.name] }).1, copyA p.e j.item id :: (askR id l { j with waits := fewR j.waits + 1, asked := j.asked ++ [p.e.name] }).2) := by
  rw [askR, if_neg h, if_neg hn]
theorem askR_skip (id : Int) (p : Pr) (l : List Pr) {j : Jb} (h : ¬ 2 ≤ fewR j.acks + fewR j.waits) (hn : p.e.name ∈ j.asked) : askR id (p :: l) j = askR id l j := by
  rw [askR, if_neg h, if_pos hn]
theorem pr_row (l : List Pr) (i : Nat) (h : i < l.length) : (l.map Pr.cs)[i]? = some [.str l[i].e.name, .int .u64 (l[i].e.id : Int), .int .i64 l[i].e.fr, .int .i64 l[i].e.un, .int .i64 l[i].e.ix, .str l[i].e.tag, .int .i64 l[i].since, .int .i64 l[i].under] := by
  rw [List.getElem?_map, List.getElem?_eq_getElem h]; rfl
def pairC (q : Nd × List Ac) : AVal := .tup [.agg q.1.cs, .slice 20 (q.2.map Ac.cs)]
@[go_sem] theorem pairC_eq (q : Nd × List Ac) : pairC q = .tup [.agg q.1.cs, .slice 20 (q.2.map Ac.cs)] := rfl
end Go.Proofs.YtnpkhdjgedeppaaGreatDoor
namespace Go.Proofs.YtnpkhdjgedeppaaGreatDoor
set_option maxHeartbeats 64000000
open Go.Am
set_option linter.unusedSimpArgs false
set_option linter.unusedVariables false
set_option maxRecDepth 100000
noncomputable def rowsG (js : List Jb) (i : Nat) (R : List AVal) : List (List AVal) := (js.map Jb.cs).set i R
noncomputable def nlB (g : Int) : FuncId → List (Nat × Nat) := fun f => if f = 109 then (if g = -2 then [] else [(91, 2001)]) else M.nl f
noncomputable def M1 (g : Int) : Mds := { M with nl := nlB g, inls := [(166, 20000), (154, 40000), (13, 60000), (168, 80000)], gh := some (55, 3, g) }
noncomputable def own1 : Own := fun f => if f = 62 then some (cloneUO 1) else if f = 109 then none else if f = 999999 then none else if f = 203 then none else some (fun ex ds => fn C f ex ds)
theorem own1_ok : OwnOk E own1 := by
  intro f g ex ds q hf hg
  unfold own1 at hf
  split at hf
  · rename_i e
    subst e
    simp only [Option.some.injEq] at hf
    subst hf
    exact cloneUO_ok own_62_0 own_62 ex ds q hg
  · split at hf
    · cases hf
    · split at hf
      · cases hf
      · split at hf
        · cases hf
        · simp only [Option.some.injEq] at hf
          subst hf
          exact fnE_sound mixed own_ok hg
noncomputable def C1 (g : Int) : Cf := ⟨E, M1 g, own1⟩
section
variable (g : Int)
@[go_sem] theorem C1_E : (C1 g).E = E := rfl
@[go_sem] theorem C1_M : (C1 g).M = M1 g := rfl
@[go_sem] theorem M1_par : (M1 g).par = M.par := Eq.trans rfl rfl
@[go_sem] theorem M1_res : (M1 g).res = M.res := Eq.trans rfl rfl
@[go_sem] theorem M1_loc : (M1 g).loc = M.loc := Eq.trans rfl rfl
@[go_sem] theorem M1_nl : (M1 g).nl = nlB g := Eq.trans rfl rfl
@[go_sem] theorem M1_cur : (M1 g).cur = [] := Eq.trans rfl rfl
@[go_sem] theorem M1_base : (M1 g).base = 0 := Eq.trans rfl rfl
@[go_sem] theorem M1_inls : (M1 g).inls = [(166, 20000), (154, 40000), (13, 60000), (168, 80000)] := Eq.trans rfl rfl
@[go_sem] theorem M1_gh : (M1 g).gh = some (55, 3, g) := Eq.trans rfl rfl
def ghV (v : AVal) (n : Int) (C : Orc) : Orc := match v with | .int _ m => if m = n then C else closeO C | _ => C
@[go_sem] theorem ghV_int (k : IntKind) (m n : Int) (C : Orc) : ghV (.int k m) n C = if m = n then C else closeO C := Eq.trans rfl rfl
@[go_sem] theorem closeO_eq (C : Orc) (f ex ds) : closeO C f ex ds = (C f ex ds).map fun q => (closeV q.1, q.2) := Eq.trans rfl rfl
@[go_sem] theorem closeV_usl (st es) : closeV (.usl st es) = .slice st es := Eq.trans rfl rfl
end
end Go.Proofs.YtnpkhdjgedeppaaGreatDoor
namespace Go.Proofs.YtnpkhdjgedeppaaGreatDoor
set_option maxHeartbeats 64000000
open Go.Am
set_option linter.unusedSimpArgs false
set_option linter.unusedVariables false
set_option maxRecDepth 100000
structure WorkO (H : Heap) (n : Nd) (rows : List (List AVal)) : Prop where
  w : H 40106 = ⟨1, .live, 23, [[.str n.me.name, .int .u64 (n.me.id : Int), .int .i64 n.me.fr, .int .i64 n.me.un, .int .i64 n.me.ix, .str n.me.tag, .int .i64 n.clock, .str n.psk, .int .i64 n.gateI, .str n.gateK, .bool n.ready, .slice 8 (n.pred.map Pr.cs), .slice 8 (n.list.map Pr.cs), .slice 9 (n.fingers.map Fg.cs), .osl 60118 1 0 n.sessions.length, .osl 60121 1 0 n.pends.length, .slice 4 (n.items.map It.cs), .osl 60130 1 0 n.jobs.length, .int .i64 n.rid, .int .i64 n.jobId, .slice 1 (n.draws.map u64Row), .osl 60136 1 0 n.results.length, .sc (.slice none 0 0)]], false⟩
  s : H 60118 = ⟨1, .live, 20, n.sessions.map Se.cs, false⟩
  p : H 60121 = ⟨1, .live, 23, n.pends.map Pd.cs, false⟩
  j : H 60130 = ⟨1, .live, 29, rows, false⟩
  r : H 60136 = ⟨1, .live, 8, n.results.map Rs.cs, false⟩
@[go_sem] theorem nlOn : M.nl 154 = [] := Eq.trans rfl rfl
@[go_sem] theorem nlCopy : M.nl 13 = [] := Eq.trans rfl rfl
@[go_sem] theorem Jb.eta (j : Jb) : (⟨j.id, j.kind, j.phase, j.hops, j.tries, j.til, j.key, j.val, j.owner, j.item, j.acks, j.waits, j.asked, j.back, j.backRid, j.backJob⟩ : Jb) = j := rfl
def ActS (H : Heap) (X : AVal) (l : List Ac) : Prop := (X = .sc (.slice none 0 0) ∧ l = []) ∨ (∃ g, X = .osl 80189 g 0 l.length ∧ H 80189 = ⟨g, .live, 20, l.map Ac.cs, false⟩)
structure MoreS (H : Heap) (n : Nd) (i c : Nat) (j : Jb) (A X : AVal) : Prop where
  w : H 40106 = ⟨1, .live, 23, [[.str n.me.name, .int .u64 (n.me.id : Int), .int .i64 n.me.fr, .int .i64 n.me.un, .int .i64 n.me.ix, .str n.me.tag, .int .i64 n.clock, .str n.psk, .int .i64 n.gateI, .str n.gateK, .bool n.ready, .slice 8 (n.pred.map Pr.cs), .slice 8 (n.list.map Pr.cs), .slice 9 (n.fingers.map Fg.cs), .osl 60118 1 0 n.sessions.length, .osl 60121 1 0 n.pends.length, .slice 4 (n.items.map It.cs), .osl 60130 c 0 n.jobs.length, .int .i64 n.rid, .int .i64 n.jobId, .slice 1 (n.draws.map u64Row), .osl 60136 1 0 n.results.length, X]], false⟩
  s : H 60118 = ⟨1, .live, 20, n.sessions.map Se.cs, false⟩
  p : H 60121 = ⟨1, .live, 23, n.pends.map Pd.cs, false⟩
  j : H 60130 = ⟨c, .live, 29, rowsG n.jobs i [.int .i64 j.id, .int .i64 j.kind, .int .i64 j.phase, .int .i64 j.hops, .int .i64 j.tries, .int .i64 j.til, .str j.key, .str j.val, .str j.owner.name, .int .u64 (j.owner.id : Int), .int .i64 j.owner.fr, .int .i64 j.owner.un, .int .i64 j.owner.ix, .str j.owner.tag, .str j.item.k, .str j.item.v, .int .i64 j.item.n, .bool j.item.g, .int .i64 j.acks, .int .i64 j.waits, A, .str j.back.name, .int .u64 (j.back.id : Int), .int .i64 j.back.fr, .int .i64 j.back.un, .int .i64 j.back.ix, .str j.back.tag, .int .i64 j.backRid, .int .i64 j.backJob], false⟩
  r : H 60136 = ⟨1, .live, 8, n.results.map Rs.cs, false⟩
@[go_sem] theorem nlMore : M.nl 168 = [(77, 906), (76, 0)] := Eq.trans rfl rfl
def AskI (id : Int) (l : List Pr) (j : Jb) (acts : List Ac) (q : Jb × List Ac) : Prop := (askR id l j).1 = q.1 ∧ acts ++ (askR id l j).2 = q.2
theorem AskI.done {id : Int} {j : Jb} {acts : List Ac} {q : Jb × List Ac} (h : AskI id [] j acts q) : q = (j, acts) := by
  obtain ⟨h1, h2⟩ := h
  rw [askR] at h1 h2
  rw [List.append_nil] at h2
  exact Prod.ext h1.symm h2.symm
theorem AskI.skip {id : Int} {p : Pr} {l : List Pr} {j : Jb} {acts : List Ac} {q : Jb × List Ac} (h : AskI id (p :: l) j acts q) (hf : ¬ 2 ≤ fewR j.acks + fewR j.waits) (hn : p.e.name ∈ j.asked) : AskI id l j acts q := by
  unfold AskI at h ⊢; rwa [askR_skip id p l hf hn] at h
theorem AskI.go {id : Int} {p : Pr} {l : List Pr} {j : Jb} {acts : List Ac} {q : Jb × List Ac} (h : AskI id (p :: l) j acts q) (hf : ¬ 2 ≤ fewR j.acks + fewR j.waits) (hn : ¬ p.e.name ∈ j.asked) :
    AskI id l { j with waits := fewR j.waits + 1, asked := j.asked ++ [p.e.name] } (acts ++ [copyA p.e j.item id]) q := by
  unfold AskI at h ⊢
  rw [askR_go id p l hf hn] at h
  exact ⟨h.1, by rw [← List.append_cons]; exact h.2⟩
@[go_sem] theorem nlDone : M.nl 166 = [] := Eq.trans rfl rfl
@[go_sem] theorem nlCame : M.nl 203 = [] := Eq.trans rfl rfl
@[go_sem] theorem nlBg : M.nl 109 = [] := Eq.trans rfl rfl
def resG (r : Rs) : Bool := decide (300 < r.key.length) || decide (300 < r.val.length)
@[go_sem] theorem e10 (n : Nd) (h : n.fit) : fn C 10 [] [.agg [.str n.me.name, .int .u64 (n.me.id : Int), .int .i64 n.me.fr, .int .i64 n.me.un, .int .i64 n.me.ix, .str n.me.tag, .int .i64 n.clock, .str n.psk, .int .i64 n.gateI, .str n.gateK, .bool n.ready, .slice 8 (n.pred.map Pr.cs), .slice 8 (n.list.map Pr.cs), .slice 9 (n.fingers.map Fg.cs), .slice 20 (n.sessions.map Se.cs), .slice 23 (n.pends.map Pd.cs), .slice 4 (n.items.map It.cs), .slice 29 (n.jobs.map Jb.cs), .int .i64 n.rid, .int .i64 n.jobId, .slice 1 (n.draws.map u64Row), .slice 8 (n.results.map Rs.cs)]] = some (.bool (greatN n), []) := by
  rw [fn_text Tryz.func10 rfl rfl Tryz.results10 fq10.1 rfl rfl (by kernel_rfl)]
  have hme1 := h.me.n
  have hme2 := h.me.t
  obtain ⟨h1, h2, h3, h4, h5, h6, h7, h8, h9, h10, h11, h12, h13, h14, h15, h16, h17, h18, h19, h20⟩ := h
  rcases Bool.eq_false_or_eq_true (greatE n.me) with b1 | b1
  · simp -implicitDefEqProofs -dsimp +contextual (maxSteps := 9999999) (disch := first | omega | simp only [go_sem] <;> omega | refine ib ?_; kernel_rfl) only [go_sem, seval, ↓reduceIte, b1]
    simp [greatN, b1]
  by_cases b2 : 300 < n.psk.length
  · simp -implicitDefEqProofs -dsimp +contextual (maxSteps := 9999999) (disch := first | omega | simp only [go_sem] <;> omega | refine ib ?_; kernel_rfl) only [go_sem, seval, ↓reduceIte, b1, b2]
    simp [greatN, b2]
  by_cases b3 : 300 < n.gateK.length
  · simp -implicitDefEqProofs -dsimp +contextual (maxSteps := 9999999) (disch := first | omega | simp only [go_sem] <;> omega | refine ib ?_; kernel_rfl) only [go_sem, seval, ↓reduceIte, b1, b2, b3]
    simp [greatN, b3]
  rcases Bool.eq_false_or_eq_true (greatPs n.pred) with b4 | b4
  · simp -implicitDefEqProofs -dsimp +contextual (maxSteps := 9999999) (disch := first | omega | simp only [go_sem] <;> omega | refine ib ?_; kernel_rfl) only [go_sem, seval, ↓reduceIte, b1, b2, b3, b4, h5]
    simp [greatN, b4]
  rcases Bool.eq_false_or_eq_true (greatPs n.list) with b5 | b5
  · simp -implicitDefEqProofs -dsimp +contextual (maxSteps := 9999999) (disch := first | omega | simp only [go_sem] <;> omega | refine ib ?_; kernel_rfl) only [go_sem, seval, ↓reduceIte, b1, b2, b3, b4, b5, h5, h7]
    simp [greatN, b5]
  by_cases b6 : 70 < n.fingers.length
  · simp -implicitDefEqProofs -dsimp +contextual (maxSteps := 9999999) (disch := first | omega | simp only [go_sem] <;> omega | refine ib ?_; kernel_rfl) only [go_sem, seval, ↓reduceIte, b1, b2, b3, b4, b5, b6, h5, h7]
    simp [greatN, b6]
  rcases Bool.eq_false_or_eq_true (greatSs n.sessions) with b7 | b7
  · simp -implicitDefEqProofs -dsimp +contextual (maxSteps := 9999999) (disch := first | omega | simp only [go_sem] <;> omega | refine ib ?_; kernel_rfl) only [go_sem, seval, ↓reduceIte, b1, b2, b3, b4, b5, b6, b7, h5, h7, h11]
    simp [greatN, b7]
  rcases Bool.eq_false_or_eq_true (greatPds n.pends) with b8 | b8
  · simp -implicitDefEqProofs -dsimp +contextual (maxSteps := 9999999) (disch := first | omega | simp only [go_sem] <;> omega | refine ib ?_; kernel_rfl) only [go_sem, seval, ↓reduceIte, b1, b2, b3, b4, b5, b6, b7, b8, h5, h7, h11, h13]
    simp [greatN, b8]
  rcases Bool.eq_false_or_eq_true (greatIs n.items) with b9 | b9
  · simp -implicitDefEqProofs -dsimp +contextual (maxSteps := 9999999) (disch := first | omega | simp only [go_sem] <;> omega | refine ib ?_; kernel_rfl) only [go_sem, seval, ↓reduceIte, b1, b2, b3, b4, b5, b6, b7, b8, b9, h5, h7, h11, h13, h15]
    simp [greatN, b9]
  by_cases b10 : 20 < n.jobs.length
  · simp -implicitDefEqProofs -dsimp +contextual (maxSteps := 9999999) (disch := first | omega | simp only [go_sem] <;> omega | refine ib ?_; kernel_rfl) only [go_sem, seval, ↓reduceIte, b1, b2, b3, b4, b5, b6, b7, b8, b9, b10, h5, h7, h11, h13, h15]
    simp [greatN, b10]
  by_cases b11 : 60 < n.draws.length
  · simp -implicitDefEqProofs -dsimp +contextual (maxSteps := 9999999) (disch := first | omega | simp only [go_sem] <;> omega | refine ib ?_; kernel_rfl) only [go_sem, seval, ↓reduceIte, b1, b2, b3, b4, b5, b6, b7, b8, b9, b10, b11, h5, h7, h11, h13, h15]
    simp [greatN, b11]
  by_cases b12 : 40 < n.results.length
  · simp -implicitDefEqProofs -dsimp +contextual (maxSteps := 9999999) (disch := first | omega | simp only [go_sem] <;> omega | refine ib ?_; kernel_rfl) only [go_sem, seval, ↓reduceIte, b1, b2, b3, b4, b5, b6, b7, b8, b9, b10, b11, b12, h5, h7, h11, h13, h15]
    simp [greatN, b12]
  simp -implicitDefEqProofs -dsimp +contextual (maxSteps := 9999999) (disch := first | omega | simp only [go_sem] <;> omega | refine ib ?_; kernel_rfl) only [go_sem, seval, ↓reduceIte, b1, b2, b3, b4, b5, b6, b7, b8, b9, b10, b11, b12, h5, h7, h11, h13, h15]
  refine kFor n.fingers.length (fun i f H => f 1 = .ptr 101 1 0 0 ∧ f 3 = .int .i64 (i : Nat) ∧ H 101 = ⟨1, .live, 22, [n.cs], false⟩ ∧ (n.fingers.take i).any (fun x => greatE x.p.e) = false) ?_ ?_ ⟨rfl, rfl, rfl, rfl⟩
  · rintro i f H hi ⟨f1, f3, hH, ha⟩ ih
    have k1 := (h9 _ (List.getElem_mem hi)).l.n
    have k2 := (h9 _ (List.getElem_mem hi)).l.t
    simp -implicitDefEqProofs -dsimp +contextual (maxSteps := 9999999) (disch := first | omega | simp only [go_sem] <;> omega | refine ib ?_; kernel_rfl) only [go_sem, seval, ↓reduceIte, f1, f3, hH, hi, Nd.cs]
    (repeat' (refine kD_intro (fun _ => ?_) (fun _ => ?_)))
    · rename_i g; simp [greatN, any_at (p := fun x : Fg => greatE x.p.e) hi g]
    · rename_i g; exact ih _ _ ⟨f1, rfl, hH, any_take hi ha (by simpa using g)⟩
  rintro f H ⟨f1, f3, hH, ha⟩
  simp -implicitDefEqProofs -dsimp +contextual (maxSteps := 9999999) (disch := first | omega | simp only [go_sem] <;> omega | refine ib ?_; kernel_rfl) only [go_sem, seval, ↓reduceIte, f1, f3, hH, Nd.cs]
  have a1 := any_end ha
  refine kFor n.jobs.length (fun i f H => f 1 = .ptr 101 1 0 0 ∧ f 4 = .int .i64 (i : Nat) ∧ H 101 = ⟨1, .live, 22, [n.cs], false⟩ ∧ (n.jobs.take i).any greatJ = false) ?_ ?_ ⟨f1, rfl, hH, rfl⟩
  · rintro i f H hi ⟨f1, f4, hH, ha⟩ ih
    obtain ⟨k1, k2, ⟨k3, k4⟩, ⟨k5, k6⟩, ⟨k7, k8⟩, k9, k10⟩ := h17 _ (List.getElem_mem hi)
    have big : greatJ n.jobs[i] = true → greatN n = true := fun g => by simp [greatN, any_at hi g]
    by_cases c1 : 300 < n.jobs[i].key.length
    · simp -implicitDefEqProofs -dsimp +contextual (maxSteps := 9999999) (disch := first | omega | simp only [go_sem] <;> omega | refine ib ?_; kernel_rfl) only [go_sem, seval, ↓reduceIte, f1, f4, hH, hi, Nd.cs, c1]
      rw [big (by simp [greatJ, c1])]
    by_cases c2 : 300 < n.jobs[i].val.length
    · simp -implicitDefEqProofs -dsimp +contextual (maxSteps := 9999999) (disch := first | omega | simp only [go_sem] <;> omega | refine ib ?_; kernel_rfl) only [go_sem, seval, ↓reduceIte, f1, f4, hH, hi, Nd.cs, c1, c2]
      rw [big (by simp [greatJ, c2])]
    by_cases c3 : 300 < n.jobs[i].item.k.length
    · simp -implicitDefEqProofs -dsimp +contextual (maxSteps := 9999999) (disch := first | omega | simp only [go_sem] <;> omega | refine ib ?_; kernel_rfl) only [go_sem, seval, ↓reduceIte, f1, f4, hH, hi, Nd.cs, c1, c2, c3]
      rw [big (by simp [greatJ, c3])]
    by_cases c4 : 300 < n.jobs[i].item.v.length
    · simp -implicitDefEqProofs -dsimp +contextual (maxSteps := 9999999) (disch := first | omega | simp only [go_sem] <;> omega | refine ib ?_; kernel_rfl) only [go_sem, seval, ↓reduceIte, f1, f4, hH, hi, Nd.cs, c1, c2, c3, c4]
      rw [big (by simp [greatJ, c4])]
    rcases Bool.eq_false_or_eq_true (greatE n.jobs[i].owner) with c5 | c5
    · simp -implicitDefEqProofs -dsimp +contextual (maxSteps := 9999999) (disch := first | omega | simp only [go_sem] <;> omega | refine ib ?_; kernel_rfl) only [go_sem, seval, ↓reduceIte, f1, f4, hH, hi, Nd.cs, c1, c2, c3, c4, c5]
      rw [big (by simp [greatJ, c5])]
    rcases Bool.eq_false_or_eq_true (greatE n.jobs[i].back) with c6 | c6
    · simp -implicitDefEqProofs -dsimp +contextual (maxSteps := 9999999) (disch := first | omega | simp only [go_sem] <;> omega | refine ib ?_; kernel_rfl) only [go_sem, seval, ↓reduceIte, f1, f4, hH, hi, Nd.cs, c1, c2, c3, c4, c5, c6]
      rw [big (by simp [greatJ, c6])]
    by_cases c7 : 30 < n.jobs[i].asked.length
    · simp -implicitDefEqProofs -dsimp +contextual (maxSteps := 9999999) (disch := first | omega | simp only [go_sem] <;> omega | refine ib ?_; kernel_rfl) only [go_sem, seval, ↓reduceIte, f1, f4, hH, hi, Nd.cs, c1, c2, c3, c4, c5, c6, c7]
      rw [big (by simp [greatJ, c7])]
    simp -implicitDefEqProofs -dsimp +contextual (maxSteps := 9999999) (disch := first | omega | simp only [go_sem] <;> omega | refine ib ?_; kernel_rfl) only [go_sem, seval, ↓reduceIte, f1, f4, hH, hi, Nd.cs, c1, c2, c3, c4, c5, c6, c7]
    refine kFor n.jobs[i].asked.length (fun k f H => f 1 = .ptr 101 1 0 0 ∧ f 4 = .int .i64 (i : Nat) ∧ f 6 = .int .i64 (k : Nat) ∧ H 101 = ⟨1, .live, 22, [n.cs], false⟩ ∧ (∃ g, f 5 = .ptr 105 g 0 0 ∧ H 105 = ⟨g, .live, 29, [n.jobs[i].cs], false⟩) ∧ (n.jobs[i].asked.take k).any (fun a => decide (1000 < a.length)) = false) ?_ ?_ ⟨f1, f4, rfl, by simp [Heap.set, hH], ⟨_, rfl, rfl⟩, rfl⟩
    · rintro k f H hk ⟨f1, f4, f6, hH, ⟨g, f5, hG⟩, hb⟩ ih2
      have q1 := k10 _ (List.getElem_mem hk)
      simp -implicitDefEqProofs -dsimp +contextual (maxSteps := 9999999) (disch := first | omega | simp only [go_sem] <;> omega | refine ib ?_; kernel_rfl) only [go_sem, seval, ↓reduceIte, f1, f4, f5, f6, hH, hG, hk, hi]
      (repeat' (refine kD_intro (fun _ => ?_) (fun _ => ?_)))
      · rename_i g'; rw [big (by simp [greatJ, any_at (p := fun a : List UInt8 => decide (1000 < a.length)) hk (by simpa using g')])]
      · rename_i g'; exact ih2 _ _ ⟨f1, f4, rfl, hH, ⟨g, f5, hG⟩, any_take hk hb (by simpa using g')⟩
    · rintro f H ⟨f1, f4, f6, hH, ⟨g, f5, hG⟩, hb⟩
      simp -implicitDefEqProofs -dsimp +contextual (maxSteps := 9999999) (disch := first | omega | simp only [go_sem] <;> omega | refine ib ?_; kernel_rfl) only [go_sem, seval, ↓reduceIte, f1, f4, f5, f6, hH, hG, hi]
      exact ih _ _ ⟨f1, rfl, hH, any_take hi ha (by simp [greatJ, c1, c2, c3, c4, c5, c6, c7, any_end hb])⟩
  rintro f H ⟨f1, f4, hH, ha⟩
  simp -implicitDefEqProofs -dsimp +contextual (maxSteps := 9999999) (disch := first | omega | simp only [go_sem] <;> omega | refine ib ?_; kernel_rfl) only [go_sem, seval, ↓reduceIte, f1, f4, hH, Nd.cs]
  have a2 := any_end ha
  refine kFor n.results.length (fun i f H => f 1 = .ptr 101 1 0 0 ∧ f 7 = .int .i64 (i : Nat) ∧ H 101 = ⟨1, .live, 22, [n.cs], false⟩ ∧ (n.results.take i).any resG = false) ?_ ?_ ⟨f1, rfl, hH, rfl⟩
  · rintro i f H hi ⟨f1, f7, hH, ha⟩ ih
    have k1 := (h20 _ (List.getElem_mem hi)).k
    have k2 := (h20 _ (List.getElem_mem hi)).v
    have big : resG n.results[i] = true → greatN n = true := fun g => by
      have := any_at hi g
      unfold resG at this
      simp [greatN, this]
    simp -implicitDefEqProofs -dsimp +contextual (maxSteps := 9999999) (disch := first | omega | simp only [go_sem] <;> omega | refine ib ?_; kernel_rfl) only [go_sem, seval, ↓reduceIte, f1, f7, hH, hi, Nd.cs]
    (repeat' (refine kD_intro (fun _ => ?_) (fun _ => ?_)))
    · rename_i g; rw [big (by simp [resG, g])]
    · rename_i g g'; rw [big (by simp [resG, g'])]
    · rename_i g g'; exact ih _ _ ⟨f1, rfl, hH, any_take hi ha (by simp [resG]; omega)⟩
  rintro f H ⟨f1, f7, hH, ha⟩
  simp -implicitDefEqProofs -dsimp +contextual (maxSteps := 9999999) (disch := first | omega | simp only [go_sem] <;> omega | refine ib ?_; kernel_rfl) only [go_sem, seval, ↓reduceIte, f1, f7, hH, Nd.cs]
  have a3 := any_end ha
  unfold resG at a3
  simp [greatN, b1, b2, b3, b4, b5, b6, b7, b8, b9, b10, b11, b12, a1, a2, a3]
theorem Shs_split : ∀ {a b : List Shp} {xs : List AVal}, Shs (a ++ b) xs → ∃ x y, xs = x ++ y ∧ Shs a x ∧ Shs b y
  | [], _, xs, h => ⟨[], xs, rfl, rfl, h⟩
  | c :: a, b, xs, h => by
    simp only [List.cons_append, Shs] at h
    obtain ⟨v, as', rfl, h1, h2⟩ := h
    obtain ⟨x, y, rfl, h3, h4⟩ := Shs_split h2
    exact ⟨v :: x, y, rfl, by simp only [Shs]; exact ⟨v, x, rfl, h1, h3⟩, h4⟩
theorem rdU {z : Int} (h : (Lit.int .u64 z).wf = true) : ∃ n : Nat, z = (n : Int) ∧ n ≤ 18446744073709551615 := by
  have h := wf_u64 h
  obtain ⟨n, rfl⟩ := Int.eq_ofNat_of_zero_le h.1
  exact ⟨n, rfl, by omega⟩
theorem rdStr {xs : List AVal} (h : Shs [.s] xs) : ∃ l : List UInt8, xs = strRow l ∧ l.length ≤ 9223372036854775807 := by
  simp only [Shs, Sh] at h
  obtain ⟨_, _, rfl, ⟨l, rfl, hl⟩, rfl⟩ := h
  exact ⟨l, rfl, hl⟩
theorem rdNat {xs : List AVal} (h : Shs [.i .u64] xs) : ∃ n : Nat, xs = u64Row n ∧ n ≤ 18446744073709551615 := by
  simp only [Shs, Sh] at h
  obtain ⟨_, _, rfl, ⟨z, rfl, hz⟩, rfl⟩ := h
  obtain ⟨n, rfl, hn⟩ := rdU hz
  exact ⟨n, rfl, hn⟩
structure Wn.ok (x : Wn) : Prop where
  top : I64 x.top
  low : U64 x.low
  high : U64 x.high
def Wn.cs (x : Wn) : List AVal := [.int .i64 x.top, .int .u64 (x.low : Int), .int .u64 (x.high : Int)]
def shEn : List Shp := [.s, .i .u64, .i .i64, .i .i64, .i .i64, .s]
theorem rdEn {xs : List AVal} (h : Shs shEn xs) : ∃ x : En, xs = x.cs ∧ x.ok ∧ x.fit := by
  unfold shEn at h
  have p0 := h
  simp only [Shs, Sh] at p0
  obtain ⟨_, _, rfl, ⟨v_name, rfl, t_name⟩, _, _, rfl, ⟨v_id, rfl, k_id⟩, _, _, rfl, ⟨v_fr, rfl, k_fr⟩, _, _, rfl, ⟨v_un, rfl, k_un⟩, _, _, rfl, ⟨v_ix, rfl, k_ix⟩, _, _, rfl, ⟨v_tag, rfl, t_tag⟩, rfl⟩ := p0
  obtain ⟨v_id, rfl, u_id⟩ := rdU k_id
  have k_fr := wf_i64 k_fr
  have k_un := wf_i64 k_un
  have k_ix := wf_i64 k_ix
  exact ⟨⟨v_name, v_id, v_fr, v_un, v_ix, v_tag⟩, rfl, ⟨u_id, k_fr.1, k_fr.2, k_un.1, k_un.2, k_ix.1, k_ix.2⟩, ⟨t_name, t_tag⟩⟩
def shPr : List Shp := shEn ++ [.i .i64, .i .i64]
theorem rdPr {xs : List AVal} (h : Shs shPr xs) : ∃ x : Pr, xs = x.cs ∧ x.ok ∧ x.fit := by
  unfold shPr at h
  obtain ⟨x1, y1, rfl, p0, p1⟩ := Shs_split h
  obtain ⟨v_e, rfl, k_e, t_e⟩ := rdEn p0
  simp only [Shs, Sh] at p1
  obtain ⟨_, _, rfl, ⟨v_since, rfl, k_since⟩, _, _, rfl, ⟨v_under, rfl, k_under⟩, rfl⟩ := p1
  have k_since := wf_i64 k_since
  have k_under := wf_i64 k_under
  exact ⟨⟨v_e, v_since, v_under⟩, rfl, ⟨k_e, k_since.1, k_since.2, k_under.1, k_under.2⟩, ⟨t_e⟩⟩
def shFg : List Shp := [.i .i64] ++ shPr
theorem rdFg {xs : List AVal} (h : Shs shFg xs) : ∃ x : Fg, xs = x.cs ∧ x.ok ∧ x.p.fit := by
  unfold shFg at h
  obtain ⟨x1, y1, rfl, p0, p1⟩ := Shs_split h
  simp only [Shs, Sh] at p0
  obtain ⟨_, _, rfl, ⟨v_bit, rfl, k_bit⟩, rfl⟩ := p0
  have k_bit := wf_i64 k_bit
  obtain ⟨v_p, rfl, k_p, t_p⟩ := rdPr p1
  exact ⟨⟨v_bit, v_p⟩, rfl, ⟨k_bit, k_p⟩, t_p⟩
def shIt : List Shp := [.s, .s, .i .i64, .b]
theorem rdIt {xs : List AVal} (h : Shs shIt xs) : ∃ x : It, xs = x.cs ∧ x.ok ∧ x.fit := by
  unfold shIt at h
  have p0 := h
  simp only [Shs, Sh] at p0
  obtain ⟨_, _, rfl, ⟨v_k, rfl, t_k⟩, _, _, rfl, ⟨v_v, rfl, t_v⟩, _, _, rfl, ⟨v_n, rfl, k_n⟩, _, _, rfl, ⟨v_g, rfl⟩, rfl⟩ := p0
  have k_n := wf_i64 k_n
  exact ⟨⟨v_k, v_v, v_n, v_g⟩, rfl, ⟨k_n⟩, ⟨t_k, t_v⟩⟩
def shWn : List Shp := [.i .i64, .i .u64, .i .u64]
theorem rdWn {xs : List AVal} (h : Shs shWn xs) : ∃ x : Wn, xs = x.cs ∧ x.ok ∧ True := by
  unfold shWn at h
  have p0 := h
  simp only [Shs, Sh] at p0
  obtain ⟨_, _, rfl, ⟨v_top, rfl, k_top⟩, _, _, rfl, ⟨v_low, rfl, k_low⟩, _, _, rfl, ⟨v_high, rfl, k_high⟩, rfl⟩ := p0
  have k_top := wf_i64 k_top
  obtain ⟨v_low, rfl, u_low⟩ := rdU k_low
  obtain ⟨v_high, rfl, u_high⟩ := rdU k_high
  exact ⟨⟨v_top, v_low, v_high⟩, rfl, ⟨k_top, u_low, u_high⟩, trivial⟩
def shSe : List Shp := [.i .u64, .i .u64] ++ shEn ++ [.i .i64, .i .i64, .s, .s, .i .i64, .i .i64, .i .i64, .i .i64] ++ shWn ++ [.i .i64]
theorem rdSe {xs : List AVal} (h : Shs shSe xs) : ∃ x : Se, xs = x.cs ∧ x.ok ∧ x.fit := by
  unfold shSe at h
  obtain ⟨x4, y4, rfl, h4, p4⟩ := Shs_split h
  obtain ⟨x3, y3, rfl, h3, p3⟩ := Shs_split h4
  obtain ⟨x2, y2, rfl, h2, p2⟩ := Shs_split h3
  obtain ⟨x1, y1, rfl, p0, p1⟩ := Shs_split h2
  simp only [Shs, Sh] at p0
  obtain ⟨_, _, rfl, ⟨v_id, rfl, k_id⟩, _, _, rfl, ⟨v_nonce, rfl, k_nonce⟩, rfl⟩ := p0
  obtain ⟨v_id, rfl, u_id⟩ := rdU k_id
  obtain ⟨v_nonce, rfl, u_nonce⟩ := rdU k_nonce
  obtain ⟨v_peer, rfl, k_peer, t_peer⟩ := rdEn p1
  simp only [Shs, Sh] at p2
  obtain ⟨_, _, rfl, ⟨v_role, rfl, k_role⟩, _, _, rfl, ⟨v_state, rfl, k_state⟩, _, _, rfl, ⟨v_send, rfl, t_send⟩, _, _, rfl, ⟨v_hear, rfl, t_hear⟩, _, _, rfl, ⟨v_epoch, rfl, k_epoch⟩, _, _, rfl, ⟨v_count, rfl, k_count⟩, _, _, rfl, ⟨v_since, rfl, k_since⟩, _, _, rfl, ⟨v_seq, rfl, k_seq⟩, rfl⟩ := p2
  have k_role := wf_i64 k_role
  have k_state := wf_i64 k_state
  have k_epoch := wf_i64 k_epoch
  have k_count := wf_i64 k_count
  have k_since := wf_i64 k_since
  have k_seq := wf_i64 k_seq
  obtain ⟨v_seen, rfl, k_seen, t_seen⟩ := rdWn p3
  simp only [Shs, Sh] at p4
  obtain ⟨_, _, rfl, ⟨v_used, rfl, k_used⟩, rfl⟩ := p4
  have k_used := wf_i64 k_used
  exact ⟨⟨v_id, v_nonce, v_peer, v_role, v_state, v_send, v_hear, v_epoch, v_count, v_since, v_seq, v_seen, v_used⟩, rfl, ⟨u_id, u_nonce, k_peer, k_role, k_state, k_epoch, k_count, k_since, k_seq, k_seen.top, k_seen.low, k_seen.high, k_used⟩, ⟨t_peer, t_send, t_hear⟩⟩
def shMs : List Shp := [.i .i64, .i .i64, .i .i64, .i .i64, .i .u64, .b, .b, .s, .s, .sl 6 shEn, .sl 4 shIt]
theorem rdMs {xs : List AVal} (h : Shs shMs xs) : ∃ x : Ms, xs = x.cs ∧ x.ok ∧ x.fit := by
  unfold shMs at h
  have p0 := h
  simp only [Shs, Sh] at p0
  obtain ⟨_, _, rfl, ⟨v_kind, rfl, k_kind⟩, _, _, rfl, ⟨v_rid, rfl, k_rid⟩, _, _, rfl, ⟨v_ver, rfl, k_ver⟩, _, _, rfl, ⟨v_err, rfl, k_err⟩, _, _, rfl, ⟨v_id, rfl, k_id⟩, _, _, rfl, ⟨v_has, rfl⟩, _, _, rfl, ⟨v_gone, rfl⟩, _, _, rfl, ⟨v_key, rfl, t_key⟩, _, _, rfl, ⟨v_val, rfl, t_val⟩, _, _, rfl, ⟨v_ents, rfl, n_ents, r_ents⟩, _, _, rfl, ⟨v_items, rfl, n_items, r_items⟩, rfl⟩ := p0
  have k_kind := wf_i64 k_kind
  have k_rid := wf_i64 k_rid
  have k_ver := wf_i64 k_ver
  have k_err := wf_i64 k_err
  obtain ⟨v_id, rfl, u_id⟩ := rdU k_id
  obtain ⟨v_ents, rfl, q_ents⟩ := rows_map En.cs (fun x => x.ok ∧ x.fit) (fun r hr => rdEn (r_ents r hr))
  rw [List.length_map] at n_ents
  obtain ⟨v_items, rfl, q_items⟩ := rows_map It.cs (fun x => x.ok ∧ x.fit) (fun r hr => rdIt (r_items r hr))
  rw [List.length_map] at n_items
  exact ⟨⟨v_kind, v_rid, v_ver, v_err, v_id, v_has, v_gone, v_key, v_val, v_ents, v_items⟩, rfl, ⟨k_kind, k_rid, k_ver, k_err, u_id, fun x hx => (q_ents x hx).1, fun x hx => (q_items x hx).1⟩, ⟨t_key, t_val, n_ents, n_items, fun x hx => (q_ents x hx).2, fun x hx => (q_items x hx).2⟩⟩
def shPd : List Shp := [.i .i64, .i .i64, .i .i64, .i .i64, .i .i64, .i .u64] ++ shEn ++ shMs
theorem rdPd {xs : List AVal} (h : Shs shPd xs) : ∃ x : Pd, xs = x.cs ∧ x.ok ∧ x.fit := by
  unfold shPd at h
  obtain ⟨x2, y2, rfl, h2, p2⟩ := Shs_split h
  obtain ⟨x1, y1, rfl, p0, p1⟩ := Shs_split h2
  simp only [Shs, Sh] at p0
  obtain ⟨_, _, rfl, ⟨v_rid, rfl, k_rid⟩, _, _, rfl, ⟨v_why, rfl, k_why⟩, _, _, rfl, ⟨v_job, rfl, k_job⟩, _, _, rfl, ⟨v_til, rfl, k_til⟩, _, _, rfl, ⟨v_tries, rfl, k_tries⟩, _, _, rfl, ⟨v_session, rfl, k_session⟩, rfl⟩ := p0
  have k_rid := wf_i64 k_rid
  have k_why := wf_i64 k_why
  have k_job := wf_i64 k_job
  have k_til := wf_i64 k_til
  have k_tries := wf_i64 k_tries
  obtain ⟨v_session, rfl, u_session⟩ := rdU k_session
  obtain ⟨v_to, rfl, k_to, t_to⟩ := rdEn p1
  obtain ⟨v_m, rfl, k_m, t_m⟩ := rdMs p2
  exact ⟨⟨v_rid, v_why, v_job, v_til, v_tries, v_session, v_to, v_m⟩, rfl, ⟨k_rid, k_why, k_job, k_til, k_tries, u_session, k_to, k_m⟩, ⟨t_to, t_m⟩⟩
def shJb : List Shp := [.i .i64, .i .i64, .i .i64, .i .i64, .i .i64, .i .i64, .s, .s] ++ shEn ++ shIt ++ [.i .i64, .i .i64, .sl 1 [.s]] ++ shEn ++ [.i .i64, .i .i64]
theorem rdJb {xs : List AVal} (h : Shs shJb xs) : ∃ x : Jb, xs = x.cs ∧ x.ok ∧ x.fit := by
  unfold shJb at h
  obtain ⟨x5, y5, rfl, h5, p5⟩ := Shs_split h
  obtain ⟨x4, y4, rfl, h4, p4⟩ := Shs_split h5
  obtain ⟨x3, y3, rfl, h3, p3⟩ := Shs_split h4
  obtain ⟨x2, y2, rfl, h2, p2⟩ := Shs_split h3
  obtain ⟨x1, y1, rfl, p0, p1⟩ := Shs_split h2
  simp only [Shs, Sh] at p0
  obtain ⟨_, _, rfl, ⟨v_id, rfl, k_id⟩, _, _, rfl, ⟨v_kind, rfl, k_kind⟩, _, _, rfl, ⟨v_phase, rfl, k_phase⟩, _, _, rfl, ⟨v_hops, rfl, k_hops⟩, _, _, rfl, ⟨v_tries, rfl, k_tries⟩, _, _, rfl, ⟨v_til, rfl, k_til⟩, _, _, rfl, ⟨v_key, rfl, t_key⟩, _, _, rfl, ⟨v_val, rfl, t_val⟩, rfl⟩ := p0
  have k_id := wf_i64 k_id
  have k_kind := wf_i64 k_kind
  have k_phase := wf_i64 k_phase
  have k_hops := wf_i64 k_hops
  have k_tries := wf_i64 k_tries
  have k_til := wf_i64 k_til
  obtain ⟨v_owner, rfl, k_owner, t_owner⟩ := rdEn p1
  obtain ⟨v_item, rfl, k_item, t_item⟩ := rdIt p2
  simp only [Shs, Sh] at p3
  obtain ⟨_, _, rfl, ⟨v_acks, rfl, k_acks⟩, _, _, rfl, ⟨v_waits, rfl, k_waits⟩, _, _, rfl, ⟨v_asked, rfl, n_asked, r_asked⟩, rfl⟩ := p3
  have k_acks := wf_i64 k_acks
  have k_waits := wf_i64 k_waits
  obtain ⟨v_asked, rfl, t_asked⟩ := rows_map strRow (fun l => l.length ≤ 9223372036854775807) (fun r hr => rdStr (r_asked r hr))
  rw [List.length_map] at n_asked
  obtain ⟨v_back, rfl, k_back, t_back⟩ := rdEn p4
  simp only [Shs, Sh] at p5
  obtain ⟨_, _, rfl, ⟨v_backRid, rfl, k_backRid⟩, _, _, rfl, ⟨v_backJob, rfl, k_backJob⟩, rfl⟩ := p5
  have k_backRid := wf_i64 k_backRid
  have k_backJob := wf_i64 k_backJob
  exact ⟨⟨v_id, v_kind, v_phase, v_hops, v_tries, v_til, v_key, v_val, v_owner, v_item, v_acks, v_waits, v_asked, v_back, v_backRid, v_backJob⟩, rfl, ⟨k_id, k_kind, k_phase, k_hops, k_tries, k_til, k_owner, k_item, k_acks, k_waits, k_back, k_backRid, k_backJob⟩, ⟨t_key, t_val, t_item, t_owner, t_back, n_asked, t_asked⟩⟩
def shRs : List Shp := [.i .i64, .i .i64, .i .i64, .s, .s, .b, .b, .i .i64]
theorem rdRs {xs : List AVal} (h : Shs shRs xs) : ∃ x : Rs, xs = x.cs ∧ x.ok ∧ x.fit := by
  unfold shRs at h
  have p0 := h
  simp only [Shs, Sh] at p0
  obtain ⟨_, _, rfl, ⟨v_job, rfl, k_job⟩, _, _, rfl, ⟨v_kind, rfl, k_kind⟩, _, _, rfl, ⟨v_ver, rfl, k_ver⟩, _, _, rfl, ⟨v_key, rfl, t_key⟩, _, _, rfl, ⟨v_val, rfl, t_val⟩, _, _, rfl, ⟨v_has, rfl⟩, _, _, rfl, ⟨v_gone, rfl⟩, _, _, rfl, ⟨v_err, rfl, k_err⟩, rfl⟩ := p0
  have k_job := wf_i64 k_job
  have k_kind := wf_i64 k_kind
  have k_ver := wf_i64 k_ver
  have k_err := wf_i64 k_err
  exact ⟨⟨v_job, v_kind, v_ver, v_key, v_val, v_has, v_gone, v_err⟩, rfl, ⟨k_job.1, k_job.2, k_kind.1, k_kind.2, k_ver.1, k_ver.2, k_err.1, k_err.2⟩, ⟨t_key, t_val⟩⟩
def shNd : List Shp := shEn ++ [.i .i64, .s, .i .i64, .s, .b, .sl 8 shPr, .sl 8 shPr, .sl 9 shFg, .sl 20 shSe, .sl 23 shPd, .sl 4 shIt, .sl 29 shJb, .i .i64, .i .i64, .sl 1 [.i .u64], .sl 8 shRs]
theorem rdNd {xs : List AVal} (h : Shs shNd xs) : ∃ x : Nd, xs = x.cs ∧ x.ok ∧ x.fit := by
  unfold shNd at h
  obtain ⟨x1, y1, rfl, p0, p1⟩ := Shs_split h
  obtain ⟨v_me, rfl, k_me, t_me⟩ := rdEn p0
  simp only [Shs, Sh] at p1
  obtain ⟨_, _, rfl, ⟨v_clock, rfl, k_clock⟩, _, _, rfl, ⟨v_psk, rfl, t_psk⟩, _, _, rfl, ⟨v_gateI, rfl, k_gateI⟩, _, _, rfl, ⟨v_gateK, rfl, t_gateK⟩, _, _, rfl, ⟨v_ready, rfl⟩, _, _, rfl, ⟨v_pred, rfl, n_pred, r_pred⟩, _, _, rfl, ⟨v_list, rfl, n_list, r_list⟩, _, _, rfl, ⟨v_fingers, rfl, n_fingers, r_fingers⟩, _, _, rfl, ⟨v_sessions, rfl, n_sessions, r_sessions⟩, _, _, rfl, ⟨v_pends, rfl, n_pends, r_pends⟩, _, _, rfl, ⟨v_items, rfl, n_items, r_items⟩, _, _, rfl, ⟨v_jobs, rfl, n_jobs, r_jobs⟩, _, _, rfl, ⟨v_rid, rfl, k_rid⟩, _, _, rfl, ⟨v_jobId, rfl, k_jobId⟩, _, _, rfl, ⟨v_draws, rfl, n_draws, r_draws⟩, _, _, rfl, ⟨v_results, rfl, n_results, r_results⟩, rfl⟩ := p1
  have k_clock := wf_i64 k_clock
  have k_gateI := wf_i64 k_gateI
  obtain ⟨v_pred, rfl, q_pred⟩ := rows_map Pr.cs (fun x => x.ok ∧ x.fit) (fun r hr => rdPr (r_pred r hr))
  rw [List.length_map] at n_pred
  obtain ⟨v_list, rfl, q_list⟩ := rows_map Pr.cs (fun x => x.ok ∧ x.fit) (fun r hr => rdPr (r_list r hr))
  rw [List.length_map] at n_list
  obtain ⟨v_fingers, rfl, q_fingers⟩ := rows_map Fg.cs (fun x => x.ok ∧ x.p.fit) (fun r hr => rdFg (r_fingers r hr))
  rw [List.length_map] at n_fingers
  obtain ⟨v_sessions, rfl, q_sessions⟩ := rows_map Se.cs (fun x => x.ok ∧ x.fit) (fun r hr => rdSe (r_sessions r hr))
  rw [List.length_map] at n_sessions
  obtain ⟨v_pends, rfl, q_pends⟩ := rows_map Pd.cs (fun x => x.ok ∧ x.fit) (fun r hr => rdPd (r_pends r hr))
  rw [List.length_map] at n_pends
  obtain ⟨v_items, rfl, q_items⟩ := rows_map It.cs (fun x => x.ok ∧ x.fit) (fun r hr => rdIt (r_items r hr))
  rw [List.length_map] at n_items
  obtain ⟨v_jobs, rfl, q_jobs⟩ := rows_map Jb.cs (fun x => x.ok ∧ x.fit) (fun r hr => rdJb (r_jobs r hr))
  rw [List.length_map] at n_jobs
  have k_rid := wf_i64 k_rid
  have k_jobId := wf_i64 k_jobId
  obtain ⟨v_draws, rfl, k_draws⟩ := rows_map u64Row U64 (fun r hr => rdNat (r_draws r hr))
  rw [List.length_map] at n_draws
  obtain ⟨v_results, rfl, q_results⟩ := rows_map Rs.cs (fun x => x.ok ∧ x.fit) (fun r hr => rdRs (r_results r hr))
  rw [List.length_map] at n_results
  exact ⟨⟨v_me, v_clock, v_psk, v_gateI, v_gateK, v_ready, v_pred, v_list, v_fingers, v_sessions, v_pends, v_items, v_jobs, v_rid, v_jobId, v_draws, v_results⟩, rfl, ⟨k_me, k_clock, k_gateI, fun x hx => (q_pred x hx).1, fun x hx => (q_list x hx).1, fun x hx => (q_fingers x hx).1, fun x hx => (q_sessions x hx).1, fun x hx => (q_pends x hx).1, fun x hx => (q_items x hx).1, fun x hx => (q_jobs x hx).1, k_rid, k_jobId, k_draws, fun x hx => (q_results x hx).1⟩, ⟨t_me, t_psk, t_gateK, n_pred, fun x hx => (q_pred x hx).2, n_list, fun x hx => (q_list x hx).2, n_fingers, fun x hx => (q_fingers x hx).2, n_sessions, fun x hx => (q_sessions x hx).2, n_pends, fun x hx => (q_pends x hx).2, n_items, fun x hx => (q_items x hx).2, n_jobs, fun x hx => (q_jobs x hx).2, n_draws, n_results, fun x hx => (q_results x hx).2⟩⟩
end Go.Proofs.YtnpkhdjgedeppaaGreatDoor
