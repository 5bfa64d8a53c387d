import Derived.Test.YtccfjidpdlfenaaDoorTDigest3
namespace Go.Proofs.YtccfjidpdlfenaaDoor
open Go.Am
set_option linter.unusedSimpArgs false
set_option linter.unusedVariables false
set_option maxRecDepth 100000
/-! Layer 3: a block, as the document has it. -/
theorem div8 (x : UInt32) : ((x.toNat / 8 : Nat) : Int) = ((W32.shr x 3).toNat : Int) := by
  have := u32_lt x
  simp only [W32.shr, UInt32.toNat_ofNat']; omega
theorem div1024 (x : UInt32) : ((x.toNat / 1024 : Nat) : Int) = ((W32.shr x 10).toNat : Int) := by
  have := u32_lt x
  simp only [W32.shr, UInt32.toNat_ofNat']; omega
@[go_sem] theorem wRow_eq (x : UInt32) : wRow x = [.int .u32 (x.toNat : Int)] := rfl
theorem wds_zero (blk : List UInt8) : wds blk 0 = [] := rfl
@[go_sem] theorem wRow_clos (l : List UInt32) : (l.map wRow).all clos = true := by
  rw [List.all_eq_true]; intro r hr
  rw [List.mem_map] at hr
  obtain ⟨x, _, rfl⟩ := hr
  rfl
@[go_sem] theorem e157 : fn C 157 [] [] = some (.slice 1 (KS.map wRow), []) := by
  rw [fn_text Tryd.func157 rfl rfl Tryd.results157 locM157 rfl rfl (by kernel_rfl)]
  have h : [[AVal.int .u32 1116352408], [AVal.int .u32 1899447441], [AVal.int .u32 3049323471], [AVal.int .u32 3921009573], [AVal.int .u32 961987163], [AVal.int .u32 1508970993], [AVal.int .u32 2453635748], [AVal.int .u32 2870763221], [AVal.int .u32 3624381080], [AVal.int .u32 310598401], [AVal.int .u32 607225278], [AVal.int .u32 1426881987], [AVal.int .u32 1925078388], [AVal.int .u32 2162078206], [AVal.int .u32 2614888103], [AVal.int .u32 3248222580], [AVal.int .u32 3835390401], [AVal.int .u32 4022224774], [AVal.int .u32 264347078], [AVal.int .u32 604807628], [AVal.int .u32 770255983], [AVal.int .u32 1249150122], [AVal.int .u32 1555081692], [AVal.int .u32 1996064986], [AVal.int .u32 2554220882], [AVal.int .u32 2821834349], [AVal.int .u32 2952996808], [AVal.int .u32 3210313671], [AVal.int .u32 3336571891], [AVal.int .u32 3584528711], [AVal.int .u32 113926993], [AVal.int .u32 338241895], [AVal.int .u32 666307205], [AVal.int .u32 773529912], [AVal.int .u32 1294757372], [AVal.int .u32 1396182291], [AVal.int .u32 1695183700], [AVal.int .u32 1986661051], [AVal.int .u32 2177026350], [AVal.int .u32 2456956037], [AVal.int .u32 2730485921], [AVal.int .u32 2820302411], [AVal.int .u32 3259730800], [AVal.int .u32 3345764771], [AVal.int .u32 3516065817], [AVal.int .u32 3600352804], [AVal.int .u32 4094571909], [AVal.int .u32 275423344], [AVal.int .u32 430227734], [AVal.int .u32 506948616], [AVal.int .u32 659060556], [AVal.int .u32 883997877], [AVal.int .u32 958139571], [AVal.int .u32 1322822218], [AVal.int .u32 1537002063], [AVal.int .u32 1747873779], [AVal.int .u32 1955562222], [AVal.int .u32 2024104815], [AVal.int .u32 2227730452], [AVal.int .u32 2361852424], [AVal.int .u32 2428436474], [AVal.int .u32 2756734187], [AVal.int .u32 3204031479], [AVal.int .u32 3329325298]] = KS.map wRow := by kernel_rfl
  simp -implicitDefEqProofs -dsimp +contextual (maxSteps := 5000000) (disch := first | omega | (simp only [go_sem] <;> omega) | (show indepB _ _ = true; refine id ?_; kernel_rfl)) only [go_sem, ↓reduceIte, Nat.reduceEqDiff, Nat.reduceBEq, Nat.reduceAdd, Nat.reduceSub, Nat.reduceLeDiff, Nat.reduceLT, Nat.reduceMul, Int.reduceNeg, Int.reduceLT, Int.reduceLE, Int.reduceAdd, Int.reduceSub, Int.reduceToNat, Int.reduceMul, Int.reduceMod, Int.reduceTMod, Int.reduceTDiv, Int.reduceEq, Nat.reducePow, Nat.reduceDiv, Nat.reduceShiftRight, Nat.reduceMod, List.reduceReplicate, h]
theorem rows_add (u s : S8) : [[AVal.int .u32 ((s.a + u.a).toNat : Int)], [AVal.int .u32 ((s.b + u.b).toNat : Int)], [AVal.int .u32 ((s.c + u.c).toNat : Int)], [AVal.int .u32 ((s.d + u.d).toNat : Int)], [AVal.int .u32 ((s.e + u.e).toNat : Int)], [AVal.int .u32 ((s.f + u.f).toNat : Int)], [AVal.int .u32 ((s.g + u.g).toNat : Int)], [AVal.int .u32 ((s.h + u.h).toNat : Int)]] = (u.add s).l.map wRow := by
  rw [UInt32.add_comm s.a, UInt32.add_comm s.b, UInt32.add_comm s.c, UInt32.add_comm s.d, UInt32.add_comm s.e, UInt32.add_comm s.f, UInt32.add_comm s.g, UInt32.add_comm s.h]; rfl
theorem sstep_eq (u : S8) (k w : UInt32) : sstep u k w = ⟨chx u k w + chy u, u.a, u.b, u.c, u.d + chx u k w, u.e, u.f, u.g⟩ := by unfold sstep; rfl
theorem wsOf_eq (blk : List UInt8) : wsOf blk = extW 48 (wds blk 16) := rfl
theorem extW_succ (n : Nat) (l : List UInt32) : extW (n + 1) l = extW n (l ++ [nxt l]) := rfl
theorem extW_zero (l : List UInt32) : extW 0 l = l := rfl
attribute [local irreducible] wsOf KS rr wds nxt extW wd chx chy sstep S8.add
theorem numB_wd (blk : List UInt8) (t : Nat) (h : 4 * t + 4 ≤ blk.length) : numB ((blk.drop (4 * t)).take (4 * t + 4 - 4 * t)) = wd blk t := by
  rw [show 4 * t + 4 - 4 * t = 4 by omega, wd, numB]
  simp only [List.getD_eq_getElem?_getD, List.getElem?_take, List.getElem?_drop]
  simp
set_option maxHeartbeats 1000000 in
@[go_sem] theorem e136 (s : S8) (blk : List UInt8) (h : blk.length = 64) : fn C 136 [] [.slice 1 (s.l.map wRow), .slice 1 (blk.map byteRow)] = some (.slice 1 ((blockS s blk).l.map wRow), []) := by
  rw [fn_text Tryd.func136 rfl rfl Tryd.results136 locM136 rfl rfl (by kernel_rfl)]
  have hw := wsOf_len blk
  have hk := KS_len
  have hsl : s.l.map wRow = [[.int .u32 (s.a.toNat : Int)], [.int .u32 (s.b.toNat : Int)], [.int .u32 (s.c.toNat : Int)], [.int .u32 (s.d.toNat : Int)], [.int .u32 (s.e.toNat : Int)], [.int .u32 (s.f.toNat : Int)], [.int .u32 (s.g.toNat : Int)], [.int .u32 (s.h.toNat : Int)]] := rfl
  rw [hsl]
  simp -implicitDefEqProofs -dsimp +contextual (maxSteps := 5000000) (disch := first | omega | (simp only [go_sem] <;> omega) | (show indepB _ _ = true; refine id ?_; kernel_rfl)) only [go_sem, ↓reduceIte, Nat.reduceEqDiff, Nat.reduceBEq, Nat.reduceAdd, Nat.reduceSub, Nat.reduceLeDiff, Nat.reduceLT, Nat.reduceMul, Int.reduceNeg, Int.reduceLT, Int.reduceLE, Int.reduceAdd, Int.reduceSub, Int.reduceToNat, Int.reduceMul, Int.reduceMod, Int.reduceTMod, Int.reduceTDiv, Int.reduceEq, Nat.reducePow, Nat.reduceDiv, Nat.reduceShiftRight, Nat.reduceMod, List.reduceReplicate, h, hw]
  refine (kLoop_rec2 (fun (t : Nat) (l : List UInt32) f H => f 0 = .slice 1 [[.int .u32 (s.a.toNat : Int)], [.int .u32 (s.b.toNat : Int)], [.int .u32 (s.c.toNat : Int)], [.int .u32 (s.d.toNat : Int)], [.int .u32 (s.e.toNat : Int)], [.int .u32 (s.f.toNat : Int)], [.int .u32 (s.g.toNat : Int)], [.int .u32 (s.h.toNat : Int)]] ∧ f 1 = .slice 1 (blk.map byteRow) ∧ f 6 = .int .i64 (t : Int) ∧ ((t = 0 ∧ f 5 = .sc (.slice none 0 0) ∧ H 137 = ⟨0, .dead, 0, [], false⟩) ∨ (t ≠ 0 ∧ f 5 = .osl 137 t 0 t ∧ H 137 = ⟨t, .live, 1, l.map wRow, false⟩)) ∧ l.length = t ∧ t ≤ 64 ∧ (t ≤ 16 → l = wds blk t)) (fun t _ => 64 - t) (fun t l => some (.slice 1 (((rnd KS (if t ≤ 16 then wsOf blk else extW (64 - t) l) s).add s).l.map wRow), [])) ?_ 0 [] _ _ ⟨rfl, rfl, rfl, .inl ⟨rfl, rfl, rfl⟩, rfl, by omega, fun _ => by rw [wds]; rfl⟩)
  rintro t l f H ⟨f0, f1, f6, hc, hlen, ht, hwd⟩ ih
  by_cases hlt : t < 64
  · by_cases h16 : t < 16
    · rcases hc with ⟨rfl, f5, H137⟩ | ⟨h0, f5, H137⟩
      · simp -implicitDefEqProofs -dsimp +contextual (maxSteps := 5000000) (disch := first | omega | (simp only [go_sem] <;> omega) | (show indepB _ _ = true; refine id ?_; kernel_rfl)) only [go_sem, ↓reduceIte, Nat.reduceEqDiff, Nat.reduceBEq, Nat.reduceAdd, Nat.reduceSub, Nat.reduceLeDiff, Nat.reduceLT, Nat.reduceMul, Int.reduceNeg, Int.reduceLT, Int.reduceLE, Int.reduceAdd, Int.reduceSub, Int.reduceToNat, Int.reduceMul, Int.reduceMod, Int.reduceTMod, Int.reduceTDiv, Int.reduceEq, Nat.reducePow, Nat.reduceDiv, Nat.reduceShiftRight, Nat.reduceMod, List.reduceReplicate, f0, f1, f5, f6, H137, h, hlt, h16]
        have hn : numB (blk.take 4) = wd blk 0 := by simpa using numB_wd blk 0 (by omega)
        refine Eq.trans (ih 1 [wd blk 0] _ _ ⟨f0, f1, rfl, .inr ⟨by omega, by simp [upd], ?_⟩, rfl, by omega, fun _ => ?_⟩ (by omega)) ?_
        · rw [hn]; rfl
        · rw [show (1 : Nat) = 0 + 1 from rfl, wds_succ, wds_zero]; rfl
        · rw [if_pos (by decide)]
      · have hn := numB_wd blk t (by omega)
        simp -implicitDefEqProofs -dsimp +contextual (maxSteps := 5000000) (disch := first | omega | (simp only [go_sem] <;> omega) | (show indepB _ _ = true; refine id ?_; kernel_rfl)) only [go_sem, ↓reduceIte, Nat.reduceEqDiff, Nat.reduceBEq, Nat.reduceAdd, Nat.reduceSub, Nat.reduceLeDiff, Nat.reduceLT, Nat.reduceMul, Int.reduceNeg, Int.reduceLT, Int.reduceLE, Int.reduceAdd, Int.reduceSub, Int.reduceToNat, Int.reduceMul, Int.reduceMod, Int.reduceTMod, Int.reduceTDiv, Int.reduceEq, Nat.reducePow, Nat.reduceDiv, Nat.reduceShiftRight, Nat.reduceMod, List.reduceReplicate, f0, f1, f5, f6, H137, h, hlt, h16, hlen]
        rw [hn]
        refine Eq.trans (ih (t + 1) (l ++ [wd blk t]) _ _ ⟨f0, f1, rfl, .inr ⟨by omega, by simp [upd], ?_⟩, by simp [hlen], by omega, fun _ => ?_⟩ (by omega)) ?_
        · rw [List.map_append]; rfl
        · rw [wds_succ, hwd (by omega)]
        · rw [if_pos (by omega)]
          try rw [if_pos (by omega)]
    · rcases hc with ⟨rfl, f5, H137⟩ | ⟨h0, f5, H137⟩
      · exact absurd (by decide) h16
      · simp -implicitDefEqProofs -dsimp +contextual (maxSteps := 5000000) (disch := first | omega | (simp only [go_sem] <;> omega) | (show indepB _ _ = true; refine id ?_; kernel_rfl)) only [go_sem, ↓reduceIte, Nat.reduceEqDiff, Nat.reduceBEq, Nat.reduceAdd, Nat.reduceSub, Nat.reduceLeDiff, Nat.reduceLT, Nat.reduceMul, Int.reduceNeg, Int.reduceLT, Int.reduceLE, Int.reduceAdd, Int.reduceSub, Int.reduceToNat, Int.reduceMul, Int.reduceMod, Int.reduceTMod, Int.reduceTDiv, Int.reduceEq, Nat.reducePow, Nat.reduceDiv, Nat.reduceShiftRight, Nat.reduceMod, List.reduceReplicate, f0, f1, f5, f6, H137, h, hlt, h16, hlen, div8, div1024]
        have hn : l[t - 16] + l[t - 7] + (rr l[t - 15] 7 ^^^ rr l[t - 15] 18 ^^^ W32.shr l[t - 15] 3) + (rr l[t - 2] 17 ^^^ rr l[t - 2] 19 ^^^ W32.shr l[t - 2] 10) = nxt l := by
          subst hlen
          rw [nxt, getD_of _ _ _ (by omega), getD_of _ _ _ (by omega), getD_of _ _ _ (by omega), getD_of _ _ _ (by omega), sg0, sg1]
        have hF : (if t ≤ 16 then wsOf blk else extW (64 - t) l) = extW (64 - (t + 1)) (l ++ [nxt l]) := by
          rw [← extW_succ, show 64 - (t + 1) + 1 = 64 - t by omega]
          split
          · obtain rfl : t = 16 := by omega
            rw [wsOf_eq, hwd (by omega)]
          · rfl
        rw [hn, hF]
        refine Eq.trans (ih (t + 1) (l ++ [nxt l]) _ _ ⟨f0, f1, rfl, .inr ⟨by omega, by simp [upd], ?_⟩, by simp [hlen], by omega, fun _ => by omega⟩ (by omega)) ?_
        · rw [List.map_append]; rfl
        · rw [if_neg (by omega)]
  · obtain rfl : t = 64 := by omega
    rcases hc with ⟨h0, _⟩ | ⟨h0, f5, H137⟩
    · omega
    rw [if_neg (by omega), show 64 - 64 = 0 from rfl, extW_zero]
    simp -implicitDefEqProofs -dsimp +contextual (maxSteps := 5000000) (disch := first | omega | (simp only [go_sem] <;> omega) | (show indepB _ _ = true; refine id ?_; kernel_rfl)) only [go_sem, ↓reduceIte, Nat.reduceEqDiff, Nat.reduceBEq, Nat.reduceAdd, Nat.reduceSub, Nat.reduceLeDiff, Nat.reduceLT, Nat.reduceMul, Int.reduceNeg, Int.reduceLT, Int.reduceLE, Int.reduceAdd, Int.reduceSub, Int.reduceToNat, Int.reduceMul, Int.reduceMod, Int.reduceTMod, Int.reduceTDiv, Int.reduceEq, Nat.reducePow, Nat.reduceDiv, Nat.reduceShiftRight, Nat.reduceMod, List.reduceReplicate, f0, f1, f5, f6, H137, h, hlt, hlen, hk]
    refine (kLoop_rec2 (fun (i : Nat) (u : S8) f H => f 0 = .slice 1 [[.int .u32 (s.a.toNat : Int)], [.int .u32 (s.b.toNat : Int)], [.int .u32 (s.c.toNat : Int)], [.int .u32 (s.d.toNat : Int)], [.int .u32 (s.e.toNat : Int)], [.int .u32 (s.f.toNat : Int)], [.int .u32 (s.g.toNat : Int)], [.int .u32 (s.h.toNat : Int)]] ∧ f 5 = .osl 137 64 0 64 ∧ f 9 = .slice 1 (KS.map wRow) ∧ f 10 = .int .u32 (u.a.toNat : Int) ∧ f 11 = .int .u32 (u.b.toNat : Int) ∧ f 12 = .int .u32 (u.c.toNat : Int) ∧ f 13 = .int .u32 (u.d.toNat : Int) ∧ f 14 = .int .u32 (u.e.toNat : Int) ∧ f 15 = .int .u32 (u.f.toNat : Int) ∧ f 16 = .int .u32 (u.g.toNat : Int) ∧ f 17 = .int .u32 (u.h.toNat : Int) ∧ f 18 = .int .i64 (i : Int) ∧ H 137 = ⟨64, .live, 1, l.map wRow, false⟩ ∧ i ≤ 64) (fun i _ => 64 - i) (fun i u => some (.slice 1 (((rnd (KS.drop i) (l.drop i) u).add s).l.map wRow), [])) ?_ 0 s _ _ ⟨f0, f5, rfl, rfl, rfl, rfl, rfl, rfl, rfl, rfl, rfl, rfl, H137, by omega⟩)
    rintro i u f H ⟨f0, f5, f9, g10, g11, g12, g13, g14, g15, g16, g17, f18, H137, hi⟩ ih
    by_cases hl : i < 64
    · simp -implicitDefEqProofs -dsimp +contextual (maxSteps := 5000000) (disch := first | omega | (simp only [go_sem] <;> omega) | (show indepB _ _ = true; refine id ?_; kernel_rfl)) only [go_sem, ↓reduceIte, Nat.reduceEqDiff, Nat.reduceBEq, Nat.reduceAdd, Nat.reduceSub, Nat.reduceLeDiff, Nat.reduceLT, Nat.reduceMul, Int.reduceNeg, Int.reduceLT, Int.reduceLE, Int.reduceAdd, Int.reduceSub, Int.reduceToNat, Int.reduceMul, Int.reduceMod, Int.reduceTMod, Int.reduceTDiv, Int.reduceEq, Nat.reducePow, Nat.reduceDiv, Nat.reduceShiftRight, Nat.reduceMod, List.reduceReplicate, f0, f5, f9, g10, g11, g12, g13, g14, g15, g16, g17, f18, H137, hl, hlen, hk]
      have c1 := chx_eq u (KS[i]'(by rw [hk]; exact hl)) (l[i]'(by rw [hlen]; exact hl))
      have c2 := chy_eq u
      have c3 := rnd_drop KS l i (by rw [hk]; exact hl) (by rw [hlen]; exact hl) u
      rw [sstep_eq] at c3
      rw [c1, c2, c3]
      refine ih (i + 1) _ _ _ ?_ (by omega)
      exact ⟨f0, f5, f9, rfl, rfl, rfl, rfl, rfl, rfl, rfl, rfl, rfl, H137, by omega⟩
    · simp -implicitDefEqProofs -dsimp +contextual (maxSteps := 5000000) (disch := first | omega | (simp only [go_sem] <;> omega) | (show indepB _ _ = true; refine id ?_; kernel_rfl)) only [go_sem, ↓reduceIte, Nat.reduceEqDiff, Nat.reduceBEq, Nat.reduceAdd, Nat.reduceSub, Nat.reduceLeDiff, Nat.reduceLT, Nat.reduceMul, Int.reduceNeg, Int.reduceLT, Int.reduceLE, Int.reduceAdd, Int.reduceSub, Int.reduceToNat, Int.reduceMul, Int.reduceMod, Int.reduceTMod, Int.reduceTDiv, Int.reduceEq, Nat.reducePow, Nat.reduceDiv, Nat.reduceShiftRight, Nat.reduceMod, List.reduceReplicate, f0, f5, f9, g10, g11, g12, g13, g14, g15, g16, g17, f18, H137, hl, hlen, hk]
      obtain rfl : i = 64 := by omega
      rw [rnd_nil]
      exact congrArg (fun x => some (AVal.slice 1 x, ([] : List AVal))) (rows_add u s)

end Go.Proofs.YtccfjidpdlfenaaDoor
