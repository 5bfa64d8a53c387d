import Derived.Test.YtccfjidpdlfenaaDoorTDigest2
namespace Go.Proofs.YtccfjidpdlfenaaDoor
open Go.Am
set_option linter.unusedSimpArgs false
set_option linter.unusedVariables false
set_option maxRecDepth 100000
/-! Layer 3: a block taken into a state. -/
structure S8 where
  a : UInt32
  b : UInt32
  c : UInt32
  d : UInt32
  e : UInt32
  f : UInt32
  g : UInt32
  h : UInt32
def S8.l (s : S8) : List UInt32 := [s.a, s.b, s.c, s.d, s.e, s.f, s.g, s.h]
def chx (s : S8) (k w : UInt32) : UInt32 := s.h + (rr s.e 6 ^^^ rr s.e 11 ^^^ rr s.e 25) + ((s.e &&& s.f) ^^^ (~~~s.e &&& s.g)) + k + w
def chy (s : S8) : UInt32 := (rr s.a 2 ^^^ rr s.a 13 ^^^ rr s.a 22) + ((s.a &&& s.b) ^^^ (s.a &&& s.c) ^^^ (s.b &&& s.c))
def sstep (s : S8) (k w : UInt32) : S8 := ⟨chx s k w + chy s, s.a, s.b, s.c, s.d + chx s k w, s.e, s.f, s.g⟩
def rnd (ks ws : List UInt32) (s : S8) : S8 := (ks.zip ws).foldl (fun s p => sstep s p.1 p.2) s
def S8.add (s t : S8) : S8 := ⟨s.a + t.a, s.b + t.b, s.c + t.c, s.d + t.d, s.e + t.e, s.f + t.f, s.g + t.g, s.h + t.h⟩
def KS : List UInt32 := [1116352408, 1899447441, 3049323471, 3921009573, 961987163, 1508970993, 2453635748, 2870763221,   3624381080, 310598401, 607225278, 1426881987, 1925078388, 2162078206, 2614888103, 3248222580,   3835390401, 4022224774, 264347078, 604807628, 770255983, 1249150122, 1555081692, 1996064986,   2554220882, 2821834349, 2952996808, 3210313671, 3336571891, 3584528711, 113926993, 338241895,   666307205, 773529912, 1294757372, 1396182291, 1695183700, 1986661051, 2177026350, 2456956037,   2730485921, 2820302411, 3259730800, 3345764771, 3516065817, 3600352804, 4094571909, 275423344,   430227734, 506948616, 659060556, 883997877, 958139571, 1322822218, 1537002063, 1747873779,   1955562222, 2024104815, 2227730452, 2361852424, 2428436474, 2756734187, 3204031479, 3329325298]
@[go_sem] theorem KS_len : KS.length = 64 := rfl
def blockS (s : S8) (blk : List UInt8) : S8 := (rnd KS (wsOf blk) s).add s
@[go_sem] theorem KS_drop : KS.drop 64 = [] := rfl
@[go_sem] theorem g0_eq : tabV .u32 tabL0 = KS.map w32 := rfl
theorem chx_eq (s : S8) (k w : UInt32) : s.h + (rr s.e 6 ^^^ rr s.e 11 ^^^ rr s.e 25) + ((s.e &&& s.f) ^^^ (~~~s.e &&& s.g)) + k + w = chx s k w := by rw [chx]
theorem chy_eq (s : S8) : (rr s.a 2 ^^^ rr s.a 13 ^^^ rr s.a 22) + ((s.a &&& s.b) ^^^ (s.a &&& s.c) ^^^ (s.b &&& s.c)) = chy s := by rw [chy]
theorem rnd_nil (s : S8) : rnd [] [] s = s := by simp only [rnd, List.zip_nil_left, List.foldl_nil]
theorem cells_step (u : S8) (k w : UInt32) : [AVal.int .u32 ((chx u k w + chy u).toNat : Int), .int .u32 (u.a.toNat : Int), .int .u32 (u.b.toNat : Int), .int .u32 (u.c.toNat : Int), .int .u32 ((u.d + chx u k w).toNat : Int), .int .u32 (u.e.toNat : Int), .int .u32 (u.f.toNat : Int), .int .u32 (u.g.toNat : Int)] = [.int .u32 ((sstep u k w).a.toNat : Int), .int .u32 ((sstep u k w).b.toNat : Int), .int .u32 ((sstep u k w).c.toNat : Int), .int .u32 ((sstep u k w).d.toNat : Int), .int .u32 ((sstep u k w).e.toNat : Int), .int .u32 ((sstep u k w).f.toNat : Int), .int .u32 ((sstep u k w).g.toNat : Int), .int .u32 ((sstep u k w).h.toNat : Int)] := rfl
theorem cells_add (u s : S8) : [AVal.int .u32 ((u.a + s.a).toNat : Int), .int .u32 ((u.b + s.b).toNat : Int), .int .u32 ((u.c + s.c).toNat : Int), .int .u32 ((u.d + s.d).toNat : Int), .int .u32 ((u.e + s.e).toNat : Int), .int .u32 ((u.f + s.f).toNat : Int), .int .u32 ((u.g + s.g).toNat : Int), .int .u32 ((u.h + s.h).toNat : Int)] = (u.add s).l.map w32 := rfl
attribute [local irreducible] wsOf KS rr chx chy sstep S8.add
theorem rnd_cons (k w : UInt32) (ks ws : List UInt32) (s : S8) : rnd (k :: ks) (w :: ws) s = rnd ks ws (sstep s k w) := by simp only [rnd, List.zip_cons_cons, List.foldl_cons]
theorem rnd_drop (ks ws : List UInt32) (i : Nat) (h1 : i < ks.length) (h2 : i < ws.length) (u : S8) : rnd (ks.drop i) (ws.drop i) u = rnd (ks.drop (i + 1)) (ws.drop (i + 1)) (sstep u ks[i] ws[i]) := by
  rw [List.drop_eq_getElem_cons h1, List.drop_eq_getElem_cons h2, rnd_cons]
set_option maxHeartbeats 1000000 in
@[go_sem] theorem e133 (s : S8) (blk : List UInt8) (h : blk.length = 64) : fn C 133 [] [.agg (s.l.map w32), .agg (blk.map w8)] = some (.agg ((blockS s blk).l.map w32), []) := by
  rw [fn_text Tryd.func133 rfl rfl Tryd.results133 locM133 rfl rfl (okArgs_of (by kernel_rfl) (by kernel_rfl) (by simp only [go_sem]) rfl)]
  have hw := wsOf_len blk
  have hk := KS_len
  have hsl : s.l.map w32 = [.int .u32 (s.a.toNat : Int), .int .u32 (s.b.toNat : Int), .int .u32 (s.c.toNat : Int), .int .u32 (s.d.toNat : Int), .int .u32 (s.e.toNat : Int), .int .u32 (s.f.toNat : Int), .int .u32 (s.g.toNat : Int), .int .u32 (s.h.toNat : Int)] := rfl
  rw [hsl]
  simp -implicitDefEqProofs -dsimp +contextual (maxSteps := 5000000) (disch := first | omega | (simp only [go_sem] <;> omega) | (show indepB _ _ = true; refine id ?_; kernel_rfl)) only [go_sem, ↓reduceIte, Nat.reduceEqDiff, Nat.reduceBEq, Nat.reduceAdd, Nat.reduceSub, Nat.reduceLeDiff, Nat.reduceLT, Nat.reduceMul, Int.reduceNeg, Int.reduceLT, Int.reduceLE, Int.reduceAdd, Int.reduceSub, Int.reduceToNat, Int.reduceMul, Int.reduceMod, Int.reduceTMod, Int.reduceTDiv, Int.reduceEq, Nat.reducePow, Nat.reduceDiv, Nat.reduceShiftRight, Nat.reduceMod, List.reduceReplicate, h, hw]
  refine (kLoop_rec2 (fun (i : Nat) (u : S8) f H => f 2 = .ptr 102 1 0 0 ∧ f 4 = .ptr 104 1 0 0 ∧ f 5 = .ptr 105 1 0 0 ∧ f 6 = .ptr 106 1 0 0 ∧ f 20 = .int .i64 (i : Int) ∧ H 102 = ⟨1, .live, 8, [[.int .u32 (s.a.toNat : Int), .int .u32 (s.b.toNat : Int), .int .u32 (s.c.toNat : Int), .int .u32 (s.d.toNat : Int), .int .u32 (s.e.toNat : Int), .int .u32 (s.f.toNat : Int), .int .u32 (s.g.toNat : Int), .int .u32 (s.h.toNat : Int)]], false⟩ ∧ H 104 = ⟨1, .live, 8, [List.replicate 8 (.int .u32 0)], false⟩ ∧ H 105 = ⟨1, .live, 64, [(wsOf blk).map w32], false⟩ ∧ H 106 = ⟨1, .live, 8, [[.int .u32 (u.a.toNat : Int), .int .u32 (u.b.toNat : Int), .int .u32 (u.c.toNat : Int), .int .u32 (u.d.toNat : Int), .int .u32 (u.e.toNat : Int), .int .u32 (u.f.toNat : Int), .int .u32 (u.g.toNat : Int), .int .u32 (u.h.toNat : Int)]], false⟩ ∧ i ≤ 64) (fun i _ => 64 - i) (fun i u => some (.agg (((rnd (KS.drop i) ((wsOf blk).drop i) u).add s).l.map w32), [])) ?_ 0 s _ _ ⟨rfl, rfl, rfl, rfl, rfl, rfl, rfl, rfl, rfl, by omega⟩)
  rintro i u f H ⟨f2, f4, f5, f6, f20, H2, H4, H5, H6, hi⟩ ih
  by_cases hl : i < 64
  · simp -implicitDefEqProofs -dsimp +contextual (maxSteps := 5000000) (disch := first | omega | (simp only [go_sem] <;> omega) | (show indepB _ _ = true; refine id ?_; kernel_rfl)) only [go_sem, ↓reduceIte, Nat.reduceEqDiff, Nat.reduceBEq, Nat.reduceAdd, Nat.reduceSub, Nat.reduceLeDiff, Nat.reduceLT, Nat.reduceMul, Int.reduceNeg, Int.reduceLT, Int.reduceLE, Int.reduceAdd, Int.reduceSub, Int.reduceToNat, Int.reduceMul, Int.reduceMod, Int.reduceTMod, Int.reduceTDiv, Int.reduceEq, Nat.reducePow, Nat.reduceDiv, Nat.reduceShiftRight, Nat.reduceMod, List.reduceReplicate, f2, f4, f5, f6, f20, H2, H4, H5, H6, hl, hw, hk]
    have c1 := chx_eq u (KS[i]'(by rw [hk]; exact hl)) ((wsOf blk)[i]'(by rw [hw]; exact hl))
    have c2 := chy_eq u
    have c3 := cells_step u (KS[i]'(by rw [hk]; exact hl)) ((wsOf blk)[i]'(by rw [hw]; exact hl))
    rw [c1, c2, c3]
    have hfin := congrArg (fun r : S8 => some (AVal.agg ((r.add s).l.map w32), ([] : List AVal))) (rnd_drop KS (wsOf blk) i (by rw [hk]; exact hl) (by rw [hw]; exact hl) u)
    refine Eq.trans ?_ hfin.symm
    refine ih (i + 1) _ _ _ ?_ (by omega)
    exact ⟨f2, f4, f5, f6, rfl, H2, H4, H5, rfl, by omega⟩
  · simp -implicitDefEqProofs -dsimp +contextual (maxSteps := 5000000) (disch := first | omega | (simp only [go_sem] <;> omega) | (show indepB _ _ = true; refine id ?_; kernel_rfl)) only [go_sem, ↓reduceIte, Nat.reduceEqDiff, Nat.reduceBEq, Nat.reduceAdd, Nat.reduceSub, Nat.reduceLeDiff, Nat.reduceLT, Nat.reduceMul, Int.reduceNeg, Int.reduceLT, Int.reduceLE, Int.reduceAdd, Int.reduceSub, Int.reduceToNat, Int.reduceMul, Int.reduceMod, Int.reduceTMod, Int.reduceTDiv, Int.reduceEq, Nat.reducePow, Nat.reduceDiv, Nat.reduceShiftRight, Nat.reduceMod, List.reduceReplicate, f2, f4, f5, f6, f20, H2, H4, H5, H6, hl, kLoop_eq]
    obtain rfl : i = 64 := by omega
    rw [rnd_nil]
    exact congrArg (fun x => some (AVal.agg x, [])) (cells_add u s)

end Go.Proofs.YtccfjidpdlfenaaDoor
