import Derived.Test.YtccfjidpdlfenaaGreatDoorTPoly3
namespace Go.Proofs.YtccfjidpdlfenaaGreatDoor
open Go.Am
set_option linter.unusedSimpArgs false
set_option linter.unusedVariables false
set_option maxRecDepth 100000
/-! Layer 7: both tags are the same. -/
theorem dV_set2 : ∀ (l : List Nat) (j v : Nat) (h : j < l.length), dV (l.set j v) + l[j] * 256 ^ j = dV l + v * 256 ^ j
  | [], _, _, h => by simp at h
  | x :: l, 0, v, _ => by simp [dV]; omega
  | x :: l, j + 1, v, h => by
    have := dV_set2 l j v (by simpa using h)
    simp only [List.getElem_cons_succ, List.set_cons_succ, dV, Nat.pow_succ]
    grind
def N130 : Nat := 1361129467683753853853498429727072845824
theorem fold_mod (x : Nat) : (x % N130 + 5 * (x / N130)) % P0 = x % P0 := by
  have e : x = (x % N130 + 5 * (x / N130)) + P0 * (x / N130) := by
    have := Nat.mod_add_div x N130
    have h : N130 * (x / N130) = 5 * (x / N130) + P0 * (x / N130) := by rw [← Nat.add_mul]; rfl
    omega
  rw (occs := .pos [3]) [e]
  rw [Nat.add_mul_mod_self_left]
theorem fold_step (n : List Nat) (hd : Dg n) (h17 : 17 ≤ n.length) (h41 : n.length ≤ 41) (hv : dV n < N130 * N130) : dV (carrR (foldR n)) = dV n % N130 + 5 * (dV n / N130) := by
  have e := foldR_val n hd h17 h41
  have h1 : dV n % N130 < N130 := Nat.mod_lt _ (by decide)
  have h2 : dV n / N130 < N130 := Nat.div_lt_of_lt_mul hv
  rw [carrR_val]
  · exact e
  · rw [foldR_len n (by omega), e]
    have : (N130 + 5 * N130) < 256 ^ (24 + 4) := by decide
    change dV n % N130 + 5 * (dV n / N130) < _
    omega
theorem fold_small (x : Nat) (h : x < N130) : x % N130 + 5 * (x / N130) = x := by
  rw [Nat.mod_eq_of_lt h, Nat.div_eq_of_lt h, Nat.mul_zero, Nat.add_zero]
theorem mulR_val (a b : List Nat) (ha : a.length = 17) (hb : b.length = 17) (hv : dV a * dV b < N130 * (N130 / 2)) : dV (mulR a b) < N130 ∧ dV (mulR a b) % P0 = dV a * dV b % P0 := by
  have c0 : dV (convG b (List.replicate 34 0) 0 a) = dV a * dV b := by
    rw [convG_val _ _ _ _ (by simp; omega), dV_rep]; simp
  have cl : (convG b (List.replicate 34 0) 0 a).length = 34 := by rw [convG_len]; simp
  have s1 := carrR_len (convG b (List.replicate 34 0) 0 a)
  have d1 := carrR_dg (convG b (List.replicate 34 0) 0 a)
  have e1 : dV (carrR (convG b (List.replicate 34 0) 0 a)) = dV a * dV b := by
    rw [carrR_val _ (by rw [cl, c0]; exact Nat.lt_trans hv (by decide)), c0]
  rw [mulR, foldsR]
  generalize carrR (convG b (List.replicate 34 0) 0 a) = m1 at *
  have w1 := foldR_len m1 (by omega)
  have s2 := carrR_len (foldR m1)
  have d2 := carrR_dg (foldR m1)
  have e2 := fold_step m1 d1 (by omega) (by omega) (by rw [e1]; exact Nat.lt_trans hv (by decide))
  have q1 : dV m1 / N130 < N130 / 2 := Nat.div_lt_of_lt_mul (by rw [e1]; exact hv)
  have r1 : dV m1 % N130 < N130 := Nat.mod_lt _ (by decide)
  have t2 := fold_mod (dV m1)
  rw [← e2] at t2
  generalize carrR (foldR m1) = m2 at *
  have b2 : dV m2 < 4 * N130 := by simp only [N130] at *; omega
  have w2 := foldR_len m2 (by omega)
  have s3 := carrR_len (foldR m2)
  have d3 := carrR_dg (foldR m2)
  have e3 := fold_step m2 d2 (by omega) (by omega) (Nat.lt_trans b2 (by decide))
  have t3 := fold_mod (dV m2)
  rw [← e3] at t3
  generalize carrR (foldR m2) = m3 at *
  have b3 : dV m3 < N130 + 20 := by simp only [N130] at *; omega
  have w3 := foldR_len m3 (by omega)
  have s4 := carrR_len (foldR m3)
  have d4 := carrR_dg (foldR m3)
  have e4 := fold_step m3 d3 (by omega) (by omega) (Nat.lt_trans b3 (by decide))
  have t4 := fold_mod (dV m3)
  rw [← e4] at t4
  generalize carrR (foldR m3) = m4 at *
  have b4 : dV m4 < N130 := by simp only [N130] at *; omega
  have w4 := foldR_len m4 (by omega)
  have d5 := carrR_dg (foldR m4)
  have e5 := fold_step m4 d4 (by omega) (by omega) (Nat.lt_trans b4 (by decide))
  rw [fold_small _ b4] at e5
  generalize carrR (foldR m4) = m5 at *
  have e6 : dV (m5.take 17) = dV m4 := by
    rw [dV_take _ _ d5, e5]
    exact Nat.mod_eq_of_lt (Nat.lt_trans b4 (by decide))
  rw [e6, t4, t3, t2, e1]
  exact ⟨b4, rfl⟩
theorem leastR_val (n : List Nat) (hn : n.length = 17) (hd : Dg n) (hv : dV n < N130) : dV (leastR n) = dV n % P0 := by
  have hs := dV_set n 0 5 (by omega)
  rw [Nat.pow_zero, Nat.mul_one] at hs
  have e1 : dV (carrR (n.set 0 (n[0] + 5))) = dV n + 5 := by
    rw [carrR_val, hs]
    rw [hs, List.length_set, hn]
    have : N130 + 5 < 256 ^ (17 + 4) := by decide
    omega
  have d1 := carrR_dg (n.set 0 (n[0] + 5))
  have l1 := carrR_len (n.set 0 (n[0] + 5))
  rw [List.length_set] at l1
  simp only [leastR]
  rw [getD_at n 0 (by omega)]
  generalize carrR (n.set 0 (n[0] + 5)) = m at *
  have g16 := dV_get m 16 d1 (by omega)
  have g17 := dV_get m 17 d1 (by omega)
  rw [getD_at _ 16 (by omega), getD_at _ 17 (by omega)]
  have ds := dV_set2 m 16 (m[16] % 4) (by omega)
  have dd : Dg (m.set 16 (m[16] % 4)) := by
    intro x hx
    rcases List.mem_or_eq_of_mem_set hx with hx | rfl
    · exact d1 x hx
    · omega
  have et := dV_take (m.set 16 (m[16] % 4)) 17 dd
  generalize m[16] = x at *
  generalize m[17] = y at *
  generalize hD : dV (m.set 16 (x % 4)) = D at *
  simp only [show (256 : Nat) ^ 16 = 340282366920938463463374607431768211456 by decide, show (256 : Nat) ^ 17 = 87112285931760246646623899502532662132736 by decide] at *
  rw [e1] at *
  simp only [N130] at hv
  split
  · rename_i hc
    rw [P0, Nat.mod_eq_of_lt (by omega)]
  · rename_i hc
    rw [et, P0]
    have h4 : x = 4 := by omega
    subst h4
    have : dV n = 1361129467683753853853498429727072845819 + D := by omega
    rw [this, Nat.add_mod_left, Nat.mod_eq_of_lt (show D < 87112285931760246646623899502532662132736 by omega), Nat.mod_eq_of_lt (by omega)]
theorem blkR_val (b : List UInt8) (h : b.length ≤ 16) : dV (blkR b) = leV (b ++ [1]) := by
  have hl := digR_len b (by omega)
  have hs := dV_set2 (digR b) b.length 1 (by omega)
  have e0 : (digR b)[b.length]'(by omega) = 0 := by
    simp only [digR]
    rw [List.getElem_append_right (by simp)]
    simp
  rw [e0, digR_val] at hs
  rw [blkR, leV_app]
  simp only [leV]
  simpa using hs
theorem plusR_val : ∀ (a b : List Nat), a.length = b.length → dV (plusR a b) = dV a + dV b
  | [], [], _ => rfl
  | x :: a, y :: b, h => by
    have := plusR_val a b (by simpa using h)
    rw [plusR] at this ⊢
    simp only [List.zipWith_cons_cons, dV, this]; omega
theorem leV_block2 (b : List UInt8) (h : b.length ≤ 16) : leV (b ++ [1]) ≤ 2 * 256 ^ 16 := by
  have h1 := leV_lt b
  have h2 : (256 : Nat) ^ b.length ≤ 256 ^ 16 := Nat.pow_le_pow_right (by decide) h
  rw [leV_app]
  have h3 : leV [1] = 1 := rfl
  rw [h3, Nat.mul_one]
  omega
theorem mac_mod (a b c p : Nat) : (a + b) * c % p = (b % p + a) * c % p := by
  rw [Nat.mul_mod, Nat.mul_mod (b % p + a), Nat.mod_add_mod, Nat.add_comm]
theorem accR_val (r : List Nat) (hr : r.length = 17) (hv : dV r < 256 ^ 16) : ∀ (k : Nat) (n : List Nat) (msg : List UInt8), n.length = 17 → Dg n → dV n < N130 →
    (accR r k n msg).length = 17 ∧ Dg (accR r k n msg) ∧ dV (accR r k n msg) < N130 ∧ dV (accR r k n msg) % P0 = macV (dV r) k (dV n % P0) msg
  | 0, n, msg, hn, hd, hl => ⟨hn, hd, hl, rfl⟩
  | k + 1, n, msg, hn, hd, hl => by
    rw [accR, macV]
    split
    · exact ⟨hn, hd, hl, rfl⟩
    · have hb : (msg.take 16).length ≤ 16 := by simp; omega
      have hbl := blkR_len _ hb
      have e1 : dV (plusR (blkR (msg.take 16)) n) = leV (msg.take 16 ++ [1]) + dV n := by rw [plusR_val _ _ (by omega), blkR_val _ hb]
      have h1 := leV_block _ hb
      have h2 : dV (plusR (blkR (msg.take 16)) n) * dV r < N130 * (N130 / 2) := by
        have h3 := leV_block2 _ hb
        refine Nat.lt_of_le_of_lt (Nat.mul_le_mul (show _ ≤ 2 * 256 ^ 16 + N130 by rw [e1]; omega) (Nat.le_of_lt hv)) (by decide)
      obtain ⟨m1, m2⟩ := mulR_val _ r (plusR_len _ n hbl hn) hr h2
      obtain ⟨k1, k2, k3, k4⟩ := accR_val r hr hv k _ (msg.drop 16) (mulR_len _ _) (mulR_dg _ _) m1
      refine ⟨k1, k2, k3, ?_⟩
      rw [k4, m2, e1, mac_mod]
theorem bytes_leB (n : List Nat) (hn : n.length = 17) (hd : Dg n) : (n.take 16).map UInt8.ofNat = leB (dV n) 16 := by
  refine List.ext_getElem (by simp [leB]; omega) fun i h1 h2 => ?_
  simp only [leB, List.getElem_map, List.getElem_range, List.getElem_take]
  rw [dV_get n i hd (by simp [leB] at h2; omega)]
  exact ofNat8 _ _ (by simp)
theorem tag_same (key msg : List UInt8) (hk : key.length = 32) : finR key (accR (digR (clampB key)) msg.length Z17 msg) = tagB key msg := by
  have hcl := clampB_len key (by omega)
  have hr := digR_len (clampB key) (by omega)
  have hv := leV_lt (clampB key)
  rw [hcl] at hv
  have hv2 : dV (digR (clampB key)) < 256 ^ 16 := by rw [digR_val]; exact hv
  obtain ⟨k1, k2, k3, k4⟩ := accR_val _ hr hv2 msg.length Z17 msg rfl (by simp [Dg, Z17]) (by decide)
  rw [tagB_val, finR]
  generalize hA : accR (digR (clampB key)) msg.length Z17 msg = A at *
  have l1 := leastR_len A k1
  have d1 := leastR_dg A k2
  have v1 := leastR_val A k1 k2 k3
  have v2 := leastR_val _ l1 d1 (by rw [v1]; exact Nat.lt_trans (Nat.mod_lt _ (by decide)) (by decide : P0 < N130))
  rw [bytes_leB _ (leastR_len _ l1) (leastR_dg _ d1), v2, v1, Nat.mod_mod, k4, digR_val, Nat.mod_eq_of_lt (Nat.lt_trans hv (by decide))]
  rfl

@[go_sem] theorem refTag (key msg : List UInt8) (hk : key.length = 32) (hm : msg.length ≤ 1000000000) : fn C 92 [] [.slice 1 (key.map byteRow), .slice 1 (msg.map byteRow)] = some (.tup [.slice 1 ((tagB key msg).map byteRow), .int .i64 0], []) := by
  rw [e92 key msg hk hm, tag_same key msg hk]

end Go.Proofs.YtccfjidpdlfenaaGreatDoor
namespace Go.Proofs.YtccfjidpdlfenaaGreatDoor
open Go.Am
set_option linter.unusedSimpArgs false
set_option linter.unusedVariables false
set_option maxRecDepth 100000
/-! Layer 8: boxes. -/
def padB (l : List UInt8) : List UInt8 := l ++ List.replicate ((16 - l.length % 16) % 16) 0
theorem padB_done (l : List UInt8) (h : l.length % 16 = 0) : padB l = l := by simp [padB, h]
theorem padB_more (l : List UInt8) (h : l.length % 16 ≠ 0) : padB (l ++ [0]) = padB l := by
  unfold padB
  rw [List.append_assoc]
  congr 1
  rw [show [(0 : UInt8)] = List.replicate 1 0 from rfl, List.replicate_append_replicate]
  congr 1
  simp; omega
theorem padB_len (l : List UInt8) : (padB l).length ≤ l.length + 15 := by simp [padB]; omega
def le8 (n : Nat) : List UInt8 := [UInt8.ofNat (n / 1), UInt8.ofNat (n / 256), UInt8.ofNat (n / 65536), UInt8.ofNat (n / 16777216), UInt8.ofNat (n / 4294967296), UInt8.ofNat (n / 1099511627776), UInt8.ofNat (n / 281474976710656), UInt8.ofNat (n / 72057594037927936)]
@[go_sem] theorem le8_len (n : Nat) : (le8 n).length = 8 := rfl
theorem row0 (l : List UInt8) : l.map byteRow ++ [[AVal.int .u8 0]] = (l ++ [0]).map byteRow := by simp [byteRow]

@[go_sem] theorem e72 (l : List UInt8) (hl : l.length ≤ 1000000000) : fn C 72 [] [.usl 1 (l.map byteRow)] = some (.usl 1 ((padB l).map byteRow), []) := by
  rw [fn_text Tryz.func72 rfl rfl Tryz.results72 fq72.1 rfl rfl (by kernel_rfl)]
  simp -implicitDefEqProofs -dsimp +contextual (maxSteps := 9999999) (disch := first | omega | simp only [go_sem] <;> omega | refine ib ?_; kernel_rfl) only [go_sem, seval, ↓reduceIte]
  refine kLoop_rec2 (fun (g : Nat) (m : List UInt8) f H => f 0 = .osl 1 g 0 m.length ∧ (∃ e, H 1 = ⟨g, .live, 1, m.map byteRow, e⟩) ∧ m.length ≤ 1000000016) (fun _ m => (16 - m.length % 16) % 16) (fun _ m => some (.usl 1 ((padB m).map byteRow), [])) ?_ 1 l _ _ ⟨rfl, ⟨_, rfl⟩, by omega⟩
  rintro g m f H ⟨f0, ⟨e, H1⟩, hm⟩ ih
  by_cases h : m.length % 16 = 0
  · simp -implicitDefEqProofs -dsimp +contextual (maxSteps := 9999999) (disch := first | omega | simp only [go_sem] <;> omega | refine ib ?_; kernel_rfl) only [go_sem, seval, ↓reduceIte, f0, H1, h]
    rw [padB_done m h]
  · simp -implicitDefEqProofs -dsimp +contextual (maxSteps := 9999999) (disch := first | omega | simp only [go_sem] <;> omega | refine ib ?_; kernel_rfl) only [go_sem, seval, ↓reduceIte, f0, H1, h, row0]
    rw [← padB_more m h]
    exact ih (g + 1) (m ++ [0]) _ _ ⟨by simp [upd, restr], ⟨_, rfl⟩, by simp; omega⟩ (by simp; omega)

theorem boxLength (ex : List Nat) (hex : ex = [] ∨ ex = [0]) (l : List UInt8) (n : Nat) (hn : n ≤ 1000000000) (hl : l.length ≤ 1000000000) : fn C 74 ex [.usl 1 (l.map byteRow), .int .i64 (n : Int)] = some (.usl 1 ((l ++ le8 n).map byteRow), []) := by
  rcases hex with rfl | rfl
  · rw [fn_text Tryz.func74 rfl rfl Tryz.results74 fq74.1 rfl rfl (by kernel_rfl)]
    simp -implicitDefEqProofs -dsimp +contextual (maxSteps := 9999999) (disch := first | omega | simp only [go_sem] <;> omega | refine ib ?_; kernel_rfl) only [go_sem, seval, ↓reduceIte, kLoop_eq, u8_wrap]
    simp only [le8, List.append_assoc, List.cons_append, List.nil_append]
  · rw [fn_text Tryz.func74 rfl rfl Tryz.results74 fq74.1 rfl rfl (by kernel_rfl)]
    simp -implicitDefEqProofs -dsimp +contextual (maxSteps := 9999999) (disch := first | omega | simp only [go_sem] <;> omega | refine ib ?_; kernel_rfl) only [go_sem, seval, ↓reduceIte, kLoop_eq, u8_wrap]
    simp only [le8, List.append_assoc, List.cons_append, List.nil_append]

@[go_sem] theorem e74 (l : List UInt8) (n : Nat) (hn : n ≤ 1000000000) (hl : l.length ≤ 1000000000) : fn C 74 [] [.usl 1 (l.map byteRow), .int .i64 (n : Int)] = some (.usl 1 ((l ++ le8 n).map byteRow), []) := boxLength [] (.inl rfl) l n hn hl

@[go_sem] theorem e41 (key nonce : List UInt8) : fn C 41 [] [.slice 1 (key.map byteRow), .slice 1 (nonce.map byteRow)] = some (.bool (decide (key.length = 32) && decide (nonce.length = 12)), []) := by
  rw [fn_text Tryz.func41 rfl rfl Tryz.results41 fq41.1 rfl rfl (by kernel_rfl)]
  simp -implicitDefEqProofs -dsimp +contextual (maxSteps := 9999999) (disch := first | omega | simp only [go_sem] <;> omega | refine ib ?_; kernel_rfl) only [go_sem, seval, ↓reduceIte]
  (repeat' (refine kD_intro (fun _ => ?_) (fun _ => ?_))) <;> exact Res_bool (by simp [*])

theorem ofNat0 : ((0 : UInt32).toNat : Int) = 0 := rfl
@[go_sem] theorem eBlock0 (key nonce : List UInt8) : fn C 71 [] [.slice 1 (key.map byteRow), .slice 1 (nonce.map byteRow), .int .u32 0] = some (if key.length = 32 ∧ nonce.length = 12 then .tup [.slice 1 ((blockB key nonce 0).map byteRow), .int .i64 0] else .tup [.slice 1 [], .int .i64 2], []) := e71 key nonce 0
@[go_sem] theorem eXor1 (key nonce msg : List UInt8) (hm : msg.length ≤ 1000000000) : fn C 42 [] [.slice 1 (key.map byteRow), .slice 1 (nonce.map byteRow), .int .u32 1, .slice 1 (msg.map byteRow)] = some (xorR .usl key nonce 1 msg) := e42 key nonce 1 msg hm

def tagX (key nonce wth text : List UInt8) : List UInt8 := tagB ((blockB key nonce 0).take 32) (padB (padB wth ++ text) ++ le8 wth.length ++ le8 text.length)
@[go_sem] theorem tagX_len (key nonce wth text : List UInt8) : (tagX key nonce wth text).length = 16 := by simp [tagX, tagB_len]
set_option maxHeartbeats 4000000 in
@[go_sem] theorem e43 (key nonce wth text : List UInt8) (hk : key.length = 32) (hn : nonce.length = 12) (hw : wth.length ≤ 100000000) (ht : text.length ≤ 100000000) : fn C 43 [] [.slice 1 (key.map byteRow), .slice 1 (nonce.map byteRow), .slice 1 (wth.map byteRow), .slice 1 (text.map byteRow)] = some (.usl 1 ((tagX key nonce wth text).map byteRow), []) := by
  have hp := padB_len wth
  have hp2 := padB_len (padB wth ++ text)
  simp only [List.length_append] at hp2
  rw [fn_text Tryz.func43 rfl rfl Tryz.results43 fq43.1 rfl rfl (by kernel_rfl)]
  have hne : ¬ (wth.length = wth.length + text.length + 64) := by omega
  simp -implicitDefEqProofs -dsimp +contextual (maxSteps := 9999999) (disch := first | omega | simp only [go_sem] <;> omega | refine ib ?_; kernel_rfl) only [go_sem, seval, ↓reduceIte, hk, hn, hne]
  rfl

end Go.Proofs.YtccfjidpdlfenaaGreatDoor
namespace Go.Proofs.YtccfjidpdlfenaaGreatDoor
open Go.Am
set_option linter.unusedSimpArgs false
set_option linter.unusedVariables false
set_option maxRecDepth 100000
/-! Layer 8: boxes, sealed and opened. -/
def z4B : List UInt8 := [0, 0, 0, 0]
@[go_sem] theorem z4B_len : z4B.length = 4 := rfl
def nonceB (n : Nat) : List UInt8 := z4B ++ beN 8 n
@[go_sem] theorem nonceB_len (n : Nat) : (nonceB n).length = 12 := by simp [nonceB, z4B, beN_len]
theorem z4rows : [[AVal.int .u8 (((0 : UInt8).toNat : Nat) : Int)], [AVal.int .u8 (((0 : UInt8).toNat : Nat) : Int)], [AVal.int .u8 (((0 : UInt8).toNat : Nat) : Int)], [AVal.int .u8 (((0 : UInt8).toNat : Nat) : Int)]] = z4B.map byteRow := rfl
theorem z4lits : [[AVal.int .u8 0], [AVal.int .u8 0], [AVal.int .u8 0], [AVal.int .u8 0]] = z4B.map byteRow := rfl
@[go_sem] theorem e18 (n : Nat) (hn : n ≤ 18446744073709551615) : fn C 18 [] [.int .u64 (n : Int)] = some (.slice 1 ((nonceB n).map byteRow), []) := by
  rw [fn_text Tryz.func18 rfl rfl Tryz.results18 fq18.1 rfl rfl (by kernel_rfl)]
  simp -implicitDefEqProofs -dsimp +contextual (maxSteps := 5000000) (disch := first | omega | simp only [go_sem] <;> omega | refine ib ?_; kernel_rfl) only [go_sem, Nat.reduceBEq, Int.reduceNeg, Int.reduceLT, Int.reduceLE, Int.reduceAdd, Int.reduceSub, Int.reduceToNat, Int.reduceMul, Int.reduceMod, Int.reduceTMod, Int.reduceTDiv, Int.reduceEq, Nat.reducePow, Nat.reduceDiv, Nat.reduceShiftRight, Nat.reduceMod, List.reduceReplicate, ↓reduceIte, Nat.reduceEqDiff, Nat.reduceAdd, Nat.reduceSub, Nat.reduceLeDiff, Nat.reduceLT, Nat.reduceMul, z4rows]
  rfl

@[go_sem] theorem e33 (n : Nat) (hn : n ≤ 18446744073709551615) : fn C 33 [] [.int .u64 (n : Int)] = some (.slice 1 ((nonceB n).map byteRow), []) := by
  rw [fn_text Tryz.func33 rfl rfl Tryz.results33 fq33.1 rfl rfl (by kernel_rfl)]
  simp -implicitDefEqProofs -dsimp +contextual (maxSteps := 5000000) (disch := first | omega | simp only [go_sem] <;> omega | refine ib ?_; kernel_rfl) only [go_sem, Nat.reduceBEq, Int.reduceNeg, Int.reduceLT, Int.reduceLE, Int.reduceAdd, Int.reduceSub, Int.reduceToNat, Int.reduceMul, Int.reduceMod, Int.reduceTMod, Int.reduceTDiv, Int.reduceEq, Nat.reducePow, Nat.reduceDiv, Nat.reduceShiftRight, Nat.reduceMod, List.reduceReplicate, ↓reduceIte, Nat.reduceEqDiff, Nat.reduceAdd, Nat.reduceSub, Nat.reduceLeDiff, Nat.reduceLT, Nat.reduceMul, z4lits]
  rfl

def sealB (key nonce wth msg : List UInt8) : List UInt8 := xorB key nonce 1 msg ++ tagX key nonce wth (xorB key nonce 1 msg)
theorem sealB_len (key nonce wth msg : List UInt8) : (sealB key nonce wth msg).length = msg.length + 16 := by simp [sealB, xorB_len, tagX_len]
def sealR (mk : Nat → List (List AVal) → AVal) (key nonce wth msg : List UInt8) : Res :=
  if key.length = 32 ∧ nonce.length = 12 then (.tup [mk 1 ((sealB key nonce wth msg).map byteRow), .int .i64 0], []) else (.tup [mk 1 [], .int .i64 2], [])
theorem xorR_ok (mk : Nat → List (List AVal) → AVal) (key nonce msg : List UInt8) (hk : key.length = 32) (hn : nonce.length = 12) (hm : msg.length ≤ 100000000) : xorR mk key nonce 1 msg = (.tup [mk 1 ((xorB key nonce 1 msg).map byteRow), .int .i64 0], []) := by
  rw [xorR, if_pos ⟨hk, hn⟩, if_pos]
  have : (1 : UInt32).toNat = 1 := rfl
  rw [this]; omega

set_option maxHeartbeats 4000000 in
@[go_sem] theorem e16 (key nonce wth msg : List UInt8) (hw : wth.length ≤ 100000000) (hm : msg.length ≤ 100000000) : fn C 16 [] [.slice 1 (key.map byteRow), .slice 1 (nonce.map byteRow), .slice 1 (wth.map byteRow), .slice 1 (msg.map byteRow)] = some (sealR .usl key nonce wth msg) := by
  rw [fn_text Tryz.func16 rfl rfl Tryz.results16 fq16.1 rfl rfl (by kernel_rfl)]
  by_cases hk : key.length = 32
  · by_cases hn : nonce.length = 12
    · have hx := eXor1 key nonce msg (by omega)
      rw [xorR_ok _ _ _ _ hk hn hm] at hx
      rw [sealR, if_pos ⟨hk, hn⟩, sealB]
      have hl := xorB_len key nonce 1 msg
      have ht := e43 key nonce wth (xorB key nonce 1 msg) hk hn hw (by omega)
      have htl := tagX_len key nonce wth (xorB key nonce 1 msg)
      generalize xorB key nonce 1 msg = x at *
      generalize tagX key nonce wth x = t at *
      simp -implicitDefEqProofs -dsimp +contextual (maxSteps := 5000000) (disch := first | omega | simp only [go_sem] <;> omega | refine ib ?_; kernel_rfl) only [go_sem, Nat.reduceBEq, Int.reduceNeg, Int.reduceLT, Int.reduceLE, Int.reduceAdd, Int.reduceSub, Int.reduceToNat, Int.reduceMul, Int.reduceMod, Int.reduceTMod, Int.reduceTDiv, Int.reduceEq, Nat.reducePow, Nat.reduceDiv, Nat.reduceShiftRight, Nat.reduceMod, List.reduceReplicate, ↓reduceIte, Nat.reduceEqDiff, Nat.reduceAdd, Nat.reduceSub, Nat.reduceLeDiff, Nat.reduceLT, Nat.reduceMul, hk, hn, hx, ht, hl, htl]
    · simp -implicitDefEqProofs -dsimp +contextual (maxSteps := 5000000) (disch := first | omega | simp only [go_sem] <;> omega | refine ib ?_; kernel_rfl) only [go_sem, Nat.reduceBEq, Int.reduceNeg, Int.reduceLT, Int.reduceLE, Int.reduceAdd, Int.reduceSub, Int.reduceToNat, Int.reduceMul, Int.reduceMod, Int.reduceTMod, Int.reduceTDiv, Int.reduceEq, Nat.reducePow, Nat.reduceDiv, Nat.reduceShiftRight, Nat.reduceMod, List.reduceReplicate, ↓reduceIte, Nat.reduceEqDiff, Nat.reduceAdd, Nat.reduceSub, Nat.reduceLeDiff, Nat.reduceLT, Nat.reduceMul, hk, hn]
      simp [sealR, hn]
  · simp -implicitDefEqProofs -dsimp +contextual (maxSteps := 5000000) (disch := first | omega | simp only [go_sem] <;> omega | refine ib ?_; kernel_rfl) only [go_sem, Nat.reduceBEq, Int.reduceNeg, Int.reduceLT, Int.reduceLE, Int.reduceAdd, Int.reduceSub, Int.reduceToNat, Int.reduceMul, Int.reduceMod, Int.reduceTMod, Int.reduceTDiv, Int.reduceEq, Nat.reducePow, Nat.reduceDiv, Nat.reduceShiftRight, Nat.reduceMod, List.reduceReplicate, ↓reduceIte, Nat.reduceEqDiff, Nat.reduceAdd, Nat.reduceSub, Nat.reduceLeDiff, Nat.reduceLT, Nat.reduceMul, hk]
    simp [sealR, hk]

theorem pad_mod (l : List UInt8) : (padB l).length % 16 = 0 := by simp [padB]; omega
theorem pad_pad (a b : List UInt8) : padB (padB a ++ b) = padB a ++ padB b := by
  have h := pad_mod a
  rw [padB, padB.eq_1 b, List.append_assoc, List.length_append]
  congr 3
  omega
@[go_sem] theorem e90 (l : List UInt8) (hl : l.length ≤ 1000000000) : fn C 90 [] [.slice 1 (l.map byteRow)] = some (.usl 1 ((padB l).map byteRow), []) := by
  rw [fn_text Tryz.func90 rfl rfl Tryz.results90 fq90.1 rfl rfl (by kernel_rfl)]
  simp -implicitDefEqProofs -dsimp +contextual (maxSteps := 5000000) (disch := first | omega | simp only [go_sem] <;> omega | refine ib ?_; kernel_rfl) only [go_sem, Nat.reduceBEq, Int.reduceNeg, Int.reduceLT, Int.reduceLE, Int.reduceAdd, Int.reduceSub, Int.reduceToNat, Int.reduceMul, Int.reduceMod, Int.reduceTMod, Int.reduceTDiv, Int.reduceEq, Nat.reducePow, Nat.reduceDiv, Nat.reduceShiftRight, Nat.reduceMod, List.reduceReplicate, ↓reduceIte, Nat.reduceEqDiff, Nat.reduceAdd, Nat.reduceSub, Nat.reduceLeDiff, Nat.reduceLT, Nat.reduceMul]
  refine kLoop_rec2 (fun (g : Nat) (m : List UInt8) f H => f 3 = .osl 104 g 0 m.length ∧ (∃ e, H 104 = ⟨g, .live, 1, m.map byteRow, e⟩) ∧ m.length ≤ 1000000016) (fun _ m => (16 - m.length % 16) % 16) (fun _ m => some (.usl 1 ((padB m).map byteRow), [])) ?_ 2 l _ _ ⟨rfl, ⟨_, rfl⟩, by omega⟩
  rintro g m f H ⟨f0, ⟨e, H1⟩, hm⟩ ih
  by_cases h : m.length % 16 = 0
  · simp -implicitDefEqProofs -dsimp +contextual (maxSteps := 5000000) (disch := first | omega | simp only [go_sem] <;> omega | refine ib ?_; kernel_rfl) only [go_sem, Nat.reduceBEq, Int.reduceNeg, Int.reduceLT, Int.reduceLE, Int.reduceAdd, Int.reduceSub, Int.reduceToNat, Int.reduceMul, Int.reduceMod, Int.reduceTMod, Int.reduceTDiv, Int.reduceEq, Nat.reducePow, Nat.reduceDiv, Nat.reduceShiftRight, Nat.reduceMod, List.reduceReplicate, ↓reduceIte, Nat.reduceEqDiff, Nat.reduceAdd, Nat.reduceSub, Nat.reduceLeDiff, Nat.reduceLT, Nat.reduceMul, f0, H1, h]
    rw [padB_done m h]
  · simp -implicitDefEqProofs -dsimp +contextual (maxSteps := 5000000) (disch := first | omega | simp only [go_sem] <;> omega | refine ib ?_; kernel_rfl) only [go_sem, Nat.reduceBEq, Int.reduceNeg, Int.reduceLT, Int.reduceLE, Int.reduceAdd, Int.reduceSub, Int.reduceToNat, Int.reduceMul, Int.reduceMod, Int.reduceTMod, Int.reduceTDiv, Int.reduceEq, Nat.reducePow, Nat.reduceDiv, Nat.reduceShiftRight, Nat.reduceMod, List.reduceReplicate, ↓reduceIte, Nat.reduceEqDiff, Nat.reduceAdd, Nat.reduceSub, Nat.reduceLeDiff, Nat.reduceLT, Nat.reduceMul, f0, H1, h, row0]
    rw [← padB_more m h]
    exact ih (g + 1) (m ++ [0]) _ _ ⟨by simp [upd, restr], ⟨_, rfl⟩, by simp; omega⟩ (by simp; omega)

@[go_sem] theorem e91 (n : Nat) (hn : n ≤ 1000000000) : fn C 91 [] [.int .i64 (n : Int)] = some (.slice 1 ((le8 n).map byteRow), []) := by
  rw [fn_text Tryz.func91 rfl rfl Tryz.results91 fq91.1 rfl rfl (by kernel_rfl)]
  simp -implicitDefEqProofs -dsimp +contextual (maxSteps := 5000000) (disch := first | omega | simp only [go_sem] <;> omega | refine ib ?_; kernel_rfl) only [go_sem, Nat.reduceBEq, Int.reduceNeg, Int.reduceLT, Int.reduceLE, Int.reduceAdd, Int.reduceSub, Int.reduceToNat, Int.reduceMul, Int.reduceMod, Int.reduceTMod, Int.reduceTDiv, Int.reduceEq, Nat.reducePow, Nat.reduceDiv, Nat.reduceShiftRight, Nat.reduceMod, List.reduceReplicate, ↓reduceIte, Nat.reduceEqDiff, Nat.reduceAdd, Nat.reduceSub, Nat.reduceLeDiff, Nat.reduceLT, Nat.reduceMul, kLoop_eq, u8_wrap, Nat.div_div_eq_div_mul]
  have hm : ∀ m : Nat, UInt8.ofNat (m % 256) = UInt8.ofNat m := fun m => ofNat8 _ _ (by omega)
  simp only [hm, le8, Nat.div_one, List.map_cons, List.map_nil, byteRow]

@[go_sem] theorem eRBlock0 (key nonce : List UInt8) : fn C 89 [] [.slice 1 (key.map byteRow), .slice 1 (nonce.map byteRow), .int .u32 0] = some (if key.length = 32 ∧ nonce.length = 12 then .tup [.slice 1 ((blockB key nonce 0).map byteRow), .int .i64 0] else .tup [.slice 1 [], .int .i64 2], []) := e89 key nonce 0
@[go_sem] theorem eRXor1 (key nonce msg : List UInt8) (hm : msg.length ≤ 1000000000) : fn C 63 [] [.slice 1 (key.map byteRow), .slice 1 (nonce.map byteRow), .int .u32 1, .slice 1 (msg.map byteRow)] = some (xorR .slice key nonce 1 msg) := e63 key nonce 1 msg hm

set_option maxHeartbeats 4000000 in
@[go_sem] theorem e64 (key nonce wth text : List UInt8) (hk : key.length = 32) (hn : nonce.length = 12) (hw : wth.length ≤ 100000000) (ht : text.length ≤ 100000000) : fn C 64 [] [.slice 1 (key.map byteRow), .slice 1 (nonce.map byteRow), .slice 1 (wth.map byteRow), .slice 1 (text.map byteRow)] = some (.slice 1 ((tagX key nonce wth text).map byteRow), []) := by
  have hp := padB_len wth
  have hp2 := padB_len text
  rw [fn_text Tryz.func64 rfl rfl Tryz.results64 fq64.1 rfl rfl (by kernel_rfl)]
  simp -implicitDefEqProofs -dsimp +contextual (maxSteps := 5000000) (disch := first | omega | simp only [go_sem] <;> omega | refine ib ?_; kernel_rfl) only [go_sem, Nat.reduceBEq, Int.reduceNeg, Int.reduceLT, Int.reduceLE, Int.reduceAdd, Int.reduceSub, Int.reduceToNat, Int.reduceMul, Int.reduceMod, Int.reduceTMod, Int.reduceTDiv, Int.reduceEq, Nat.reducePow, Nat.reduceDiv, Nat.reduceShiftRight, Nat.reduceMod, List.reduceReplicate, ↓reduceIte, Nat.reduceEqDiff, Nat.reduceAdd, Nat.reduceSub, Nat.reduceLeDiff, Nat.reduceLT, Nat.reduceMul, hk, hn]
  simp only [tagX, pad_pad, List.append_assoc]

set_option maxHeartbeats 4000000 in
@[go_sem] theorem e32 (key nonce wth msg : List UInt8) (hw : wth.length ≤ 100000000) (hm : msg.length ≤ 100000000) : fn C 32 [] [.slice 1 (key.map byteRow), .slice 1 (nonce.map byteRow), .slice 1 (wth.map byteRow), .slice 1 (msg.map byteRow)] = some (sealR .slice key nonce wth msg) := by
  rw [fn_text Tryz.func32 rfl rfl Tryz.results32 fq32.1 rfl rfl (by kernel_rfl)]
  by_cases hk : key.length = 32
  · by_cases hn : nonce.length = 12
    · have hx := eRXor1 key nonce msg (by omega)
      rw [xorR_ok _ _ _ _ hk hn hm] at hx
      rw [sealR, if_pos ⟨hk, hn⟩, sealB]
      have hl := xorB_len key nonce 1 msg
      have ht := e64 key nonce wth (xorB key nonce 1 msg) hk hn hw (by omega)
      have htl := tagX_len key nonce wth (xorB key nonce 1 msg)
      generalize xorB key nonce 1 msg = x at *
      generalize tagX key nonce wth x = t at *
      simp -implicitDefEqProofs -dsimp +contextual (maxSteps := 5000000) (disch := first | omega | simp only [go_sem] <;> omega | refine ib ?_; kernel_rfl) only [go_sem, Nat.reduceBEq, Int.reduceNeg, Int.reduceLT, Int.reduceLE, Int.reduceAdd, Int.reduceSub, Int.reduceToNat, Int.reduceMul, Int.reduceMod, Int.reduceTMod, Int.reduceTDiv, Int.reduceEq, Nat.reducePow, Nat.reduceDiv, Nat.reduceShiftRight, Nat.reduceMod, List.reduceReplicate, ↓reduceIte, Nat.reduceEqDiff, Nat.reduceAdd, Nat.reduceSub, Nat.reduceLeDiff, Nat.reduceLT, Nat.reduceMul, hk, hn, hx, ht, hl, htl]
    · simp -implicitDefEqProofs -dsimp +contextual (maxSteps := 5000000) (disch := first | omega | simp only [go_sem] <;> omega | refine ib ?_; kernel_rfl) only [go_sem, Nat.reduceBEq, Int.reduceNeg, Int.reduceLT, Int.reduceLE, Int.reduceAdd, Int.reduceSub, Int.reduceToNat, Int.reduceMul, Int.reduceMod, Int.reduceTMod, Int.reduceTDiv, Int.reduceEq, Nat.reducePow, Nat.reduceDiv, Nat.reduceShiftRight, Nat.reduceMod, List.reduceReplicate, ↓reduceIte, Nat.reduceEqDiff, Nat.reduceAdd, Nat.reduceSub, Nat.reduceLeDiff, Nat.reduceLT, Nat.reduceMul, hk, hn]
      simp [sealR, hn]
  · simp -implicitDefEqProofs -dsimp +contextual (maxSteps := 5000000) (disch := first | omega | simp only [go_sem] <;> omega | refine ib ?_; kernel_rfl) only [go_sem, Nat.reduceBEq, Int.reduceNeg, Int.reduceLT, Int.reduceLE, Int.reduceAdd, Int.reduceSub, Int.reduceToNat, Int.reduceMul, Int.reduceMod, Int.reduceTMod, Int.reduceTDiv, Int.reduceEq, Nat.reducePow, Nat.reduceDiv, Nat.reduceShiftRight, Nat.reduceMod, List.reduceReplicate, ↓reduceIte, Nat.reduceEqDiff, Nat.reduceAdd, Nat.reduceSub, Nat.reduceLeDiff, Nat.reduceLT, Nat.reduceMul, hk]
    simp [sealR, hk]

def openR (mk : Nat → List (List AVal) → AVal) (key nonce wth sealed : List UInt8) : Res :=
  if key.length = 32 ∧ nonce.length = 12 then
    if sealed.length < 16 then (.tup [mk 1 [], .int .i64 10], [])
    else if tagX key nonce wth (sealed.take (sealed.length - 16)) = sealed.drop (sealed.length - 16) then (.tup [mk 1 ((xorB key nonce 1 (sealed.take (sealed.length - 16))).map byteRow), .int .i64 0], [])
    else (.tup [mk 1 [], .int .i64 21], [])
  else (.tup [mk 1 [], .int .i64 2], [])
theorem len_sub (n m : Nat) (h : ¬ n < m) : ((n : Int) - (m : Int)) = ((n - m : Nat) : Int) := by omega

set_option maxHeartbeats 4000000 in
@[go_sem] theorem e46 (key nonce wth sealed : List UInt8) (hw : wth.length ≤ 100000000) (hm : sealed.length ≤ 100000000) : fn C 46 [] [.slice 1 (key.map byteRow), .slice 1 (nonce.map byteRow), .slice 1 (wth.map byteRow), .slice 1 (sealed.map byteRow)] = some (openR .usl key nonce wth sealed) := by
  rw [fn_text Tryz.func46 rfl rfl Tryz.results46 fq46.1 rfl rfl (by kernel_rfl)]
  by_cases hk : key.length = 32
  · by_cases hn : nonce.length = 12
    · by_cases hs : sealed.length < 16
      · simp -implicitDefEqProofs -dsimp +contextual (maxSteps := 5000000) (disch := first | omega | simp only [go_sem] <;> omega | refine ib ?_; kernel_rfl) only [go_sem, Nat.reduceBEq, Int.reduceNeg, Int.reduceLT, Int.reduceLE, Int.reduceAdd, Int.reduceSub, Int.reduceToNat, Int.reduceMul, Int.reduceMod, Int.reduceTMod, Int.reduceTDiv, Int.reduceEq, Nat.reducePow, Nat.reduceDiv, Nat.reduceShiftRight, Nat.reduceMod, List.reduceReplicate, ↓reduceIte, Nat.reduceEqDiff, Nat.reduceAdd, Nat.reduceSub, Nat.reduceLeDiff, Nat.reduceLT, Nat.reduceMul, hk, hn, hs]
        simp [openR, hk, hn, hs]
      · have e1 : (sealed.length : Int) - 16 = ((sealed.length - 16 : Nat) : Int) := by omega
        have el : (sealed.take (sealed.length - 16)).length = sealed.length - 16 := by simp
        have hx := eXor1 key nonce (sealed.take (sealed.length - 16)) (by omega)
        rw [xorR_ok _ _ _ _ hk hn (by omega)] at hx
        rw [openR, if_pos ⟨hk, hn⟩, if_neg hs]
        have htx : tagX key nonce wth (sealed.take (sealed.length - 16)) = tagB ((blockB key nonce 0).take 32) (padB (padB wth ++ sealed.take (sealed.length - 16)) ++ le8 wth.length ++ le8 (sealed.take (sealed.length - 16)).length) := rfl
        have hp := padB_len wth
        have hp2 := padB_len (padB wth ++ sealed.take (sealed.length - 16))
        simp only [List.length_append] at hp2
        generalize hT : sealed.take (sealed.length - 16) = T at *
        generalize hD : sealed.drop (sealed.length - 16) = D at *
        have hl1 := boxLength [] (.inl rfl) (padB (padB wth ++ T)) wth.length (by omega) (by omega)
        simp -implicitDefEqProofs -dsimp +contextual (maxSteps := 5000000) (disch := first | omega | simp only [go_sem] <;> omega | refine ib ?_; kernel_rfl) only [go_sem, Nat.reduceBEq, Int.reduceNeg, Int.reduceLT, Int.reduceLE, Int.reduceAdd, Int.reduceSub, Int.reduceToNat, Int.reduceMul, Int.reduceMod, Int.reduceTMod, Int.reduceTDiv, Int.reduceEq, Nat.reducePow, Nat.reduceDiv, Nat.reduceShiftRight, Nat.reduceMod, List.reduceReplicate, ↓reduceIte, Nat.reduceEqDiff, Nat.reduceAdd, Nat.reduceSub, Nat.reduceLeDiff, Nat.reduceLT, Nat.reduceMul, hk, hn, hs, e1, el, hx, hT, hD]
        have eD : List.take (sealed.length - (sealed.length - 16)) D = D := List.take_of_length_le (by rw [← hD]; simp)
        rw [htx, el, eD]
        unfold kD
        split <;> rfl
    · simp -implicitDefEqProofs -dsimp +contextual (maxSteps := 5000000) (disch := first | omega | simp only [go_sem] <;> omega | refine ib ?_; kernel_rfl) only [go_sem, Nat.reduceBEq, Int.reduceNeg, Int.reduceLT, Int.reduceLE, Int.reduceAdd, Int.reduceSub, Int.reduceToNat, Int.reduceMul, Int.reduceMod, Int.reduceTMod, Int.reduceTDiv, Int.reduceEq, Nat.reducePow, Nat.reduceDiv, Nat.reduceShiftRight, Nat.reduceMod, List.reduceReplicate, ↓reduceIte, Nat.reduceEqDiff, Nat.reduceAdd, Nat.reduceSub, Nat.reduceLeDiff, Nat.reduceLT, Nat.reduceMul, hk, hn]
      simp [openR, hn]
  · simp -implicitDefEqProofs -dsimp +contextual (maxSteps := 5000000) (disch := first | omega | simp only [go_sem] <;> omega | refine ib ?_; kernel_rfl) only [go_sem, Nat.reduceBEq, Int.reduceNeg, Int.reduceLT, Int.reduceLE, Int.reduceAdd, Int.reduceSub, Int.reduceToNat, Int.reduceMul, Int.reduceMod, Int.reduceTMod, Int.reduceTDiv, Int.reduceEq, Nat.reducePow, Nat.reduceDiv, Nat.reduceShiftRight, Nat.reduceMod, List.reduceReplicate, ↓reduceIte, Nat.reduceEqDiff, Nat.reduceAdd, Nat.reduceSub, Nat.reduceLeDiff, Nat.reduceLT, Nat.reduceMul, hk]
    simp [openR, hk]

set_option maxHeartbeats 4000000 in
@[go_sem] theorem e48 (key nonce wth sealed : List UInt8) (hw : wth.length ≤ 100000000) (hm : sealed.length ≤ 100000000) : fn C 48 [] [.slice 1 (key.map byteRow), .slice 1 (nonce.map byteRow), .slice 1 (wth.map byteRow), .slice 1 (sealed.map byteRow)] = some (openR .slice key nonce wth sealed) := by
  rw [fn_text Tryz.func48 rfl rfl Tryz.results48 fq48.1 rfl rfl (by kernel_rfl)]
  by_cases hk : key.length = 32
  · by_cases hn : nonce.length = 12
    · by_cases hs : sealed.length < 16
      · simp -implicitDefEqProofs -dsimp +contextual (maxSteps := 5000000) (disch := first | omega | simp only [go_sem] <;> omega | refine ib ?_; kernel_rfl) only [go_sem, Nat.reduceBEq, Int.reduceNeg, Int.reduceLT, Int.reduceLE, Int.reduceAdd, Int.reduceSub, Int.reduceToNat, Int.reduceMul, Int.reduceMod, Int.reduceTMod, Int.reduceTDiv, Int.reduceEq, Nat.reducePow, Nat.reduceDiv, Nat.reduceShiftRight, Nat.reduceMod, List.reduceReplicate, ↓reduceIte, Nat.reduceEqDiff, Nat.reduceAdd, Nat.reduceSub, Nat.reduceLeDiff, Nat.reduceLT, Nat.reduceMul, hk, hn, hs]
        simp [openR, hk, hn, hs]
      · have e1 : (sealed.length : Int) - 16 = ((sealed.length - 16 : Nat) : Int) := by omega
        have el : (sealed.take (sealed.length - 16)).length = sealed.length - 16 := by simp
        have hx := eRXor1 key nonce (sealed.take (sealed.length - 16)) (by omega)
        rw [xorR_ok _ _ _ _ hk hn (by omega)] at hx
        rw [openR, if_pos ⟨hk, hn⟩, if_neg hs]
        have ht := e64 key nonce wth (sealed.take (sealed.length - 16)) hk hn hw (by omega)
        generalize hT : sealed.take (sealed.length - 16) = T at *
        generalize hD : sealed.drop (sealed.length - 16) = D at *
        simp -implicitDefEqProofs -dsimp +contextual (maxSteps := 5000000) (disch := first | omega | simp only [go_sem] <;> omega | refine ib ?_; kernel_rfl) only [go_sem, Nat.reduceBEq, Int.reduceNeg, Int.reduceLT, Int.reduceLE, Int.reduceAdd, Int.reduceSub, Int.reduceToNat, Int.reduceMul, Int.reduceMod, Int.reduceTMod, Int.reduceTDiv, Int.reduceEq, Nat.reducePow, Nat.reduceDiv, Nat.reduceShiftRight, Nat.reduceMod, List.reduceReplicate, ↓reduceIte, Nat.reduceEqDiff, Nat.reduceAdd, Nat.reduceSub, Nat.reduceLeDiff, Nat.reduceLT, Nat.reduceMul, hk, hn, hs, e1, el, hx, ht, hT, hD]
        have eD : List.take (sealed.length - (sealed.length - 16)) D = D := List.take_of_length_le (by rw [← hD]; simp)
        rw [eD]
        unfold kD
        split <;> rfl
    · simp -implicitDefEqProofs -dsimp +contextual (maxSteps := 5000000) (disch := first | omega | simp only [go_sem] <;> omega | refine ib ?_; kernel_rfl) only [go_sem, Nat.reduceBEq, Int.reduceNeg, Int.reduceLT, Int.reduceLE, Int.reduceAdd, Int.reduceSub, Int.reduceToNat, Int.reduceMul, Int.reduceMod, Int.reduceTMod, Int.reduceTDiv, Int.reduceEq, Nat.reducePow, Nat.reduceDiv, Nat.reduceShiftRight, Nat.reduceMod, List.reduceReplicate, ↓reduceIte, Nat.reduceEqDiff, Nat.reduceAdd, Nat.reduceSub, Nat.reduceLeDiff, Nat.reduceLT, Nat.reduceMul, hk, hn]
      simp [openR, hn]
  · simp -implicitDefEqProofs -dsimp +contextual (maxSteps := 5000000) (disch := first | omega | simp only [go_sem] <;> omega | refine ib ?_; kernel_rfl) only [go_sem, Nat.reduceBEq, Int.reduceNeg, Int.reduceLT, Int.reduceLE, Int.reduceAdd, Int.reduceSub, Int.reduceToNat, Int.reduceMul, Int.reduceMod, Int.reduceTMod, Int.reduceTDiv, Int.reduceEq, Nat.reducePow, Nat.reduceDiv, Nat.reduceShiftRight, Nat.reduceMod, List.reduceReplicate, ↓reduceIte, Nat.reduceEqDiff, Nat.reduceAdd, Nat.reduceSub, Nat.reduceLeDiff, Nat.reduceLT, Nat.reduceMul, hk]
    simp [openR, hk]


end Go.Proofs.YtccfjidpdlfenaaGreatDoor
namespace Go.Proofs.YtccfjidpdlfenaaGreatDoor
open Go.Am
set_option linter.unusedSimpArgs false
set_option linter.unusedVariables false
set_option maxRecDepth 100000
/-! Layer 8: what boxes come to. -/
theorem open_seal (mk : Nat → List (List AVal) → AVal) (key nonce wth msg : List UInt8) (hk : key.length = 32) (hn : nonce.length = 12) : openR mk key nonce wth (sealB key nonce wth msg) = (.tup [mk 1 (msg.map byteRow), .int .i64 0], []) := by
  have hl := xorB_len key nonce 1 msg
  have ht := tagX_len key nonce wth (xorB key nonce 1 msg)
  have e1 : (sealB key nonce wth msg).length - 16 = (xorB key nonce 1 msg).length := by rw [sealB_len, hl]; omega
  rw [openR, if_pos ⟨hk, hn⟩, if_neg (by rw [sealB_len]; omega), e1, sealB, List.take_left, List.drop_left, if_pos rfl, xorB_xorB]

theorem sealR_cases (key nonce wth msg : List UInt8) : (∃ (l : List UInt8) (e : Int), (∀ mk, sealR mk key nonce wth msg = (.tup [mk 1 (l.map byteRow), .int .i64 e], []))) := by
  by_cases h : key.length = 32 ∧ nonce.length = 12
  · exact ⟨sealB key nonce wth msg, 0, fun mk => by rw [sealR, if_pos h]⟩
  · exact ⟨[], 2, fun mk => by rw [sealR, if_neg h]; rfl⟩
theorem openR_cases (key nonce wth sealed : List UInt8) : (∃ (l : List UInt8) (e : Int), (∀ mk, openR mk key nonce wth sealed = (.tup [mk 1 (l.map byteRow), .int .i64 e], []))) := by
  by_cases h : key.length = 32 ∧ nonce.length = 12
  · by_cases hs : sealed.length < 16
    · exact ⟨[], 10, fun mk => by rw [openR, if_pos h, if_pos hs]; rfl⟩
    · by_cases ht : tagX key nonce wth (sealed.take (sealed.length - 16)) = sealed.drop (sealed.length - 16)
      · exact ⟨_, 0, fun mk => by rw [openR, if_pos h, if_neg hs, if_pos ht]⟩
      · exact ⟨[], 21, fun mk => by rw [openR, if_pos h, if_neg hs, if_neg ht]; rfl⟩
  · exact ⟨[], 2, fun mk => by rw [openR, if_neg h]; rfl⟩

theorem xor_ne (x y : UInt8) (h : y ≠ 0) : x ^^^ y ≠ x := by
  intro e
  apply h
  have : x ^^^ (x ^^^ y) = x ^^^ x := by rw [e]
  rwa [← UInt8.xor_assoc, UInt8.xor_self, UInt8.zero_xor] at this
theorem open_changed (mk : Nat → List (List AVal) → AVal) (key nonce wth msg : List UInt8) (hk : key.length = 32) (hn : nonce.length = 12) (i : Nat) (hi : i < 16) (y : UInt8) (hy : y ≠ 0) (hx : msg.length + i < (sealB key nonce wth msg).length) :
    openR mk key nonce wth ((sealB key nonce wth msg).set (msg.length + i) ((sealB key nonce wth msg)[msg.length + i] ^^^ y)) = (.tup [mk 1 [], .int .i64 21], []) := by
  have hl := xorB_len key nonce 1 msg
  have ht := tagX_len key nonce wth (xorB key nonce 1 msg)
  have hsl := sealB_len key nonce wth msg
  have e1 : ((sealB key nonce wth msg).set (msg.length + i) ((sealB key nonce wth msg)[msg.length + i] ^^^ y)).length - 16 = (xorB key nonce 1 msg).length := by rw [List.length_set, sealB_len, hl]; omega
  rw [openR, if_pos ⟨hk, hn⟩, if_neg (by rw [List.length_set, sealB_len]; omega), e1, if_neg]
  have e2 : (sealB key nonce wth msg)[msg.length + i] = (tagX key nonce wth (xorB key nonce 1 msg))[i]'(by omega) := by
    simp only [sealB]
    rw [List.getElem_append_right (by omega)]
    congr 1; omega
  rw [e2]
  rw [sealB, List.set_append_right _ _ (by omega), List.take_left, List.drop_left, show msg.length + i - (xorB key nonce 1 msg).length = i by omega]
  intro h
  have h2 := congrArg (fun l => l[i]?) h
  simp only [List.getElem?_set_self (show i < (tagX key nonce wth (xorB key nonce 1 msg)).length by omega), List.getElem?_eq_getElem (show i < (tagX key nonce wth (xorB key nonce 1 msg)).length by omega), Option.some.injEq] at h2
  exact xor_ne _ _ hy h2.symm


end Go.Proofs.YtccfjidpdlfenaaGreatDoor
namespace Go.Proofs.YtccfjidpdlfenaaGreatDoor
open Go.Am
set_option linter.unusedSimpArgs false
set_option linter.unusedVariables false
set_option maxRecDepth 100000
/-! Layer 8: what boxes are opened to, as a text and an error. -/
def openE (key nonce wth sealed : List UInt8) : List UInt8 × Int :=
  match openR .usl key nonce wth sealed with
  | (.tup [.usl 1 es, .int .i64 e], _) => ((unbyte es).getD [], e)
  | _ => ([], 0)
theorem openE_eq (mk : Nat → List (List AVal) → AVal) (key nonce wth sealed : List UInt8) : openR mk key nonce wth sealed = (.tup [mk 1 ((openE key nonce wth sealed).1.map byteRow), .int .i64 (openE key nonce wth sealed).2], []) := by
  obtain ⟨l, e, h⟩ := openR_cases key nonce wth sealed
  rw [h, openE, h]
  simp [unbyte_map]
theorem openE_le (key nonce wth sealed : List UInt8) : (openE key nonce wth sealed).1.length ≤ sealed.length := by
  have h := openE_eq .usl key nonce wth sealed
  unfold openR at h
  split at h
  · split at h
    · simp only [Prod.mk.injEq, AVal.tup.injEq, List.cons.injEq, AVal.usl.injEq, true_and] at h
      have := congrArg List.length h.1.1; simp at this; omega
    · split at h
      · simp only [Prod.mk.injEq, AVal.tup.injEq, List.cons.injEq, AVal.usl.injEq, true_and] at h
        have := congrArg List.length h.1.1
        simp [xorB_len] at this; omega
      · simp only [Prod.mk.injEq, AVal.tup.injEq, List.cons.injEq, AVal.usl.injEq, true_and] at h
        have := congrArg List.length h.1.1; simp at this; omega
  · simp only [Prod.mk.injEq, AVal.tup.injEq, List.cons.injEq, AVal.usl.injEq, true_and] at h
    have := congrArg List.length h.1.1; simp at this; omega

theorem openE_seal (key nonce wth msg : List UInt8) (hk : key.length = 32) (hn : nonce.length = 12) : openE key nonce wth (sealB key nonce wth msg) = (msg, 0) := by
  rw [openE, open_seal _ _ _ _ _ hk hn]
  simp [unbyte_map]
theorem openE_changed (key nonce wth msg : List UInt8) (hk : key.length = 32) (hn : nonce.length = 12) (i : Nat) (hi : i < 16) (y : UInt8) (hy : y ≠ 0) (hx : msg.length + i < (sealB key nonce wth msg).length) :
    openE key nonce wth ((sealB key nonce wth msg).set (msg.length + i) ((sealB key nonce wth msg)[msg.length + i] ^^^ y)) = ([], 21) := by
  rw [openE, open_changed _ _ _ _ _ hk hn i hi y hy hx]
  simp [unbyte]

end Go.Proofs.YtccfjidpdlfenaaGreatDoor
namespace Go.Proofs.YtccfjidpdlfenaaGreatDoor
open Go.Am
set_option linter.unusedSimpArgs false
set_option linter.unusedVariables false
set_option maxRecDepth 100000
/-! Layer 19: records, sealed and opened. -/

/-- What a record is sealed to. -/
def recB (root : List UInt8) (h : Hd) (text : List UInt8) : List UInt8 := putB h ++ sealB (epochB root h.ep) (nonceB (u64V h.sq)) (putB h) text
@[go_sem] theorem recB_len (root : List UInt8) (h : Hd) (text : List UInt8) : (recB root h text).length = text.length + 32 := by simp [recB, putB_len, sealB_len]; omega
def sealRec (root : List UInt8) (h : Hd) (text : List UInt8) : List UInt8 × Int :=
  if h.right = true then if 2016 < text.length then ([], 3) else (recB root h text, 0) else ([], 2)
def openRec (root : List UInt8) (b : List UInt8) : Hd × List UInt8 × Int :=
  if (takeB b).2 = 0 then
    let o := openE (epochB root (takeB b).1.ep) (nonceB (u64V (takeB b).1.sq)) (b.take 16) (b.drop 16)
    if o.2 = 0 then ((takeB b).1, o.1, 0) else (⟨0, 0, 0, 0⟩, [], o.2)
  else (⟨0, 0, 0, 0⟩, [], (takeB b).2)
structure Hd.ok (h : Hd) : Prop where
  id : h.id ≤ 18446744073709551615
  e1 : -9223372036854775808 ≤ h.ep
  e2 : h.ep ≤ 9223372036854775807
  s1 : -9223372036854775808 ≤ h.sq
  s2 : h.sq ≤ 9223372036854775807
  r1 : -9223372036854775808 ≤ h.role
  r2 : h.role ≤ 9223372036854775807
theorem headS_ok (t : List UInt8) : (headS t).ok := by
  unfold headS
  simp only
  have n1 := numS_lt (openS t) 8
  have n2 := numS_lt (numS (openS t) 8).2 1
  have n3 := numS_lt (numS (numS (openS t) 8).2 1).2 2
  have n4 := numS_lt (numS (numS (numS (openS t) 8).2 1).2 2).2 4
  constructor <;> simp only <;> omega
theorem takeB_ok (b : List UInt8) : (takeB b).1.ok := by
  unfold takeB
  have := headS_ok (b.drop 1)
  split
  · split
    · constructor <;> simp
    · split
      · constructor <;> simp
      · split
        · exact this
        · constructor <;> simp
  · constructor <;> simp
theorem takeB_len (b : List UInt8) (h : (takeB b).2 = 0) : 32 ≤ b.length ∧ b.length ≤ 2048 ∧ kindB b = 3 ∧ (headS (b.drop 1)).right = true ∧ (takeB b).1 = headS (b.drop 1) := by
  unfold takeB at h ⊢
  split at h
  · split at h
    · simp at h
    · split at h
      · simp at h
      · split at h
        · rename_i a b c d
          refine ⟨by omega, by omega, a, d, ?_⟩
          rw [if_pos a, if_neg b, if_neg c, if_pos d]
        · simp at h
  · simp at h

@[go_sem] theorem e55 (h : Hd) (hk : h.ok) (root : List UInt8) (hr : root.length ≤ 10000) : fn C 55 [] [.agg [.int .u64 (h.id : Int), .int .i64 h.role, .int .i64 h.ep, .int .i64 h.sq], .str root] = some (.slice 1 ((epochB root h.ep).map byteRow), []) := by
  rw [fn_text Tryz.func55 rfl rfl Tryz.results55 fq55.1 rfl rfl (by kernel_rfl)]
  have e := e84 root h.ep hr hk.e1 hk.e2
  simp -implicitDefEqProofs -dsimp +contextual (maxSteps := 9999999) (disch := first | omega | simp only [go_sem] <;> omega | refine ib ?_; kernel_rfl) only [go_sem, seval, ↓reduceIte, e]

@[go_sem] theorem e56 (h : Hd) : fn C 56 [] [.agg [.int .u64 (h.id : Int), .int .i64 h.role, .int .i64 h.ep, .int .i64 h.sq]] = some (.slice 1 ((nonceB (u64V h.sq)).map byteRow), []) := by
  rw [fn_text Tryz.func56 rfl rfl Tryz.results56 fq56.1 rfl rfl (by kernel_rfl)]
  have e := u64V_le h.sq
  simp -implicitDefEqProofs -dsimp +contextual (maxSteps := 9999999) (disch := first | omega | simp only [go_sem] <;> omega | refine ib ?_; kernel_rfl) only [go_sem, seval, ↓reduceIte, wrap_u64V h.sq]

set_option maxHeartbeats 4000000 in
theorem recSeal (root : List UInt8) (h : Hd) (text : List UInt8) (hk : h.ok) (hr : root.length ≤ 10000) (ht : text.length ≤ 9223372036854775807) : fn C 25 [] [.str root, .agg [.int .u64 (h.id : Int), .int .i64 h.role, .int .i64 h.ep, .int .i64 h.sq], .slice 1 (text.map byteRow)] = some (.tup [.usl 1 ((sealRec root h text).1.map byteRow), .int .i64 (sealRec root h text).2], []) := by
  rw [fn_text Tryz.func25 rfl rfl Tryz.results25 fq25.1 rfl rfl (by kernel_rfl)]
  rw [sealRec]
  by_cases h1 : h.right = true
  · by_cases h2 : 2016 < text.length
    · simp -implicitDefEqProofs -dsimp +contextual (maxSteps := 9999999) (disch := first | omega | simp only [go_sem] <;> omega | refine ib ?_; kernel_rfl) only [go_sem, seval, ↓reduceIte, h1, h2]
    · have e1 := e55 h hk root hr
      have e2 := e53 h hk.id
      have e3 := e16 (epochB root h.ep) (nonceB (u64V h.sq)) (putB h) text (by rw [putB_len]; decide) (by omega)
      rw [sealR, if_pos ⟨epochB_len _ _, nonceB_len _⟩] at e3
      have l := sealB_len (epochB root h.ep) (nonceB (u64V h.sq)) (putB h) text
      simp -implicitDefEqProofs -dsimp +contextual (maxSteps := 9999999) (disch := first | omega | simp only [go_sem] <;> omega | refine ib ?_; kernel_rfl) only [go_sem, seval, ↓reduceIte, h1, h2, e1, e2, e3, l]
      rfl
  · simp -implicitDefEqProofs -dsimp +contextual (maxSteps := 9999999) (disch := first | omega | simp only [go_sem] <;> omega | refine ib ?_; kernel_rfl) only [go_sem, seval, ↓reduceIte, h1]

set_option maxHeartbeats 4000000 in
theorem recRSeal (root : List UInt8) (h : Hd) (text : List UInt8) (hk : h.ok) (hr : root.length ≤ 10000) (ht : text.length ≤ 9223372036854775807) : fn C 26 [] [.str root, .agg [.int .u64 (h.id : Int), .int .i64 h.role, .int .i64 h.ep, .int .i64 h.sq], .slice 1 (text.map byteRow)] = some (.tup [.slice 1 ((sealRec root h text).1.map byteRow), .int .i64 (sealRec root h text).2], []) := by
  rw [fn_text Tryz.func26 rfl rfl Tryz.results26 fq26.1 rfl rfl (by kernel_rfl)]
  rw [sealRec]
  by_cases h1 : h.right = true
  · by_cases h2 : 2016 < text.length
    · simp -implicitDefEqProofs -dsimp +contextual (maxSteps := 9999999) (disch := first | omega | simp only [go_sem] <;> omega | refine ib ?_; kernel_rfl) only [go_sem, seval, ↓reduceIte, h1, h2]
    · have e0 := u64V_le h.sq
      have e1 := e58 root h.ep hr hk.e1 hk.e2
      have e2 := e59 h hk.id
      have e3 := e32 (epochB root h.ep) (nonceB (u64V h.sq)) (putB h) text (by rw [putB_len]; decide) (by omega)
      rw [sealR, if_pos ⟨epochB_len _ _, nonceB_len _⟩] at e3
      have l := sealB_len (epochB root h.ep) (nonceB (u64V h.sq)) (putB h) text
      simp -implicitDefEqProofs -dsimp +contextual (maxSteps := 9999999) (disch := first | omega | simp only [go_sem] <;> omega | refine ib ?_; kernel_rfl) only [go_sem, seval, ↓reduceIte, h1, h2, e1, e2, e3, l, wrap_u64V h.sq]
      rfl
  · simp -implicitDefEqProofs -dsimp +contextual (maxSteps := 9999999) (disch := first | omega | simp only [go_sem] <;> omega | refine ib ?_; kernel_rfl) only [go_sem, seval, ↓reduceIte, h1]

set_option maxHeartbeats 4000000 in
theorem recOpen (root : List UInt8) (b : List UInt8) (hr : root.length ≤ 10000) (hb : b.length ≤ 9223372036854775807) : fn C 27 [] [.str root, .slice 1 (b.map byteRow)] = some (.tup [.agg [.int .u64 ((openRec root b).1.id : Int), .int .i64 (openRec root b).1.role, .int .i64 (openRec root b).1.ep, .int .i64 (openRec root b).1.sq], .slice 1 ((openRec root b).2.1.map byteRow), .int .i64 (openRec root b).2.2], []) := by
  rw [fn_text Tryz.func27 rfl rfl Tryz.results27 fq27.1 rfl rfl (by kernel_rfl)]
  have h0 := takeB_ok b
  rw [openRec]
  by_cases h1 : (takeB b).2 = 0
  · have h2 := takeB_len b h1
    have e1 := e55 (takeB b).1 h0 root hr
    have e3 := e46 (epochB root (takeB b).1.ep) (nonceB (u64V (takeB b).1.sq)) (b.take 16) (b.drop 16) (by simp; omega) (by simp; omega)
    rw [openE_eq] at e3
    by_cases h3 : (openE (epochB root (takeB b).1.ep) (nonceB (u64V (takeB b).1.sq)) (b.take 16) (b.drop 16)).2 = 0
    · simp -implicitDefEqProofs -dsimp +contextual (maxSteps := 9999999) (disch := first | omega | simp only [go_sem] <;> omega | refine ib ?_; kernel_rfl) only [go_sem, seval, ↓reduceIte, h1, e1, e3, h3]
    · simp -implicitDefEqProofs -dsimp +contextual (maxSteps := 9999999) (disch := first | omega | simp only [go_sem] <;> omega | refine ib ?_; kernel_rfl) only [go_sem, seval, ↓reduceIte, h1, e1, e3, h3]
  · simp -implicitDefEqProofs -dsimp +contextual (maxSteps := 9999999) (disch := first | omega | simp only [go_sem] <;> omega | refine ib ?_; kernel_rfl) only [go_sem, seval, ↓reduceIte, h1]

set_option maxHeartbeats 4000000 in
theorem recROpen (root : List UInt8) (b : List UInt8) (hr : root.length ≤ 10000) (hb : b.length ≤ 9223372036854775807) : fn C 28 [] [.str root, .slice 1 (b.map byteRow)] = some (.tup [.agg [.int .u64 ((openRec root b).1.id : Int), .int .i64 (openRec root b).1.role, .int .i64 (openRec root b).1.ep, .int .i64 (openRec root b).1.sq], .slice 1 ((openRec root b).2.1.map byteRow), .int .i64 (openRec root b).2.2], []) := by
  rw [fn_text Tryz.func28 rfl rfl Tryz.results28 fq28.1 rfl rfl (by kernel_rfl)]
  have h0 := takeB_ok b
  rw [openRec]
  by_cases h1 : (takeB b).2 = 0
  · have h2 := takeB_len b h1
    have e0 := u64V_le (takeB b).1.sq
    have e1 := e58 root (takeB b).1.ep hr h0.e1 h0.e2
    have e3 := e48 (epochB root (takeB b).1.ep) (nonceB (u64V (takeB b).1.sq)) (b.take 16) (b.drop 16) (by simp; omega) (by simp; omega)
    rw [openE_eq] at e3
    by_cases h3 : (openE (epochB root (takeB b).1.ep) (nonceB (u64V (takeB b).1.sq)) (b.take 16) (b.drop 16)).2 = 0
    · simp -implicitDefEqProofs -dsimp +contextual (maxSteps := 9999999) (disch := first | omega | simp only [go_sem] <;> omega | refine ib ?_; kernel_rfl) only [go_sem, seval, ↓reduceIte, h1, e1, e3, h3, wrap_u64V (takeB b).1.sq]
    · simp -implicitDefEqProofs -dsimp +contextual (maxSteps := 9999999) (disch := first | omega | simp only [go_sem] <;> omega | refine ib ?_; kernel_rfl) only [go_sem, seval, ↓reduceIte, h1, e1, e3, h3, wrap_u64V (takeB b).1.sq]
  · simp -implicitDefEqProofs -dsimp +contextual (maxSteps := 9999999) (disch := first | omega | simp only [go_sem] <;> omega | refine ib ?_; kernel_rfl) only [go_sem, seval, ↓reduceIte, h1]

end Go.Proofs.YtccfjidpdlfenaaGreatDoor
namespace Go.Proofs.YtccfjidpdlfenaaGreatDoor
open Go.Am
set_option linter.unusedSimpArgs false
set_option linter.unusedVariables false
set_option maxRecDepth 100000
/-! Layer 19: the statements. -/
theorem beV_app (a b : List UInt8) : beV (a ++ b) = beV a * 256 ^ b.length + beV b := by
  have : ∀ (b : List UInt8) (n : Nat), b.foldl (fun n c => n * 256 + c.toNat) n = n * 256 ^ b.length + b.foldl (fun n c => n * 256 + c.toNat) 0 := by
    intro b
    induction b with
    | nil => intro n; simp
    | cons x b ih =>
      intro n
      rw [List.foldl_cons, ih, List.foldl_cons, ih (0 * 256 + x.toNat), List.length_cons, Nat.pow_succ, Nat.add_mul, Nat.zero_mul, Nat.zero_add, Nat.mul_assoc, Nat.mul_comm 256, Nat.add_assoc]
  unfold beV
  rw [List.foldl_append, this]
theorem beN_succ (s n : Nat) : beN (s + 1) n = beN s (n / 256) ++ [UInt8.ofNat n] := by
  unfold beN
  rw [List.range_succ, List.map_append]
  congr 1
  · apply List.map_congr_left
    intro i hi
    have := List.mem_range.1 hi
    rw [Nat.div_div_eq_div_mul, show 256 * 2 ^ (8 * (s - 1 - i)) = 2 ^ (8 * (s + 1 - 1 - i)) by rw [show 8 * (s + 1 - 1 - i) = 8 + 8 * (s - 1 - i) by omega, Nat.pow_add]]
  · simp
theorem beV_beNs (s n : Nat) : beV (beN s n) = n % 256 ^ s := by
  induction s generalizing n with
  | zero => simp [beN, beV, Nat.mod_one]
  | succ s ih =>
    rw [beN_succ, beV_app, ih]
    simp only [List.length_cons, List.length_nil, beV, List.foldl_cons, List.foldl_nil]
    rw [show 256 ^ (s + 1) = 256 * 256 ^ s by rw [Nat.pow_succ, Nat.mul_comm], Nat.mod_mul, show (UInt8.ofNat n).toNat = n % 256 by simp]
    omega
theorem u64V_id (n : Int) (h : 0 ≤ n) (h2 : n ≤ 9223372036854775807) : u64V n = n.toNat := by unfold u64V; omega
theorem Hd.right_iff (h : Hd) : h.right = true ↔ h.id ≠ 0 ∧ (h.role = 1 ∨ h.role = 2) ∧ 0 ≤ h.ep ∧ h.ep ≤ 65535 ∧ 1 ≤ h.sq ∧ h.sq ≤ 4096 := by
  simp [Hd.right, and_assoc]
theorem headS_put (h : Hd) (t : List UInt8) (hk : h.ok) (hr : h.right = true) : headS ((putB h ++ t).drop 1) = h := by
  obtain ⟨h1, h2, h3, h4, h5, h6⟩ := (h.right_iff).1 hr
  have hi := hk.id
  have e : (putB h ++ t).drop 1 = beN 8 h.id ++ (beN 1 (u64V h.role) ++ (beN 2 (u64V h.ep) ++ (beN 4 (u64V h.sq) ++ t))) := by simp [putB]
  rw [e, headS_eq _ (by simp [beN_len]; omega)]
  have c1 : ∀ (a b : List UInt8) (n : Nat), a.length = n → (a ++ b).take n = a := fun a b n hn => by rw [List.take_append_of_le_length (by omega), List.take_of_length_le (by omega)]
  have c2 : ∀ (a b : List UInt8) (n : Nat), a.length = n → (a ++ b).drop n = b := fun a b n hn => by rw [← hn, List.drop_left]
  have d1 := c2 (beN 8 h.id) (beN 1 (u64V h.role) ++ (beN 2 (u64V h.ep) ++ (beN 4 (u64V h.sq) ++ t))) 8 (beN_len _ _)
  have d2 : (beN 8 h.id ++ (beN 1 (u64V h.role) ++ (beN 2 (u64V h.ep) ++ (beN 4 (u64V h.sq) ++ t)))).drop 9 = beN 2 (u64V h.ep) ++ (beN 4 (u64V h.sq) ++ t) := by
    rw [show 9 = 8 + 1 from rfl, ← List.drop_drop, d1, c2 _ _ 1 (beN_len _ _)]
  have d3 : (beN 8 h.id ++ (beN 1 (u64V h.role) ++ (beN 2 (u64V h.ep) ++ (beN 4 (u64V h.sq) ++ t)))).drop 11 = beN 4 (u64V h.sq) ++ t := by
    rw [show 11 = 9 + 2 from rfl, ← List.drop_drop, d2, c2 _ _ 2 (beN_len _ _)]
  rw [d1, d2, d3, c1 _ _ 8 (beN_len _ _), c1 _ _ 1 (beN_len _ _), c1 _ _ 2 (beN_len _ _), c1 _ _ 4 (beN_len _ _)]
  simp only [beV_beNs]
  rw [u64V_id h.role (by omega) (by omega), u64V_id h.ep (by omega) (by omega), u64V_id h.sq (by omega) (by omega)]
  obtain ⟨a, b, c, d⟩ := h
  simp only [Hd.mk.injEq] at *
  omega
theorem kindB_put (h : Hd) (t : List UInt8) : kindB (putB h ++ t) = 3 := by
  simp [kindB, putB]
theorem takeB_rec (root : List UInt8) (h : Hd) (text : List UInt8) (hk : h.ok) (hr : h.right = true) (ht : text.length ≤ 2016) : takeB (recB root h text) = (h, 0) := by
  have hl := recB_len root h text
  have hh : headS ((recB root h text).drop 1) = h := headS_put h _ hk hr
  rw [takeB, if_pos (show kindB (recB root h text) = 3 from kindB_put _ _), if_neg (by omega), if_neg (by omega), hh, if_pos hr]
theorem open_rec (root : List UInt8) (h : Hd) (text : List UInt8) (hk : h.ok) (hr : h.right = true) (ht : text.length ≤ 2016) : openRec root (recB root h text) = (h, text, 0) := by
  rw [openRec, takeB_rec root h text hk hr ht]
  have e1 : (recB root h text).take 16 = putB h := by rw [recB, List.take_append_of_le_length (by rw [putB_len]; decide), List.take_of_length_le (by rw [putB_len]; decide)]
  have e2 : (recB root h text).drop 16 = sealB (epochB root h.ep) (nonceB (u64V h.sq)) (putB h) text := by
    have := List.drop_left (l₁ := putB h) (l₂ := sealB (epochB root h.ep) (nonceB (u64V h.sq)) (putB h) text)
    rwa [putB_len] at this
  simp only [e1, e2, openE_seal _ _ _ _ (epochB_len _ _) (nonceB_len _), if_true]
theorem takeB_set (b : List UInt8) (i : Nat) (x : UInt8) (hi : 16 ≤ i) : takeB (b.set i x) = takeB b := by
  have e1 : kindB (b.set i x) = kindB b := by
    cases b with
    | nil => rfl
    | cons a l => obtain ⟨i, rfl⟩ : ∃ j, i = j + 1 := ⟨i - 1, by omega⟩; simp [kindB]
  unfold takeB
  rw [e1, List.length_set]
  split
  · split
    · rfl
    · split
      · rfl
      · rename_i h
        have e2 : headS ((b.set i x).drop 1) = headS (b.drop 1) := by
          rw [← headS_cut _ (by simp; omega), ← headS_cut (b.drop 1) (by simp; omega)]
          congr 1
          apply List.ext_getElem?
          intro k
          simp only [List.getElem?_take, List.getElem?_drop, List.getElem?_set]
          split
          · rw [if_neg (by omega)]
          · rfl
        rw [e2]
  · rfl
theorem open_rec_changed (root : List UInt8) (h : Hd) (text : List UInt8) (hk : h.ok) (hr : h.right = true) (ht : text.length ≤ 2016) (i : Nat) (hi : i < 16) (y : UInt8) (hy : y ≠ 0) (hx : text.length + 16 + i + 16 - 16 < (recB root h text).length) :
    openRec root ((recB root h text).set (text.length + 16 + i) ((recB root h text)[text.length + 16 + i]'(by omega) ^^^ y)) = (⟨0, 0, 0, 0⟩, [], 21) := by
  have hsl := sealB_len (epochB root h.ep) (nonceB (u64V h.sq)) (putB h) text
  have e1 : ∀ v, ((recB root h text).set (text.length + 16 + i) v).take 16 = putB h := fun v => by
    rw [List.take_set_of_le (by omega), recB, List.take_append_of_le_length (by rw [putB_len]; decide), List.take_of_length_le (by rw [putB_len]; decide)]
  have e2 : ∀ v, ((recB root h text).set (text.length + 16 + i) v).drop 16 = (sealB (epochB root h.ep) (nonceB (u64V h.sq)) (putB h) text).set (text.length + i) v := fun v => by
    have := List.drop_left (l₁ := putB h) (l₂ := (sealB (epochB root h.ep) (nonceB (u64V h.sq)) (putB h) text).set (text.length + i) v)
    rw [putB_len] at this
    rw [recB, List.set_append_right _ _ (by rw [putB_len]; omega), putB_len, show text.length + 16 + i - 16 = text.length + i by omega, this]
  have e3 : (recB root h text)[text.length + 16 + i]'(by omega) = (sealB (epochB root h.ep) (nonceB (u64V h.sq)) (putB h) text)[text.length + i]'(by omega) := by
    simp only [recB]
    rw [List.getElem_append_right (by rw [putB_len]; omega)]
    congr 1; rw [putB_len]; omega
  rw [openRec, takeB_set _ _ _ (by omega), takeB_rec root h text hk hr ht]
  have ho := openE_changed (epochB root h.ep) (nonceB (u64V h.sq)) (putB h) text (epochB_len _ _) (nonceB_len _) i hi y hy (by omega)
  simp only [e1, e2, e3, ho, if_true, show ¬ (21 : Int) = 0 by decide, if_false]

def root4 : List UInt8 := [114, 111, 111, 116]
def txt4 : List UInt8 := [116, 101, 120, 116]
def hd1 : Hd := ⟨1, 2, 3, 4⟩
theorem hd1_ok : hd1.ok := by constructor <;> decide
theorem hd1_right : hd1.right = true := by decide
theorem txt4_rows : [[AVal.int .u8 116], [AVal.int .u8 101], [AVal.int .u8 120], [AVal.int .u8 116]] = txt4.map byteRow := rfl
@[go_sem] theorem txt4_len : txt4.length = 4 := rfl
theorem root4_fold : ([114, 111, 111, 116] : List UInt8) = root4 := rfl
theorem txt4_fold : ([116, 101, 120, 116] : List UInt8) = txt4 := rfl
def put1 : List UInt8 := [3, 0, 0, 0, 0, 0, 0, 0, 1, 2, 0, 3, 0, 0, 0, 4]
theorem put1_fold : ([3, 0, 0, 0, 0, 0, 0, 0, 1, 2, 0, 3, 0, 0, 0, 4] : List UInt8) = put1 := rfl
theorem put1_eq : putB hd1 = put1 := by decide
@[go_sem] theorem put1_len : put1.length = 16 := rfl

set_option maxHeartbeats 4000000 in
@[go_sem] theorem e24 : fn C 24 [] [] = some (.bool true, []) := by
  rw [fn_text Tryz.func24 rfl rfl Tryz.results24 fq24.1 rfl rfl (by kernel_rfl)]
  have e1 : fn C 25 [] [.str root4, .agg [.int .u64 1, .int .i64 2, .int .i64 3, .int .i64 4], .slice 1 (txt4.map byteRow)] = some (.tup [.usl 1 ((recB root4 hd1 txt4).map byteRow), .int .i64 0], []) := by
    have h := recSeal root4 hd1 txt4 hd1_ok (by decide) (by decide)
    rw [sealRec, if_pos hd1_right, if_neg (by decide)] at h
    exact h
  have e2 : fn C 27 [] [.str root4, .slice 1 ((recB root4 hd1 txt4).map byteRow)] = some (.tup [.agg [.int .u64 1, .int .i64 2, .int .i64 3, .int .i64 4], .slice 1 (txt4.map byteRow), .int .i64 0], []) := by
    have h := recOpen root4 (recB root4 hd1 txt4) (by decide) (by rw [recB_len]; decide)
    rw [open_rec root4 hd1 txt4 hd1_ok hd1_right (by decide)] at h
    exact h
  have e3 : fn C 53 [] [.agg [.int .u64 1, .int .i64 2, .int .i64 3, .int .i64 4]] = some (.usl 1 (put1.map byteRow), []) := by
    have h := e53 hd1 (by decide)
    rw [put1_eq] at h
    exact h
  have e4 : fn C 54 [] [.agg [.int .u64 1, .int .i64 2, .int .i64 3, .int .i64 4]] = some (.bool true, []) := by
    have h := e54 hd1
    rw [hd1_right] at h
    exact h
  have e5 : fn C 54 [] [.agg [.int .u64 0, .int .i64 0, .int .i64 0, .int .i64 0]] = some (.bool false, []) := e54 ⟨0, 0, 0, 0⟩
  have hl := recB_len root4 hd1 txt4
  have hq : eqF E.P 8 55 (.agg [.int .u64 1, .int .i64 2, .int .i64 3, .int .i64 4]) (.agg [.int .u64 1, .int .i64 2, .int .i64 3, .int .i64 4]) = some true := by
    have h := eqHead 1 1 2 3 4 2 3 4
    simpa using h
  simp -implicitDefEqProofs -dsimp +contextual (maxSteps := 9999999) (disch := first | omega | simp only [go_sem] <;> omega | refine ib ?_; kernel_rfl) only [go_sem, seval, ↓reduceIte, hq, root4_fold, txt4_rows, txt4_fold, put1_fold, e1, e2, e3, e4, e5, hl]

theorem sealRec_le (root : List UInt8) (h : Hd) (text : List UInt8) : (sealRec root h text).1.length ≤ text.length + 32 := by
  unfold sealRec
  split
  · split
    · simp
    · simp [recB_len]
  · simp

set_option maxHeartbeats 4000000 in
@[go_sem] theorem e6 (root : List UInt8) (h : Hd) (text : List UInt8) (hk : h.ok) (h1 : root.length ≤ 9223372036854775807) (h2 : text.length ≤ 9223372036854775807) : fn C 6 [] [.str root, .agg [.int .u64 (h.id : Int), .int .i64 h.role, .int .i64 h.ep, .int .i64 h.sq], .slice 1 (text.map byteRow)] = some (.bool true, []) := by
  rw [fn_text Tryz.func6 rfl rfl Tryz.results6 fq6.1 rfl rfl (by kernel_rfl)]
  by_cases g1 : 300 < root.length
  · simp -implicitDefEqProofs -dsimp +contextual (maxSteps := 9999999) (disch := first | omega | simp only [go_sem] <;> omega | refine ib ?_; kernel_rfl) only [go_sem, seval, ↓reduceIte, g1]
  have e1 := recSeal root h text hk (by omega) h2
  have e2 := recRSeal root h text hk (by omega) h2
  have hl := sealRec_le root h text
  by_cases g2 : 500 < text.length
  · by_cases g3 : text.length ≤ 2016
    · simp -implicitDefEqProofs -dsimp +contextual (maxSteps := 9999999) (disch := first | omega | simp only [go_sem] <;> omega | refine ib ?_; kernel_rfl) only [go_sem, seval, ↓reduceIte, g1, g2, g3]
    · have hl2 : (sealRec root h text).1.length ≤ 1 := by
        unfold sealRec
        rw [if_pos (show 2016 < text.length by omega)]
        split <;> simp
      simp -implicitDefEqProofs -dsimp +contextual (maxSteps := 9999999) (disch := first | omega | simp only [go_sem] <;> omega | refine ib ?_; kernel_rfl) only [go_sem, seval, ↓reduceIte, g1, g2, g3, e1, e2]
  · simp -implicitDefEqProofs -dsimp +contextual (maxSteps := 9999999) (disch := first | omega | simp only [go_sem] <;> omega | refine ib ?_; kernel_rfl) only [go_sem, seval, ↓reduceIte, g1, g2, e1, e2]

theorem openRec_le (root b : List UInt8) : (openRec root b).2.1.length ≤ 2048 := by
  unfold openRec
  split
  · rename_i h
    have h2 := takeB_len b h
    have h3 := openE_le (epochB root (takeB b).1.ep) (nonceB (u64V (takeB b).1.sq)) (b.take 16) (b.drop 16)
    rw [List.length_drop] at h3
    generalize openE (epochB root (takeB b).1.ep) (nonceB (u64V (takeB b).1.sq)) (b.take 16) (b.drop 16) = o at *
    dsimp only
    split
    · dsimp only; omega
    · simp
  · simp

set_option maxHeartbeats 4000000 in
@[go_sem] theorem e7 (root b : List UInt8) (h1 : root.length ≤ 9223372036854775807) (h2 : b.length ≤ 9223372036854775807) : fn C 7 [] [.str root, .slice 1 (b.map byteRow)] = some (.bool true, []) := by
  rw [fn_text Tryz.func7 rfl rfl Tryz.results7 fq7.1 rfl rfl (by kernel_rfl)]
  by_cases g1 : 300 < root.length
  · simp -implicitDefEqProofs -dsimp +contextual (maxSteps := 9999999) (disch := first | omega | simp only [go_sem] <;> omega | refine ib ?_; kernel_rfl) only [go_sem, seval, ↓reduceIte, g1]
  have e1 := recOpen root b (by omega) h2
  have e2 := recROpen root b (by omega) h2
  have hl := openRec_le root b
  by_cases g2 : 600 < b.length
  · by_cases g3 : b.length ≤ 2048
    · simp -implicitDefEqProofs -dsimp +contextual (maxSteps := 9999999) (disch := first | omega | simp only [go_sem] <;> omega | refine ib ?_; kernel_rfl) only [go_sem, seval, ↓reduceIte, g1, g2, g3]
    · simp -implicitDefEqProofs -dsimp +contextual (maxSteps := 9999999) (disch := first | omega | simp only [go_sem] <;> omega | refine ib ?_; kernel_rfl) only [go_sem, seval, ↓reduceIte, g1, g2, g3, e1, e2]
  · simp -implicitDefEqProofs -dsimp +contextual (maxSteps := 9999999) (disch := first | omega | simp only [go_sem] <;> omega | refine ib ?_; kernel_rfl) only [go_sem, seval, ↓reduceIte, g1, g2, e1, e2]

theorem Hd_aggEq (h : Hd) : True := trivial

theorem recB_get (root : List UInt8) (h : Hd) (text : List UInt8) (x : UInt8) : text.length + 32 - 1 - x.toNat % 16 = text.length + 16 + (15 - x.toNat % 16) := by omega
end Go.Proofs.YtccfjidpdlfenaaGreatDoor
