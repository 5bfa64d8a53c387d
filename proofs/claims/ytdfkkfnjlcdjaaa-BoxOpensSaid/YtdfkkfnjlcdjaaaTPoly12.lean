import Derived.Test.YtdfkkfnjlcdjaaaTPoly11
namespace Go.Proofs.Ytdfkkfnjlcdjaaa
open Go.Am
set_option linter.unusedSimpArgs false
set_option linter.unusedVariables false
set_option maxRecDepth 100000
/-! Layer 7: both tags are the same. -/
theorem dV_set2 : ∀ (l : List Nat) (j v : Nat) (h : j < l.length), dV (l.set j v) + l[j] * 256 ^ j = dV l + v * 256 ^ j
  | [], _, _, h => by simp at h
  | x :: l, 0, v, _ => by simp [dV]; omega
  | x :: l, j + 1, v, h => by
    have := dV_set2 l j v (by simpa using h)
    simp only [List.getElem_cons_succ, List.set_cons_succ, dV, Nat.pow_succ]
    grind
def N130 : Nat := 1361129467683753853853498429727072845824
theorem fold_mod (x : Nat) : (x % N130 + 5 * (x / N130)) % P0 = x % P0 := by
  have e : x = (x % N130 + 5 * (x / N130)) + P0 * (x / N130) := by
    have := Nat.mod_add_div x N130
    have h : N130 * (x / N130) = 5 * (x / N130) + P0 * (x / N130) := by rw [← Nat.add_mul]; rfl
    omega
  rw (occs := .pos [3]) [e]
  rw [Nat.add_mul_mod_self_left]
theorem fold_step (n : List Nat) (hd : Dg n) (h17 : 17 ≤ n.length) (h41 : n.length ≤ 41) (hv : dV n < N130 * N130) : dV (carrR (foldR n)) = dV n % N130 + 5 * (dV n / N130) := by
  have e := foldR_val n hd h17 h41
  have h1 : dV n % N130 < N130 := Nat.mod_lt _ (by decide)
  have h2 : dV n / N130 < N130 := Nat.div_lt_of_lt_mul hv
  rw [carrR_val]
  · exact e
  · rw [foldR_len n (by omega), e]
    have : (N130 + 5 * N130) < 256 ^ (24 + 4) := by decide
    change dV n % N130 + 5 * (dV n / N130) < _
    omega
theorem fold_small (x : Nat) (h : x < N130) : x % N130 + 5 * (x / N130) = x := by
  rw [Nat.mod_eq_of_lt h, Nat.div_eq_of_lt h, Nat.mul_zero, Nat.add_zero]
theorem mulR_val (a b : List Nat) (ha : a.length = 17) (hb : b.length = 17) (hv : dV a * dV b < N130 * (N130 / 2)) : dV (mulR a b) < N130 ∧ dV (mulR a b) % P0 = dV a * dV b % P0 := by
  have c0 : dV (convG b (List.replicate 34 0) 0 a) = dV a * dV b := by
    rw [convG_val _ _ _ _ (by simp; omega), dV_rep]; simp
  have cl : (convG b (List.replicate 34 0) 0 a).length = 34 := by rw [convG_len]; simp
  have s1 := carrR_len (convG b (List.replicate 34 0) 0 a)
  have d1 := carrR_dg (convG b (List.replicate 34 0) 0 a)
  have e1 : dV (carrR (convG b (List.replicate 34 0) 0 a)) = dV a * dV b := by
    rw [carrR_val _ (by rw [cl, c0]; exact Nat.lt_trans hv (by decide)), c0]
  rw [mulR, foldsR]
  generalize carrR (convG b (List.replicate 34 0) 0 a) = m1 at *
  have w1 := foldR_len m1 (by omega)
  have s2 := carrR_len (foldR m1)
  have d2 := carrR_dg (foldR m1)
  have e2 := fold_step m1 d1 (by omega) (by omega) (by rw [e1]; exact Nat.lt_trans hv (by decide))
  have q1 : dV m1 / N130 < N130 / 2 := Nat.div_lt_of_lt_mul (by rw [e1]; exact hv)
  have r1 : dV m1 % N130 < N130 := Nat.mod_lt _ (by decide)
  have t2 := fold_mod (dV m1)
  rw [← e2] at t2
  generalize carrR (foldR m1) = m2 at *
  have b2 : dV m2 < 4 * N130 := by simp only [N130] at *; omega
  have w2 := foldR_len m2 (by omega)
  have s3 := carrR_len (foldR m2)
  have d3 := carrR_dg (foldR m2)
  have e3 := fold_step m2 d2 (by omega) (by omega) (Nat.lt_trans b2 (by decide))
  have t3 := fold_mod (dV m2)
  rw [← e3] at t3
  generalize carrR (foldR m2) = m3 at *
  have b3 : dV m3 < N130 + 20 := by simp only [N130] at *; omega
  have w3 := foldR_len m3 (by omega)
  have s4 := carrR_len (foldR m3)
  have d4 := carrR_dg (foldR m3)
  have e4 := fold_step m3 d3 (by omega) (by omega) (Nat.lt_trans b3 (by decide))
  have t4 := fold_mod (dV m3)
  rw [← e4] at t4
  generalize carrR (foldR m3) = m4 at *
  have b4 : dV m4 < N130 := by simp only [N130] at *; omega
  have w4 := foldR_len m4 (by omega)
  have d5 := carrR_dg (foldR m4)
  have e5 := fold_step m4 d4 (by omega) (by omega) (Nat.lt_trans b4 (by decide))
  rw [fold_small _ b4] at e5
  generalize carrR (foldR m4) = m5 at *
  have e6 : dV (m5.take 17) = dV m4 := by
    rw [dV_take _ _ d5, e5]
    exact Nat.mod_eq_of_lt (Nat.lt_trans b4 (by decide))
  rw [e6, t4, t3, t2, e1]
  exact ⟨b4, rfl⟩
theorem leastR_val (n : List Nat) (hn : n.length = 17) (hd : Dg n) (hv : dV n < N130) : dV (leastR n) = dV n % P0 := by
  have hs := dV_set n 0 5 (by omega)
  rw [Nat.pow_zero, Nat.mul_one] at hs
  have e1 : dV (carrR (n.set 0 (n[0] + 5))) = dV n + 5 := by
    rw [carrR_val, hs]
    rw [hs, List.length_set, hn]
    have : N130 + 5 < 256 ^ (17 + 4) := by decide
    omega
  have d1 := carrR_dg (n.set 0 (n[0] + 5))
  have l1 := carrR_len (n.set 0 (n[0] + 5))
  rw [List.length_set] at l1
  simp only [leastR]
  rw [getD_at n 0 (by omega)]
  generalize carrR (n.set 0 (n[0] + 5)) = m at *
  have g16 := dV_get m 16 d1 (by omega)
  have g17 := dV_get m 17 d1 (by omega)
  rw [getD_at _ 16 (by omega), getD_at _ 17 (by omega)]
  have ds := dV_set2 m 16 (m[16] % 4) (by omega)
  have dd : Dg (m.set 16 (m[16] % 4)) := by
    intro x hx
    rcases List.mem_or_eq_of_mem_set hx with hx | rfl
    · exact d1 x hx
    · omega
  have et := dV_take (m.set 16 (m[16] % 4)) 17 dd
  generalize m[16] = x at *
  generalize m[17] = y at *
  generalize hD : dV (m.set 16 (x % 4)) = D at *
  simp only [show (256 : Nat) ^ 16 = 340282366920938463463374607431768211456 by decide, show (256 : Nat) ^ 17 = 87112285931760246646623899502532662132736 by decide] at *
  rw [e1] at *
  simp only [N130] at hv
  split
  · rename_i hc
    rw [P0, Nat.mod_eq_of_lt (by omega)]
  · rename_i hc
    rw [et, P0]
    have h4 : x = 4 := by omega
    subst h4
    have : dV n = 1361129467683753853853498429727072845819 + D := by omega
    rw [this, Nat.add_mod_left, Nat.mod_eq_of_lt (show D < 87112285931760246646623899502532662132736 by omega), Nat.mod_eq_of_lt (by omega)]
theorem blkR_val (b : List UInt8) (h : b.length ≤ 16) : dV (blkR b) = leV (b ++ [1]) := by
  have hl := digR_len b (by omega)
  have hs := dV_set2 (digR b) b.length 1 (by omega)
  have e0 : (digR b)[b.length]'(by omega) = 0 := by
    simp only [digR]
    rw [List.getElem_append_right (by simp)]
    simp
  rw [e0, digR_val] at hs
  rw [blkR, leV_app]
  simp only [leV]
  simpa using hs
theorem plusR_val : ∀ (a b : List Nat), a.length = b.length → dV (plusR a b) = dV a + dV b
  | [], [], _ => rfl
  | x :: a, y :: b, h => by
    have := plusR_val a b (by simpa using h)
    rw [plusR] at this ⊢
    simp only [List.zipWith_cons_cons, dV, this]; omega
theorem leV_block2 (b : List UInt8) (h : b.length ≤ 16) : leV (b ++ [1]) ≤ 2 * 256 ^ 16 := by
  have h1 := leV_lt b
  have h2 : (256 : Nat) ^ b.length ≤ 256 ^ 16 := Nat.pow_le_pow_right (by decide) h
  rw [leV_app]
  have h3 : leV [1] = 1 := rfl
  rw [h3, Nat.mul_one]
  omega
theorem mac_mod (a b c p : Nat) : (a + b) * c % p = (b % p + a) * c % p := by
  rw [Nat.mul_mod, Nat.mul_mod (b % p + a), Nat.mod_add_mod, Nat.add_comm]
theorem accR_val (r : List Nat) (hr : r.length = 17) (hv : dV r < 256 ^ 16) : ∀ (k : Nat) (n : List Nat) (msg : List UInt8), n.length = 17 → Dg n → dV n < N130 →
    (accR r k n msg).length = 17 ∧ Dg (accR r k n msg) ∧ dV (accR r k n msg) < N130 ∧ dV (accR r k n msg) % P0 = macV (dV r) k (dV n % P0) msg
  | 0, n, msg, hn, hd, hl => ⟨hn, hd, hl, rfl⟩
  | k + 1, n, msg, hn, hd, hl => by
    rw [accR, macV]
    split
    · exact ⟨hn, hd, hl, rfl⟩
    · have hb : (msg.take 16).length ≤ 16 := by simp; omega
      have hbl := blkR_len _ hb
      have e1 : dV (plusR (blkR (msg.take 16)) n) = leV (msg.take 16 ++ [1]) + dV n := by rw [plusR_val _ _ (by omega), blkR_val _ hb]
      have h1 := leV_block _ hb
      have h2 : dV (plusR (blkR (msg.take 16)) n) * dV r < N130 * (N130 / 2) := by
        have h3 := leV_block2 _ hb
        refine Nat.lt_of_le_of_lt (Nat.mul_le_mul (show _ ≤ 2 * 256 ^ 16 + N130 by rw [e1]; omega) (Nat.le_of_lt hv)) (by decide)
      obtain ⟨m1, m2⟩ := mulR_val _ r (plusR_len _ n hbl hn) hr h2
      obtain ⟨k1, k2, k3, k4⟩ := accR_val r hr hv k _ (msg.drop 16) (mulR_len _ _) (mulR_dg _ _) m1
      refine ⟨k1, k2, k3, ?_⟩
      rw [k4, m2, e1, mac_mod]
theorem bytes_leB (n : List Nat) (hn : n.length = 17) (hd : Dg n) : (n.take 16).map UInt8.ofNat = leB (dV n) 16 := by
  refine List.ext_getElem (by simp [leB]; omega) fun i h1 h2 => ?_
  simp only [leB, List.getElem_map, List.getElem_range, List.getElem_take]
  rw [dV_get n i hd (by simp [leB] at h2; omega)]
  exact ofNat8 _ _ (by simp)
theorem tag_same (key msg : List UInt8) (hk : key.length = 32) : finR key (accR (digR (clampB key)) msg.length Z17 msg) = tagB key msg := by
  have hcl := clampB_len key (by omega)
  have hr := digR_len (clampB key) (by omega)
  have hv := leV_lt (clampB key)
  rw [hcl] at hv
  have hv2 : dV (digR (clampB key)) < 256 ^ 16 := by rw [digR_val]; exact hv
  obtain ⟨k1, k2, k3, k4⟩ := accR_val _ hr hv2 msg.length Z17 msg rfl (by simp [Dg, Z17]) (by decide)
  rw [tagB_val, finR]
  generalize hA : accR (digR (clampB key)) msg.length Z17 msg = A at *
  have l1 := leastR_len A k1
  have d1 := leastR_dg A k2
  have v1 := leastR_val A k1 k2 k3
  have v2 := leastR_val _ l1 d1 (by rw [v1]; exact Nat.lt_trans (Nat.mod_lt _ (by decide)) (by decide : P0 < N130))
  rw [bytes_leB _ (leastR_len _ l1) (leastR_dg _ d1), v2, v1, Nat.mod_mod, k4, digR_val, Nat.mod_eq_of_lt (Nat.lt_trans hv (by decide))]
  rfl

@[go_sem] theorem refTag (key msg : List UInt8) (hk : key.length = 32) (hm : msg.length ≤ 1000000000) : fn C 31 [] [.slice 1 (key.map byteRow), .slice 1 (msg.map byteRow)] = some (.tup [.slice 1 ((tagB key msg).map byteRow), .int .i64 0], []) := by
  rw [e31 key msg hk hm, tag_same key msg hk]

end Go.Proofs.Ytdfkkfnjlcdjaaa
