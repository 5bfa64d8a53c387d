import Derived.Test.YtdfkkfnjlcdjaaaTBox
namespace Go.Proofs.Ytdfkkfnjlcdjaaa
open Go.Am
set_option linter.unusedSimpArgs false
set_option linter.unusedVariables false
set_option maxRecDepth 100000
/-! Layer 7: what the parts' numbers come to. -/
def P0 : Nat := 1361129467683753853853498429727072845819
theorem timesP_val (n m : Nm) : (timesP n m).val + 1361129467683753853853498429727072845819 * (n.b * m.e + n.c * m.d + n.d * m.c + n.e * m.b + 67108864 * (n.c * m.e + n.d * m.d + n.e * m.c) + 4503599627370496 * (n.d * m.e + n.e * m.d) + 302231454903657293676544 * (n.e * m.e)) = n.val * m.val := by
  simp only [timesP, Nm.val]
  grind
theorem mod_of_add {x y k : Nat} (h : x + k * P0 = y) : x % P0 = y % P0 := by
  rw [← h, Nat.add_mul_mod_self_right]
theorem timesP_mod (n m : Nm) : (timesP n m).val % P0 = n.val * m.val % P0 := by
  rw [← timesP_val n m]
  show _ = (_ + P0 * _) % P0
  rw [Nat.add_mul_mod_self_left]
theorem carryN_mod (n : Nm) : (carryN n).val % P0 = n.val % P0 := mod_of_add (carryN_val n)
theorem addN_val (n m : Nm) : (addN n m).val = n.val + m.val := by simp only [addN, Nm.val]; omega
theorem readN_val (v : Nat) (h : v < 1361129467683753853853498429727072845824) : (readN v).val = v := by simp only [readN, Nm.val]; omega
theorem leV_block (b : List UInt8) (h : b.length ≤ 16) : leV (b ++ [1]) < 1361129467683753853853498429727072845824 := by
  have h1 := leV_lt b
  have h2 : (256 : Nat) ^ b.length ≤ 256 ^ 16 := Nat.pow_le_pow_right (by decide) h
  rw [leV_app]
  have h3 : leV [1] = 1 := rfl
  rw [h3, Nat.mul_one]
  have : (256 : Nat) ^ 16 + 256 ^ 16 < 1361129467683753853853498429727072845824 := by decide
  omega
theorem stepN_mod (r n : Nm) (blk : List UInt8) (h : blk.length ≤ 16) : (stepN r n blk).val % P0 = (n.val % P0 + leV (blk ++ [1])) * r.val % P0 := by
  rw [stepN, carryN_mod, timesP_mod, Nat.mul_mod, carryN_mod, addN_val, readN_val _ (leV_block blk h), ← Nat.mul_mod, Nat.mul_mod, Nat.mul_mod (n.val % P0 + leV (blk ++ [1]))]
  simp
/-- The number of a text, modulo the prime. -/
def macV (r : Nat) : Nat → Nat → List UInt8 → Nat
  | 0, n, _ => n
  | k + 1, n, msg => if msg = [] then n else macV r k ((n + leV (msg.take 16 ++ [1])) * r % P0) (msg.drop 16)
theorem tagAcc_mod (r : Nm) : ∀ (k : Nat) (n : Nm) (msg : List UInt8), (tagAcc r k n msg).val % P0 = macV r.val k (n.val % P0) msg
  | 0, _, _ => rfl
  | k + 1, n, msg => by
    rw [tagAcc, macV]
    split
    · rfl
    · rw [tagAcc_mod r k, stepN_mod r n _ (by simp; omega)]
theorem carry5N_val (n : Nm) : (carry5N n).val = n.val + 5 := by simp only [carry5N, Nm.val]; omega
theorem least_low (a b c d e v : Nat) (hv : a + b * 67108864 + c * 4503599627370496 + d * 302231454903657293676544 + e * 20282409603651670423947251286016 = v + 5) (h0 : e < 67108864) (h1 : a < 67108864) (h2 : b < 67108864) (h3 : c < 67108864) (h4 : d < 67108864) : v < 1361129467683753853853498429727072845819 := by omega
theorem least_high (a b c d e v : Nat) (hv : a + b * 67108864 + c * 4503599627370496 + d * 302231454903657293676544 + e * 20282409603651670423947251286016 = v + 5) (hm : v < 1361129467683753853853498429727072845824) (h0 : 67108864 ≤ e) (h1 : a < 67108864) (h2 : b < 67108864) (h3 : c < 67108864) (h4 : d < 67108864) : v = 1361129467683753853853498429727072845819 + (a + b * 67108864 + c * 4503599627370496 + d * 302231454903657293676544 + e % 67108864 * 20282409603651670423947251286016) ∧ v < 2 * 1361129467683753853853498429727072845819 := by
  have : e < 67108865 := by omega
  have h5 : e = 67108864 := by omega
  subst h5
  omega
theorem Nm.val_lt (m : Nm) (h : m.a < 67108864 ∧ m.b < 67108864 ∧ m.c < 67108864 ∧ m.d < 67108864 ∧ m.e < 67108864) : m.val < 1361129467683753853853498429727072845824 := by simp only [Nm.val]; omega
theorem Nm.le_of_lt {m : Nm} (h : m.a < 67108864 ∧ m.b < 67108864 ∧ m.c < 67108864 ∧ m.d < 67108864 ∧ m.e < 67108864) : m.le 1152921504606846976 := ⟨by omega, by omega, by omega, by omega, by omega⟩
theorem leastN_val (n : Nm) (h : n.le 1152921504606846976) : (leastN n).val = n.val % P0 := by
  have h1 := carryN_lt _ (carryN_le n h)
  have e : (carryN (carryN n)).val % P0 = n.val % P0 := by rw [carryN_mod, carryN_mod]
  rw [← e]
  unfold leastN
  simp only
  generalize carryN (carryN n) = m at h1 e
  clear e h n
  obtain ⟨i1, i2, i3, i4, i5⟩ := carry5N_le m (Nm.le_of_lt h1)
  have hq := carry5N_val m
  have hm := m.val_lt h1
  generalize carry5N m = q at *
  split
  · rename_i h0
    rw [P0, Nat.mod_eq_of_lt (least_low q.a q.b q.c q.d q.e m.val hq (by omega) i1 i2 i3 i4)]
  · rename_i h0
    obtain ⟨k1, k2⟩ := least_high q.a q.b q.c q.d q.e m.val hq hm (by omega) i1 i2 i3 i4
    show q.a + q.b * 67108864 + q.c * 4503599627370496 + q.d * 302231454903657293676544 + q.e % 67108864 * 20282409603651670423947251286016 = m.val % P0
    rw [P0]
    generalize q.a + q.b * 67108864 + q.c * 4503599627370496 + q.d * 302231454903657293676544 + q.e % 67108864 * 20282409603651670423947251286016 = t at *
    rw [k1, Nat.add_mod_left, Nat.mod_eq_of_lt (by omega)]
theorem Okn.le {n : Nm} (h : Okn n) : n.le 1152921504606846976 := by
  obtain ⟨h1, h2, h3, h4, h5⟩ := h
  exact ⟨by omega, by omega, by omega, by omega, by omega⟩
def leB (n k : Nat) : List UInt8 := (List.range k).map fun i => UInt8.ofNat (n / 256 ^ i)
theorem writeB_eq (n : Nm) : writeB n = leB n.val 16 := rfl
theorem okn0 : Okn ⟨0, 0, 0, 0, 0⟩ := by simp [Okn]
/-- The tag, by the number. -/
theorem tagB_val (key msg : List UInt8) : tagB key msg = sumB (leB (macV (leV (clampB key) % 1361129467683753853853498429727072845824) msg.length 0 msg) 16) (key.drop 16) := by
  have hr : (polyKey key).val = leV (clampB key) % 1361129467683753853853498429727072845824 := by
    rw [polyKey, ← readN_val (leV (clampB key) % _) (Nat.mod_lt _ (by decide))]
    simp only [readN, Nm.val]; omega
  rw [tagB, writeB_eq, leastN_val _ (Okn.le (tagAcc_lt (polyKey key) (readN_lt _) _ _ _ okn0)), tagAcc_mod, hr]
  rfl

/-! Layer 7, by the document: numbers by their digits. -/
def dV : List Nat → Nat
  | [] => 0
  | x :: l => x + 256 * dV l
theorem dV_app : ∀ l m : List Nat, dV (l ++ m) = dV l + 256 ^ l.length * dV m
  | [], m => by simp [dV]
  | x :: l, m => by simp only [List.cons_append, dV, dV_app l m, List.length_cons, Nat.pow_succ]; grind
theorem dV_rep (k : Nat) : dV (List.replicate k 0) = 0 := by
  induction k with
  | zero => rfl
  | succ k ih => simp [List.replicate_succ, dV, ih]
def Dg (l : List Nat) : Prop := ∀ x ∈ l, x < 256
theorem dV_lt : ∀ l : List Nat, Dg l → dV l < 256 ^ l.length
  | [], _ => by simp [dV]
  | x :: l, h => by
    have h1 := dV_lt l (fun y hy => h y (List.mem_cons_of_mem _ hy))
    have h2 := h x (by simp)
    simp only [dV, List.length_cons, Nat.pow_succ]
    generalize 256 ^ l.length = q at *
    omega
theorem dV_get : ∀ (l : List Nat) (i : Nat) (_ : Dg l) (hi : i < l.length), l[i] = dV l / 256 ^ i % 256
  | [], _, _, hi => by simp at hi
  | x :: l, 0, h, _ => by have := h x (by simp); simp [dV]; omega
  | x :: l, i + 1, h, hi => by
    have := dV_get l i (fun y hy => h y (List.mem_cons_of_mem _ hy)) (by simpa using hi)
    have h2 := h x (by simp)
    have e : (x + 256 * dV l) / 256 = dV l := by omega
    simp only [List.getElem_cons_succ, dV, this, Nat.pow_succ]
    rw [Nat.mul_comm (256 ^ i) 256, ← Nat.div_div_eq_div_mul, e]
theorem dV_take (l : List Nat) (k : Nat) (h : Dg l) : dV (l.take k) = dV l % 256 ^ k := by
  by_cases hk : k ≤ l.length
  · have e := dV_app (l.take k) (l.drop k)
    rw [List.take_append_drop, List.length_take, Nat.min_eq_left hk] at e
    have h1 := dV_lt (l.take k) (fun x hx => h x (List.mem_of_mem_take hx))
    rw [List.length_take, Nat.min_eq_left hk] at h1
    rw [e, Nat.add_mul_mod_self_left, Nat.mod_eq_of_lt h1]
  · rw [List.take_of_length_le (by omega), Nat.mod_eq_of_lt (Nat.lt_of_lt_of_le (dV_lt l h) (Nat.pow_le_pow_right (by decide) (by omega)))]
theorem dV_set : ∀ (l : List Nat) (j v : Nat) (h : j < l.length), dV (l.set j (l[j] + v)) = dV l + v * 256 ^ j
  | [], _, _, h => by simp at h
  | x :: l, 0, v, _ => by simp [dV]; omega
  | x :: l, j + 1, v, h => by
    have := dV_set l j v (by simpa using h)
    simp only [List.getElem_cons_succ, List.set_cons_succ, dV, this, Nat.pow_succ]
    grind
theorem dV_bytes (b : List UInt8) : dV (b.map UInt8.toNat) = leV b := by
  induction b with
  | nil => rfl
  | cons x b ih => simp [dV, leV, ih]
def carrG : Nat → List Nat → List Nat
  | _, [] => []
  | o, x :: l => (o + x) % 256 :: carrG ((o + x) / 256) l
theorem carrG_len : ∀ (l : List Nat) (o : Nat), (carrG o l).length = l.length
  | [], _ => rfl
  | _ :: l, o => by simp [carrG, carrG_len l]
theorem carrG_dg : ∀ (l : List Nat) (o : Nat), Dg (carrG o l)
  | [], _ => by simp [carrG, Dg]
  | x :: l, o => by
    intro y hy
    simp only [carrG, List.mem_cons] at hy
    rcases hy with rfl | hy
    · omega
    · exact carrG_dg l _ y hy
theorem carrG_val : ∀ (l : List Nat) (o : Nat), dV (carrG o l) = (o + dV l) % 256 ^ l.length
  | [], o => by simp [carrG, dV, Nat.mod_one]
  | x :: l, o => by
    simp only [carrG, dV, carrG_val l, List.length_cons, Nat.pow_succ]
    rw [Nat.mul_comm (256 ^ l.length) 256, Nat.mod_mul]
    congr 1
    · omega
    · rw [show (o + (x + 256 * dV l)) / 256 = (o + x) / 256 + dV l by omega]
/-- Carried. -/
def carrR (n : List Nat) : List Nat := carrG 0 (n ++ [0, 0, 0, 0])
theorem carrR_len (n : List Nat) : (carrR n).length = n.length + 4 := by simp [carrR, carrG_len]
theorem carrR_dg (n : List Nat) : Dg (carrR n) := carrG_dg _ _
theorem carrR_val (n : List Nat) (h : dV n < 256 ^ (n.length + 4)) : dV (carrR n) = dV n := by
  rw [carrR, carrG_val, dV_app, Nat.zero_add]
  simp only [dV, Nat.mul_zero, Nat.add_zero, List.length_append]
  exact Nat.mod_eq_of_lt h
/-- A row of products. -/
def rowG (x : Nat) : List Nat → Nat → List Nat → List Nat
  | out, _, [] => out
  | out, j, y :: bs => rowG x (out.set j (out.getD j 0 + x * y)) (j + 1) bs
theorem getD_at (l : List Nat) (j : Nat) (h : j < l.length) : l.getD j 0 = l[j] := by simp [List.getD_eq_getElem?_getD, h]
theorem rowG_len (x : Nat) : ∀ (bs out : List Nat) (j : Nat), (rowG x out j bs).length = out.length
  | [], _, _ => rfl
  | _ :: bs, out, j => by simp [rowG, rowG_len x bs]
theorem rowG_val (x : Nat) : ∀ (bs out : List Nat) (j : Nat), j + bs.length ≤ out.length → dV (rowG x out j bs) = dV out + x * 256 ^ j * dV bs
  | [], _, _, _ => by simp [rowG, dV]
  | y :: bs, out, j, h => by
    simp only [List.length_cons] at h
    rw [rowG, rowG_val x bs _ _ (by simp; omega), getD_at _ _ (by omega), dV_set, dV, Nat.pow_succ]
    grind
def convG (b : List Nat) : List Nat → Nat → List Nat → List Nat
  | out, _, [] => out
  | out, i, x :: cs => convG b (rowG x out i b) (i + 1) cs
theorem convG_len (b : List Nat) : ∀ (cs out : List Nat) (i : Nat), (convG b out i cs).length = out.length
  | [], _, _ => rfl
  | _ :: cs, out, i => by simp [convG, convG_len b cs, rowG_len]
theorem convG_val (b : List Nat) : ∀ (cs out : List Nat) (i : Nat), i + cs.length + b.length ≤ out.length + 1 → dV (convG b out i cs) = dV out + 256 ^ i * dV cs * dV b
  | [], _, _, _ => by simp [convG, dV]
  | x :: cs, out, i, h => by
    simp only [List.length_cons] at h
    rw [convG, convG_val b cs _ _ (by rw [rowG_len]; omega), rowG_val _ _ _ _ (by omega), dV, Nat.pow_succ]
    grind
/-- Folded. -/
def foldR (n : List Nat) : List Nat := rowG 320 ((n.take 16 ++ ((n.getD 16 0 % 4) :: List.replicate 7 0)).set 0 (n.getD 0 0 + n.getD 16 0 / 4 * 5)) 0 (n.drop 17)
theorem foldR_len (n : List Nat) (h : 16 ≤ n.length) : (foldR n).length = 24 := by simp [foldR, rowG_len]; omega
theorem foldR_val (n : List Nat) (hd : Dg n) (h : 17 ≤ n.length) (h2 : n.length ≤ 41) : dV (foldR n) = dV n % 1361129467683753853853498429727072845824 + 5 * (dV n / 1361129467683753853853498429727072845824) := by
  have hl : (n.take 16 ++ ((n.getD 16 0 % 4) :: List.replicate 7 0)).length = 24 := by simp; omega
  have e0 : (n.take 16 ++ ((n.getD 16 0 % 4) :: List.replicate 7 0))[0]'(by omega) = n.getD 0 0 := by
    rw [List.getElem_append_left (by simp; omega), List.getElem_take, getD_at _ _ (by omega)]
  have es := dV_set (n.take 16 ++ ((n.getD 16 0 % 4) :: List.replicate 7 0)) 0 (n.getD 16 0 / 4 * 5) (by omega)
  rw [e0, Nat.pow_zero, Nat.mul_one] at es
  rw [foldR, rowG_val _ _ _ _ (by rw [List.length_set, hl]; simp; omega), es, dV_app, dV, dV_rep, List.length_take, Nat.min_eq_left (by omega), Nat.pow_zero]
  have e1 := dV_app (n.take 16) (n.drop 16)
  rw [List.take_append_drop, List.length_take, Nat.min_eq_left (by omega), List.drop_eq_getElem_cons (by omega), dV, ← getD_at n 16 (by omega)] at e1
  have h1 := dV_lt (n.take 16) (fun x hx => hd x (List.mem_of_mem_take hx))
  rw [List.length_take, Nat.min_eq_left (by omega)] at h1
  clear e0 es hl
  generalize dV (List.take 16 n) = t at *
  generalize n.getD 16 0 = q at *
  have ep : (256 : Nat) ^ 16 = 340282366920938463463374607431768211456 := by decide
  rw [ep] at *
  rw [show 16 + 1 = 17 from rfl] at e1
  generalize dV (List.drop 17 n) = u at *
  rw [e1]
  omega

end Go.Proofs.Ytdfkkfnjlcdjaaa
