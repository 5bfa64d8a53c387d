import Derived.Test.YtccfjidpdlfenaaGreatDoorTReader
namespace Go.Proofs.YtccfjidpdlfenaaGreatDoor
open Go.Am
set_option linter.unusedSimpArgs false
set_option linter.unusedVariables false
set_option maxRecDepth 100000
/-! Layer 7: bytes read as numbers. -/
theorem or_low (a x h : Nat) (ha : a < 2 ^ h) (hx : x % 2 ^ h = 0) : a ||| x = a + x := by
  have e : x = (x / 2 ^ h) * 2 ^ h := by have := Nat.div_add_mod x (2 ^ h); rw [hx, Nat.mul_comm] at this; omega
  rw [e, Nat.or_comm, orAdd _ _ _ ha, Nat.add_comm]
@[go_sem] theorem or_nat (P : Program) (t : TypeId) (a b : Nat) (ha : a < 18446744073709551616) (hb : b < 18446744073709551616) : binV P .or t (.int .u64 (a : Int)) (.int .u64 (b : Int)) = some (.int .u64 ((a ||| b : Nat) : Int)) := by
  have h := Nat.or_lt_two_pow (n := 64) ha hb
  show some (AVal.int .u64 (IntKind.u64.wrap (((BitVec.ofInt 64 (a : Int)) ||| (BitVec.ofInt 64 (b : Int))).toNat : Int))) = _
  rw [BitVec.ofInt_natCast, BitVec.ofInt_natCast, BitVec.toNat_or, BitVec.toNat_ofNat, BitVec.toNat_ofNat, Nat.mod_eq_of_lt ha, Nat.mod_eq_of_lt hb, IntKind.wrap_u64]; congr 2; omega
@[go_sem] theorem shl_nat (P : Program) (t : TypeId) (k : IntKind) (a m : Nat) (hm : m ≤ 64) (h : a * 2 ^ m < 18446744073709551616) : binV P .shl t (.int .u64 (a : Int)) (.int k (m : Int)) = some (.int .u64 ((a * 2 ^ m : Nat) : Int)) := by
  have e : ¬ ((m : Int) < 0) := by omega
  simp only [binV, isShift, if_true, shiftV, if_neg e, Int.toNat_natCast, IntKind.bits, Nat.min_eq_left hm]
  rw [IntKind.wrap_u64, show ((2 : Int) ^ m) = ((2 ^ m : Nat) : Int) by simp, ← Int.natCast_mul]; congr 2; omega
@[go_sem] theorem shl_lit (P : Program) (t : TypeId) (k : IntKind) (a m : Nat) (hm : OfNat.ofNat m ≤ 64) (h : a * 2 ^ (OfNat.ofNat m) < 18446744073709551616) : binV P .shl t (.int .u64 (a : Int)) (.int k (no_index (OfNat.ofNat m : Int))) = some (.int .u64 ((a * 2 ^ (OfNat.ofNat m) : Nat) : Int)) := shl_nat P t k a (OfNat.ofNat m) hm h
def leV : List UInt8 → Nat
  | [] => 0
  | b :: r => b.toNat + 256 * leV r
theorem leV_lt : ∀ l : List UInt8, leV l < 256 ^ l.length
  | [] => by simp [leV]
  | b :: r => by
    have h1 := leV_lt r
    have h2 := u8_lt b
    simp only [leV, List.length_cons, Nat.pow_succ]; omega
theorem leV_app : ∀ l m : List UInt8, leV (l ++ m) = leV l + 256 ^ l.length * leV m
  | [], m => by simp [leV]
  | b :: r, m => by
    have e := leV_app r m
    simp only [List.cons_append, leV, e, List.length_cons, Nat.pow_succ]
    rw [Nat.mul_add, Nat.mul_comm (256 ^ r.length) 256, ← Nat.mul_assoc]; omega
def readN (v : Nat) : Nm := ⟨v % 67108864, v / 67108864 % 67108864, v / 4503599627370496 % 67108864, v / 302231454903657293676544 % 67108864, v / 20282409603651670423947251286016 % 67108864⟩
theorem rd0 (v c : Nat) (hv : v < 1) (hc : c < 256) : (v % 67108864 ||| c % 67108864 = (v + c) % 67108864) ∧ (v / 67108864 % 67108864 ||| c / 67108864 = (v + c) / 67108864 % 67108864) ∧ (v / 4503599627370496 % 67108864 = (v + c) / 4503599627370496 % 67108864) ∧ (v / 302231454903657293676544 % 67108864 = (v + c) / 302231454903657293676544 % 67108864) ∧ (v / 20282409603651670423947251286016 % 67108864 = (v + c) / 20282409603651670423947251286016 % 67108864) :=
  ⟨by rw [or_low _ _ 0 (by omega) (by omega)]; omega, by rw [or_low _ _ 0 (by omega) (by omega)]; omega, by omega, by omega, by omega⟩
theorem rd1 (v c : Nat) (hv : v < 256) (hc : c < 256) : (v % 67108864 ||| c * 256 % 67108864 = (v + c * 256) % 67108864) ∧ (v / 67108864 % 67108864 ||| c * 256 / 67108864 = (v + c * 256) / 67108864 % 67108864) ∧ (v / 4503599627370496 % 67108864 = (v + c * 256) / 4503599627370496 % 67108864) ∧ (v / 302231454903657293676544 % 67108864 = (v + c * 256) / 302231454903657293676544 % 67108864) ∧ (v / 20282409603651670423947251286016 % 67108864 = (v + c * 256) / 20282409603651670423947251286016 % 67108864) :=
  ⟨by rw [or_low _ _ 8 (by omega) (by omega)]; omega, by rw [or_low _ _ 0 (by omega) (by omega)]; omega, by omega, by omega, by omega⟩
theorem rd2 (v c : Nat) (hv : v < 65536) (hc : c < 256) : (v % 67108864 ||| c * 65536 % 67108864 = (v + c * 65536) % 67108864) ∧ (v / 67108864 % 67108864 ||| c * 65536 / 67108864 = (v + c * 65536) / 67108864 % 67108864) ∧ (v / 4503599627370496 % 67108864 = (v + c * 65536) / 4503599627370496 % 67108864) ∧ (v / 302231454903657293676544 % 67108864 = (v + c * 65536) / 302231454903657293676544 % 67108864) ∧ (v / 20282409603651670423947251286016 % 67108864 = (v + c * 65536) / 20282409603651670423947251286016 % 67108864) :=
  ⟨by rw [or_low _ _ 16 (by omega) (by omega)]; omega, by rw [or_low _ _ 0 (by omega) (by omega)]; omega, by omega, by omega, by omega⟩
theorem rd3 (v c : Nat) (hv : v < 16777216) (hc : c < 256) : (v % 67108864 ||| c * 16777216 % 67108864 = (v + c * 16777216) % 67108864) ∧ (v / 67108864 % 67108864 ||| c * 16777216 / 67108864 = (v + c * 16777216) / 67108864 % 67108864) ∧ (v / 4503599627370496 % 67108864 = (v + c * 16777216) / 4503599627370496 % 67108864) ∧ (v / 302231454903657293676544 % 67108864 = (v + c * 16777216) / 302231454903657293676544 % 67108864) ∧ (v / 20282409603651670423947251286016 % 67108864 = (v + c * 16777216) / 20282409603651670423947251286016 % 67108864) :=
  ⟨by rw [or_low _ _ 24 (by omega) (by omega)]; omega, by rw [or_low _ _ 0 (by omega) (by omega)]; omega, by omega, by omega, by omega⟩
theorem rd4 (v c : Nat) (hv : v < 4294967296) (hc : c < 256) : (v % 67108864 = (v + c * 4294967296) % 67108864) ∧ (v / 67108864 % 67108864 ||| c * 64 % 67108864 = (v + c * 4294967296) / 67108864 % 67108864) ∧ (v / 4503599627370496 % 67108864 ||| c * 64 / 67108864 = (v + c * 4294967296) / 4503599627370496 % 67108864) ∧ (v / 302231454903657293676544 % 67108864 = (v + c * 4294967296) / 302231454903657293676544 % 67108864) ∧ (v / 20282409603651670423947251286016 % 67108864 = (v + c * 4294967296) / 20282409603651670423947251286016 % 67108864) :=
  ⟨by omega, by rw [or_low _ _ 6 (by omega) (by omega)]; omega, by rw [or_low _ _ 0 (by omega) (by omega)]; omega, by omega, by omega⟩
theorem rd5 (v c : Nat) (hv : v < 1099511627776) (hc : c < 256) : (v % 67108864 = (v + c * 1099511627776) % 67108864) ∧ (v / 67108864 % 67108864 ||| c * 16384 % 67108864 = (v + c * 1099511627776) / 67108864 % 67108864) ∧ (v / 4503599627370496 % 67108864 ||| c * 16384 / 67108864 = (v + c * 1099511627776) / 4503599627370496 % 67108864) ∧ (v / 302231454903657293676544 % 67108864 = (v + c * 1099511627776) / 302231454903657293676544 % 67108864) ∧ (v / 20282409603651670423947251286016 % 67108864 = (v + c * 1099511627776) / 20282409603651670423947251286016 % 67108864) :=
  ⟨by omega, by rw [or_low _ _ 14 (by omega) (by omega)]; omega, by rw [or_low _ _ 0 (by omega) (by omega)]; omega, by omega, by omega⟩
theorem rd6 (v c : Nat) (hv : v < 281474976710656) (hc : c < 256) : (v % 67108864 = (v + c * 281474976710656) % 67108864) ∧ (v / 67108864 % 67108864 ||| c * 4194304 % 67108864 = (v + c * 281474976710656) / 67108864 % 67108864) ∧ (v / 4503599627370496 % 67108864 ||| c * 4194304 / 67108864 = (v + c * 281474976710656) / 4503599627370496 % 67108864) ∧ (v / 302231454903657293676544 % 67108864 = (v + c * 281474976710656) / 302231454903657293676544 % 67108864) ∧ (v / 20282409603651670423947251286016 % 67108864 = (v + c * 281474976710656) / 20282409603651670423947251286016 % 67108864) :=
  ⟨by omega, by rw [or_low _ _ 22 (by omega) (by omega)]; omega, by rw [or_low _ _ 0 (by omega) (by omega)]; omega, by omega, by omega⟩
theorem rd7 (v c : Nat) (hv : v < 72057594037927936) (hc : c < 256) : (v % 67108864 = (v + c * 72057594037927936) % 67108864) ∧ (v / 67108864 % 67108864 = (v + c * 72057594037927936) / 67108864 % 67108864) ∧ (v / 4503599627370496 % 67108864 ||| c * 16 % 67108864 = (v + c * 72057594037927936) / 4503599627370496 % 67108864) ∧ (v / 302231454903657293676544 % 67108864 ||| c * 16 / 67108864 = (v + c * 72057594037927936) / 302231454903657293676544 % 67108864) ∧ (v / 20282409603651670423947251286016 % 67108864 = (v + c * 72057594037927936) / 20282409603651670423947251286016 % 67108864) :=
  ⟨by omega, by omega, by rw [or_low _ _ 4 (by omega) (by omega)]; omega, by rw [or_low _ _ 0 (by omega) (by omega)]; omega, by omega⟩
theorem rd8 (v c : Nat) (hv : v < 18446744073709551616) (hc : c < 256) : (v % 67108864 = (v + c * 18446744073709551616) % 67108864) ∧ (v / 67108864 % 67108864 = (v + c * 18446744073709551616) / 67108864 % 67108864) ∧ (v / 4503599627370496 % 67108864 ||| c * 4096 % 67108864 = (v + c * 18446744073709551616) / 4503599627370496 % 67108864) ∧ (v / 302231454903657293676544 % 67108864 ||| c * 4096 / 67108864 = (v + c * 18446744073709551616) / 302231454903657293676544 % 67108864) ∧ (v / 20282409603651670423947251286016 % 67108864 = (v + c * 18446744073709551616) / 20282409603651670423947251286016 % 67108864) :=
  ⟨by omega, by omega, by rw [or_low _ _ 12 (by omega) (by omega)]; omega, by rw [or_low _ _ 0 (by omega) (by omega)]; omega, by omega⟩
theorem rd9 (v c : Nat) (hv : v < 4722366482869645213696) (hc : c < 256) : (v % 67108864 = (v + c * 4722366482869645213696) % 67108864) ∧ (v / 67108864 % 67108864 = (v + c * 4722366482869645213696) / 67108864 % 67108864) ∧ (v / 4503599627370496 % 67108864 ||| c * 1048576 % 67108864 = (v + c * 4722366482869645213696) / 4503599627370496 % 67108864) ∧ (v / 302231454903657293676544 % 67108864 ||| c * 1048576 / 67108864 = (v + c * 4722366482869645213696) / 302231454903657293676544 % 67108864) ∧ (v / 20282409603651670423947251286016 % 67108864 = (v + c * 4722366482869645213696) / 20282409603651670423947251286016 % 67108864) :=
  ⟨by omega, by omega, by rw [or_low _ _ 20 (by omega) (by omega)]; omega, by rw [or_low _ _ 0 (by omega) (by omega)]; omega, by omega⟩
theorem rd10 (v c : Nat) (hv : v < 1208925819614629174706176) (hc : c < 256) : (v % 67108864 = (v + c * 1208925819614629174706176) % 67108864) ∧ (v / 67108864 % 67108864 = (v + c * 1208925819614629174706176) / 67108864 % 67108864) ∧ (v / 4503599627370496 % 67108864 = (v + c * 1208925819614629174706176) / 4503599627370496 % 67108864) ∧ (v / 302231454903657293676544 % 67108864 ||| c * 4 % 67108864 = (v + c * 1208925819614629174706176) / 302231454903657293676544 % 67108864) ∧ (v / 20282409603651670423947251286016 % 67108864 ||| c * 4 / 67108864 = (v + c * 1208925819614629174706176) / 20282409603651670423947251286016 % 67108864) :=
  ⟨by omega, by omega, by omega, by rw [or_low _ _ 2 (by omega) (by omega)]; omega, by rw [or_low _ _ 0 (by omega) (by omega)]; omega⟩
theorem rd11 (v c : Nat) (hv : v < 309485009821345068724781056) (hc : c < 256) : (v % 67108864 = (v + c * 309485009821345068724781056) % 67108864) ∧ (v / 67108864 % 67108864 = (v + c * 309485009821345068724781056) / 67108864 % 67108864) ∧ (v / 4503599627370496 % 67108864 = (v + c * 309485009821345068724781056) / 4503599627370496 % 67108864) ∧ (v / 302231454903657293676544 % 67108864 ||| c * 1024 % 67108864 = (v + c * 309485009821345068724781056) / 302231454903657293676544 % 67108864) ∧ (v / 20282409603651670423947251286016 % 67108864 ||| c * 1024 / 67108864 = (v + c * 309485009821345068724781056) / 20282409603651670423947251286016 % 67108864) :=
  ⟨by omega, by omega, by omega, by rw [or_low _ _ 10 (by omega) (by omega)]; omega, by rw [or_low _ _ 0 (by omega) (by omega)]; omega⟩
theorem rd12 (v c : Nat) (hv : v < 79228162514264337593543950336) (hc : c < 256) : (v % 67108864 = (v + c * 79228162514264337593543950336) % 67108864) ∧ (v / 67108864 % 67108864 = (v + c * 79228162514264337593543950336) / 67108864 % 67108864) ∧ (v / 4503599627370496 % 67108864 = (v + c * 79228162514264337593543950336) / 4503599627370496 % 67108864) ∧ (v / 302231454903657293676544 % 67108864 ||| c * 262144 % 67108864 = (v + c * 79228162514264337593543950336) / 302231454903657293676544 % 67108864) ∧ (v / 20282409603651670423947251286016 % 67108864 ||| c * 262144 / 67108864 = (v + c * 79228162514264337593543950336) / 20282409603651670423947251286016 % 67108864) :=
  ⟨by omega, by omega, by omega, by rw [or_low _ _ 18 (by omega) (by omega)]; omega, by rw [or_low _ _ 0 (by omega) (by omega)]; omega⟩
theorem rd13 (v c : Nat) (hv : v < 20282409603651670423947251286016) (hc : c < 256) : (v % 67108864 = (v + c * 20282409603651670423947251286016) % 67108864) ∧ (v / 67108864 % 67108864 = (v + c * 20282409603651670423947251286016) / 67108864 % 67108864) ∧ (v / 4503599627370496 % 67108864 = (v + c * 20282409603651670423947251286016) / 4503599627370496 % 67108864) ∧ (v / 302231454903657293676544 % 67108864 = (v + c * 20282409603651670423947251286016) / 302231454903657293676544 % 67108864) ∧ (v / 20282409603651670423947251286016 % 67108864 ||| c % 67108864 = (v + c * 20282409603651670423947251286016) / 20282409603651670423947251286016 % 67108864) :=
  ⟨by omega, by omega, by omega, by omega, by rw [or_low _ _ 0 (by omega) (by omega)]; omega⟩
theorem rd14 (v c : Nat) (hv : v < 5192296858534827628530496329220096) (hc : c < 256) : (v % 67108864 = (v + c * 5192296858534827628530496329220096) % 67108864) ∧ (v / 67108864 % 67108864 = (v + c * 5192296858534827628530496329220096) / 67108864 % 67108864) ∧ (v / 4503599627370496 % 67108864 = (v + c * 5192296858534827628530496329220096) / 4503599627370496 % 67108864) ∧ (v / 302231454903657293676544 % 67108864 = (v + c * 5192296858534827628530496329220096) / 302231454903657293676544 % 67108864) ∧ (v / 20282409603651670423947251286016 % 67108864 ||| c * 256 % 67108864 = (v + c * 5192296858534827628530496329220096) / 20282409603651670423947251286016 % 67108864) :=
  ⟨by omega, by omega, by omega, by omega, by rw [or_low _ _ 8 (by omega) (by omega)]; omega⟩
theorem rd15 (v c : Nat) (hv : v < 1329227995784915872903807060280344576) (hc : c < 256) : (v % 67108864 = (v + c * 1329227995784915872903807060280344576) % 67108864) ∧ (v / 67108864 % 67108864 = (v + c * 1329227995784915872903807060280344576) / 67108864 % 67108864) ∧ (v / 4503599627370496 % 67108864 = (v + c * 1329227995784915872903807060280344576) / 4503599627370496 % 67108864) ∧ (v / 302231454903657293676544 % 67108864 = (v + c * 1329227995784915872903807060280344576) / 302231454903657293676544 % 67108864) ∧ (v / 20282409603651670423947251286016 % 67108864 ||| c * 65536 % 67108864 = (v + c * 1329227995784915872903807060280344576) / 20282409603651670423947251286016 % 67108864) :=
  ⟨by omega, by omega, by omega, by omega, by rw [or_low _ _ 16 (by omega) (by omega)]; omega⟩
theorem rd16 (v c : Nat) (hv : v < 340282366920938463463374607431768211456) (hc : c < 256) : (v % 67108864 = (v + c * 340282366920938463463374607431768211456) % 67108864) ∧ (v / 67108864 % 67108864 = (v + c * 340282366920938463463374607431768211456) / 67108864 % 67108864) ∧ (v / 4503599627370496 % 67108864 = (v + c * 340282366920938463463374607431768211456) / 4503599627370496 % 67108864) ∧ (v / 302231454903657293676544 % 67108864 = (v + c * 340282366920938463463374607431768211456) / 302231454903657293676544 % 67108864) ∧ (v / 20282409603651670423947251286016 % 67108864 ||| c * 16777216 % 67108864 = (v + c * 340282366920938463463374607431768211456) / 20282409603651670423947251286016 % 67108864) :=
  ⟨by omega, by omega, by omega, by omega, by rw [or_low _ _ 24 (by omega) (by omega)]; omega⟩

@[go_sem] theorem e124 (i : Nat) (h : i ≤ 1000) : fn C 124 [] [.int .i64 (i : Int)] = some (.tup [.int .i64 ((8 * i / 26 : Nat) : Int), .int .i64 ((8 * i % 26 : Nat) : Int)], []) := by
  rw [fn_text Tryz.func124 rfl rfl Tryz.results124 fq124.1 rfl rfl (by kernel_rfl)]
  simp -implicitDefEqProofs -dsimp +contextual (maxSteps := 5000000) (disch := first | omega | simp only [go_sem] <;> omega | refine ib ?_; kernel_rfl) only [go_sem, Nat.reduceBEq, Int.reduceNeg, Int.reduceLT, Int.reduceLE, Int.reduceAdd, Int.reduceSub, Int.reduceToNat, Int.reduceMul, Int.reduceMod, Int.reduceTMod, Int.reduceTDiv, Int.reduceEq, Nat.reducePow, Nat.reduceDiv, Nat.reduceShiftRight, Nat.reduceMod, List.reduceReplicate, ↓reduceIte, Nat.reduceEqDiff, Nat.reduceAdd, Nat.reduceSub, Nat.reduceLeDiff, Nat.reduceLT, Nat.reduceMul]

@[go_sem] theorem ebit_lit (i : Nat) (h : OfNat.ofNat i ≤ 1000) : fn C 124 [] [.int .i64 (no_index (OfNat.ofNat i : Int))] = some (.tup [.int .i64 ((8 * (OfNat.ofNat i) / 26 : Nat) : Int), .int .i64 ((8 * (OfNat.ofNat i) % 26 : Nat) : Int)], []) := e124 (OfNat.ofNat i) h


end Go.Proofs.YtccfjidpdlfenaaGreatDoor
namespace Go.Proofs.YtccfjidpdlfenaaGreatDoor
open Go.Am
set_option linter.unusedSimpArgs false
set_option linter.unusedVariables false
set_option maxRecDepth 100000
/-! Layer 7: read. -/
set_option maxHeartbeats 8000000 in
@[go_sem] theorem e98 (b : List UInt8) (hb : b.length ≤ 17) : fn C 98 [] [.slice 1 (b.map byteRow)] = some (.agg (readN (leV b)).cs, []) := by
  rw [fn_text Tryz.func98 rfl rfl Tryz.results98 fq98.1 rfl rfl (by kernel_rfl)]
  simp -implicitDefEqProofs -dsimp +contextual (maxSteps := 5000000) (disch := first | omega | simp only [go_sem] <;> omega | refine ib ?_; kernel_rfl) only [go_sem, Nat.reduceBEq, Int.reduceNeg, Int.reduceLT, Int.reduceLE, Int.reduceAdd, Int.reduceSub, Int.reduceToNat, Int.reduceMul, Int.reduceMod, Int.reduceTMod, Int.reduceTDiv, Int.reduceEq, Nat.reducePow, Nat.reduceDiv, Nat.reduceShiftRight, Nat.reduceMod, List.reduceReplicate, ↓reduceIte, Nat.reduceEqDiff, Nat.reduceAdd, Nat.reduceSub, Nat.reduceLeDiff, Nat.reduceLT, Nat.reduceMul]
  refine kLoop_rec (fun (i : Nat) f H => f 2 = .ptr 102 1 0 0 ∧ f 3 = .ptr 103 1 0 0 ∧ f 9 = .slice 1 (b.map byteRow) ∧ f 10 = .int .i64 b.length ∧ f 11 = .int .i64 (i : Int) ∧ H 102 = ⟨1, .live, 5, [(readN 0).cs], false⟩ ∧ H 103 = ⟨1, .live, 5, [(readN (leV (b.take i))).cs], false⟩ ∧ i ≤ b.length) (fun i => b.length - i) (fun _ => some (.agg (readN (leV b)).cs, [])) ?_ 0 _ _ ?_
  rotate_left
  · exact ⟨rfl, rfl, rfl, rfl, rfl, rfl, by rw [List.take_zero, leV]; rfl, by omega⟩
  rintro i f H ⟨f2, f3, f9, f10, f11, H102, H103, hi⟩ ih
  by_cases hl : i < b.length
  · have hv := leV_lt (b.take i)
    have hs : leV (b.take (i + 1)) = leV (b.take i) + b[i].toNat * 256 ^ i := by
      rw [List.take_succ_eq_append_getElem hl, leV_app, List.length_take, Nat.min_eq_left hi]; simp only [leV, Nat.mul_zero, Nat.add_zero]; rw [Nat.mul_comm (256 ^ i)]
    rw [List.length_take, Nat.min_eq_left hi] at hv
    have hc := u8_lt b[i]
    have fin := fun f' H' a => ih (i + 1) f' H' a (by omega)
    clear ih
    generalize leV (b.take i) = v at *
    simp only [readN] at H103
    have hb8 := UInt8.toNat_toUInt64 b[i]
    have hi17 : i < 17 := by omega
    match i, hi17 with
    | 0, _ =>
      obtain ⟨q0, q1, q2, q3, q4⟩ := rd0 v b[0].toNat hv hc
      simp -implicitDefEqProofs -dsimp +contextual (maxSteps := 5000000) (disch := first | omega | simp only [go_sem] <;> omega | refine ib ?_; kernel_rfl) only [go_sem, Nat.reduceBEq, Int.reduceNeg, Int.reduceLT, Int.reduceLE, Int.reduceAdd, Int.reduceSub, Int.reduceToNat, Int.reduceMul, Int.reduceMod, Int.reduceTMod, Int.reduceTDiv, Int.reduceEq, Nat.reducePow, Nat.reduceDiv, Nat.reduceShiftRight, Nat.reduceMod, List.reduceReplicate, ↓reduceIte, Nat.reduceEqDiff, Nat.reduceAdd, Nat.reduceSub, Nat.reduceLeDiff, Nat.reduceLT, Nat.reduceMul, f2, f3, f9, f10, f11, H102, H103, hl, hb8]
      rw [q0, q1, q2, q3, q4]
      exact fin _ _ ⟨f2, f3, f9, f10, rfl, H102, by rw [hs]; simp only [Nat.reducePow, Nat.mul_one]; rfl, hl⟩
    | 1, _ =>
      obtain ⟨q0, q1, q2, q3, q4⟩ := rd1 v b[1].toNat hv hc
      simp -implicitDefEqProofs -dsimp +contextual (maxSteps := 5000000) (disch := first | omega | simp only [go_sem] <;> omega | refine ib ?_; kernel_rfl) only [go_sem, Nat.reduceBEq, Int.reduceNeg, Int.reduceLT, Int.reduceLE, Int.reduceAdd, Int.reduceSub, Int.reduceToNat, Int.reduceMul, Int.reduceMod, Int.reduceTMod, Int.reduceTDiv, Int.reduceEq, Nat.reducePow, Nat.reduceDiv, Nat.reduceShiftRight, Nat.reduceMod, List.reduceReplicate, ↓reduceIte, Nat.reduceEqDiff, Nat.reduceAdd, Nat.reduceSub, Nat.reduceLeDiff, Nat.reduceLT, Nat.reduceMul, f2, f3, f9, f10, f11, H102, H103, hl, hb8]
      rw [q0, q1, q2, q3, q4]
      exact fin _ _ ⟨f2, f3, f9, f10, rfl, H102, by rw [hs]; simp only [Nat.reducePow, Nat.mul_one]; rfl, hl⟩
    | 2, _ =>
      obtain ⟨q0, q1, q2, q3, q4⟩ := rd2 v b[2].toNat hv hc
      simp -implicitDefEqProofs -dsimp +contextual (maxSteps := 5000000) (disch := first | omega | simp only [go_sem] <;> omega | refine ib ?_; kernel_rfl) only [go_sem, Nat.reduceBEq, Int.reduceNeg, Int.reduceLT, Int.reduceLE, Int.reduceAdd, Int.reduceSub, Int.reduceToNat, Int.reduceMul, Int.reduceMod, Int.reduceTMod, Int.reduceTDiv, Int.reduceEq, Nat.reducePow, Nat.reduceDiv, Nat.reduceShiftRight, Nat.reduceMod, List.reduceReplicate, ↓reduceIte, Nat.reduceEqDiff, Nat.reduceAdd, Nat.reduceSub, Nat.reduceLeDiff, Nat.reduceLT, Nat.reduceMul, f2, f3, f9, f10, f11, H102, H103, hl, hb8]
      rw [q0, q1, q2, q3, q4]
      exact fin _ _ ⟨f2, f3, f9, f10, rfl, H102, by rw [hs]; simp only [Nat.reducePow, Nat.mul_one]; rfl, hl⟩
    | 3, _ =>
      obtain ⟨q0, q1, q2, q3, q4⟩ := rd3 v b[3].toNat hv hc
      simp -implicitDefEqProofs -dsimp +contextual (maxSteps := 5000000) (disch := first | omega | simp only [go_sem] <;> omega | refine ib ?_; kernel_rfl) only [go_sem, Nat.reduceBEq, Int.reduceNeg, Int.reduceLT, Int.reduceLE, Int.reduceAdd, Int.reduceSub, Int.reduceToNat, Int.reduceMul, Int.reduceMod, Int.reduceTMod, Int.reduceTDiv, Int.reduceEq, Nat.reducePow, Nat.reduceDiv, Nat.reduceShiftRight, Nat.reduceMod, List.reduceReplicate, ↓reduceIte, Nat.reduceEqDiff, Nat.reduceAdd, Nat.reduceSub, Nat.reduceLeDiff, Nat.reduceLT, Nat.reduceMul, f2, f3, f9, f10, f11, H102, H103, hl, hb8]
      rw [q0, q1, q2, q3, q4]
      exact fin _ _ ⟨f2, f3, f9, f10, rfl, H102, by rw [hs]; simp only [Nat.reducePow, Nat.mul_one]; rfl, hl⟩
    | 4, _ =>
      obtain ⟨q0, q1, q2, q3, q4⟩ := rd4 v b[4].toNat hv hc
      simp -implicitDefEqProofs -dsimp +contextual (maxSteps := 5000000) (disch := first | omega | simp only [go_sem] <;> omega | refine ib ?_; kernel_rfl) only [go_sem, Nat.reduceBEq, Int.reduceNeg, Int.reduceLT, Int.reduceLE, Int.reduceAdd, Int.reduceSub, Int.reduceToNat, Int.reduceMul, Int.reduceMod, Int.reduceTMod, Int.reduceTDiv, Int.reduceEq, Nat.reducePow, Nat.reduceDiv, Nat.reduceShiftRight, Nat.reduceMod, List.reduceReplicate, ↓reduceIte, Nat.reduceEqDiff, Nat.reduceAdd, Nat.reduceSub, Nat.reduceLeDiff, Nat.reduceLT, Nat.reduceMul, f2, f3, f9, f10, f11, H102, H103, hl, hb8]
      rw [q0, q1, q2, q3, q4]
      exact fin _ _ ⟨f2, f3, f9, f10, rfl, H102, by rw [hs]; simp only [Nat.reducePow, Nat.mul_one]; rfl, hl⟩
    | 5, _ =>
      obtain ⟨q0, q1, q2, q3, q4⟩ := rd5 v b[5].toNat hv hc
      simp -implicitDefEqProofs -dsimp +contextual (maxSteps := 5000000) (disch := first | omega | simp only [go_sem] <;> omega | refine ib ?_; kernel_rfl) only [go_sem, Nat.reduceBEq, Int.reduceNeg, Int.reduceLT, Int.reduceLE, Int.reduceAdd, Int.reduceSub, Int.reduceToNat, Int.reduceMul, Int.reduceMod, Int.reduceTMod, Int.reduceTDiv, Int.reduceEq, Nat.reducePow, Nat.reduceDiv, Nat.reduceShiftRight, Nat.reduceMod, List.reduceReplicate, ↓reduceIte, Nat.reduceEqDiff, Nat.reduceAdd, Nat.reduceSub, Nat.reduceLeDiff, Nat.reduceLT, Nat.reduceMul, f2, f3, f9, f10, f11, H102, H103, hl, hb8]
      rw [q0, q1, q2, q3, q4]
      exact fin _ _ ⟨f2, f3, f9, f10, rfl, H102, by rw [hs]; simp only [Nat.reducePow, Nat.mul_one]; rfl, hl⟩
    | 6, _ =>
      obtain ⟨q0, q1, q2, q3, q4⟩ := rd6 v b[6].toNat hv hc
      simp -implicitDefEqProofs -dsimp +contextual (maxSteps := 5000000) (disch := first | omega | simp only [go_sem] <;> omega | refine ib ?_; kernel_rfl) only [go_sem, Nat.reduceBEq, Int.reduceNeg, Int.reduceLT, Int.reduceLE, Int.reduceAdd, Int.reduceSub, Int.reduceToNat, Int.reduceMul, Int.reduceMod, Int.reduceTMod, Int.reduceTDiv, Int.reduceEq, Nat.reducePow, Nat.reduceDiv, Nat.reduceShiftRight, Nat.reduceMod, List.reduceReplicate, ↓reduceIte, Nat.reduceEqDiff, Nat.reduceAdd, Nat.reduceSub, Nat.reduceLeDiff, Nat.reduceLT, Nat.reduceMul, f2, f3, f9, f10, f11, H102, H103, hl, hb8]
      rw [q0, q1, q2, q3, q4]
      exact fin _ _ ⟨f2, f3, f9, f10, rfl, H102, by rw [hs]; simp only [Nat.reducePow, Nat.mul_one]; rfl, hl⟩
    | 7, _ =>
      obtain ⟨q0, q1, q2, q3, q4⟩ := rd7 v b[7].toNat hv hc
      simp -implicitDefEqProofs -dsimp +contextual (maxSteps := 5000000) (disch := first | omega | simp only [go_sem] <;> omega | refine ib ?_; kernel_rfl) only [go_sem, Nat.reduceBEq, Int.reduceNeg, Int.reduceLT, Int.reduceLE, Int.reduceAdd, Int.reduceSub, Int.reduceToNat, Int.reduceMul, Int.reduceMod, Int.reduceTMod, Int.reduceTDiv, Int.reduceEq, Nat.reducePow, Nat.reduceDiv, Nat.reduceShiftRight, Nat.reduceMod, List.reduceReplicate, ↓reduceIte, Nat.reduceEqDiff, Nat.reduceAdd, Nat.reduceSub, Nat.reduceLeDiff, Nat.reduceLT, Nat.reduceMul, f2, f3, f9, f10, f11, H102, H103, hl, hb8]
      rw [q0, q1, q2, q3, q4]
      exact fin _ _ ⟨f2, f3, f9, f10, rfl, H102, by rw [hs]; simp only [Nat.reducePow, Nat.mul_one]; rfl, hl⟩
    | 8, _ =>
      obtain ⟨q0, q1, q2, q3, q4⟩ := rd8 v b[8].toNat hv hc
      simp -implicitDefEqProofs -dsimp +contextual (maxSteps := 5000000) (disch := first | omega | simp only [go_sem] <;> omega | refine ib ?_; kernel_rfl) only [go_sem, Nat.reduceBEq, Int.reduceNeg, Int.reduceLT, Int.reduceLE, Int.reduceAdd, Int.reduceSub, Int.reduceToNat, Int.reduceMul, Int.reduceMod, Int.reduceTMod, Int.reduceTDiv, Int.reduceEq, Nat.reducePow, Nat.reduceDiv, Nat.reduceShiftRight, Nat.reduceMod, List.reduceReplicate, ↓reduceIte, Nat.reduceEqDiff, Nat.reduceAdd, Nat.reduceSub, Nat.reduceLeDiff, Nat.reduceLT, Nat.reduceMul, f2, f3, f9, f10, f11, H102, H103, hl, hb8]
      rw [q0, q1, q2, q3, q4]
      exact fin _ _ ⟨f2, f3, f9, f10, rfl, H102, by rw [hs]; simp only [Nat.reducePow, Nat.mul_one]; rfl, hl⟩
    | 9, _ =>
      obtain ⟨q0, q1, q2, q3, q4⟩ := rd9 v b[9].toNat hv hc
      simp -implicitDefEqProofs -dsimp +contextual (maxSteps := 5000000) (disch := first | omega | simp only [go_sem] <;> omega | refine ib ?_; kernel_rfl) only [go_sem, Nat.reduceBEq, Int.reduceNeg, Int.reduceLT, Int.reduceLE, Int.reduceAdd, Int.reduceSub, Int.reduceToNat, Int.reduceMul, Int.reduceMod, Int.reduceTMod, Int.reduceTDiv, Int.reduceEq, Nat.reducePow, Nat.reduceDiv, Nat.reduceShiftRight, Nat.reduceMod, List.reduceReplicate, ↓reduceIte, Nat.reduceEqDiff, Nat.reduceAdd, Nat.reduceSub, Nat.reduceLeDiff, Nat.reduceLT, Nat.reduceMul, f2, f3, f9, f10, f11, H102, H103, hl, hb8]
      rw [q0, q1, q2, q3, q4]
      exact fin _ _ ⟨f2, f3, f9, f10, rfl, H102, by rw [hs]; simp only [Nat.reducePow, Nat.mul_one]; rfl, hl⟩
    | 10, _ =>
      obtain ⟨q0, q1, q2, q3, q4⟩ := rd10 v b[10].toNat hv hc
      simp -implicitDefEqProofs -dsimp +contextual (maxSteps := 5000000) (disch := first | omega | simp only [go_sem] <;> omega | refine ib ?_; kernel_rfl) only [go_sem, Nat.reduceBEq, Int.reduceNeg, Int.reduceLT, Int.reduceLE, Int.reduceAdd, Int.reduceSub, Int.reduceToNat, Int.reduceMul, Int.reduceMod, Int.reduceTMod, Int.reduceTDiv, Int.reduceEq, Nat.reducePow, Nat.reduceDiv, Nat.reduceShiftRight, Nat.reduceMod, List.reduceReplicate, ↓reduceIte, Nat.reduceEqDiff, Nat.reduceAdd, Nat.reduceSub, Nat.reduceLeDiff, Nat.reduceLT, Nat.reduceMul, f2, f3, f9, f10, f11, H102, H103, hl, hb8]
      rw [q0, q1, q2, q3, q4]
      exact fin _ _ ⟨f2, f3, f9, f10, rfl, H102, by rw [hs]; simp only [Nat.reducePow, Nat.mul_one]; rfl, hl⟩
    | 11, _ =>
      obtain ⟨q0, q1, q2, q3, q4⟩ := rd11 v b[11].toNat hv hc
      simp -implicitDefEqProofs -dsimp +contextual (maxSteps := 5000000) (disch := first | omega | simp only [go_sem] <;> omega | refine ib ?_; kernel_rfl) only [go_sem, Nat.reduceBEq, Int.reduceNeg, Int.reduceLT, Int.reduceLE, Int.reduceAdd, Int.reduceSub, Int.reduceToNat, Int.reduceMul, Int.reduceMod, Int.reduceTMod, Int.reduceTDiv, Int.reduceEq, Nat.reducePow, Nat.reduceDiv, Nat.reduceShiftRight, Nat.reduceMod, List.reduceReplicate, ↓reduceIte, Nat.reduceEqDiff, Nat.reduceAdd, Nat.reduceSub, Nat.reduceLeDiff, Nat.reduceLT, Nat.reduceMul, f2, f3, f9, f10, f11, H102, H103, hl, hb8]
      rw [q0, q1, q2, q3, q4]
      exact fin _ _ ⟨f2, f3, f9, f10, rfl, H102, by rw [hs]; simp only [Nat.reducePow, Nat.mul_one]; rfl, hl⟩
    | 12, _ =>
      obtain ⟨q0, q1, q2, q3, q4⟩ := rd12 v b[12].toNat hv hc
      simp -implicitDefEqProofs -dsimp +contextual (maxSteps := 5000000) (disch := first | omega | simp only [go_sem] <;> omega | refine ib ?_; kernel_rfl) only [go_sem, Nat.reduceBEq, Int.reduceNeg, Int.reduceLT, Int.reduceLE, Int.reduceAdd, Int.reduceSub, Int.reduceToNat, Int.reduceMul, Int.reduceMod, Int.reduceTMod, Int.reduceTDiv, Int.reduceEq, Nat.reducePow, Nat.reduceDiv, Nat.reduceShiftRight, Nat.reduceMod, List.reduceReplicate, ↓reduceIte, Nat.reduceEqDiff, Nat.reduceAdd, Nat.reduceSub, Nat.reduceLeDiff, Nat.reduceLT, Nat.reduceMul, f2, f3, f9, f10, f11, H102, H103, hl, hb8]
      rw [q0, q1, q2, q3, q4]
      exact fin _ _ ⟨f2, f3, f9, f10, rfl, H102, by rw [hs]; simp only [Nat.reducePow, Nat.mul_one]; rfl, hl⟩
    | 13, _ =>
      obtain ⟨q0, q1, q2, q3, q4⟩ := rd13 v b[13].toNat hv hc
      simp -implicitDefEqProofs -dsimp +contextual (maxSteps := 5000000) (disch := first | omega | simp only [go_sem] <;> omega | refine ib ?_; kernel_rfl) only [go_sem, Nat.reduceBEq, Int.reduceNeg, Int.reduceLT, Int.reduceLE, Int.reduceAdd, Int.reduceSub, Int.reduceToNat, Int.reduceMul, Int.reduceMod, Int.reduceTMod, Int.reduceTDiv, Int.reduceEq, Nat.reducePow, Nat.reduceDiv, Nat.reduceShiftRight, Nat.reduceMod, List.reduceReplicate, ↓reduceIte, Nat.reduceEqDiff, Nat.reduceAdd, Nat.reduceSub, Nat.reduceLeDiff, Nat.reduceLT, Nat.reduceMul, f2, f3, f9, f10, f11, H102, H103, hl, hb8]
      rw [q0, q1, q2, q3, q4]
      exact fin _ _ ⟨f2, f3, f9, f10, rfl, H102, by rw [hs]; simp only [Nat.reducePow, Nat.mul_one]; rfl, hl⟩
    | 14, _ =>
      obtain ⟨q0, q1, q2, q3, q4⟩ := rd14 v b[14].toNat hv hc
      simp -implicitDefEqProofs -dsimp +contextual (maxSteps := 5000000) (disch := first | omega | simp only [go_sem] <;> omega | refine ib ?_; kernel_rfl) only [go_sem, Nat.reduceBEq, Int.reduceNeg, Int.reduceLT, Int.reduceLE, Int.reduceAdd, Int.reduceSub, Int.reduceToNat, Int.reduceMul, Int.reduceMod, Int.reduceTMod, Int.reduceTDiv, Int.reduceEq, Nat.reducePow, Nat.reduceDiv, Nat.reduceShiftRight, Nat.reduceMod, List.reduceReplicate, ↓reduceIte, Nat.reduceEqDiff, Nat.reduceAdd, Nat.reduceSub, Nat.reduceLeDiff, Nat.reduceLT, Nat.reduceMul, f2, f3, f9, f10, f11, H102, H103, hl, hb8]
      rw [q0, q1, q2, q3, q4]
      exact fin _ _ ⟨f2, f3, f9, f10, rfl, H102, by rw [hs]; simp only [Nat.reducePow, Nat.mul_one]; rfl, hl⟩
    | 15, _ =>
      obtain ⟨q0, q1, q2, q3, q4⟩ := rd15 v b[15].toNat hv hc
      simp -implicitDefEqProofs -dsimp +contextual (maxSteps := 5000000) (disch := first | omega | simp only [go_sem] <;> omega | refine ib ?_; kernel_rfl) only [go_sem, Nat.reduceBEq, Int.reduceNeg, Int.reduceLT, Int.reduceLE, Int.reduceAdd, Int.reduceSub, Int.reduceToNat, Int.reduceMul, Int.reduceMod, Int.reduceTMod, Int.reduceTDiv, Int.reduceEq, Nat.reducePow, Nat.reduceDiv, Nat.reduceShiftRight, Nat.reduceMod, List.reduceReplicate, ↓reduceIte, Nat.reduceEqDiff, Nat.reduceAdd, Nat.reduceSub, Nat.reduceLeDiff, Nat.reduceLT, Nat.reduceMul, f2, f3, f9, f10, f11, H102, H103, hl, hb8]
      rw [q0, q1, q2, q3, q4]
      exact fin _ _ ⟨f2, f3, f9, f10, rfl, H102, by rw [hs]; simp only [Nat.reducePow, Nat.mul_one]; rfl, hl⟩
    | 16, _ =>
      obtain ⟨q0, q1, q2, q3, q4⟩ := rd16 v b[16].toNat hv hc
      simp -implicitDefEqProofs -dsimp +contextual (maxSteps := 5000000) (disch := first | omega | simp only [go_sem] <;> omega | refine ib ?_; kernel_rfl) only [go_sem, Nat.reduceBEq, Int.reduceNeg, Int.reduceLT, Int.reduceLE, Int.reduceAdd, Int.reduceSub, Int.reduceToNat, Int.reduceMul, Int.reduceMod, Int.reduceTMod, Int.reduceTDiv, Int.reduceEq, Nat.reducePow, Nat.reduceDiv, Nat.reduceShiftRight, Nat.reduceMod, List.reduceReplicate, ↓reduceIte, Nat.reduceEqDiff, Nat.reduceAdd, Nat.reduceSub, Nat.reduceLeDiff, Nat.reduceLT, Nat.reduceMul, f2, f3, f9, f10, f11, H102, H103, hl, hb8]
      rw [q0, q1, q2, q3, q4]
      exact fin _ _ ⟨f2, f3, f9, f10, rfl, H102, by rw [hs]; simp only [Nat.reducePow, Nat.mul_one]; rfl, hl⟩
    | n + 17, h => exact absurd h (by omega)
  · obtain rfl : i = b.length := by omega
    rw [List.take_length] at H103
    simp -implicitDefEqProofs -dsimp +contextual (maxSteps := 5000000) (disch := first | omega | simp only [go_sem] <;> omega | refine ib ?_; kernel_rfl) only [go_sem, Nat.reduceBEq, Int.reduceNeg, Int.reduceLT, Int.reduceLE, Int.reduceAdd, Int.reduceSub, Int.reduceToNat, Int.reduceMul, Int.reduceMod, Int.reduceTMod, Int.reduceTDiv, Int.reduceEq, Nat.reducePow, Nat.reduceDiv, Nat.reduceShiftRight, Nat.reduceMod, List.reduceReplicate, ↓reduceIte, Nat.reduceEqDiff, Nat.reduceAdd, Nat.reduceSub, Nat.reduceLeDiff, Nat.reduceLT, Nat.reduceMul, f2, f3, f9, f10, f11, H102, H103, hl]

end Go.Proofs.YtccfjidpdlfenaaGreatDoor
namespace Go.Proofs.YtccfjidpdlfenaaGreatDoor
open Go.Am
set_option linter.unusedSimpArgs false
set_option linter.unusedVariables false
set_option maxRecDepth 100000
/-! Layer 7: clamped, written, summed. -/
def clampAt (i : Nat) (x : UInt8) : UInt8 := if i % 4 = 3 then x &&& 15 else if i % 4 = 0 ∧ 0 < i then x &&& 252 else x
def clampB (r : List UInt8) : List UInt8 := (r.take 16).mapIdx clampAt
theorem clampB_len (r : List UInt8) (h : 16 ≤ r.length) : (clampB r).length = 16 := by simp [clampB]; omega
/-- A row whose first so many are turned. -/
def mixTo (A B : List UInt8) (m : Nat) : List UInt8 := A.take m ++ B.drop m
theorem mixTo_len (A B : List UInt8) (m : Nat) (h : A.length = B.length) (hm : m ≤ A.length) : (mixTo A B m).length = A.length := by simp [mixTo]; omega
theorem mixTo_zero (A B : List UInt8) : mixTo A B 0 = B := by simp [mixTo]
theorem mixTo_all (A B : List UInt8) (m : Nat) (h : A.length = B.length) (hm : A.length ≤ m) : mixTo A B m = A := by simp [mixTo, List.take_of_length_le hm, List.drop_of_length_le (show B.length ≤ m by omega)]
theorem mixTo_get (A B : List UInt8) (m : Nat) (h : A.length = B.length) (hm : m < A.length) (h2 : m < (mixTo A B m).length) : (mixTo A B m)[m] = B[m] := by
  simp [mixTo, List.getElem_append, show min m A.length = m by omega]
theorem mixTo_set (A B : List UInt8) (m : Nat) (h : A.length = B.length) (hm : m < A.length) : (mixTo A B m).set m A[m] = mixTo A B (m + 1) := by
  unfold mixTo
  rw [List.set_append_right _ _ (by simp; omega), List.length_take, Nat.min_eq_left (by omega), Nat.sub_self, List.drop_eq_getElem_cons (by omega : m < B.length), List.set_cons_zero, List.take_succ_eq_append_getElem hm, List.append_assoc]
  rfl
theorem mixTo_skip (A B : List UInt8) (m : Nat) (h : A.length = B.length) (hm : m < A.length) (e : A[m] = B[m]) : mixTo A B m = mixTo A B (m + 1) := by
  unfold mixTo
  rw [List.drop_eq_getElem_cons (by omega : m < B.length), List.take_succ_eq_append_getElem hm, List.append_assoc, e]
  rfl

set_option maxHeartbeats 4000000 in
@[go_sem] theorem e99 (r : List UInt8) (h : 16 ≤ r.length) : fn C 99 [] [.slice 1 (r.map byteRow)] = some (.slice 1 ((clampB r).map byteRow), []) := by
  rw [fn_text Tryz.func99 rfl rfl Tryz.results99 fq99.1 rfl rfl (by kernel_rfl)]
  have h' : ¬ r.length < 16 := by omega
  simp -implicitDefEqProofs -dsimp +contextual (maxSteps := 5000000) (disch := first | omega | simp only [go_sem] <;> omega | refine ib ?_; kernel_rfl) only [go_sem, Nat.reduceBEq, Int.reduceNeg, Int.reduceLT, Int.reduceLE, Int.reduceAdd, Int.reduceSub, Int.reduceToNat, Int.reduceMul, Int.reduceMod, Int.reduceTMod, Int.reduceTDiv, Int.reduceEq, Nat.reducePow, Nat.reduceDiv, Nat.reduceShiftRight, Nat.reduceMod, List.reduceReplicate, ↓reduceIte, Nat.reduceEqDiff, Nat.reduceAdd, Nat.reduceSub, Nat.reduceLeDiff, Nat.reduceLT, Nat.reduceMul, h']
  have hlen := clampB_len r h
  have hget : ∀ (i : Nat) (h1 : i < (clampB r).length) (h2 : i < (r.take 16).length), (clampB r)[i] = clampAt i (r.take 16)[i] := fun i h1 h2 => by simp [clampB]
  have hB : (r.take 16).length = 16 := by simp; omega
  generalize clampB r = A at *
  generalize r.take 16 = B at *
  have z1 := mixTo_zero A B
  refine kLoop_rec (fun (i : Nat) f H => f 3 = .osl 108 2 0 16 ∧ f 13 = .int .i64 16 ∧ f 14 = .int .i64 (i : Int) ∧ H 108 = ⟨2, .live, 1, (mixTo A B i).map byteRow, false⟩ ∧ i ≤ 16) (fun i => 16 - i) (fun _ => some (.slice 1 (A.map byteRow), [])) ?_ 0 _ _ ?_
  rotate_left
  · refine ⟨rfl, rfl, rfl, ?_, by omega⟩
    rw [z1]; rfl
  rintro i f H ⟨f3, f13, f14, H108, hi⟩ ih
  by_cases hl : i < 16
  · have hm := mixTo_len A B i (by omega) (by omega)
    rw [hlen] at hm
    have hmg := mixTo_get A B i (by omega) (by omega) (by omega)
    have hA := hget i (by omega) (by omega)
    by_cases h3 : i % 4 = 3
    · have e : B[i] &&& UInt8.ofNat 15 = A[i] := by rw [hA, clampAt, if_pos h3]; rfl
      simp -implicitDefEqProofs -dsimp +contextual (maxSteps := 5000000) (disch := first | omega | simp only [go_sem] <;> omega | refine ib ?_; kernel_rfl) only [go_sem, Nat.reduceBEq, Int.reduceNeg, Int.reduceLT, Int.reduceLE, Int.reduceAdd, Int.reduceSub, Int.reduceToNat, Int.reduceMul, Int.reduceMod, Int.reduceTMod, Int.reduceTDiv, Int.reduceEq, Nat.reducePow, Nat.reduceDiv, Nat.reduceShiftRight, Nat.reduceMod, List.reduceReplicate, ↓reduceIte, Nat.reduceEqDiff, Nat.reduceAdd, Nat.reduceSub, Nat.reduceLeDiff, Nat.reduceLT, Nat.reduceMul, f3, f13, f14, H108, hl, h3, hm, hmg, e]
      rw [mixTo_set _ _ _ (by omega) (by omega)]
      exact ih (i + 1) _ _ ⟨f3, f13, rfl, rfl, by omega⟩ (by omega)
    · by_cases h0 : i % 4 = 0
      · by_cases hp : 0 < i
        · have e : B[i] &&& UInt8.ofNat 252 = A[i] := by rw [hA, clampAt, if_neg h3, if_pos ⟨h0, hp⟩]; rfl
          simp -implicitDefEqProofs -dsimp +contextual (maxSteps := 5000000) (disch := first | omega | simp only [go_sem] <;> omega | refine ib ?_; kernel_rfl) only [go_sem, Nat.reduceBEq, Int.reduceNeg, Int.reduceLT, Int.reduceLE, Int.reduceAdd, Int.reduceSub, Int.reduceToNat, Int.reduceMul, Int.reduceMod, Int.reduceTMod, Int.reduceTDiv, Int.reduceEq, Nat.reducePow, Nat.reduceDiv, Nat.reduceShiftRight, Nat.reduceMod, List.reduceReplicate, ↓reduceIte, Nat.reduceEqDiff, Nat.reduceAdd, Nat.reduceSub, Nat.reduceLeDiff, Nat.reduceLT, Nat.reduceMul, f3, f13, f14, H108, hl, h3, h0, hp, hm, hmg, e]
          rw [mixTo_set _ _ _ (by omega) (by omega)]
          exact ih (i + 1) _ _ ⟨f3, f13, rfl, rfl, by omega⟩ (by omega)
        · have e : A[i] = B[i] := by rw [hA, clampAt, if_neg h3, if_neg (by omega)]
          rw [mixTo_skip _ _ _ (by omega) (by omega) e] at H108
          simp -implicitDefEqProofs -dsimp +contextual (maxSteps := 5000000) (disch := first | omega | simp only [go_sem] <;> omega | refine ib ?_; kernel_rfl) only [go_sem, Nat.reduceBEq, Int.reduceNeg, Int.reduceLT, Int.reduceLE, Int.reduceAdd, Int.reduceSub, Int.reduceToNat, Int.reduceMul, Int.reduceMod, Int.reduceTMod, Int.reduceTDiv, Int.reduceEq, Nat.reducePow, Nat.reduceDiv, Nat.reduceShiftRight, Nat.reduceMod, List.reduceReplicate, ↓reduceIte, Nat.reduceEqDiff, Nat.reduceAdd, Nat.reduceSub, Nat.reduceLeDiff, Nat.reduceLT, Nat.reduceMul, f3, f13, f14, hl, h3, h0, hp]
          exact ih (i + 1) _ _ ⟨f3, f13, rfl, H108, by omega⟩ (by omega)
      · have e : A[i] = B[i] := by rw [hA, clampAt, if_neg h3, if_neg (by omega)]
        rw [mixTo_skip _ _ _ (by omega) (by omega) e] at H108
        simp -implicitDefEqProofs -dsimp +contextual (maxSteps := 5000000) (disch := first | omega | simp only [go_sem] <;> omega | refine ib ?_; kernel_rfl) only [go_sem, Nat.reduceBEq, Int.reduceNeg, Int.reduceLT, Int.reduceLE, Int.reduceAdd, Int.reduceSub, Int.reduceToNat, Int.reduceMul, Int.reduceMod, Int.reduceTMod, Int.reduceTDiv, Int.reduceEq, Nat.reducePow, Nat.reduceDiv, Nat.reduceShiftRight, Nat.reduceMod, List.reduceReplicate, ↓reduceIte, Nat.reduceEqDiff, Nat.reduceAdd, Nat.reduceSub, Nat.reduceLeDiff, Nat.reduceLT, Nat.reduceMul, f3, f13, f14, hl, h3, h0]
        exact ih (i + 1) _ _ ⟨f3, f13, rfl, H108, by omega⟩ (by omega)
  · obtain rfl : i = 16 := by omega
    rw [mixTo_all _ _ _ (by omega) (by omega)] at H108
    simp -implicitDefEqProofs -dsimp +contextual (maxSteps := 5000000) (disch := first | omega | simp only [go_sem] <;> omega | refine ib ?_; kernel_rfl) only [go_sem, Nat.reduceBEq, Int.reduceNeg, Int.reduceLT, Int.reduceLE, Int.reduceAdd, Int.reduceSub, Int.reduceToNat, Int.reduceMul, Int.reduceMod, Int.reduceTMod, Int.reduceTDiv, Int.reduceEq, Nat.reducePow, Nat.reduceDiv, Nat.reduceShiftRight, Nat.reduceMod, List.reduceReplicate, ↓reduceIte, Nat.reduceEqDiff, Nat.reduceAdd, Nat.reduceSub, Nat.reduceLeDiff, Nat.reduceLT, Nat.reduceMul, f3, f13, f14, H108, hl, hlen]

def leastN (n : Nm) : Nm :=
  let m := carryN (carryN n)
  let q := carry5N m
  if q.e / 67108864 = 0 then m else ⟨q.a, q.b, q.c, q.d, q.e % 67108864⟩
theorem carry5N_le (n : Nm) (h : n.le 1152921504606846976) : (carry5N n).a < 67108864 ∧ (carry5N n).b < 67108864 ∧ (carry5N n).c < 67108864 ∧ (carry5N n).d < 67108864 ∧ (carry5N n).e ≤ 2000000000000000000 := by
  obtain ⟨h1, h2, h3, h4, h5⟩ := h
  simp only [carry5N]; omega

set_option maxHeartbeats 4000000 in
@[go_sem] theorem e105 (a b c d e : Nat) (h1 : a ≤ 1152921504606846976) (h2 : b ≤ 1152921504606846976) (h3 : c ≤ 1152921504606846976) (h4 : d ≤ 1152921504606846976) (h5 : e ≤ 1152921504606846976) : fn C 105 [] [.agg [.int .u64 (a : Int), .int .u64 (b : Int), .int .u64 (c : Int), .int .u64 (d : Int), .int .u64 (e : Int)]] = some (.agg (leastN ⟨a, b, c, d, e⟩).cs, []) := by
  rw [fn_text Tryz.func105 rfl rfl Tryz.results105 fq105.1 rfl rfl (by kernel_rfl)]
  obtain ⟨k1, k2, k3, k4, k5⟩ := carryN_le ⟨a, b, c, d, e⟩ ⟨h1, h2, h3, h4, h5⟩
  obtain ⟨j1, j2, j3, j4, j5⟩ := carryN_le (carryN ⟨a, b, c, d, e⟩) ⟨by omega, by omega, by omega, by omega, by omega⟩
  obtain ⟨i1, i2, i3, i4, i5⟩ := carry5N_le (carryN (carryN ⟨a, b, c, d, e⟩)) ⟨by omega, by omega, by omega, by omega, by omega⟩
  by_cases hq : (carry5N (carryN (carryN ⟨a, b, c, d, e⟩))).e / 67108864 = 0
  · simp -implicitDefEqProofs -dsimp +contextual (maxSteps := 5000000) (disch := first | omega | simp only [go_sem] <;> omega | refine ib ?_; kernel_rfl) only [go_sem, Nat.reduceBEq, Int.reduceNeg, Int.reduceLT, Int.reduceLE, Int.reduceAdd, Int.reduceSub, Int.reduceToNat, Int.reduceMul, Int.reduceMod, Int.reduceTMod, Int.reduceTDiv, Int.reduceEq, Nat.reducePow, Nat.reduceDiv, Nat.reduceShiftRight, Nat.reduceMod, List.reduceReplicate, ↓reduceIte, Nat.reduceEqDiff, Nat.reduceAdd, Nat.reduceSub, Nat.reduceLeDiff, Nat.reduceLT, Nat.reduceMul, hq]
    simp only [leastN, hq, if_true]
  · simp -implicitDefEqProofs -dsimp +contextual (maxSteps := 5000000) (disch := first | omega | simp only [go_sem] <;> omega | refine ib ?_; kernel_rfl) only [go_sem, Nat.reduceBEq, Int.reduceNeg, Int.reduceLT, Int.reduceLE, Int.reduceAdd, Int.reduceSub, Int.reduceToNat, Int.reduceMul, Int.reduceMod, Int.reduceTMod, Int.reduceTDiv, Int.reduceEq, Nat.reducePow, Nat.reduceDiv, Nat.reduceShiftRight, Nat.reduceMod, List.reduceReplicate, ↓reduceIte, Nat.reduceEqDiff, Nat.reduceAdd, Nat.reduceSub, Nat.reduceLeDiff, Nat.reduceLT, Nat.reduceMul, hq]
    simp only [leastN, hq, if_false]

def sumV (a b : List UInt8) : Nat → Nat
  | 0 => 0
  | i + 1 => (sumV a b i + ((a.getD i 0).toNat + (b.getD i 0).toNat)) / 256
def sumP (a b : List UInt8) : List UInt8 := (List.range 16).map fun i => UInt8.ofNat (sumV a b i + ((a.getD i 0).toNat + (b.getD i 0).toNat))
theorem sumV_le (a b : List UInt8) : ∀ i, sumV a b i ≤ 1
  | 0 => by simp [sumV]
  | i + 1 => by
    have := sumV_le a b i
    have h1 := u8_lt (a.getD i 0)
    have h2 := u8_lt (b.getD i 0)
    simp only [sumV]; omega
theorem shr8_i64 (P : Program) (t : TypeId) (k : IntKind) (n : Nat) : binV P .shr t (.int .i64 (n : Int)) (.int k 8) = some (.int .i64 ((n / 256 : Nat) : Int)) := shr_nat P t .i64 k n 8 (by decide)

set_option maxHeartbeats 4000000 in
@[go_sem] theorem e103 (a b : List UInt8) (ha : a.length = 16) (hb : b.length = 16) : fn C 103 [] [.slice 1 (a.map byteRow), .slice 1 (b.map byteRow)] = some (.usl 1 ((sumP a b).map byteRow), []) := by
  rw [fn_text Tryz.func103 rfl rfl Tryz.results103 fq103.1 rfl rfl (by kernel_rfl)]
  simp -implicitDefEqProofs -dsimp +contextual (maxSteps := 5000000) (disch := first | omega | simp only [go_sem] <;> omega | refine ib ?_; kernel_rfl) only [go_sem, Nat.reduceBEq, Int.reduceNeg, Int.reduceLT, Int.reduceLE, Int.reduceAdd, Int.reduceSub, Int.reduceToNat, Int.reduceMul, Int.reduceMod, Int.reduceTMod, Int.reduceTDiv, Int.reduceEq, Nat.reducePow, Nat.reduceDiv, Nat.reduceShiftRight, Nat.reduceMod, List.reduceReplicate, ↓reduceIte, Nat.reduceEqDiff, Nat.reduceAdd, Nat.reduceSub, Nat.reduceLeDiff, Nat.reduceLT, Nat.reduceMul]
  have hlen : (sumP a b).length = 16 := by simp [sumP]
  have hget : ∀ (i : Nat) (h1 : i < (sumP a b).length), (sumP a b)[i] = UInt8.ofNat (sumV a b i + ((a.getD i 0).toNat + (b.getD i 0).toNat)) := fun i h1 => by simp [sumP]
  generalize sumP a b = A at *
  have z1 := fillTo_zero A
  rw [hlen] at z1
  refine kLoop_rec (fun (i : Nat) f H => f 0 = .slice 1 (a.map byteRow) ∧ f 1 = .slice 1 (b.map byteRow) ∧ f 5 = .osl 108 1 0 16 ∧ f 6 = .int .i64 (sumV a b i : Int) ∧ f 10 = .int .i64 16 ∧ f 11 = .int .i64 (i : Int) ∧ H 108 = ⟨1, .live, 1, (fillTo A i).map byteRow, true⟩ ∧ i ≤ 16) (fun i => 16 - i) (fun _ => some (.usl 1 (A.map byteRow), [])) ?_ 0 _ _ ?_
  rotate_left
  · refine ⟨rfl, rfl, rfl, rfl, rfl, rfl, ?_, by omega⟩
    rw [z1]; rfl
  rintro i f H ⟨f0, f1, f5, f6, f10, f11, H108, hi⟩ ih
  by_cases hl : i < 16
  · have hf := fillTo_len A i (by omega)
    rw [hlen] at hf
    have hA := hget i (by omega)
    have hv := sumV_le a b i
    have u1 := u8_lt (a[i]'(by omega))
    have u2 := u8_lt (b[i]'(by omega))
    have ea : a.getD i 0 = a[i]'(by omega) := by rw [List.getD_eq_getElem?_getD, List.getElem?_eq_getElem (by omega)]; rfl
    have eb : b.getD i 0 = b[i]'(by omega) := by rw [List.getD_eq_getElem?_getD, List.getElem?_eq_getElem (by omega)]; rfl
    rw [ea, eb] at hA
    have hs : sumV a b (i + 1) = (sumV a b i + ((a[i]'(by omega)).toNat + (b[i]'(by omega)).toNat)) / 256 := by rw [sumV, ea, eb]
    simp -implicitDefEqProofs -dsimp +contextual (maxSteps := 5000000) (disch := first | omega | simp only [go_sem] <;> omega | refine ib ?_; kernel_rfl) only [go_sem, Nat.reduceBEq, Int.reduceNeg, Int.reduceLT, Int.reduceLE, Int.reduceAdd, Int.reduceSub, Int.reduceToNat, Int.reduceMul, Int.reduceMod, Int.reduceTMod, Int.reduceTDiv, Int.reduceEq, Nat.reducePow, Nat.reduceDiv, Nat.reduceShiftRight, Nat.reduceMod, List.reduceReplicate, ↓reduceIte, Nat.reduceEqDiff, Nat.reduceAdd, Nat.reduceSub, Nat.reduceLeDiff, Nat.reduceLT, Nat.reduceMul, f0, f1, f5, f6, f10, f11, H108, hl, hf, ha, hb, u8_wrap, shr8_i64]
    rw [← hA, ← hs, fillTo_set _ _ (by omega)]
    exact ih (i + 1) _ _ ⟨f0, f1, f5, rfl, f10, rfl, rfl, by omega⟩ (by omega)
  · obtain rfl : i = 16 := by omega
    rw [fillTo_all _ _ (by omega)] at H108
    simp -implicitDefEqProofs -dsimp +contextual (maxSteps := 5000000) (disch := first | omega | simp only [go_sem] <;> omega | refine ib ?_; kernel_rfl) only [go_sem, Nat.reduceBEq, Int.reduceNeg, Int.reduceLT, Int.reduceLE, Int.reduceAdd, Int.reduceSub, Int.reduceToNat, Int.reduceMul, Int.reduceMod, Int.reduceTMod, Int.reduceTDiv, Int.reduceEq, Nat.reducePow, Nat.reduceDiv, Nat.reduceShiftRight, Nat.reduceMod, List.reduceReplicate, ↓reduceIte, Nat.reduceEqDiff, Nat.reduceAdd, Nat.reduceSub, Nat.reduceLeDiff, Nat.reduceLT, Nat.reduceMul, f0, f1, f5, f6, f10, f11, H108, hl, hlen]

end Go.Proofs.YtccfjidpdlfenaaGreatDoor
namespace Go.Proofs.YtccfjidpdlfenaaGreatDoor
open Go.Am
set_option linter.unusedSimpArgs false
set_option linter.unusedVariables false
set_option maxRecDepth 100000
/-! Layer 7: tags. -/
def writeB (n : Nm) : List UInt8 := (List.range 16).map fun i => UInt8.ofNat (n.val / 256 ^ i)
theorem ofNat8 (x y : Nat) (h : x % 256 = y % 256) : UInt8.ofNat x = UInt8.ofNat y := UInt8.toNat_inj.1 (by simpa using h)
theorem wr0 (a b c d e : Nat) (h1 : a < 67108864) (h2 : b < 67108864) (h3 : c < 67108864) (h4 : d < 67108864) (h5 : e < 67108864) : UInt8.ofNat (a / 1 ||| b * 67108864) = UInt8.ofNat ((a + b * 67108864 + c * 4503599627370496 + d * 302231454903657293676544 + e * 20282409603651670423947251286016)) := ofNat8 _ _ (by rw [or_low _ _ 26 (by omega) (by omega)]; omega)
theorem wr1 (a b c d e : Nat) (h1 : a < 67108864) (h2 : b < 67108864) (h3 : c < 67108864) (h4 : d < 67108864) (h5 : e < 67108864) : UInt8.ofNat (a / 256 ||| b * 262144) = UInt8.ofNat ((a + b * 67108864 + c * 4503599627370496 + d * 302231454903657293676544 + e * 20282409603651670423947251286016) / 256) := ofNat8 _ _ (by rw [or_low _ _ 18 (by omega) (by omega)]; omega)
theorem wr2 (a b c d e : Nat) (h1 : a < 67108864) (h2 : b < 67108864) (h3 : c < 67108864) (h4 : d < 67108864) (h5 : e < 67108864) : UInt8.ofNat (a / 65536 ||| b * 1024) = UInt8.ofNat ((a + b * 67108864 + c * 4503599627370496 + d * 302231454903657293676544 + e * 20282409603651670423947251286016) / 65536) := ofNat8 _ _ (by rw [or_low _ _ 10 (by omega) (by omega)]; omega)
theorem wr3 (a b c d e : Nat) (h1 : a < 67108864) (h2 : b < 67108864) (h3 : c < 67108864) (h4 : d < 67108864) (h5 : e < 67108864) : UInt8.ofNat (a / 16777216 ||| b * 4) = UInt8.ofNat ((a + b * 67108864 + c * 4503599627370496 + d * 302231454903657293676544 + e * 20282409603651670423947251286016) / 16777216) := ofNat8 _ _ (by rw [or_low _ _ 2 (by omega) (by omega)]; omega)
theorem wr4 (a b c d e : Nat) (h1 : a < 67108864) (h2 : b < 67108864) (h3 : c < 67108864) (h4 : d < 67108864) (h5 : e < 67108864) : UInt8.ofNat (b / 64 ||| c * 1048576) = UInt8.ofNat ((a + b * 67108864 + c * 4503599627370496 + d * 302231454903657293676544 + e * 20282409603651670423947251286016) / 4294967296) := ofNat8 _ _ (by rw [or_low _ _ 20 (by omega) (by omega)]; omega)
theorem wr5 (a b c d e : Nat) (h1 : a < 67108864) (h2 : b < 67108864) (h3 : c < 67108864) (h4 : d < 67108864) (h5 : e < 67108864) : UInt8.ofNat (b / 16384 ||| c * 4096) = UInt8.ofNat ((a + b * 67108864 + c * 4503599627370496 + d * 302231454903657293676544 + e * 20282409603651670423947251286016) / 1099511627776) := ofNat8 _ _ (by rw [or_low _ _ 12 (by omega) (by omega)]; omega)
theorem wr6 (a b c d e : Nat) (h1 : a < 67108864) (h2 : b < 67108864) (h3 : c < 67108864) (h4 : d < 67108864) (h5 : e < 67108864) : UInt8.ofNat (b / 4194304 ||| c * 16) = UInt8.ofNat ((a + b * 67108864 + c * 4503599627370496 + d * 302231454903657293676544 + e * 20282409603651670423947251286016) / 281474976710656) := ofNat8 _ _ (by rw [or_low _ _ 4 (by omega) (by omega)]; omega)
theorem wr7 (a b c d e : Nat) (h1 : a < 67108864) (h2 : b < 67108864) (h3 : c < 67108864) (h4 : d < 67108864) (h5 : e < 67108864) : UInt8.ofNat (c / 16 ||| d * 4194304) = UInt8.ofNat ((a + b * 67108864 + c * 4503599627370496 + d * 302231454903657293676544 + e * 20282409603651670423947251286016) / 72057594037927936) := ofNat8 _ _ (by rw [or_low _ _ 22 (by omega) (by omega)]; omega)
theorem wr8 (a b c d e : Nat) (h1 : a < 67108864) (h2 : b < 67108864) (h3 : c < 67108864) (h4 : d < 67108864) (h5 : e < 67108864) : UInt8.ofNat (c / 4096 ||| d * 16384) = UInt8.ofNat ((a + b * 67108864 + c * 4503599627370496 + d * 302231454903657293676544 + e * 20282409603651670423947251286016) / 18446744073709551616) := ofNat8 _ _ (by rw [or_low _ _ 14 (by omega) (by omega)]; omega)
theorem wr9 (a b c d e : Nat) (h1 : a < 67108864) (h2 : b < 67108864) (h3 : c < 67108864) (h4 : d < 67108864) (h5 : e < 67108864) : UInt8.ofNat (c / 1048576 ||| d * 64) = UInt8.ofNat ((a + b * 67108864 + c * 4503599627370496 + d * 302231454903657293676544 + e * 20282409603651670423947251286016) / 4722366482869645213696) := ofNat8 _ _ (by rw [or_low _ _ 6 (by omega) (by omega)]; omega)
theorem wr10 (a b c d e : Nat) (h1 : a < 67108864) (h2 : b < 67108864) (h3 : c < 67108864) (h4 : d < 67108864) (h5 : e < 67108864) : UInt8.ofNat (d / 4 ||| e * 16777216) = UInt8.ofNat ((a + b * 67108864 + c * 4503599627370496 + d * 302231454903657293676544 + e * 20282409603651670423947251286016) / 1208925819614629174706176) := ofNat8 _ _ (by rw [or_low _ _ 24 (by omega) (by omega)]; omega)
theorem wr11 (a b c d e : Nat) (h1 : a < 67108864) (h2 : b < 67108864) (h3 : c < 67108864) (h4 : d < 67108864) (h5 : e < 67108864) : UInt8.ofNat (d / 1024 ||| e * 65536) = UInt8.ofNat ((a + b * 67108864 + c * 4503599627370496 + d * 302231454903657293676544 + e * 20282409603651670423947251286016) / 309485009821345068724781056) := ofNat8 _ _ (by rw [or_low _ _ 16 (by omega) (by omega)]; omega)
theorem wr12 (a b c d e : Nat) (h1 : a < 67108864) (h2 : b < 67108864) (h3 : c < 67108864) (h4 : d < 67108864) (h5 : e < 67108864) : UInt8.ofNat (d / 262144 ||| e * 256) = UInt8.ofNat ((a + b * 67108864 + c * 4503599627370496 + d * 302231454903657293676544 + e * 20282409603651670423947251286016) / 79228162514264337593543950336) := ofNat8 _ _ (by rw [or_low _ _ 8 (by omega) (by omega)]; omega)
theorem wr13 (a b c d e : Nat) (h1 : a < 67108864) (h2 : b < 67108864) (h3 : c < 67108864) (h4 : d < 67108864) (h5 : e < 67108864) : UInt8.ofNat (e / 1) = UInt8.ofNat ((a + b * 67108864 + c * 4503599627370496 + d * 302231454903657293676544 + e * 20282409603651670423947251286016) / 20282409603651670423947251286016) := ofNat8 _ _ (by omega)
theorem wr14 (a b c d e : Nat) (h1 : a < 67108864) (h2 : b < 67108864) (h3 : c < 67108864) (h4 : d < 67108864) (h5 : e < 67108864) : UInt8.ofNat (e / 256) = UInt8.ofNat ((a + b * 67108864 + c * 4503599627370496 + d * 302231454903657293676544 + e * 20282409603651670423947251286016) / 5192296858534827628530496329220096) := ofNat8 _ _ (by omega)
theorem wr15 (a b c d e : Nat) (h1 : a < 67108864) (h2 : b < 67108864) (h3 : c < 67108864) (h4 : d < 67108864) (h5 : e < 67108864) : UInt8.ofNat (e / 65536) = UInt8.ofNat ((a + b * 67108864 + c * 4503599627370496 + d * 302231454903657293676544 + e * 20282409603651670423947251286016) / 1329227995784915872903807060280344576) := ofNat8 _ _ (by omega)

set_option maxHeartbeats 8000000 in
@[go_sem] theorem e104 (a b c d e : Nat) (h1 : a < 67108864) (h2 : b < 67108864) (h3 : c < 67108864) (h4 : d < 67108864) (h5 : e < 67108864) : fn C 104 [] [.agg [.int .u64 (a : Int), .int .u64 (b : Int), .int .u64 (c : Int), .int .u64 (d : Int), .int .u64 (e : Int)]] = some (.slice 1 ((writeB ⟨a, b, c, d, e⟩).map byteRow), []) := by
  rw [fn_text Tryz.func104 rfl rfl Tryz.results104 fq104.1 rfl rfl (by kernel_rfl)]
  simp -implicitDefEqProofs -dsimp +contextual (maxSteps := 5000000) (disch := first | omega | simp only [go_sem] <;> omega | refine ib ?_; kernel_rfl) only [go_sem, Nat.reduceBEq, Int.reduceNeg, Int.reduceLT, Int.reduceLE, Int.reduceAdd, Int.reduceSub, Int.reduceToNat, Int.reduceMul, Int.reduceMod, Int.reduceTMod, Int.reduceTDiv, Int.reduceEq, Nat.reducePow, Nat.reduceDiv, Nat.reduceShiftRight, Nat.reduceMod, List.reduceReplicate, ↓reduceIte, Nat.reduceEqDiff, Nat.reduceAdd, Nat.reduceSub, Nat.reduceLeDiff, Nat.reduceLT, Nat.reduceMul, kLoop_eq, u8_wrap]
  rw [wr0 a b c d e h1 h2 h3 h4 h5, wr1 a b c d e h1 h2 h3 h4 h5, wr2 a b c d e h1 h2 h3 h4 h5, wr3 a b c d e h1 h2 h3 h4 h5, wr4 a b c d e h1 h2 h3 h4 h5, wr5 a b c d e h1 h2 h3 h4 h5, wr6 a b c d e h1 h2 h3 h4 h5, wr7 a b c d e h1 h2 h3 h4 h5, wr8 a b c d e h1 h2 h3 h4 h5, wr9 a b c d e h1 h2 h3 h4 h5, wr10 a b c d e h1 h2 h3 h4 h5, wr11 a b c d e h1 h2 h3 h4 h5, wr12 a b c d e h1 h2 h3 h4 h5, wr13 a b c d e h1 h2 h3 h4 h5, wr14 a b c d e h1 h2 h3 h4 h5, wr15 a b c d e h1 h2 h3 h4 h5]
  simp only [writeB, Nm.val, show List.range 16 = [0, 1, 2, 3, 4, 5, 6, 7, 8, 9, 10, 11, 12, 13, 14, 15] from rfl, List.map_cons, List.map_nil, Nat.reducePow, Nat.div_one, byteRow]

theorem carryN_lt (n : Nm) (h : n.a < 67108864 ∧ n.b < 67110864 ∧ n.c < 67108864 ∧ n.d < 67108864 ∧ n.e < 67108864) : (carryN n).a < 67108864 ∧ (carryN n).b < 67108864 ∧ (carryN n).c < 67108864 ∧ (carryN n).d < 67108864 ∧ (carryN n).e < 67108864 := by
  obtain ⟨h1, h2, h3, h4, h5⟩ := h
  simp only [carryN]; omega
theorem leastN_lt (n : Nm) (h : n.le 1152921504606846976) : (leastN n).a < 67108864 ∧ (leastN n).b < 67108864 ∧ (leastN n).c < 67108864 ∧ (leastN n).d < 67108864 ∧ (leastN n).e < 67108864 := by
  have h1 := carryN_lt _ (carryN_le n h)
  simp only [leastN]
  obtain ⟨i1, i2, i3, i4, i5⟩ := carry5N_le (carryN (carryN n)) ⟨by omega, by omega, by omega, by omega, by omega⟩
  split
  · exact h1
  · simp only; omega
theorem readN_lt (v : Nat) : (readN v).a < 67108864 ∧ (readN v).b < 67108864 ∧ (readN v).c < 67108864 ∧ (readN v).d < 67108864 ∧ (readN v).e < 67108864 := by
  simp only [readN]; omega
def stepN (r n : Nm) (blk : List UInt8) : Nm := carryN (timesP (carryN (addN n (readN (leV (blk ++ [1]))))) r)
def tagAcc (r : Nm) : Nat → Nm → List UInt8 → Nm
  | 0, n, _ => n
  | k + 1, n, msg => if msg = [] then n else tagAcc r k (stepN r n (msg.take 16)) (msg.drop 16)
def Okn (n : Nm) : Prop := n.a < 67108864 ∧ n.b < 67110864 ∧ n.c < 67108864 ∧ n.d < 67108864 ∧ n.e < 67108864
theorem mid_lt (n : Nm) (v : Nat) (h : Okn n) : Okn (carryN (addN n (readN v))) := by
  have h2 := readN_lt v
  obtain ⟨a1, a2, a3, a4, a5⟩ := h
  refine carryN_le _ ⟨?_, ?_, ?_, ?_, ?_⟩ <;> simp only [addN] <;> omega
theorem prod_le (m r : Nm) (hm : Okn m) (hr : r.a < 67108864 ∧ r.b < 67108864 ∧ r.c < 67108864 ∧ r.d < 67108864 ∧ r.e < 67108864) : (timesP m r).le 1152921504606846976 := by
  obtain ⟨h1, h2, h3, h4, h5⟩ := hm
  obtain ⟨k1, k2, k3, k4, k5⟩ := hr
  have paa : m.a * r.a ≤ 4503733845098496 := Nat.le_trans (Nat.mul_le_mul (Nat.le_of_lt (Nat.lt_trans h1 (by decide : 67108864 < 67110864))) (Nat.le_of_lt k1)) (by decide)
  have pab : m.a * r.b ≤ 4503733845098496 := Nat.le_trans (Nat.mul_le_mul (Nat.le_of_lt (Nat.lt_trans h1 (by decide : 67108864 < 67110864))) (Nat.le_of_lt k2)) (by decide)
  have pac : m.a * r.c ≤ 4503733845098496 := Nat.le_trans (Nat.mul_le_mul (Nat.le_of_lt (Nat.lt_trans h1 (by decide : 67108864 < 67110864))) (Nat.le_of_lt k3)) (by decide)
  have pad : m.a * r.d ≤ 4503733845098496 := Nat.le_trans (Nat.mul_le_mul (Nat.le_of_lt (Nat.lt_trans h1 (by decide : 67108864 < 67110864))) (Nat.le_of_lt k4)) (by decide)
  have pae : m.a * r.e ≤ 4503733845098496 := Nat.le_trans (Nat.mul_le_mul (Nat.le_of_lt (Nat.lt_trans h1 (by decide : 67108864 < 67110864))) (Nat.le_of_lt k5)) (by decide)
  have pba : m.b * r.a ≤ 4503733845098496 := Nat.le_trans (Nat.mul_le_mul (Nat.le_of_lt h2) (Nat.le_of_lt k1)) (by decide)
  have pbb : m.b * r.b ≤ 4503733845098496 := Nat.le_trans (Nat.mul_le_mul (Nat.le_of_lt h2) (Nat.le_of_lt k2)) (by decide)
  have pbc : m.b * r.c ≤ 4503733845098496 := Nat.le_trans (Nat.mul_le_mul (Nat.le_of_lt h2) (Nat.le_of_lt k3)) (by decide)
  have pbd : m.b * r.d ≤ 4503733845098496 := Nat.le_trans (Nat.mul_le_mul (Nat.le_of_lt h2) (Nat.le_of_lt k4)) (by decide)
  have pbe : m.b * r.e ≤ 4503733845098496 := Nat.le_trans (Nat.mul_le_mul (Nat.le_of_lt h2) (Nat.le_of_lt k5)) (by decide)
  have pca : m.c * r.a ≤ 4503733845098496 := Nat.le_trans (Nat.mul_le_mul (Nat.le_of_lt (Nat.lt_trans h3 (by decide : 67108864 < 67110864))) (Nat.le_of_lt k1)) (by decide)
  have pcb : m.c * r.b ≤ 4503733845098496 := Nat.le_trans (Nat.mul_le_mul (Nat.le_of_lt (Nat.lt_trans h3 (by decide : 67108864 < 67110864))) (Nat.le_of_lt k2)) (by decide)
  have pcc : m.c * r.c ≤ 4503733845098496 := Nat.le_trans (Nat.mul_le_mul (Nat.le_of_lt (Nat.lt_trans h3 (by decide : 67108864 < 67110864))) (Nat.le_of_lt k3)) (by decide)
  have pcd : m.c * r.d ≤ 4503733845098496 := Nat.le_trans (Nat.mul_le_mul (Nat.le_of_lt (Nat.lt_trans h3 (by decide : 67108864 < 67110864))) (Nat.le_of_lt k4)) (by decide)
  have pce : m.c * r.e ≤ 4503733845098496 := Nat.le_trans (Nat.mul_le_mul (Nat.le_of_lt (Nat.lt_trans h3 (by decide : 67108864 < 67110864))) (Nat.le_of_lt k5)) (by decide)
  have pda : m.d * r.a ≤ 4503733845098496 := Nat.le_trans (Nat.mul_le_mul (Nat.le_of_lt (Nat.lt_trans h4 (by decide : 67108864 < 67110864))) (Nat.le_of_lt k1)) (by decide)
  have pdb : m.d * r.b ≤ 4503733845098496 := Nat.le_trans (Nat.mul_le_mul (Nat.le_of_lt (Nat.lt_trans h4 (by decide : 67108864 < 67110864))) (Nat.le_of_lt k2)) (by decide)
  have pdc : m.d * r.c ≤ 4503733845098496 := Nat.le_trans (Nat.mul_le_mul (Nat.le_of_lt (Nat.lt_trans h4 (by decide : 67108864 < 67110864))) (Nat.le_of_lt k3)) (by decide)
  have pdd : m.d * r.d ≤ 4503733845098496 := Nat.le_trans (Nat.mul_le_mul (Nat.le_of_lt (Nat.lt_trans h4 (by decide : 67108864 < 67110864))) (Nat.le_of_lt k4)) (by decide)
  have pde : m.d * r.e ≤ 4503733845098496 := Nat.le_trans (Nat.mul_le_mul (Nat.le_of_lt (Nat.lt_trans h4 (by decide : 67108864 < 67110864))) (Nat.le_of_lt k5)) (by decide)
  have pea : m.e * r.a ≤ 4503733845098496 := Nat.le_trans (Nat.mul_le_mul (Nat.le_of_lt (Nat.lt_trans h5 (by decide : 67108864 < 67110864))) (Nat.le_of_lt k1)) (by decide)
  have peb : m.e * r.b ≤ 4503733845098496 := Nat.le_trans (Nat.mul_le_mul (Nat.le_of_lt (Nat.lt_trans h5 (by decide : 67108864 < 67110864))) (Nat.le_of_lt k2)) (by decide)
  have pec : m.e * r.c ≤ 4503733845098496 := Nat.le_trans (Nat.mul_le_mul (Nat.le_of_lt (Nat.lt_trans h5 (by decide : 67108864 < 67110864))) (Nat.le_of_lt k3)) (by decide)
  have ped : m.e * r.d ≤ 4503733845098496 := Nat.le_trans (Nat.mul_le_mul (Nat.le_of_lt (Nat.lt_trans h5 (by decide : 67108864 < 67110864))) (Nat.le_of_lt k4)) (by decide)
  have pee : m.e * r.e ≤ 4503733845098496 := Nat.le_trans (Nat.mul_le_mul (Nat.le_of_lt (Nat.lt_trans h5 (by decide : 67108864 < 67110864))) (Nat.le_of_lt k5)) (by decide)
  refine ⟨?_, ?_, ?_, ?_, ?_⟩ <;> simp only [timesP] <;> omega
theorem stepN_lt (r n : Nm) (blk : List UInt8) (h : Okn n) (hr : r.a < 67108864 ∧ r.b < 67108864 ∧ r.c < 67108864 ∧ r.d < 67108864 ∧ r.e < 67108864) : Okn (stepN r n blk) := carryN_le _ (prod_le _ _ (mid_lt _ _ h) hr)

end Go.Proofs.YtccfjidpdlfenaaGreatDoor
namespace Go.Proofs.YtccfjidpdlfenaaGreatDoor
open Go.Am
set_option linter.unusedSimpArgs false
set_option linter.unusedVariables false
set_option maxRecDepth 100000
/-! Layer 7: tags, whole. -/
def polyKey (key : List UInt8) : Nm := readN (leV (clampB key))
def tagB (key msg : List UInt8) : List UInt8 := sumP (writeB (leastN (tagAcc (polyKey key) msg.length ⟨0, 0, 0, 0, 0⟩ msg))) (key.drop 16)
@[go_sem] theorem tagB_len (key msg : List UInt8) : (tagB key msg).length = 16 := by simp [tagB, sumP]
@[go_sem] theorem writeB_len (n : Nm) : (writeB n).length = 16 := by simp [writeB]
theorem tagAcc_lt (r : Nm) (hr : r.a < 67108864 ∧ r.b < 67108864 ∧ r.c < 67108864 ∧ r.d < 67108864 ∧ r.e < 67108864) : ∀ (k : Nat) (n : Nm) (msg : List UInt8), Okn n → Okn (tagAcc r k n msg)
  | 0, n, msg, h => h
  | k + 1, n, msg, h => by
    rw [tagAcc]; split
    · exact h
    · exact tagAcc_lt r hr k _ _ (stepN_lt _ _ _ h hr)
theorem tagAcc_fuel (r : Nm) : ∀ (k k' : Nat) (n : Nm) (msg : List UInt8), msg.length ≤ k → msg.length ≤ k' → tagAcc r k n msg = tagAcc r k' n msg
  | 0, 0, _, _, _, _ => rfl
  | 0, k' + 1, n, msg, h, _ => by
    have : msg = [] := List.eq_nil_of_length_eq_zero (by omega)
    simp [tagAcc, this]
  | k + 1, 0, n, msg, _, h => by
    have : msg = [] := List.eq_nil_of_length_eq_zero (by omega)
    simp [tagAcc, this]
  | k + 1, k' + 1, n, msg, h, h' => by
    rw [tagAcc, tagAcc]
    split
    · rfl
    · rename_i hne
      have : 0 < msg.length := List.length_pos_iff.2 hne
      exact tagAcc_fuel r k k' _ _ (by simp; omega) (by simp; omega)

set_option maxHeartbeats 8000000 in
@[go_sem] theorem e73 (key msg : List UInt8) (hk : key.length = 32) (hm : msg.length ≤ 1000000000) : fn C 73 [] [.slice 1 (key.map byteRow), .slice 1 (msg.map byteRow)] = some (.tup [.usl 1 ((tagB key msg).map byteRow), .int .i64 0], []) := by
  rw [fn_text Tryz.func73 rfl rfl Tryz.results73 fq73.1 rfl rfl (by kernel_rfl)]
  have hcl := clampB_len key (by omega)
  have hc := e99 key (by omega)
  have hrd := e98 (clampB key) (by omega)
  have hr := readN_lt (leV (clampB key))
  simp -implicitDefEqProofs -dsimp +contextual (maxSteps := 5000000) (disch := first | omega | simp only [go_sem] <;> omega | refine ib ?_; kernel_rfl) only [go_sem, Nat.reduceBEq, Int.reduceNeg, Int.reduceLT, Int.reduceLE, Int.reduceAdd, Int.reduceSub, Int.reduceToNat, Int.reduceMul, Int.reduceMod, Int.reduceTMod, Int.reduceTDiv, Int.reduceEq, Nat.reducePow, Nat.reduceDiv, Nat.reduceShiftRight, Nat.reduceMod, List.reduceReplicate, ↓reduceIte, Nat.reduceEqDiff, Nat.reduceAdd, Nat.reduceSub, Nat.reduceLeDiff, Nat.reduceLT, Nat.reduceMul, hk, hc, hrd]
  have e0 : tagB key msg = sumP (writeB (leastN (tagAcc (readN (leV (clampB key))) (msg.length - 0) ⟨0, 0, 0, 0, 0⟩ (msg.drop 0)))) (key.drop 16) := rfl
  rw [e0]
  generalize readN (leV (clampB key)) = r at *
  refine kLoop_rec2 (fun (i : Nat) (n : Nm) f H => f 0 = .slice 1 (key.map byteRow) ∧ f 1 = .slice 1 (msg.map byteRow) ∧ f 6 = .ptr 106 1 0 0 ∧ f 7 = .ptr 107 1 0 0 ∧ f 8 = .int .i64 ((16 * i : Nat) : Int) ∧ H 106 = ⟨1, .live, 5, [r.cs], false⟩ ∧ H 107 = ⟨1, .live, 5, [n.cs], false⟩ ∧ 16 * i ≤ msg.length + 15 ∧ Okn n) (fun i _ => msg.length + 16 - 16 * i) (fun i n => some (.tup [.usl 1 ((sumP (writeB (leastN (tagAcc r (msg.length - 16 * i) n (msg.drop (16 * i))))) (key.drop 16)).map byteRow), .int .i64 0], [])) ?_ 0 ⟨0, 0, 0, 0, 0⟩ _ _ ?_
  rotate_left
  · exact ⟨rfl, rfl, rfl, rfl, rfl, rfl, rfl, by omega, by simp [Okn]⟩
  rintro i n f H ⟨f0, f1, f6, f7, f8, H106, H107, hi, hn⟩ ih
  by_cases hl : 16 * i < msg.length
  · have e : (if msg.length < 16 * i + 16 then (msg.length : Int) else ((16 * i + 16 : Nat) : Int)) = ((min (16 * i + 16) msg.length : Nat) : Int) := by split <;> omega
    have et : List.take (min (16 * i + 16) msg.length - 16 * i) (List.drop (16 * i) msg) = (msg.drop (16 * i)).take 16 := by
      by_cases h : 16 * i + 16 ≤ msg.length
      · rw [Nat.min_eq_left h, Nat.add_sub_cancel_left]
      · rw [Nat.min_eq_right (by omega), List.take_of_length_le (by simp), List.take_of_length_le (by simp; omega)]
    have ha : ∀ l : List UInt8, l.map byteRow ++ [[AVal.int .u8 1]] = (l ++ [1]).map byteRow := fun l => by simp [byteRow]
    have hbl : ((msg.drop (16 * i)).take 16 ++ [1]).length ≤ 17 := by simp; omega
    have hq := readN_lt (leV ((msg.drop (16 * i)).take 16 ++ [1]))
    have hmid := mid_lt n (leV ((msg.drop (16 * i)).take 16 ++ [1])) hn
    have hstep := stepN_lt r n ((msg.drop (16 * i)).take 16) hn hr
    have hR := e98 ((msg.drop (16 * i)).take 16 ++ [1]) hbl
    have hadd : (addN n (readN (leV ((msg.drop (16 * i)).take 16 ++ [1])))).le 1152921504606846976 := by
      obtain ⟨a1, a2, a3, a4, a5⟩ := hn
      obtain ⟨q1, q2, q3, q4, q5⟩ := hq
      refine ⟨?_, ?_, ?_, ?_, ?_⟩ <;> simp only [addN] <;> omega
    have hgo : tagAcc r (msg.length - 16 * i) n (msg.drop (16 * i)) = tagAcc r (msg.length - 16 * (i + 1)) (stepN r n ((msg.drop (16 * i)).take 16)) (msg.drop (16 * (i + 1))) := by
      rw [show msg.length - 16 * i = (msg.length - 16 * i - 1) + 1 by omega, tagAcc, if_neg (by intro h; have := congrArg List.length h; simp at this; omega), List.drop_drop, show 16 * i + 16 = 16 * (i + 1) by omega]
      exact tagAcc_fuel _ _ _ _ _ (by simp; omega) (by simp)
    rw [hgo, stepN]
    have hfin := fun f' H' a => ih (i + 1) (stepN r n ((msg.drop (16 * i)).take 16)) f' H' a (by omega)
    clear ih hgo
    rw [stepN] at hfin hstep
    generalize readN (leV ((msg.drop (16 * i)).take 16 ++ [1])) = q at *
    obtain ⟨a1, a2, a3, a4, a5⟩ := hn
    obtain ⟨r1, r2, r3, r4, r5⟩ := hr
    obtain ⟨q1, q2, q3, q4, q5⟩ := hq
    obtain ⟨d1, d2, d3, d4, d5⟩ := hadd
    obtain ⟨m1, m2, m3, m4, m5⟩ := hmid
    simp -implicitDefEqProofs -dsimp +contextual (maxSteps := 5000000) (disch := first | omega | simp only [go_sem] <;> omega | refine ib ?_; kernel_rfl) only [go_sem, Nat.reduceBEq, Int.reduceNeg, Int.reduceLT, Int.reduceLE, Int.reduceAdd, Int.reduceSub, Int.reduceToNat, Int.reduceMul, Int.reduceMod, Int.reduceTMod, Int.reduceTDiv, Int.reduceEq, Nat.reducePow, Nat.reduceDiv, Nat.reduceShiftRight, Nat.reduceMod, List.reduceReplicate, ↓reduceIte, Nat.reduceEqDiff, Nat.reduceAdd, Nat.reduceSub, Nat.reduceLeDiff, Nat.reduceLT, Nat.reduceMul, f0, f1, f6, f7, f8, H106, H107, hl, e, et, ha, hR]
    exact hfin _ _ ⟨f0, f1, f6, f7, rfl, H106, rfl, by omega, hstep⟩
  · have hlt := leastN_lt n (by obtain ⟨a1, a2, a3, a4, a5⟩ := hn; exact ⟨by omega, by omega, by omega, by omega, by omega⟩)
    have hnil : tagAcc r (msg.length - 16 * i) n [] = n := by cases (msg.length - 16 * i) <;> simp [tagAcc]
    obtain ⟨a1, a2, a3, a4, a5⟩ := hn
    obtain ⟨l1, l2, l3, l4, l5⟩ := hlt
    simp -implicitDefEqProofs -dsimp +contextual (maxSteps := 5000000) (disch := first | omega | simp only [go_sem] <;> omega | refine ib ?_; kernel_rfl) only [go_sem, Nat.reduceBEq, Int.reduceNeg, Int.reduceLT, Int.reduceLE, Int.reduceAdd, Int.reduceSub, Int.reduceToNat, Int.reduceMul, Int.reduceMod, Int.reduceTMod, Int.reduceTDiv, Int.reduceEq, Nat.reducePow, Nat.reduceDiv, Nat.reduceShiftRight, Nat.reduceMod, List.reduceReplicate, ↓reduceIte, Nat.reduceEqDiff, Nat.reduceAdd, Nat.reduceSub, Nat.reduceLeDiff, Nat.reduceLT, Nat.reduceMul, f0, f1, f6, f7, f8, H106, H107, hl, hnil]

@[go_sem] theorem e81 (key msg tag : List UInt8) (hk : key.length = 32) (hm : msg.length ≤ 1000000000) : fn C 81 [] [.slice 1 (key.map byteRow), .slice 1 (msg.map byteRow), .slice 1 (tag.map byteRow)] = some (.bool (decide (tagB key msg = tag)), []) := by
  rw [fn_text Tryz.func81 rfl rfl Tryz.results81 fq81.1 rfl rfl (by kernel_rfl)]
  simp -implicitDefEqProofs -dsimp +contextual (maxSteps := 5000000) (disch := first | omega | simp only [go_sem] <;> omega | refine ib ?_; kernel_rfl) only [go_sem, Nat.reduceBEq, Int.reduceNeg, Int.reduceLT, Int.reduceLE, Int.reduceAdd, Int.reduceSub, Int.reduceToNat, Int.reduceMul, Int.reduceMod, Int.reduceTMod, Int.reduceTDiv, Int.reduceEq, Nat.reducePow, Nat.reduceDiv, Nat.reduceShiftRight, Nat.reduceMod, List.reduceReplicate, ↓reduceIte, Nat.reduceEqDiff, Nat.reduceAdd, Nat.reduceSub, Nat.reduceLeDiff, Nat.reduceLT, Nat.reduceMul]

end Go.Proofs.YtccfjidpdlfenaaGreatDoor
namespace Go.Proofs.YtccfjidpdlfenaaGreatDoor
open Go.Am
set_option linter.unusedSimpArgs false
set_option linter.unusedVariables false
set_option maxRecDepth 100000
/-! Layer 7: what the parts' numbers come to. -/
def P0 : Nat := 1361129467683753853853498429727072845819
theorem timesP_val (n m : Nm) : (timesP n m).val + 1361129467683753853853498429727072845819 * (n.b * m.e + n.c * m.d + n.d * m.c + n.e * m.b + 67108864 * (n.c * m.e + n.d * m.d + n.e * m.c) + 4503599627370496 * (n.d * m.e + n.e * m.d) + 302231454903657293676544 * (n.e * m.e)) = n.val * m.val := by
  simp only [timesP, Nm.val]
  grind
theorem mod_of_add {x y k : Nat} (h : x + k * P0 = y) : x % P0 = y % P0 := by
  rw [← h, Nat.add_mul_mod_self_right]
theorem timesP_mod (n m : Nm) : (timesP n m).val % P0 = n.val * m.val % P0 := by
  rw [← timesP_val n m]
  show _ = (_ + P0 * _) % P0
  rw [Nat.add_mul_mod_self_left]
theorem carryN_mod (n : Nm) : (carryN n).val % P0 = n.val % P0 := mod_of_add (carryN_val n)
theorem addN_val (n m : Nm) : (addN n m).val = n.val + m.val := by simp only [addN, Nm.val]; omega
theorem readN_val (v : Nat) (h : v < 1361129467683753853853498429727072845824) : (readN v).val = v := by simp only [readN, Nm.val]; omega
theorem leV_block (b : List UInt8) (h : b.length ≤ 16) : leV (b ++ [1]) < 1361129467683753853853498429727072845824 := by
  have h1 := leV_lt b
  have h2 : (256 : Nat) ^ b.length ≤ 256 ^ 16 := Nat.pow_le_pow_right (by decide) h
  rw [leV_app]
  have h3 : leV [1] = 1 := rfl
  rw [h3, Nat.mul_one]
  have : (256 : Nat) ^ 16 + 256 ^ 16 < 1361129467683753853853498429727072845824 := by decide
  omega
theorem stepN_mod (r n : Nm) (blk : List UInt8) (h : blk.length ≤ 16) : (stepN r n blk).val % P0 = (n.val % P0 + leV (blk ++ [1])) * r.val % P0 := by
  rw [stepN, carryN_mod, timesP_mod, Nat.mul_mod, carryN_mod, addN_val, readN_val _ (leV_block blk h), ← Nat.mul_mod, Nat.mul_mod, Nat.mul_mod (n.val % P0 + leV (blk ++ [1]))]
  simp
/-- The number of a text, modulo the prime. -/
def macV (r : Nat) : Nat → Nat → List UInt8 → Nat
  | 0, n, _ => n
  | k + 1, n, msg => if msg = [] then n else macV r k ((n + leV (msg.take 16 ++ [1])) * r % P0) (msg.drop 16)
theorem tagAcc_mod (r : Nm) : ∀ (k : Nat) (n : Nm) (msg : List UInt8), (tagAcc r k n msg).val % P0 = macV r.val k (n.val % P0) msg
  | 0, _, _ => rfl
  | k + 1, n, msg => by
    rw [tagAcc, macV]
    split
    · rfl
    · rw [tagAcc_mod r k, stepN_mod r n _ (by simp; omega)]
theorem carry5N_val (n : Nm) : (carry5N n).val = n.val + 5 := by simp only [carry5N, Nm.val]; omega
theorem least_low (a b c d e v : Nat) (hv : a + b * 67108864 + c * 4503599627370496 + d * 302231454903657293676544 + e * 20282409603651670423947251286016 = v + 5) (h0 : e < 67108864) (h1 : a < 67108864) (h2 : b < 67108864) (h3 : c < 67108864) (h4 : d < 67108864) : v < 1361129467683753853853498429727072845819 := by omega
theorem least_high (a b c d e v : Nat) (hv : a + b * 67108864 + c * 4503599627370496 + d * 302231454903657293676544 + e * 20282409603651670423947251286016 = v + 5) (hm : v < 1361129467683753853853498429727072845824) (h0 : 67108864 ≤ e) (h1 : a < 67108864) (h2 : b < 67108864) (h3 : c < 67108864) (h4 : d < 67108864) : v = 1361129467683753853853498429727072845819 + (a + b * 67108864 + c * 4503599627370496 + d * 302231454903657293676544 + e % 67108864 * 20282409603651670423947251286016) ∧ v < 2 * 1361129467683753853853498429727072845819 := by
  have : e < 67108865 := by omega
  have h5 : e = 67108864 := by omega
  subst h5
  omega
theorem Nm.val_lt (m : Nm) (h : m.a < 67108864 ∧ m.b < 67108864 ∧ m.c < 67108864 ∧ m.d < 67108864 ∧ m.e < 67108864) : m.val < 1361129467683753853853498429727072845824 := by simp only [Nm.val]; omega
theorem Nm.le_of_lt {m : Nm} (h : m.a < 67108864 ∧ m.b < 67108864 ∧ m.c < 67108864 ∧ m.d < 67108864 ∧ m.e < 67108864) : m.le 1152921504606846976 := ⟨by omega, by omega, by omega, by omega, by omega⟩
theorem leastN_val (n : Nm) (h : n.le 1152921504606846976) : (leastN n).val = n.val % P0 := by
  have h1 := carryN_lt _ (carryN_le n h)
  have e : (carryN (carryN n)).val % P0 = n.val % P0 := by rw [carryN_mod, carryN_mod]
  rw [← e]
  unfold leastN
  simp only
  generalize carryN (carryN n) = m at h1 e
  clear e h n
  obtain ⟨i1, i2, i3, i4, i5⟩ := carry5N_le m (Nm.le_of_lt h1)
  have hq := carry5N_val m
  have hm := m.val_lt h1
  generalize carry5N m = q at *
  split
  · rename_i h0
    rw [P0, Nat.mod_eq_of_lt (least_low q.a q.b q.c q.d q.e m.val hq (by omega) i1 i2 i3 i4)]
  · rename_i h0
    obtain ⟨k1, k2⟩ := least_high q.a q.b q.c q.d q.e m.val hq hm (by omega) i1 i2 i3 i4
    show q.a + q.b * 67108864 + q.c * 4503599627370496 + q.d * 302231454903657293676544 + q.e % 67108864 * 20282409603651670423947251286016 = m.val % P0
    rw [P0]
    generalize q.a + q.b * 67108864 + q.c * 4503599627370496 + q.d * 302231454903657293676544 + q.e % 67108864 * 20282409603651670423947251286016 = t at *
    rw [k1, Nat.add_mod_left, Nat.mod_eq_of_lt (by omega)]
theorem Okn.le {n : Nm} (h : Okn n) : n.le 1152921504606846976 := by
  obtain ⟨h1, h2, h3, h4, h5⟩ := h
  exact ⟨by omega, by omega, by omega, by omega, by omega⟩
def leB (n k : Nat) : List UInt8 := (List.range k).map fun i => UInt8.ofNat (n / 256 ^ i)
theorem writeB_eq (n : Nm) : writeB n = leB n.val 16 := rfl
theorem okn0 : Okn ⟨0, 0, 0, 0, 0⟩ := by simp [Okn]
/-- The tag, by the number. -/
theorem tagB_val (key msg : List UInt8) : tagB key msg = sumP (leB (macV (leV (clampB key) % 1361129467683753853853498429727072845824) msg.length 0 msg) 16) (key.drop 16) := by
  have hr : (polyKey key).val = leV (clampB key) % 1361129467683753853853498429727072845824 := by
    rw [polyKey, ← readN_val (leV (clampB key) % _) (Nat.mod_lt _ (by decide))]
    simp only [readN, Nm.val]; omega
  rw [tagB, writeB_eq, leastN_val _ (Okn.le (tagAcc_lt (polyKey key) (readN_lt _) _ _ _ okn0)), tagAcc_mod, hr]
  rfl

/-! Layer 7, by the document: numbers by their digits. -/
def dV : List Nat → Nat
  | [] => 0
  | x :: l => x + 256 * dV l
theorem dV_app : ∀ l m : List Nat, dV (l ++ m) = dV l + 256 ^ l.length * dV m
  | [], m => by simp [dV]
  | x :: l, m => by simp only [List.cons_append, dV, dV_app l m, List.length_cons, Nat.pow_succ]; grind
theorem dV_rep (k : Nat) : dV (List.replicate k 0) = 0 := by
  induction k with
  | zero => rfl
  | succ k ih => simp [List.replicate_succ, dV, ih]
def Dg (l : List Nat) : Prop := ∀ x ∈ l, x < 256
theorem dV_lt : ∀ l : List Nat, Dg l → dV l < 256 ^ l.length
  | [], _ => by simp [dV]
  | x :: l, h => by
    have h1 := dV_lt l (fun y hy => h y (List.mem_cons_of_mem _ hy))
    have h2 := h x (by simp)
    simp only [dV, List.length_cons, Nat.pow_succ]
    generalize 256 ^ l.length = q at *
    omega
theorem dV_get : ∀ (l : List Nat) (i : Nat) (_ : Dg l) (hi : i < l.length), l[i] = dV l / 256 ^ i % 256
  | [], _, _, hi => by simp at hi
  | x :: l, 0, h, _ => by have := h x (by simp); simp [dV]; omega
  | x :: l, i + 1, h, hi => by
    have := dV_get l i (fun y hy => h y (List.mem_cons_of_mem _ hy)) (by simpa using hi)
    have h2 := h x (by simp)
    have e : (x + 256 * dV l) / 256 = dV l := by omega
    simp only [List.getElem_cons_succ, dV, this, Nat.pow_succ]
    rw [Nat.mul_comm (256 ^ i) 256, ← Nat.div_div_eq_div_mul, e]
theorem dV_take (l : List Nat) (k : Nat) (h : Dg l) : dV (l.take k) = dV l % 256 ^ k := by
  by_cases hk : k ≤ l.length
  · have e := dV_app (l.take k) (l.drop k)
    rw [List.take_append_drop, List.length_take, Nat.min_eq_left hk] at e
    have h1 := dV_lt (l.take k) (fun x hx => h x (List.mem_of_mem_take hx))
    rw [List.length_take, Nat.min_eq_left hk] at h1
    rw [e, Nat.add_mul_mod_self_left, Nat.mod_eq_of_lt h1]
  · rw [List.take_of_length_le (by omega), Nat.mod_eq_of_lt (Nat.lt_of_lt_of_le (dV_lt l h) (Nat.pow_le_pow_right (by decide) (by omega)))]
theorem dV_set : ∀ (l : List Nat) (j v : Nat) (h : j < l.length), dV (l.set j (l[j] + v)) = dV l + v * 256 ^ j
  | [], _, _, h => by simp at h
  | x :: l, 0, v, _ => by simp [dV]; omega
  | x :: l, j + 1, v, h => by
    have := dV_set l j v (by simpa using h)
    simp only [List.getElem_cons_succ, List.set_cons_succ, dV, this, Nat.pow_succ]
    grind
theorem dV_bytes (b : List UInt8) : dV (b.map UInt8.toNat) = leV b := by
  induction b with
  | nil => rfl
  | cons x b ih => simp [dV, leV, ih]
def carrG : Nat → List Nat → List Nat
  | _, [] => []
  | o, x :: l => (o + x) % 256 :: carrG ((o + x) / 256) l
theorem carrG_len : ∀ (l : List Nat) (o : Nat), (carrG o l).length = l.length
  | [], _ => rfl
  | _ :: l, o => by simp [carrG, carrG_len l]
theorem carrG_dg : ∀ (l : List Nat) (o : Nat), Dg (carrG o l)
  | [], _ => by simp [carrG, Dg]
  | x :: l, o => by
    intro y hy
    simp only [carrG, List.mem_cons] at hy
    rcases hy with rfl | hy
    · omega
    · exact carrG_dg l _ y hy
theorem carrG_val : ∀ (l : List Nat) (o : Nat), dV (carrG o l) = (o + dV l) % 256 ^ l.length
  | [], o => by simp [carrG, dV, Nat.mod_one]
  | x :: l, o => by
    simp only [carrG, dV, carrG_val l, List.length_cons, Nat.pow_succ]
    rw [Nat.mul_comm (256 ^ l.length) 256, Nat.mod_mul]
    congr 1
    · omega
    · rw [show (o + (x + 256 * dV l)) / 256 = (o + x) / 256 + dV l by omega]
/-- Carried. -/
def carrR (n : List Nat) : List Nat := carrG 0 (n ++ [0, 0, 0, 0])
theorem carrR_len (n : List Nat) : (carrR n).length = n.length + 4 := by simp [carrR, carrG_len]
theorem carrR_dg (n : List Nat) : Dg (carrR n) := carrG_dg _ _
theorem carrR_val (n : List Nat) (h : dV n < 256 ^ (n.length + 4)) : dV (carrR n) = dV n := by
  rw [carrR, carrG_val, dV_app, Nat.zero_add]
  simp only [dV, Nat.mul_zero, Nat.add_zero, List.length_append]
  exact Nat.mod_eq_of_lt h
/-- A row of products. -/
def rowG (x : Nat) : List Nat → Nat → List Nat → List Nat
  | out, _, [] => out
  | out, j, y :: bs => rowG x (out.set j (out.getD j 0 + x * y)) (j + 1) bs
theorem getD_at (l : List Nat) (j : Nat) (h : j < l.length) : l.getD j 0 = l[j] := by simp [List.getD_eq_getElem?_getD, h]
theorem rowG_len (x : Nat) : ∀ (bs out : List Nat) (j : Nat), (rowG x out j bs).length = out.length
  | [], _, _ => rfl
  | _ :: bs, out, j => by simp [rowG, rowG_len x bs]
theorem rowG_val (x : Nat) : ∀ (bs out : List Nat) (j : Nat), j + bs.length ≤ out.length → dV (rowG x out j bs) = dV out + x * 256 ^ j * dV bs
  | [], _, _, _ => by simp [rowG, dV]
  | y :: bs, out, j, h => by
    simp only [List.length_cons] at h
    rw [rowG, rowG_val x bs _ _ (by simp; omega), getD_at _ _ (by omega), dV_set, dV, Nat.pow_succ]
    grind
def convG (b : List Nat) : List Nat → Nat → List Nat → List Nat
  | out, _, [] => out
  | out, i, x :: cs => convG b (rowG x out i b) (i + 1) cs
theorem convG_len (b : List Nat) : ∀ (cs out : List Nat) (i : Nat), (convG b out i cs).length = out.length
  | [], _, _ => rfl
  | _ :: cs, out, i => by simp [convG, convG_len b cs, rowG_len]
theorem convG_val (b : List Nat) : ∀ (cs out : List Nat) (i : Nat), i + cs.length + b.length ≤ out.length + 1 → dV (convG b out i cs) = dV out + 256 ^ i * dV cs * dV b
  | [], _, _, _ => by simp [convG, dV]
  | x :: cs, out, i, h => by
    simp only [List.length_cons] at h
    rw [convG, convG_val b cs _ _ (by rw [rowG_len]; omega), rowG_val _ _ _ _ (by omega), dV, Nat.pow_succ]
    grind
/-- Folded. -/
def foldR (n : List Nat) : List Nat := rowG 320 ((n.take 16 ++ ((n.getD 16 0 % 4) :: List.replicate 7 0)).set 0 (n.getD 0 0 + n.getD 16 0 / 4 * 5)) 0 (n.drop 17)
theorem foldR_len (n : List Nat) (h : 16 ≤ n.length) : (foldR n).length = 24 := by simp [foldR, rowG_len]; omega
theorem foldR_val (n : List Nat) (hd : Dg n) (h : 17 ≤ n.length) (h2 : n.length ≤ 41) : dV (foldR n) = dV n % 1361129467683753853853498429727072845824 + 5 * (dV n / 1361129467683753853853498429727072845824) := by
  have hl : (n.take 16 ++ ((n.getD 16 0 % 4) :: List.replicate 7 0)).length = 24 := by simp; omega
  have e0 : (n.take 16 ++ ((n.getD 16 0 % 4) :: List.replicate 7 0))[0]'(by omega) = n.getD 0 0 := by
    rw [List.getElem_append_left (by simp; omega), List.getElem_take, getD_at _ _ (by omega)]
  have es := dV_set (n.take 16 ++ ((n.getD 16 0 % 4) :: List.replicate 7 0)) 0 (n.getD 16 0 / 4 * 5) (by omega)
  rw [e0, Nat.pow_zero, Nat.mul_one] at es
  rw [foldR, rowG_val _ _ _ _ (by rw [List.length_set, hl]; simp; omega), es, dV_app, dV, dV_rep, List.length_take, Nat.min_eq_left (by omega), Nat.pow_zero]
  have e1 := dV_app (n.take 16) (n.drop 16)
  rw [List.take_append_drop, List.length_take, Nat.min_eq_left (by omega), List.drop_eq_getElem_cons (by omega), dV, ← getD_at n 16 (by omega)] at e1
  have h1 := dV_lt (n.take 16) (fun x hx => hd x (List.mem_of_mem_take hx))
  rw [List.length_take, Nat.min_eq_left (by omega)] at h1
  clear e0 es hl
  generalize dV (List.take 16 n) = t at *
  generalize n.getD 16 0 = q at *
  have ep : (256 : Nat) ^ 16 = 340282366920938463463374607431768211456 := by decide
  rw [ep] at *
  rw [show 16 + 1 = 17 from rfl] at e1
  generalize dV (List.drop 17 n) = u at *
  rw [e1]
  omega

end Go.Proofs.YtccfjidpdlfenaaGreatDoor
namespace Go.Proofs.YtccfjidpdlfenaaGreatDoor
open Go.Am
set_option linter.unusedSimpArgs false
set_option linter.unusedVariables false
set_option maxRecDepth 100000
/-! Layer 7, by the document: the code. -/
def nR (n : Nat) : List AVal := [.int .i64 (n : Int)]
@[go_sem] theorem nR_eq (n : Nat) : nR n = [.int .i64 (n : Int)] := rfl
@[go_sem] theorem nR_ones (l : List Nat) : ones (l.map nR) = true := ones_map _ _ fun x => rfl
@[go_sem] theorem nR_clos (l : List Nat) : (l.map nR).all clos = true := allclos_map _ (fun _ => rfl) l
@[go_sem] theorem nR_flat (l : List Nat) : flatss (l.map nR) = true := flatss_map _ (fun _ => rfl) l
@[go_sem] theorem set_nR (l : List Nat) (j : Nat) (x : Nat) : (l.map nR).set j [.int .i64 (x : Int)] = (l.set j x).map nR := by rw [List.map_set]; rfl
@[go_sem] theorem set_nRl (l : List Nat) (j : Nat) (x : Nat) : (l.map nR).set j [.int .i64 (no_index (OfNat.ofNat x : Int))] = (l.set j (OfNat.ofNat x)).map nR := by rw [List.map_set]; rfl
def fillN (l : List Nat) (m : Nat) : List Nat := l.take m ++ List.replicate (l.length - m) 0
theorem fillN_len (l : List Nat) (m : Nat) (h : m ≤ l.length) : (fillN l m).length = l.length := by simp [fillN]; omega
theorem fillN_zero (l : List Nat) : fillN l 0 = List.replicate l.length 0 := by simp [fillN]
theorem fillN_all (l : List Nat) (m : Nat) (h : l.length ≤ m) : fillN l m = l := by simp [fillN, List.take_of_length_le h, show l.length - m = 0 by omega]
theorem fillN_set (l : List Nat) (m : Nat) (h : m < l.length) : (fillN l m).set m l[m] = fillN l (m + 1) := by
  unfold fillN
  rw [List.set_append_right _ _ (by simp; omega), List.length_take, Nat.min_eq_left (by omega), Nat.sub_self, show l.length - m = (l.length - (m + 1)) + 1 by omega, List.replicate_succ, List.set_cons_zero, List.take_succ_eq_append_getElem h, List.append_assoc]
  rfl
theorem fillN_tail (l : List Nat) (m k : Nat) (h : m ≤ l.length) (hk : k = l.length - m) : fillN (l.take m ++ List.replicate k 0) m = l.take m ++ List.replicate k 0 := by
  subst hk
  unfold fillN
  rw [List.take_left' (by simp; omega)]
  congr 2
  simp; omega

def digR (b : List UInt8) : List Nat := b.map UInt8.toNat ++ List.replicate (17 - b.length) 0
theorem digR_len (b : List UInt8) (h : b.length ≤ 17) : (digR b).length = 17 := by simp [digR]; omega
theorem digR_get (b : List UInt8) (i : Nat) (h : i < b.length) (h2 : i < (digR b).length) : (digR b)[i] = b[i].toNat := by
  simp only [digR]
  rw [List.getElem_append_left (by simpa using h), List.getElem_map]
theorem digR_fill (b : List UInt8) (h : b.length ≤ 17) : fillN (digR b) b.length = digR b := by
  have := fillN_tail (digR b) b.length (17 - b.length) (by rw [digR_len b h]; omega) (by rw [digR_len b h])
  have e : (digR b).take b.length = b.map UInt8.toNat := by unfold digR; rw [List.take_left' (by simp)]
  rw [e] at this
  exact this
theorem digR_dg (b : List UInt8) : Dg (digR b) := by
  intro x hx
  simp only [digR, List.mem_append, List.mem_map, List.mem_replicate] at hx
  rcases hx with ⟨y, _, rfl⟩ | ⟨_, rfl⟩
  · exact u8_lt y
  · omega
theorem digR_val (b : List UInt8) : dV (digR b) = leV b := by simp [digR, dV_app, dV_rep, dV_bytes]
@[go_sem] theorem e119 (b : List UInt8) (hb : b.length ≤ 17) : fn C 119 [] [.slice 1 (b.map byteRow), .int .i64 17] = some (.usl 1 ((digR b).map nR), []) := by
  rw [fn_text Tryz.func119 rfl rfl Tryz.results119 fq119.1 rfl rfl (by kernel_rfl)]
  simp -implicitDefEqProofs -dsimp +contextual (maxSteps := 5000000) (disch := first | omega | simp only [go_sem] <;> omega | refine ib ?_; kernel_rfl) only [go_sem, Nat.reduceBEq, Int.reduceNeg, Int.reduceLT, Int.reduceLE, Int.reduceAdd, Int.reduceSub, Int.reduceToNat, Int.reduceMul, Int.reduceMod, Int.reduceTMod, Int.reduceTDiv, Int.reduceEq, Nat.reducePow, Nat.reduceDiv, Nat.reduceShiftRight, Nat.reduceMod, List.reduceReplicate, ↓reduceIte, Nat.reduceEqDiff, Nat.reduceAdd, Nat.reduceSub, Nat.reduceLeDiff, Nat.reduceLT, Nat.reduceMul]
  have hlen := digR_len b hb
  have hget := digR_get b
  have hfl := digR_fill b hb
  generalize digR b = A at *
  have z1 := fillN_zero A
  rw [hlen] at z1
  refine kLoop_rec (fun (i : Nat) f H => f 0 = .slice 1 (b.map byteRow) ∧ f 5 = .osl 108 1 0 17 ∧ f 6 = .int .i64 (i : Int) ∧ H 108 = ⟨1, .live, 1, (fillN A i).map nR, true⟩ ∧ i ≤ b.length) (fun i => b.length - i) (fun _ => some (.usl 1 (A.map nR), [])) ?_ 0 _ _ ?_
  rotate_left
  · refine ⟨rfl, rfl, rfl, ?_, by omega⟩
    rw [z1]; rfl
  rintro i f H ⟨f0, f5, f6, H108, hi⟩ ih
  have hf := fillN_len A i (by omega)
  by_cases hl : i < b.length
  · have hA := hget i hl (by omega)
    simp -implicitDefEqProofs -dsimp +contextual (maxSteps := 5000000) (disch := first | omega | simp only [go_sem] <;> omega | refine ib ?_; kernel_rfl) only [go_sem, Nat.reduceBEq, Int.reduceNeg, Int.reduceLT, Int.reduceLE, Int.reduceAdd, Int.reduceSub, Int.reduceToNat, Int.reduceMul, Int.reduceMod, Int.reduceTMod, Int.reduceTDiv, Int.reduceEq, Nat.reducePow, Nat.reduceDiv, Nat.reduceShiftRight, Nat.reduceMod, List.reduceReplicate, ↓reduceIte, Nat.reduceEqDiff, Nat.reduceAdd, Nat.reduceSub, Nat.reduceLeDiff, Nat.reduceLT, Nat.reduceMul, f0, f5, f6, H108, hl, hf, hlen]
    rw [← hA, fillN_set _ _ (by omega)]
    exact ih (i + 1) _ _ ⟨f0, f5, rfl, rfl, by omega⟩ (by omega)
  · obtain rfl : i = b.length := by omega
    rw [hfl] at H108
    simp -implicitDefEqProofs -dsimp +contextual (maxSteps := 5000000) (disch := first | omega | simp only [go_sem] <;> omega | refine ib ?_; kernel_rfl) only [go_sem, Nat.reduceBEq, Int.reduceNeg, Int.reduceLT, Int.reduceLE, Int.reduceAdd, Int.reduceSub, Int.reduceToNat, Int.reduceMul, Int.reduceMod, Int.reduceTMod, Int.reduceTDiv, Int.reduceEq, Nat.reducePow, Nat.reduceDiv, Nat.reduceShiftRight, Nat.reduceMod, List.reduceReplicate, ↓reduceIte, Nat.reduceEqDiff, Nat.reduceAdd, Nat.reduceSub, Nat.reduceLeDiff, Nat.reduceLT, Nat.reduceMul, f0, f5, f6, H108, hl, hlen]

def carG : Nat → List Nat → Nat → Nat
  | o, _, 0 => o
  | o, l, i + 1 => (carG o l i + l.getD i 0) / 256
theorem carG_cons (o x : Nat) (l : List Nat) : ∀ i, carG o (x :: l) (i + 1) = carG ((o + x) / 256) l i
  | 0 => rfl
  | i + 1 => by rw [carG, carG_cons o x l i, carG]; rfl
theorem carrG_get : ∀ (l : List Nat) (o i : Nat) (h : i < (carrG o l).length), (carrG o l)[i] = (carG o l i + l.getD i 0) % 256
  | [], _, _, h => by simp [carrG] at h
  | x :: l, o, 0, _ => rfl
  | x :: l, o, i + 1, h => by
    simp only [carrG, List.getElem_cons_succ]
    rw [carrG_get l _ i, carG_cons]; rfl
theorem carG_le (o : Nat) (l : List Nat) (ho : o ≤ 1000000000000) (hl : ∀ x ∈ l, x ≤ 1000000000000) : ∀ i, carG o l i ≤ 1000000000000
  | 0 => ho
  | i + 1 => by
    have h1 := carG_le o l ho hl i
    have h2 : l.getD i 0 ≤ 1000000000000 := by
      by_cases h : i < l.length
      · rw [getD_at _ _ h]; exact hl _ (List.getElem_mem h)
      · simp [List.getD_eq_getElem?_getD, List.getElem?_eq_none (Nat.le_of_not_lt h)]
    rw [carG]; omega
theorem pad4 (n : List Nat) (i : Nat) (h : n.length ≤ i) : (n ++ [0, 0, 0, 0]).getD i 0 = 0 := by
  rw [List.getD_eq_getElem?_getD, List.getElem?_append_right h]
  generalize i - n.length = k
  match k with
  | 0 => rfl
  | 1 => rfl
  | 2 => rfl
  | 3 => rfl
  | k + 4 => rfl

@[go_sem] theorem e138 (n : List Nat) (hn : n.length ≤ 1000) (hb : ∀ x ∈ n, x ≤ 1000000000000) : fn C 138 [] [.slice 1 (n.map nR)] = some (.usl 1 ((carrR n).map nR), []) := by
  rw [fn_text Tryz.func138 rfl rfl Tryz.results138 fq138.1 rfl rfl (by kernel_rfl)]
  simp -implicitDefEqProofs -dsimp +contextual (maxSteps := 5000000) (disch := first | omega | simp only [go_sem] <;> omega | refine ib ?_; kernel_rfl) only [go_sem, Nat.reduceBEq, Int.reduceNeg, Int.reduceLT, Int.reduceLE, Int.reduceAdd, Int.reduceSub, Int.reduceToNat, Int.reduceMul, Int.reduceMod, Int.reduceTMod, Int.reduceTDiv, Int.reduceEq, Nat.reducePow, Nat.reduceDiv, Nat.reduceShiftRight, Nat.reduceMod, List.reduceReplicate, ↓reduceIte, Nat.reduceEqDiff, Nat.reduceAdd, Nat.reduceSub, Nat.reduceLeDiff, Nat.reduceLT, Nat.reduceMul]
  have hlen := carrR_len n
  have hget := carrG_get (n ++ [0, 0, 0, 0]) 0
  have hle := carG_le 0 (n ++ [0, 0, 0, 0]) (by omega) (by
    intro x hx
    simp only [List.mem_append, List.mem_cons, List.not_mem_nil, or_false, or_self] at hx
    rcases hx with hx | rfl
    · exact hb x hx
    · omega)
  have hstep : ∀ i, carG 0 (n ++ [0, 0, 0, 0]) (i + 1) = (carG 0 (n ++ [0, 0, 0, 0]) i + (n ++ [0, 0, 0, 0]).getD i 0) / 256 := fun i => rfl
  change ∀ i (h : i < (carrR n).length), (carrR n)[i] = _ at hget
  have h0 : carG 0 (n ++ [0, 0, 0, 0]) 0 = 0 := rfl
  generalize carrR n = A at *
  generalize hG : carG 0 (n ++ [0, 0, 0, 0]) = G at *
  have z1 := fillN_zero A
  rw [hlen] at z1
  refine kLoop_rec (fun (i : Nat) f H => f 0 = .slice 1 (n.map nR) ∧ f 3 = .int .i64 (G i : Int) ∧ f 4 = .osl 109 1 0 (n.length + 4) ∧ f 5 = .int .i64 (i : Int) ∧ H 109 = ⟨1, .live, 1, (fillN A i).map nR, true⟩ ∧ i ≤ n.length + 4) (fun i => n.length + 4 - i) (fun _ => some (.usl 1 (A.map nR), [])) ?_ 0 _ _ ?_
  rotate_left
  · refine ⟨rfl, by rw [h0]; rfl, rfl, rfl, ?_, by omega⟩
    rw [z1, List.map_replicate]; rfl
  rintro i f H ⟨f0, f3, f4, f5, H109, hi⟩ ih
  have hf := fillN_len A i (by omega)
  by_cases hl : i < n.length + 4
  · have hA := hget i (by omega)
    have hG1 := hle i
    have hs := hstep i
    by_cases h2 : i < n.length
    · have e : (n ++ [0, 0, 0, 0]).getD i 0 = n[i] := by rw [getD_at _ _ (by simp; omega), List.getElem_append_left h2]
      have hbi := hb _ (List.getElem_mem h2)
      rw [e] at hA hs
      simp -implicitDefEqProofs -dsimp +contextual (maxSteps := 5000000) (disch := first | omega | simp only [go_sem] <;> omega | refine ib ?_; kernel_rfl) only [go_sem, Nat.reduceBEq, Int.reduceNeg, Int.reduceLT, Int.reduceLE, Int.reduceAdd, Int.reduceSub, Int.reduceToNat, Int.reduceMul, Int.reduceMod, Int.reduceTMod, Int.reduceTDiv, Int.reduceEq, Nat.reducePow, Nat.reduceDiv, Nat.reduceShiftRight, Nat.reduceMod, List.reduceReplicate, ↓reduceIte, Nat.reduceEqDiff, Nat.reduceAdd, Nat.reduceSub, Nat.reduceLeDiff, Nat.reduceLT, Nat.reduceMul, f0, f3, f4, f5, H109, hl, h2, hf, hlen]
      rw [← hA, ← hs, fillN_set _ _ (by omega)]
      exact ih (i + 1) _ _ ⟨f0, rfl, f4, rfl, rfl, by omega⟩ (by omega)
    · have e : (n ++ [0, 0, 0, 0]).getD i 0 = 0 := by
        exact pad4 n i (by omega)
      simp only [e, Nat.add_zero] at hA hs
      simp -implicitDefEqProofs -dsimp +contextual (maxSteps := 5000000) (disch := first | omega | simp only [go_sem] <;> omega | refine ib ?_; kernel_rfl) only [go_sem, Nat.reduceBEq, Int.reduceNeg, Int.reduceLT, Int.reduceLE, Int.reduceAdd, Int.reduceSub, Int.reduceToNat, Int.reduceMul, Int.reduceMod, Int.reduceTMod, Int.reduceTDiv, Int.reduceEq, Nat.reducePow, Nat.reduceDiv, Nat.reduceShiftRight, Nat.reduceMod, List.reduceReplicate, ↓reduceIte, Nat.reduceEqDiff, Nat.reduceAdd, Nat.reduceSub, Nat.reduceLeDiff, Nat.reduceLT, Nat.reduceMul, f0, f3, f4, f5, H109, hl, h2, hf, hlen]
      rw [← hA, ← hs, fillN_set _ _ (by omega)]
      exact ih (i + 1) _ _ ⟨f0, rfl, f4, rfl, rfl, by omega⟩ (by omega)
  · obtain rfl : i = n.length + 4 := by omega
    rw [fillN_all _ _ (by omega)] at H109
    simp -implicitDefEqProofs -dsimp +contextual (maxSteps := 5000000) (disch := first | omega | simp only [go_sem] <;> omega | refine ib ?_; kernel_rfl) only [go_sem, Nat.reduceBEq, Int.reduceNeg, Int.reduceLT, Int.reduceLE, Int.reduceAdd, Int.reduceSub, Int.reduceToNat, Int.reduceMul, Int.reduceMod, Int.reduceTMod, Int.reduceTDiv, Int.reduceEq, Nat.reducePow, Nat.reduceDiv, Nat.reduceShiftRight, Nat.reduceMod, List.reduceReplicate, ↓reduceIte, Nat.reduceEqDiff, Nat.reduceAdd, Nat.reduceSub, Nat.reduceLeDiff, Nat.reduceLT, Nat.reduceMul, f0, f3, f4, f5, H109, hl, hlen]

end Go.Proofs.YtccfjidpdlfenaaGreatDoor
namespace Go.Proofs.YtccfjidpdlfenaaGreatDoor
open Go.Am
set_option linter.unusedSimpArgs false
set_option linter.unusedVariables false
set_option maxRecDepth 100000
/-! Layer 7, by the document: folding, products. -/
theorem rowG_le (x M : Nat) : ∀ (bs out : List Nat) (j B : Nat), (∀ z ∈ out, z ≤ B) → (∀ y ∈ bs, x * y ≤ M) → ∀ z ∈ rowG x out j bs, z ≤ B + M * bs.length
  | [], out, j, B, h, _ => by simpa [rowG] using h
  | y :: bs, out, j, B, h, hy => by
    intro z hz
    rw [rowG] at hz
    have hM := hy y (by simp)
    have := rowG_le x M bs (out.set j (out.getD j 0 + x * y)) (j + 1) (B + M) (fun w hw => by
      rcases List.mem_or_eq_of_mem_set hw with hw | rfl
      · have := h w hw; omega
      · by_cases hj : j < out.length
        · rw [getD_at _ _ hj]; have := h _ (List.getElem_mem hj); omega
        · have : out.getD j 0 = 0 := by simp [List.getD_eq_getElem?_getD, List.getElem?_eq_none (Nat.le_of_not_lt hj)]
          omega) (fun w hw => hy w (List.mem_cons_of_mem _ hw)) z hz
    rw [List.length_cons, Nat.mul_succ]; omega
theorem rowG_drop (x : Nat) (out b : List Nat) (i k : Nat) (h : k < b.length) (hj : i + k < out.length) : rowG x out (i + k) (b.drop k) = rowG x (out.set (i + k) (out[i + k] + x * b[k])) (i + (k + 1)) (b.drop (k + 1)) := by
  rw [List.drop_eq_getElem_cons h, rowG, getD_at _ _ hj]; rfl
theorem set_le {out : List Nat} {j v B : Nat} (h : ∀ z ∈ out, z ≤ B) (hv : v ≤ B) : ∀ z ∈ out.set j v, z ≤ B := fun w hw => by
  rcases List.mem_or_eq_of_mem_set hw with hw | rfl
  · exact h w hw
  · exact hv
theorem le_weak {out : List Nat} {B B' : Nat} (h : ∀ z ∈ out, z ≤ B) (hb : B ≤ B') : ∀ z ∈ out, z ≤ B' := fun z hz => Nat.le_trans (h z hz) hb
def fold0 (n : List Nat) : List Nat := n.take 16 ++ ((n.getD 16 0 % 4) :: List.replicate 7 0)
theorem fold0_len (n : List Nat) (h : 17 ≤ n.length) : (fold0 n).length = 24 := by simp [fold0]; omega
theorem fold0_set (n : List Nat) (h : 17 ≤ n.length) : (n.take 17 ++ List.replicate 7 0).set 16 (n[16] % 4) = fold0 n := by
  unfold fold0
  rw [List.take_succ_eq_append_getElem (by omega), getD_at _ _ (by omega), List.append_assoc, List.set_append_right _ _ (by simp; omega), List.length_take, Nat.min_eq_left (by omega)]
  rfl
theorem fold0_zero (n : List Nat) (h : 17 ≤ n.length) (h2 : 0 < (fold0 n).length) : (fold0 n)[0] = n[0] := by
  simp only [fold0]
  rw [List.getElem_append_left (by simp; omega), List.getElem_take]
theorem foldR_eq (n : List Nat) (h : 17 ≤ n.length) : foldR n = rowG 320 ((fold0 n).set 0 (n[0] + n[16] / 4 * 5)) 0 (n.drop 17) := by
  rw [foldR, getD_at n 0 (by omega), getD_at n 16 (by omega)]
  congr 2
  rw [fold0, getD_at n 16 (by omega)]
theorem fold0_le (n : List Nat) (h : Dg n) : ∀ z ∈ fold0 n, z ≤ 1000 := by
  intro z hz
  simp only [fold0, List.mem_append, List.mem_cons, List.mem_replicate] at hz
  rcases hz with hz | rfl | ⟨_, rfl⟩
  · have := h z (List.mem_of_mem_take hz); omega
  · omega
  · omega
theorem foldR_le (n : List Nat) (h : Dg n) (hl : 17 ≤ n.length) : ∀ z ∈ foldR n, z ≤ 2000 + 90000 * n.length := by
  rw [foldR_eq n hl]
  intro z hz
  have := rowG_le 320 90000 (n.drop 17) _ 0 2000 (set_le (le_weak (fold0_le n h) (by omega)) (by
    have h1 := h _ (List.getElem_mem (show 0 < n.length by omega))
    have h2 := h _ (List.getElem_mem (show 16 < n.length by omega))
    omega)) (fun y hy => by have := h y (List.mem_of_mem_drop hy); omega) z hz
  rw [List.length_drop] at this
  have : 90000 * (n.length - 17) ≤ 90000 * n.length := Nat.mul_le_mul_left _ (by omega)
  omega
def foldT (n : List Nat) (i : Nat) (out : List Nat) : List Nat := if i = 16 then rowG 320 (out.set 0 (out.getD 0 0 + n.getD 16 0 / 4 * 5)) 0 (n.drop 17) else rowG 320 out (i - 17) (n.drop i)
set_option maxHeartbeats 4000000 in
@[go_sem] theorem e139 (n : List Nat) (h17 : 17 ≤ n.length) (hn : n.length ≤ 41) (hd : Dg n) : fn C 139 [] [.slice 1 (n.map nR)] = some (.slice 1 ((foldR n).map nR), []) := by
  rw [fn_text Tryz.func139 rfl rfl Tryz.results139 fq139.1 rfl rfl (by kernel_rfl)]
  simp -implicitDefEqProofs -dsimp +contextual (maxSteps := 5000000) (disch := first | omega | simp only [go_sem] <;> omega | refine ib ?_; kernel_rfl) only [go_sem, Nat.reduceBEq, Int.reduceNeg, Int.reduceLT, Int.reduceLE, Int.reduceAdd, Int.reduceSub, Int.reduceToNat, Int.reduceMul, Int.reduceMod, Int.reduceTMod, Int.reduceTDiv, Int.reduceEq, Nat.reducePow, Nat.reduceDiv, Nat.reduceShiftRight, Nat.reduceMod, List.reduceReplicate, ↓reduceIte, Nat.reduceEqDiff, Nat.reduceAdd, Nat.reduceSub, Nat.reduceLeDiff, Nat.reduceLT, Nat.reduceMul]
  have hA : (n.take 17 ++ List.replicate 7 0).length = 24 := by simp; omega
  have hget : ∀ (i : Nat) (_ : i < 17) (h2 : i < (n.take 17 ++ List.replicate 7 0).length) (h3 : i < n.length), (n.take 17 ++ List.replicate 7 0)[i] = n[i] := fun i hi h2 h3 => by
    rw [List.getElem_append_left (by simp; omega), List.getElem_take]
  have hfl : fillN (n.take 17 ++ List.replicate 7 0) 17 = n.take 17 ++ List.replicate 7 0 := by
    have := fillN_tail (n.take 17 ++ List.replicate 7 0) 17 7 (by omega) (by omega)
    rw [List.take_left' (by simp; omega)] at this
    exact this
  have hset := fold0_set n h17
  have h0 := fold0_zero n h17
  have h0l := fold0_len n h17
  have hfe := foldR_eq n h17
  have hfb := fold0_le n hd
  generalize n.take 17 ++ List.replicate 7 0 = A at *
  generalize fold0 n = B at *
  have z1 := fillN_zero A
  rw [hA] at z1
  refine kLoop_rec (fun (i : Nat) f H => f 0 = .slice 1 (n.map nR) ∧ f 3 = .osl 107 1 0 24 ∧ f 4 = .int .i64 (i : Int) ∧ H 107 = ⟨1, .live, 1, (fillN A i).map nR, true⟩ ∧ i ≤ 17) (fun i => 17 - i) (fun _ => some (.slice 1 ((foldR n).map nR), [])) ?_ 0 _ _ ?_
  rotate_left
  · refine ⟨rfl, rfl, rfl, ?_, by omega⟩
    rw [z1]; rfl
  rintro i f H ⟨f0, f3, f4, H107, hi⟩ ih
  have hf := fillN_len A i (by omega)
  by_cases hl : i < 17
  · have hAi := hget i hl (by omega) (by omega)
    simp -implicitDefEqProofs -dsimp +contextual (maxSteps := 5000000) (disch := first | omega | simp only [go_sem] <;> omega | refine ib ?_; kernel_rfl) only [go_sem, Nat.reduceBEq, Int.reduceNeg, Int.reduceLT, Int.reduceLE, Int.reduceAdd, Int.reduceSub, Int.reduceToNat, Int.reduceMul, Int.reduceMod, Int.reduceTMod, Int.reduceTDiv, Int.reduceEq, Nat.reducePow, Nat.reduceDiv, Nat.reduceShiftRight, Nat.reduceMod, List.reduceReplicate, ↓reduceIte, Nat.reduceEqDiff, Nat.reduceAdd, Nat.reduceSub, Nat.reduceLeDiff, Nat.reduceLT, Nat.reduceMul, f0, f3, f4, H107, hl, hf, hA]
    rw [← hAi, fillN_set _ _ (by omega)]
    exact ih (i + 1) _ _ ⟨f0, f3, rfl, rfl, by omega⟩ (by omega)
  · obtain rfl : i = 17 := by omega
    rw [hfl] at H107
    simp -implicitDefEqProofs -dsimp +contextual (maxSteps := 5000000) (disch := first | omega | simp only [go_sem] <;> omega | refine ib ?_; kernel_rfl) only [go_sem, Nat.reduceBEq, Int.reduceNeg, Int.reduceLT, Int.reduceLE, Int.reduceAdd, Int.reduceSub, Int.reduceToNat, Int.reduceMul, Int.reduceMod, Int.reduceTMod, Int.reduceTDiv, Int.reduceEq, Nat.reducePow, Nat.reduceDiv, Nat.reduceShiftRight, Nat.reduceMod, List.reduceReplicate, ↓reduceIte, Nat.reduceEqDiff, Nat.reduceAdd, Nat.reduceSub, Nat.reduceLeDiff, Nat.reduceLT, Nat.reduceMul, f0, f3, f4, H107, hl, hA, hset]
    clear H107 f4 ih
    have hR : foldR n = foldT n 16 B := by
      rw [hfe, foldT, if_pos rfl, getD_at _ _ (by omega), getD_at _ _ (by omega), h0]
    rw [hR]
    refine kLoop_rec2 (fun (i : Nat) (out : List Nat) f H => f 0 = .slice 1 (n.map nR) ∧ f 3 = .osl 107 1 0 24 ∧ f 5 = .int .i64 (i : Int) ∧ H 107 = ⟨1, .live, 1, out.map nR, true⟩ ∧ 16 ≤ i ∧ i ≤ n.length ∧ out.length = 24 ∧ ∀ z ∈ out, z ≤ 1000 + 100000 * (i - 16)) (fun i _ => n.length - i) (fun i out => some (.slice 1 ((foldT n i out).map nR), [])) ?_ 16 B _ _ ⟨f0, f3, rfl, rfl, by omega, by omega, h0l, by simpa using hfb⟩
    clear f0 f3
    rintro i out f H ⟨f0, f3, f5, H107, hi1, hi2, ho, hob⟩ ih
    by_cases hl : i < n.length
    · have hb := hd _ (List.getElem_mem hl)
      by_cases h16 : i = 16
      · subst h16
        have ho0 := hob _ (List.getElem_mem (show 0 < out.length by omega))
        have e1 : n[16] - n[16] % 4 = n[16] / 4 * 4 := by omega
        have e2 : n[16] / 4 * 4 / 4 = n[16] / 4 := by omega
        simp -implicitDefEqProofs -dsimp +contextual (maxSteps := 5000000) (disch := first | omega | simp only [go_sem] <;> omega | refine ib ?_; kernel_rfl) only [go_sem, Nat.reduceBEq, Int.reduceNeg, Int.reduceLT, Int.reduceLE, Int.reduceAdd, Int.reduceSub, Int.reduceToNat, Int.reduceMul, Int.reduceMod, Int.reduceTMod, Int.reduceTDiv, Int.reduceEq, Nat.reducePow, Nat.reduceDiv, Nat.reduceShiftRight, Nat.reduceMod, List.reduceReplicate, ↓reduceIte, Nat.reduceEqDiff, Nat.reduceAdd, Nat.reduceSub, Nat.reduceLeDiff, Nat.reduceLT, Nat.reduceMul, f0, f3, f5, H107, hl, ho, e1, e2]
        have hs := set_le (j := 0) (le_weak hob (show 1000 + 100000 * (16 - 16) ≤ 1000 + 100000 * (17 - 16) by omega)) (show out[0] + n[16] / 4 * 5 ≤ _ by omega)
        refine Eq.trans (ih 17 (out.set 0 (out[0] + n[16] / 4 * 5)) _ _ (by exact ⟨f0, f3, rfl, rfl, by omega, by omega, by simpa using ho, hs⟩) (by omega)) ?_
        rw [foldT, foldT, if_pos rfl, if_neg (by omega), getD_at _ _ (by omega), getD_at _ _ (by omega)]
      · have hoi := hob _ (List.getElem_mem (show i - 17 < out.length by omega))
        have e5 : (i : Int) - 17 = ((i - 17 : Nat) : Int) := by omega
        simp -implicitDefEqProofs -dsimp +contextual (maxSteps := 5000000) (disch := first | omega | simp only [go_sem] <;> omega | refine ib ?_; kernel_rfl) only [go_sem, Nat.reduceBEq, Int.reduceNeg, Int.reduceLT, Int.reduceLE, Int.reduceAdd, Int.reduceSub, Int.reduceToNat, Int.reduceMul, Int.reduceMod, Int.reduceTMod, Int.reduceTDiv, Int.reduceEq, Nat.reducePow, Nat.reduceDiv, Nat.reduceShiftRight, Nat.reduceMod, List.reduceReplicate, ↓reduceIte, Nat.reduceEqDiff, Nat.reduceAdd, Nat.reduceSub, Nat.reduceLeDiff, Nat.reduceLT, Nat.reduceMul, f0, f3, f5, H107, hl, h16, ho, e5]
        have hs := set_le (j := i - 17) (le_weak hob (show 1000 + 100000 * (i - 16) ≤ 1000 + 100000 * (i + 1 - 16) by omega)) (show out[i - 17] + n[i] * 64 * 5 ≤ _ by omega)
        refine Eq.trans (ih (i + 1) (out.set (i - 17) (out[i - 17] + n[i] * 64 * 5)) _ _ (by exact ⟨f0, f3, rfl, rfl, by omega, by omega, by simpa using ho, hs⟩) (by omega)) ?_
        rw [foldT, foldT, if_neg h16, if_neg (by omega)]
        rw [List.drop_eq_getElem_cons hl, rowG, getD_at _ _ (by omega), show 320 * n[i] = n[i] * 64 * 5 by omega, show i + 1 - 17 = i - 17 + 1 by omega]
    · obtain rfl : i = n.length := by omega
      simp -implicitDefEqProofs -dsimp +contextual (maxSteps := 5000000) (disch := first | omega | simp only [go_sem] <;> omega | refine ib ?_; kernel_rfl) only [go_sem, Nat.reduceBEq, Int.reduceNeg, Int.reduceLT, Int.reduceLE, Int.reduceAdd, Int.reduceSub, Int.reduceToNat, Int.reduceMul, Int.reduceMod, Int.reduceTMod, Int.reduceTDiv, Int.reduceEq, Nat.reducePow, Nat.reduceDiv, Nat.reduceShiftRight, Nat.reduceMod, List.reduceReplicate, ↓reduceIte, Nat.reduceEqDiff, Nat.reduceAdd, Nat.reduceSub, Nat.reduceLeDiff, Nat.reduceLT, Nat.reduceMul, f0, f3, f5, H107, hl, ho]
      rw [foldT]
      split
      · omega
      · simp [rowG]

end Go.Proofs.YtccfjidpdlfenaaGreatDoor
namespace Go.Proofs.YtccfjidpdlfenaaGreatDoor
open Go.Am
set_option linter.unusedSimpArgs false
set_option linter.unusedVariables false
set_option maxRecDepth 100000
/-! Layer 7, by the document: products, least numbers, tags. -/
def foldsR (n : List Nat) : List Nat := carrR (foldR (carrR (foldR (carrR (foldR (carrR (foldR (carrR n))))))))
def mulR (a b : List Nat) : List Nat := (foldsR (convG b (List.replicate 34 0) 0 a)).take 17
theorem convG_drop (b out a : List Nat) (i : Nat) (h : i < a.length) : convG b out i (a.drop i) = convG b (rowG a[i] out i b) (i + 1) (a.drop (i + 1)) := by
  rw [List.drop_eq_getElem_cons h, convG]
set_option maxHeartbeats 8000000 in
@[go_sem] theorem e121 (a b : List Nat) (ha : a.length = 17) (hb : b.length = 17) (ha2 : ∀ x ∈ a, x ≤ 1000) (hb2 : Dg b) : fn C 121 [] [.slice 1 (a.map nR), .slice 1 (b.map nR)] = some (.slice 1 ((mulR a b).map nR), []) := by
  rw [fn_text Tryz.func121 rfl rfl Tryz.results121 fq121.1 rfl rfl (by kernel_rfl)]
  simp -implicitDefEqProofs -dsimp +contextual (maxSteps := 5000000) (disch := first | omega | simp only [go_sem] <;> omega | refine ib ?_; kernel_rfl) only [go_sem, Nat.reduceBEq, Int.reduceNeg, Int.reduceLT, Int.reduceLE, Int.reduceAdd, Int.reduceSub, Int.reduceToNat, Int.reduceMul, Int.reduceMod, Int.reduceTMod, Int.reduceTDiv, Int.reduceEq, Nat.reducePow, Nat.reduceDiv, Nat.reduceShiftRight, Nat.reduceMod, List.reduceReplicate, ↓reduceIte, Nat.reduceEqDiff, Nat.reduceAdd, Nat.reduceSub, Nat.reduceLeDiff, Nat.reduceLT, Nat.reduceMul]
  rw [mulR]
  refine kLoop_rec2 (fun (i : Nat) (out : List Nat) f H => f 0 = .slice 1 (a.map nR) ∧ f 1 = .slice 1 (b.map nR) ∧ f 5 = .osl 110 1 0 34 ∧ f 6 = .int .i64 (i : Int) ∧ H 110 = ⟨1, .live, 1, out.map nR, true⟩ ∧ (∀ k, 111 ≤ k → H k = ⟨0, .dead, 0, [], false⟩) ∧ i ≤ 17 ∧ out.length = 34 ∧ ∀ z ∈ out, z ≤ 10000000 * i) (fun i _ => 17 - i) (fun i out => some (.slice 1 (((foldsR (convG b out i (a.drop i))).take 17).map nR), [])) ?_ 0 (List.replicate 34 0) _ _ ?_
  rotate_left
  · exact ⟨rfl, rfl, rfl, rfl, rfl, heap_far (m := 111) (far_nil _) (by omega), by omega, rfl, by simp⟩
  rintro i out f H ⟨f0, f1, f5, f6, H110, hf, hi, ho, hob⟩ ih
  by_cases hl : i < 17
  · rw [convG_drop b out a i (by omega)]
    simp -implicitDefEqProofs -dsimp +contextual (maxSteps := 5000000) (disch := first | omega | simp only [go_sem] <;> omega | refine ib ?_; kernel_rfl) only [go_sem, Nat.reduceBEq, Int.reduceNeg, Int.reduceLT, Int.reduceLE, Int.reduceAdd, Int.reduceSub, Int.reduceToNat, Int.reduceMul, Int.reduceMod, Int.reduceTMod, Int.reduceTDiv, Int.reduceEq, Nat.reducePow, Nat.reduceDiv, Nat.reduceShiftRight, Nat.reduceMod, List.reduceReplicate, ↓reduceIte, Nat.reduceEqDiff, Nat.reduceAdd, Nat.reduceSub, Nat.reduceLeDiff, Nat.reduceLT, Nat.reduceMul, f0, f1, f5, f6, H110, hl, ho]
    have hR : rowG a[i] out i b = rowG a[i] out (i + 0) (b.drop 0) := rfl
    rw [hR]
    have hai := ha2 _ (List.getElem_mem (show i < a.length by omega))
    refine kLoop_rec2 (fun (k : Nat) (out : List Nat) f H => f 0 = .slice 1 (a.map nR) ∧ f 1 = .slice 1 (b.map nR) ∧ f 5 = .osl 110 1 0 34 ∧ f 6 = .int .i64 (i : Int) ∧ f 7 = .int .i64 (k : Int) ∧ H 110 = ⟨1, .live, 1, out.map nR, true⟩ ∧ (∀ k, 111 ≤ k → H k = ⟨0, .dead, 0, [], false⟩) ∧ k ≤ 17 ∧ out.length = 34 ∧ ∀ z ∈ out, z ≤ 10000000 * i + 300000 * k) (fun k _ => 17 - k) (fun k out => some (.slice 1 (((foldsR (convG b (rowG a[i] out (i + k) (b.drop k)) (i + 1) (a.drop (i + 1)))).take 17).map nR), [])) ?_ 0 out _ _ ⟨f0, f1, f5, f6, rfl, H110, hf, by omega, ho, by simpa using hob⟩
    clear f0 f1 f5 f6 H110 hf ho hob hR
    rintro k out f H ⟨f0, f1, f5, f6, f7, H110, hf, hk, ho, hob⟩ ih2
    by_cases hl2 : k < 17
    · have hx := hob _ (List.getElem_mem (show i + k < out.length by omega))
      have hbk := hb2 _ (List.getElem_mem (show k < b.length by omega))
      have hm : a[i] * b[k] ≤ 255000 := Nat.le_trans (Nat.mul_le_mul hai (show b[k] ≤ 255 by omega)) (by decide)
      have hs := set_le (j := i + k) (le_weak hob (show 10000000 * i + 300000 * k ≤ 10000000 * i + 300000 * (k + 1) by omega)) (show out[i + k] + a[i] * b[k] ≤ _ by omega)
      simp -implicitDefEqProofs -dsimp +contextual (maxSteps := 5000000) (disch := first | omega | simp only [go_sem] <;> omega | refine ib ?_; kernel_rfl) only [go_sem, Nat.reduceBEq, Int.reduceNeg, Int.reduceLT, Int.reduceLE, Int.reduceAdd, Int.reduceSub, Int.reduceToNat, Int.reduceMul, Int.reduceMod, Int.reduceTMod, Int.reduceTDiv, Int.reduceEq, Nat.reducePow, Nat.reduceDiv, Nat.reduceShiftRight, Nat.reduceMod, List.reduceReplicate, ↓reduceIte, Nat.reduceEqDiff, Nat.reduceAdd, Nat.reduceSub, Nat.reduceLeDiff, Nat.reduceLT, Nat.reduceMul, f0, f1, f5, f6, f7, H110, hl, hl2, ho, ha, hb]
      refine Eq.trans (ih2 (k + 1) (out.set (i + k) (out[i + k] + a[i] * b[k])) _ _ (by exact ⟨f0, f1, f5, f6, rfl, rfl, heap_far hf (by omega), by omega, by simpa using ho, hs⟩) (by omega)) ?_
      rw [← rowG_drop _ _ _ _ _ (by omega) (by omega)]
    · obtain rfl : k = 17 := by omega
      simp -implicitDefEqProofs -dsimp +contextual (maxSteps := 5000000) (disch := first | omega | simp only [go_sem] <;> omega | refine ib ?_; kernel_rfl) only [go_sem, Nat.reduceBEq, Int.reduceNeg, Int.reduceLT, Int.reduceLE, Int.reduceAdd, Int.reduceSub, Int.reduceToNat, Int.reduceMul, Int.reduceMod, Int.reduceTMod, Int.reduceTDiv, Int.reduceEq, Nat.reducePow, Nat.reduceDiv, Nat.reduceShiftRight, Nat.reduceMod, List.reduceReplicate, ↓reduceIte, Nat.reduceEqDiff, Nat.reduceAdd, Nat.reduceSub, Nat.reduceLeDiff, Nat.reduceLT, Nat.reduceMul, f0, f1, f5, f6, f7, H110, hl, hl2, ho, ha, hb]
      refine Eq.trans (ih (i + 1) out _ _ (by exact ⟨f0, f1, f5, rfl, H110, hf, by omega, ho, le_weak hob (show 10000000 * i + 300000 * 17 ≤ 10000000 * (i + 1) by omega)⟩) (by omega)) ?_
      rw [rowG]
  · obtain rfl : i = 17 := by omega
    rw [List.drop_of_length_le (show a.length ≤ 17 by omega), convG]
    have H141 := hf 141 (by omega)
    have H147 := hf 147 (by omega)
    have H148 := hf 148 (by omega)
    have hob2 : ∀ z ∈ out, z ≤ 1000000000000 := le_weak hob (by omega)
    have s1 := carrR_len out
    have d1 := carrR_dg out
    have w1 := foldR_len (carrR out) (by omega)
    have v1 := le_weak (foldR_le (carrR out) d1 (by omega)) (show _ ≤ 1000000000000 by omega)
    have s2 := carrR_len (foldR (carrR out))
    have d2 := carrR_dg (foldR (carrR out))
    have w2 := foldR_len (carrR (foldR (carrR out))) (by omega)
    have v2 := le_weak (foldR_le (carrR (foldR (carrR out))) d2 (by omega)) (show _ ≤ 1000000000000 by omega)
    have s3 := carrR_len (foldR (carrR (foldR (carrR out))))
    have d3 := carrR_dg (foldR (carrR (foldR (carrR out))))
    have w3 := foldR_len (carrR (foldR (carrR (foldR (carrR out))))) (by omega)
    have v3 := le_weak (foldR_le (carrR (foldR (carrR (foldR (carrR out))))) d3 (by omega)) (show _ ≤ 1000000000000 by omega)
    have s4 := carrR_len (foldR (carrR (foldR (carrR (foldR (carrR out))))))
    have d4 := carrR_dg (foldR (carrR (foldR (carrR (foldR (carrR out))))))
    have w4 := foldR_len (carrR (foldR (carrR (foldR (carrR (foldR (carrR out))))))) (by omega)
    have v4 := le_weak (foldR_le (carrR (foldR (carrR (foldR (carrR (foldR (carrR out))))))) d4 (by omega)) (show _ ≤ 1000000000000 by omega)
    have s5 := carrR_len (foldR (carrR (foldR (carrR (foldR (carrR (foldR (carrR out))))))))
    simp -implicitDefEqProofs -dsimp +contextual (maxSteps := 5000000) (disch := first | omega | simp only [go_sem] <;> omega | refine ib ?_; kernel_rfl) only [go_sem, Nat.reduceBEq, Int.reduceNeg, Int.reduceLT, Int.reduceLE, Int.reduceAdd, Int.reduceSub, Int.reduceToNat, Int.reduceMul, Int.reduceMod, Int.reduceTMod, Int.reduceTDiv, Int.reduceEq, Nat.reducePow, Nat.reduceDiv, Nat.reduceShiftRight, Nat.reduceMod, List.reduceReplicate, ↓reduceIte, Nat.reduceEqDiff, Nat.reduceAdd, Nat.reduceSub, Nat.reduceLeDiff, Nat.reduceLT, Nat.reduceMul, f0, f1, f5, f6, H110, hl, ho, H141, H147, H148, kLoop_eq, s1, w1, s2, w2, s3, w3, s4, w4, s5]
    rfl

/-- The least number of its kind. -/
def leastR (n : List Nat) : List Nat :=
  let m := carrR (n.set 0 (n.getD 0 0 + 5))
  if m.getD 16 0 < 4 ∧ m.getD 17 0 = 0 then n else (m.set 16 (m.getD 16 0 % 4)).take 17
theorem lt_of_getElem {α : Type} (l : List α) (k n : Nat) (h : l.length = n) (hk : k < n) : k < l.length := by omega
set_option maxHeartbeats 4000000 in
@[go_sem] theorem e122 (n : List Nat) (hn : n.length = 17) (hd : Dg n) : fn C 122 [] [.slice 1 (n.map nR)] = some (.slice 1 ((leastR n).map nR), []) := by
  rw [fn_text Tryz.func122 rfl rfl Tryz.results122 fq122.1 rfl rfl (by kernel_rfl)]
  have h0 := hd _ (List.getElem_mem (show 0 < n.length by omega))
  have hl := carrR_len (n.set 0 (n[0] + 5))
  have hl2 : (carrR (n.set 0 (n[0] + 5))).length = 21 := by rw [hl]; simp; omega
  have hb : ∀ x ∈ n.set 0 (n[0] + 5), x ≤ 1000000000000 := set_le (fun z hz => by have := hd z hz; omega) (by omega)
  have hs : (n.set 0 (n[0] + 5)).length = 17 := by simp; omega
  have e0 : leastR n = if (carrR (n.set 0 (n[0] + 5)))[16] < 4 ∧ (carrR (n.set 0 (n[0] + 5)))[17] = 0 then n else ((carrR (n.set 0 (n[0] + 5))).set 16 ((carrR (n.set 0 (n[0] + 5)))[16] % 4)).take 17 := by
    simp only [leastR]
    rw [getD_at n 0 (by omega), getD_at _ 16 (by omega), getD_at _ 17 (by omega)]
  rw [e0]
  have hd2 := carrR_dg (n.set 0 (n[0] + 5))
  have h16 := hd2 _ (List.getElem_mem (show 16 < (carrR (n.set 0 (n[0] + 5))).length by omega))
  by_cases c1 : (carrR (n.set 0 (n[0] + 5)))[16] < 4
  · by_cases c2 : (carrR (n.set 0 (n[0] + 5)))[17] = 0
    · simp -implicitDefEqProofs -dsimp +contextual (maxSteps := 5000000) (disch := first | omega | simp only [go_sem] <;> omega | refine ib ?_; kernel_rfl) only [go_sem, Nat.reduceBEq, Int.reduceNeg, Int.reduceLT, Int.reduceLE, Int.reduceAdd, Int.reduceSub, Int.reduceToNat, Int.reduceMul, Int.reduceMod, Int.reduceTMod, Int.reduceTDiv, Int.reduceEq, Nat.reducePow, Nat.reduceDiv, Nat.reduceShiftRight, Nat.reduceMod, List.reduceReplicate, ↓reduceIte, Nat.reduceEqDiff, Nat.reduceAdd, Nat.reduceSub, Nat.reduceLeDiff, Nat.reduceLT, Nat.reduceMul, hn, hs, hl2, c1, c2]
    · simp -implicitDefEqProofs -dsimp +contextual (maxSteps := 5000000) (disch := first | omega | simp only [go_sem] <;> omega | refine ib ?_; kernel_rfl) only [go_sem, Nat.reduceBEq, Int.reduceNeg, Int.reduceLT, Int.reduceLE, Int.reduceAdd, Int.reduceSub, Int.reduceToNat, Int.reduceMul, Int.reduceMod, Int.reduceTMod, Int.reduceTDiv, Int.reduceEq, Nat.reducePow, Nat.reduceDiv, Nat.reduceShiftRight, Nat.reduceMod, List.reduceReplicate, ↓reduceIte, Nat.reduceEqDiff, Nat.reduceAdd, Nat.reduceSub, Nat.reduceLeDiff, Nat.reduceLT, Nat.reduceMul, hn, hs, hl2, c1, c2]
  · simp -implicitDefEqProofs -dsimp +contextual (maxSteps := 5000000) (disch := first | omega | simp only [go_sem] <;> omega | refine ib ?_; kernel_rfl) only [go_sem, Nat.reduceBEq, Int.reduceNeg, Int.reduceLT, Int.reduceLE, Int.reduceAdd, Int.reduceSub, Int.reduceToNat, Int.reduceMul, Int.reduceMod, Int.reduceTMod, Int.reduceTDiv, Int.reduceEq, Nat.reducePow, Nat.reduceDiv, Nat.reduceShiftRight, Nat.reduceMod, List.reduceReplicate, ↓reduceIte, Nat.reduceEqDiff, Nat.reduceAdd, Nat.reduceSub, Nat.reduceLeDiff, Nat.reduceLT, Nat.reduceMul, hn, hs, hl2, c1]

end Go.Proofs.YtccfjidpdlfenaaGreatDoor
