import Derived.Test.YtfifgnffipdmeaaDoorTLabel
namespace Go.Proofs.YtfifgnffipdmeaaDoor
open Go.Am
set_option linter.unusedSimpArgs false
set_option linter.unusedVariables false
set_option maxRecDepth 100000
/-! Layer 1: numbers as bytes. -/
def beN (s n : Nat) : List UInt8 := (List.range s).map fun i => UInt8.ofNat (n / 2 ^ (8 * (s - 1 - i)))
@[go_sem] theorem beN_len (s n : Nat) : (beN s n).length = s := by simp [beN]
theorem beN_get (s n i : Nat) (h : i < (beN s n).length) : (beN s n)[i] = UInt8.ofNat (n / 2 ^ (8 * (s - 1 - i))) := by simp [beN]

theorem beN_drop (s n k : Nat) (hk : k < s) : (beN s n).drop (s - k - 1) = UInt8.ofNat (n / 2 ^ (8 * k)) :: (beN s n).drop (s - k) := by
  rw [List.drop_eq_getElem_cons (by rw [beN_len]; omega), beN_get, show s - 1 - (s - k - 1) = k by omega, show s - k - 1 + 1 = s - k by omega]
theorem rep_set (l t : List UInt8) (m : Nat) (x : UInt8) : (l ++ (List.replicate (m + 1) 0 ++ t)).set (l.length + m) x = l ++ (List.replicate m 0 ++ x :: t) := by
  rw [List.set_append_right _ _ (by omega), Nat.add_sub_cancel_left, List.replicate_succ', List.append_assoc, List.set_append_right _ _ (by simp)]
  simp
end Go.Proofs.YtfifgnffipdmeaaDoor
