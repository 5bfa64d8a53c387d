import Derived.Test.YtccfjidpdlfenaaDoorDn7
import Derived.Test.YtccfjidpdlfenaaDoorBr4
/-
  The abstract machine, carried out. Part 8: small words more.
-/
namespace Go.Am
theorem sub_lit (a m : Nat) (h : OfNat.ofNat m ≤ a) : ((a : Int) - (no_index (OfNat.ofNat m : Int))) = ((a - (OfNat.ofNat m) : Nat) : Int) := by
  have : (OfNat.ofNat m : Int) = ((OfNat.ofNat m : Nat) : Int) := rfl
  rw [this]; omega
theorem flat_bytes (l : List UInt8) : (l.map byteRow).flatten = l.map w8 := by
  induction l with
  | nil => rfl
  | cons x l ih => simp only [List.map_cons, List.flatten_cons, ih]; rfl
attribute [go_sem] sub_lit flat_bytes
end Go.Am
