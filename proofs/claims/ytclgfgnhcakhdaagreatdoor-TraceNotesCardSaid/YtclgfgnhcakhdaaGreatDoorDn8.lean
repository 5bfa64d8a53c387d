import Derived.Test.YtclgfgnhcakhdaaGreatDoorDn7
import Derived.Test.YtclgfgnhcakhdaaGreatDoorBr4
namespace Go.Am
theorem sub_lit (a m : Nat) (h : OfNat.ofNat m ≤ a) : ((a : Int) - (no_index (OfNat.ofNat m : Int))) = ((a - (OfNat.ofNat m) : Nat) : Int) := by
  have : (OfNat.ofNat m : Int) = ((OfNat.ofNat m : Nat) : Int) := rfl
  rw [this]; omega
theorem flat_bytes (l : List UInt8) : (l.map byteRow).flatten = l.map w8 := by
  induction l with
  | nil => rfl
  | cons x l ih => simp only [List.map_cons, List.flatten_cons, ih]; rfl
attribute [go_sem] sub_lit flat_bytes
section
variable (C : Cf) (ops : Array Oper) (f : Nat → AVal) (H : Heap) (s : St)
theorem rN_app0 (m K) : rN C ops (List.append [] m) s K = rN C ops m s K := rfl
theorem rD_app0 (m tr K) : rD C ops (List.append [] m) s tr K = rD C ops m s tr K := rfl
theorem gd_app (o l m) : gd ⟨List.append (o :: l) m⟩ 0 = o.dst := rfl
theorem gd_app0 (m n) : gd ⟨List.append [] m⟩ n = gd ⟨m⟩ n := rfl
end
attribute [go_sem ↓] rN_app0 rD_app0 gd_app gd_app0
end Go.Am
