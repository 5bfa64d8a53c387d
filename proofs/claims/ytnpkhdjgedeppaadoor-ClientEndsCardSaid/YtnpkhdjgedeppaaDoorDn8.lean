import Derived.Test.YtnpkhdjgedeppaaDoorDn7
import Derived.Test.YtnpkhdjgedeppaaDoorBr4
/-
  The abstract machine, carried out. Part 8: small words more.
-/
namespace Go.Am
theorem sub_lit (a m : Nat) (h : OfNat.ofNat m ≤ a) : ((a : Int) - (no_index (OfNat.ofNat m : Int))) = ((a - (OfNat.ofNat m) : Nat) : Int) := by
  have : (OfNat.ofNat m : Int) = ((OfNat.ofNat m : Nat) : Int) := rfl
  rw [this]; omega
theorem flat_bytes (l : List UInt8) : (l.map byteRow).flatten = l.map w8 := by
  induction l with
  | nil => rfl
  | cons x l ih => simp only [List.map_cons, List.flatten_cons, ih]; rfl
theorem ones_take {es : List (List AVal)} (k : Nat) (h : ones es = true) : ones (es.take k) = true := List.all_eq_true.2 fun r hr => List.all_eq_true.1 h r (List.mem_of_mem_take hr)
attribute [go_sem] sub_lit flat_bytes ones_take
/-! ### Regions that are told in parts -/
section
variable (C : Cf) (ops : Array Oper) (f : Nat → AVal) (H : Heap) (s : St)
theorem rN_app (o l m K) : rN C ops (List.append (o :: l) m) ⟨f, H⟩ K = @kStep f H ⟨(C, ops, o, fun s' _ _ => rN C ops (List.append l m) s' K)⟩ := rN_cons C ops f H o _ K
theorem rN_app0 (m K) : rN C ops (List.append [] m) s K = rN C ops m s K := rfl
theorem rN_appA (a b c K) : rN C ops (List.append (List.append a b) c) s K = rN C ops (List.append a (List.append b c)) s K := by
  show rN C ops ((a ++ b) ++ c) s K = rN C ops (a ++ (b ++ c)) s K
  rw [List.append_assoc]
theorem rD_app (o l m tr K) : rD C ops (List.append (o :: l) m) ⟨f, H⟩ tr K = @kStep f H ⟨(C, ops, o, fun s' rd wr => rD C ops (List.append l m) s' (tr ++ [(rd, wr)]) K)⟩ := rD_cons C ops f H o _ tr K
theorem rD_app0 (m tr K) : rD C ops (List.append [] m) s tr K = rD C ops m s tr K := rfl
theorem rD_appA (a b c tr K) : rD C ops (List.append (List.append a b) c) s tr K = rD C ops (List.append a (List.append b c)) s tr K := by
  show rD C ops ((a ++ b) ++ c) s tr K = rD C ops (a ++ (b ++ c)) s tr K
  rw [List.append_assoc]
theorem gd_app (o l m) : gd ⟨List.append (o :: l) m⟩ 0 = o.dst := rfl
theorem gd_appS (o l m n) : gd ⟨List.append (o :: l) m⟩ (n + 1) = gd ⟨List.append l m⟩ n := gd_succ o _ n
theorem gd_app0 (m n) : gd ⟨List.append [] m⟩ n = gd ⟨m⟩ n := rfl
theorem gd_appA (a b c n) : gd ⟨List.append (List.append a b) c⟩ n = gd ⟨List.append a (List.append b c)⟩ n := by
  show gd ⟨(a ++ b) ++ c⟩ n = gd ⟨a ++ (b ++ c)⟩ n
  rw [List.append_assoc]
end
attribute [go_sem ↓] rN_app rN_app0 rN_appA rD_app rD_app0 rD_appA gd_app gd_appS gd_app0 gd_appA
end Go.Am
