import Derived.Test.YtclgfgnhcakhdaaGreatDoorDn4
namespace Go.Am
set_option linter.unusedSectionVars false
theorem kD_intro {β : Type} {p : Prop} [Decidable p] {a : p → Option β} {b : ¬ p → Option β} {r : Option β} (h1 : ∀ h : p, a h = r) (h2 : ∀ h : ¬ p, b h = r) : kD p a b = r := by
  unfold kD; split
  · rename_i h; exact h1 h
  · rename_i h; exact h2 h
theorem kLoop_rec {α : Type} {C : Cf} {lo : Nat} {b : Code} {Q : Exit → St → Option Res} (I : α → (Nat → AVal) → Heap → Prop) (μ : α → Nat) (R : α → Option Res)
    (step : ∀ a f H, I a f H → (∀ a' f' H', I a' f' H' → μ a' < μ a → @kLoop f' H' ⟨(C, lo, b, Q)⟩ = R a') → dw C lo b (thenK (fun s => @kLoop s.fr s.H ⟨(C, lo, b, Q)⟩) Q) ⟨f, H⟩ = R a) :
    ∀ a f H, I a f H → @kLoop f H ⟨(C, lo, b, Q)⟩ = R a := by
  have key : ∀ n a f H, μ a < n → I a f H → @kLoop f H ⟨(C, lo, b, Q)⟩ = R a := by
    intro n
    induction n with
    | zero => intro a f H h; omega
    | succ n ih =>
      intro a f H hn hI
      rw [kLoop_eq]
      exact step a f H hI fun a' f' H' hI' hlt => ih a' f' H' (by omega) hI'
  intro a f H hI
  exact key (μ a + 1) a f H (by omega) hI
theorem kFor {C : Cf} {lo : Nat} {b : Code} {Q : Exit → St → Option Res} (n : Nat) (I : Nat → (Nat → AVal) → Heap → Prop) {R : Option Res}
    (step : ∀ i f H, i < n → I i f H → (∀ f' H', I (i + 1) f' H' → @kLoop f' H' ⟨(C, lo, b, Q)⟩ = R) → dw C lo b (thenK (fun s => @kLoop s.fr s.H ⟨(C, lo, b, Q)⟩) Q) ⟨f, H⟩ = R)
    (last : ∀ f H, I n f H → dw C lo b (thenK (fun s => @kLoop s.fr s.H ⟨(C, lo, b, Q)⟩) Q) ⟨f, H⟩ = R)
    {f : Nat → AVal} {H : Heap} (h0 : I 0 f H) : @kLoop f H ⟨(C, lo, b, Q)⟩ = R := by
  refine kLoop_rec (fun i f H => i ≤ n ∧ I i f H) (fun i => n - i) (fun _ => R) ?_ 0 f H ⟨Nat.zero_le n, h0⟩
  rintro i f H ⟨hi, hI⟩ ih
  by_cases hn : i < n
  · exact step i f H hn hI fun f' H' h => ih (i + 1) f' H' ⟨hn, h⟩ (by omega)
  · obtain rfl : i = n := by omega
    exact last f H hI
theorem cast_lt (a b : Nat) : ((a : Int) < (b : Int)) = (a < b) := by simp
theorem cast_le (a b : Nat) : ((a : Int) ≤ (b : Int)) = (a ≤ b) := by simp
theorem cast_eq (a b : Nat) : ((a : Int) = (b : Int)) = (a = b) := by simp [Int.ofNat_inj]
theorem cast_add (a b : Nat) : ((a : Int) + (b : Int)) = ((a + b : Nat) : Int) := by rw [Int.natCast_add]
theorem lit_lt (k n : Nat) : ((no_index (OfNat.ofNat k : Int)) < (n : Int)) = (OfNat.ofNat k < n) := cast_lt k n
theorem lit_le (k n : Nat) : ((no_index (OfNat.ofNat k : Int)) ≤ (n : Int)) = (OfNat.ofNat k ≤ n) := cast_le k n
theorem lt_lit (k n : Nat) : ((n : Int) < (no_index (OfNat.ofNat k : Int))) = (n < OfNat.ofNat k) := cast_lt n k
theorem le_lit (k n : Nat) : ((n : Int) ≤ (no_index (OfNat.ofNat k : Int))) = (n ≤ OfNat.ofNat k) := cast_le n k
theorem eq_lit (k n : Nat) : ((n : Int) = (no_index (OfNat.ofNat k : Int))) = (n = OfNat.ofNat k) := cast_eq n k
theorem lit_eq (k n : Nat) : ((no_index (OfNat.ofNat k : Int)) = (n : Int)) = (OfNat.ofNat k = n) := cast_eq k n
attribute [go_sem] lit_lt lit_le lt_lit le_lit eq_lit lit_eq cast_lt cast_le cast_eq cast_add List.length_map List.getElem?_map
end Go.Am
