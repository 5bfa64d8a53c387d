import Derived.Test.YtbnlbdhepbbaoaaDoorTJoin
import Derived.Test.YtbnlbdhepbbaoaaDoorChecked
import Derived.Test.YtbnlbdhepbbaoaaDoorShelf
import Derived.Deep.MidRow
import Derived.WalkKit
import Derived.BigCall
namespace Go.Proofs.YtbnlbdhepbbaoaaDoor
open Go.RowKit
set_option linter.unusedSimpArgs false
set_option linter.unusedVariables false
set_option maxRecDepth 100000

/-! script.Print, walked: by what its lines are. -/
def prnAll : List (List UInt8 × Int) → List UInt8 → List UInt8 × Int
  | [], acc => (acc, 0)
  | q :: l, acc => if q.2 = 0 then prnAll l (acc ++ q.1 ++ [10]) else ([], q.2)
theorem below_setCells {B : Nat} {a w : World} (h : Below B a w) {b : Nat} (hb : B ≤ b) : ∀ (vs : List Value) (o : Nat), Below B a (w.setCells b o vs) := by
  intro vs
  induction vs generalizing w with
  | nil => intro o; exact h
  | cons v vs ih => intro o; exact ih (h.setCell (p := ⟨b, o, none⟩) hb v) (o + 1)

theorem lt_of_some {w : World} {k : Nat} {o : Obj} (h : w.heap[k]? = some o) : k < w.heap.size := by
  rcases Nat.lt_or_ge k w.heap.size with h' | h'
  · exact h'
  · simp [Array.getElem?_eq_none h'] at h
theorem bldAt_kept {T e : TypeId} {B b : Nat} {p : Value} {bs : List Value} {w w' : World} (h : Lib.BuilderAt T e B b p bs w) (hk : ∀ k, k < w.heap.size → w'.heap[k]? = w.heap[k]?) : Lib.BuilderAt T e B b p bs w' := by
  obtain ⟨hB, v, hb, hown, hne⟩ := h
  refine ⟨hB, v, (hk b (lt_of_some hb)).trans hb, ⟨hown.1, hown.2.imp id ?_⟩, hne⟩
  rintro ⟨g, cap, cur, hv, hbg, hg, rest⟩
  exact ⟨g, cap, cur, hv, hbg, (hk g (lt_of_some hg)).trans hg, rest⟩
theorem bld_kept {T e : TypeId} {B b : Nat} {bs : List Value} {w w' : World} (h : Lib.IsBuilder T e B b bs w) (hk : ∀ k, k < w.heap.size → w'.heap[k]? = w.heap[k]?) : Lib.IsBuilder T e B b bs w' :=
  h.imp (fun h => bldAt_kept h hk) (fun h => bldAt_kept h hk)

set_option maxHeartbeats 8000000 in
theorem print_walk (a : Option Addr) (cap : Nat) (qs : List (List UInt8 × Int)) (cells : Nat → List Value) (w : World)
    (hq : ∀ q ∈ qs, q.1.length ≤ 900000) (hl : qs.length ≤ 1000)
    (ha : qs ≠ [] → ∃ b off, a = some ⟨b, off, none⟩ ∧ b < w.heap.size ∧ ∀ i, i < qs.length → w.rangeAt b (off + i * 10) (cells i))
    (h10 : ∀ i, i < qs.length → ∃ (a0 a1 a2 a3 a4 a5 a6 : Int) (a7 a8 : ByteArray) (ad : Option Addr) (n1 n2 : Nat), cells i = [.int .i64 a0, .int .i64 a1, .int .i64 a2, .int .i64 a3, .int .i64 a4, .int .i64 a5, .int .u64 a6, .string a7, .string a8, .slice ad n1 n2])
    (hln : ∀ i (h : i < qs.length) wr, Below w.heap.size w wr → Calls Tryd.prog 12 #[.agg (cells i).toArray] wr fun e w' => e = .returned (.tuple #[.string ⟨qs[i].1.toArray⟩, .int .i64 qs[i].2]) ∧ Below wr.heap.size wr w') :
    Calls Tryd.prog 17 #[.slice a qs.length cap] w fun e w' => e = .returned (.tuple #[.string ⟨(prnAll qs []).1.toArray⟩, .int .i64 (prnAll qs []).2]) ∧ Below w.heap.size w w' := by
  go_enter Tryd.func17, Tryd.ntmps17
  go_wp2
  go_loopw [11] (fun v wr => ∃ (i : Nat) (acc : List UInt8), v = .int .i64 i ∧ i ≤ qs.length ∧ acc.length ≤ i * 900001 ∧ prnAll qs [] = prnAll (qs.drop i) acc ∧ Lib.IsBuilder 67 5 w.heap.size w.heap.size (Lib.byteCells acc) wr ∧ Below w.heap.size w wr) (fun v _ => qs.length - (RowKit.intOf v).toNat)
  case atStart => exact ⟨0, [], rfl, Nat.zero_le _, Nat.zero_le _, rfl, Lib.fresh_isBuilder _ _ w, (Below.refl _ w).alloc (Nat.le_refl _) _⟩
  case round =>
    obtain ⟨i, acc, rfl, hi, hal, he, hI, hb⟩ := hrel
    by_cases hlt : i < qs.length
    · obtain ⟨b, off, rfl, hbk, hc⟩ := ha (fun e => by rw [e] at hlt; simp at hlt)
      obtain ⟨a0, a1, a2, a3, a4, a5, a6, a7, a8, ad, n1, n2, hcl⟩ := h10 i hlt
      have c0 : wr.cell? ⟨b, off + i * 10, none⟩ = some (.int .i64 a0) := by
        rw [← hc i hlt 0 (.int .i64 a0) (by rw [hcl]; rfl)]
        simp only [World.cell?, hb.block b hbk, Nat.add_zero]
      have c1 : wr.cell? ⟨b, off + i * 10 + 1, none⟩ = some (.int .i64 a1) := by
        rw [← hc i hlt 1 (.int .i64 a1) (by rw [hcl]; rfl)]
        simp only [World.cell?, hb.block b hbk, Nat.add_zero]
      have c2 : wr.cell? ⟨b, off + i * 10 + 2, none⟩ = some (.int .i64 a2) := by
        rw [← hc i hlt 2 (.int .i64 a2) (by rw [hcl]; rfl)]
        simp only [World.cell?, hb.block b hbk, Nat.add_zero]
      have c3 : wr.cell? ⟨b, off + i * 10 + 3, none⟩ = some (.int .i64 a3) := by
        rw [← hc i hlt 3 (.int .i64 a3) (by rw [hcl]; rfl)]
        simp only [World.cell?, hb.block b hbk, Nat.add_zero]
      have c4 : wr.cell? ⟨b, off + i * 10 + 4, none⟩ = some (.int .i64 a4) := by
        rw [← hc i hlt 4 (.int .i64 a4) (by rw [hcl]; rfl)]
        simp only [World.cell?, hb.block b hbk, Nat.add_zero]
      have c5 : wr.cell? ⟨b, off + i * 10 + 5, none⟩ = some (.int .i64 a5) := by
        rw [← hc i hlt 5 (.int .i64 a5) (by rw [hcl]; rfl)]
        simp only [World.cell?, hb.block b hbk, Nat.add_zero]
      have c6 : wr.cell? ⟨b, off + i * 10 + 6, none⟩ = some (.int .u64 a6) := by
        rw [← hc i hlt 6 (.int .u64 a6) (by rw [hcl]; rfl)]
        simp only [World.cell?, hb.block b hbk, Nat.add_zero]
      have c7 : wr.cell? ⟨b, off + i * 10 + 7, none⟩ = some (.string a7) := by
        rw [← hc i hlt 7 (.string a7) (by rw [hcl]; rfl)]
        simp only [World.cell?, hb.block b hbk, Nat.add_zero]
      have c8 : wr.cell? ⟨b, off + i * 10 + 8, none⟩ = some (.string a8) := by
        rw [← hc i hlt 8 (.string a8) (by rw [hcl]; rfl)]
        simp only [World.cell?, hb.block b hbk, Nat.add_zero]
      have c9 : wr.cell? ⟨b, off + i * 10 + 9, none⟩ = some (.slice ad n1 n2) := by
        rw [← hc i hlt 9 (.slice ad n1 n2) (by rw [hcl]; rfl)]
        simp only [World.cell?, hb.block b hbk, Nat.add_zero]
      have hl' := hln i hlt
      rw [hcl] at hl'
      have hb1 := hb.alloc hb.size (.cells #[.int .i64 a0, .int .i64 a1, .int .i64 a2, .int .i64 a3, .int .i64 a4, .int .i64 a5, .int .u64 a6, .string a7, .string a8, .slice ad n1 n2] 26)
      rw [List.drop_eq_getElem_cons hlt, prnAll] at he
      go_wp2_with (go_at_call 12; refine (hl' _ hb1).mono ?_)
      · rintro e W1 ⟨rfl, b1⟩
        have hb2 := hb1.trans ⟨b1.os, b1.tape, b1.output, b1.size, fun k hk => b1.block k (Nat.lt_of_lt_of_le hk hb1.size)⟩
        have hI1 : Lib.IsBuilder 67 5 w.heap.size w.heap.size (Lib.byteCells acc) W1 := bld_kept (bld_kept hI (fun k hk => Lib.alloc_old wr _ k hk)) (fun k hk => b1.block k hk)
        by_cases z : qs[i].2 = 0
        · rw [if_pos z] at he
          have hq1 := hq _ (List.getElem_mem hlt)
          have hal2 : acc.length ≤ 900001000 := Nat.le_trans hal (Nat.le_trans (Nat.mul_le_mul_right 900001 (show i ≤ 1000 by omega)) (by decide))
          go_wp2_with (go_at_call 32; refine (bld_writeS w.heap.size w.heap.size _ _ _ hI1 ?_ hb2.size).mono ?_)
          · rw [Lib.byteCells_length, ByteArray.size_append]
            show acc.length + (qs[i].1.toArray.size + 1) ≤ _
            rw [List.size_toArray]
            omega
          · rintro e W2 ⟨rfl, h2, b2⟩
            go_wp2
            go_roundw
            case rel =>
              refine ⟨i + 1, acc ++ qs[i].1 ++ [10], by simp, by omega, by simp only [List.length_append, List.length_cons, List.length_nil]; omega, he, Or.inr ?_, hb2.trans b2⟩
              have e3 : Lib.byteCells (acc ++ qs[i].1 ++ [10]) = Lib.byteCells acc ++ Lib.strCells (⟨qs[i].1.toArray⟩ ++ ⟨#[10]⟩) := by
                simp [Lib.byteCells, Lib.strCells]
              rw [e3]
              exact h2
            case measure =>
              simp only [RowKit.intOf]
              omega
        · rw [if_neg z] at he
          go_wp2
          go_ret2
          refine ⟨?_, hb2⟩
          rw [he]
          rfl
      all_goals (exfalso; omega)
    · have hi' : i = qs.length := by omega
      subst hi'
      rw [List.drop_length, prnAll] at he
      go_wp2_with (go_at_call 33; refine (Tryd.Builder_String_any w.heap.size w.heap.size acc _ hI hb.size).mono ?_)
      · rintro e W1 ⟨rfl, b1⟩
        go_wp2
        go_ret2
        refine ⟨?_, hb.trans b1⟩
        rw [he]
        rfl
      all_goals (exfalso; omega)

end Go.Proofs.YtbnlbdhepbbaoaaDoor
