import Derived.Test.YtclgfgnhcakhdaaGreatDoorChecked
import Derived.WalkKit
import Derived.BigCall
import Derived.Lib.AppendZerosOnto
import Derived.Shelf.Strings.Builder1
namespace Go.Proofs.YtclgfgnhcakhdaaGreatDoor
set_option maxHeartbeats 64000000
open Go.RowKit
set_option linter.unusedSimpArgs false
set_option linter.unusedVariables false
set_option maxRecDepth 100000
theorem wpList_append_run {P : Program} {ops : Array Oper} {rest : List Oper} {o : Oper} {a : Act} {w : World} {Q : Exit → Act → World → Prop} (hgd : o.guard = none) (s x : Operand) (t u : TypeId)
    (ho : o.op = .call { callee := .builtin .append, args := #[s, x], argTypes := #[t, u] }) (v xv v' : Value) (w' : World) (hs : a.eval s = v) (hx : a.eval x = xv)
    (hr : (Builtin.append_ #[t, u] o.type #[v, xv]).run P w = .ok v' w') (h : wpList P ops Q rest (a.put o.dst v') w') : wpList P ops Q (o :: rest) a w := by
  refine wpList_plain hgd fun K hK => ?_
  unfold Oper.wp execOp
  simp only [ho, resolve, invoke, builtin, Sem.run_bind, Sem.run_pure, Result.andThen_ok, List.map_toArray, List.map_cons, List.map_nil, hs, hx, hr]
  exact hK _ _ h
theorem own_zeros {P : Program} (w : World) (t ty : TypeId) (e : TypeId) (i : TypeInfo) (ht : P.underlying t = some (.slice e)) (tn : TypeId) (htn : P.underlying tn = some (.int .i64)) (hi : P.info? e = some i) (hz : i.zero = some (.int .u8 0)) (hsz : i.size = 1) (hby : i.bytes = 1)
    (n : Nat) (h0 : 0 < n) (hn : n ≤ 1000000000000) :
    ∃ cap w', (Builtin.append_ #[t, tn] ty #[.slice none 0 0, .int .i64 n]).run P w = .ok (.slice (some ⟨w.heap.size, 0, none⟩) n cap) w' ∧ w'.ownsRow w.heap.size e 1 (.slice (some ⟨w.heap.size, 0, none⟩) 0 cap) 0 [] ∧ Below w.heap.size w w' := by
  have hr := Lib.run_append_grow_zeros (P := P) w t tn ty e i (.int .u8 0) .i64 .i64 ht htn hi hz none 0 0 [] (by simp [Builtin.firstCells]) n h0 (by omega) (by omega) (by omega) (by rw [hby]; omega) (growslice_fits (by omega) (by rw [hby]; omega))
  simp only [Nat.zero_add] at hr
  have hge := grownCap_ge w n 0 e
  have hz1 : (Value.int .u8 0).cells.size = 1 := rfl
  exact ⟨_, _, hr, ⟨by simp, .inr ⟨_, _, _, rfl, Nat.le_refl _, heap_alloc_new w.drew _, Nat.zero_le _, grownCap_le_maxLen w n 0 e (by unfold maxLen; omega),
    by simp only [Array.size_append, List.size_toArray, size_zeroCells, hz1, List.length_nil]; omega, by simp⟩⟩, (Below.refl _ w).drew.alloc (Nat.le_refl _) _⟩
theorem grow_walk (n : Nat) (hn : n ≤ 1000000000000) (w : World) :
    Calls Tryz.prog 94 #[.slice none 0 0, .int .i64 n] w fun e w' => ∃ v, e = .returned v ∧ w'.ownsRow w.heap.size 5 1 v 0 [] ∧ Below w.heap.size w w' := by
  obtain ⟨i0, hi, hz0, hz1, hz2⟩ := info_parts (show (Tryz.prog.info? 5).map (fun i => (i.zero, i.size, i.bytes)) = some (some (.int .u8 0), 1, 1) by kernel_rfl)
  by_cases h0 : n = 0
  · subst h0
    go_enter Tryz.func94, Tryz.ntmps94
    go_wp2
    go_ret
    exact ⟨_, rfl, World.ownsRow_nil _ _ _ _, Below.refl _ _⟩
  obtain ⟨cap, w1, hr, hown, hb⟩ := own_zeros (P := Tryz.prog) w 31 31 5 i0 Tryz.underlying31 3 Tryz.underlying3 hi hz0 hz1 hz2 n (by omega) hn
  go_enter Tryz.func94, Tryz.ntmps94
  go_wp2_with (at_builtin; refine wpList_append_run rfl _ _ 31 3 rfl _ _ _ _ rfl rfl hr ?_)
  all_goals first | (exfalso; omega) | skip
  go_wp2
  go_ret
  exact ⟨_, rfl, hown, hb⟩
def PartsAt (w : World) (B : Nat) (ps : List (List UInt8)) (b off : Nat) : Prop := ∀ i (h : i < ps.length), ∃ a cap, w.cell? ⟨b, off + i, none⟩ = some (.slice a ps[i].length cap) ∧
  (ps[i] ≠ [] → ∃ b' off', a = some ⟨b', off', none⟩ ∧ b' < B ∧ ∀ j (h' : j < ps[i].length), w.cell? ⟨b', off' + j, none⟩ = some (.int .u8 (ps[i][j]).toNat))
theorem flat_take (ps : List (List UInt8)) (i : Nat) (h : i < ps.length) : (ps.take (i + 1)).flatten = (ps.take i).flatten ++ ps[i] := by
  rw [List.take_succ_eq_append_getElem h, List.flatten_append]; simp
theorem flat_len_take (ps : List (List UInt8)) (i : Nat) : (ps.take i).flatten.length ≤ ps.flatten.length := by
  conv => rhs; rw [← List.take_append_drop i ps, List.flatten_append, List.length_append]
  omega
theorem run_append_part {w : World} (i0 : TypeInfo) (hi : Tryz.prog.info? 5 = some i0) (hz0 : i0.zero = some (.int .u8 0)) (hz1 : i0.size = 1) (hz2 : i0.bytes = 1) (B : Nat) (v : Value) (n : Nat) (xs : List Value) (hown : w.ownsRow B 5 1 v n xs) (hB : B ≤ w.heap.size)
    (l : List UInt8) (a : Option Addr) (cap : Nat) (ha : l ≠ [] → ∃ b' off', a = some ⟨b', off', none⟩ ∧ b' < B ∧ ∀ j (h' : j < l.length), w.cell? ⟨b', off' + j, none⟩ = some (.int .u8 l[j].toNat)) (hn : n + l.length ≤ 1000000000000) :
    ∃ v' w', (Builtin.append_ #[31, 31] 31 #[v, .slice a l.length cap]).run Tryz.prog w = .ok v' w' ∧ w'.ownsRow B 5 1 v' (n + l.length) (xs ++ Lib.byteCells l) ∧ w.grownBy w' v.ownBlock := by
  by_cases hl : l = []
  · subst hl
    refine ⟨v, w, ?_, by simpa [Lib.byteCells] using hown, ⟨rfl, rfl, rfl, Nat.le_refl _, fun _ _ _ => rfl⟩⟩
    rcases hown.2 with ⟨rfl, rfl⟩ | ⟨g, c2, cur, rfl, _, hg, hnc, _, hcs, _⟩
    · cases a <;> simp [Builtin.append_, run_underlying Tryz.underlying31, sizeOf, typeInfo, hi, Builtin.lenOf, Builtin.firstCells, loadCells, loadCellsFrom]
    · cases a <;> simp [Builtin.append_, run_underlying Tryz.underlying31, sizeOf, typeInfo, hi, Builtin.lenOf, Builtin.firstCells, loadCells, loadCellsFrom, storeCells, hnc]
  · obtain ⟨b', off', rfl, hb', hc⟩ := ha hl
    obtain ⟨v', w', h1, h2, h3, _⟩ := run_append_own (P := Tryz.prog) w B 31 31 5 i0 (.int .u8 0) 1 1 Tryz.underlying31 hi hz0 hz1 hz2 rfl (by decide) v n xs hown ⟨b', off', none⟩ l.length cap (Lib.byteCells l) (by simp [Lib.byteCells]) (fun j u hj => by
      simp only [Lib.byteCells, List.getElem?_map, Option.map_eq_some_iff] at hj
      obtain ⟨c, hj, rfl⟩ := hj
      obtain ⟨hjl, rfl⟩ := List.getElem?_eq_some_iff.1 hj
      rw [Addr.add_lit]; exact hc j hjl) (fun u hu => by
      simp only [Lib.byteCells, List.mem_map] at hu
      obtain ⟨_, _, rfl⟩ := hu
      rfl) (by unfold maxLen; omega) (by omega) hB
    exact ⟨v', w', h1, h2, h3⟩
def totL (ps : List (List UInt8)) (i : Nat) : Nat := (ps.take i).flatten.length
theorem totL_succ (ps : List (List UInt8)) (i : Nat) (h : i < ps.length) : totL ps (i + 1) = totL ps i + ps[i].length := by
  unfold totL; rw [flat_take ps i h, List.length_append]
theorem totL_le (ps : List (List UInt8)) (i : Nat) : totL ps i ≤ ps.flatten.length := flat_len_take ps i
theorem totL_all (ps : List (List UInt8)) : totL ps ps.length = ps.flatten.length := by unfold totL; rw [List.take_length]
theorem concat_walk (ps : List (List UInt8)) (b off cap : Nat) (w : World) (hb : b < w.heap.size) (hps : ps.length ≤ 1000000) (hl : ps.flatten.length ≤ 1000000000000) (hp : PartsAt w w.heap.size ps b off) :
    Calls Tryz.prog 67 #[.slice (some ⟨b, off, none⟩) ps.length cap] w fun e w' => ∃ v, e = .returned v ∧ w'.ownsRow w.heap.size 5 1 v ps.flatten.length (Lib.byteCells ps.flatten) ∧ Below w.heap.size w w' := by
  obtain ⟨i0, hi, hz0, hz1, hz2⟩ := info_parts (show (Tryz.prog.info? 5).map (fun i => (i.zero, i.size, i.bytes)) = some (some (.int .u8 0), 1, 1) by kernel_rfl)
  have hall := totL_all ps
  generalize hN : ps.flatten.length = N at hl hall ⊢
  go_enter Tryz.func67, Tryz.ntmps67
  go_wp2
  go_loopw [3, 11] (fun s v wr => ∃ i : Nat, i ≤ ps.length ∧ v = .int .i64 i ∧ s = .int .i64 (totL ps i) ∧ wr = w) (fun _ v _ => ps.length - (RowKit.intOf v).toNat)
  case atStart => exact ⟨0, Nat.zero_le _, rfl, by simp [totL]⟩
  case round =>
    obtain ⟨i, hi', rfl, rfl, rfl⟩ := hrel
    have h1 := totL_le ps i
    rw [hN] at h1
    by_cases hlt : i < ps.length
    · obtain ⟨a, c, hcell, _⟩ := hp i hlt
      have h2 := totL_le ps (i + 1)
      rw [hN] at h2
      have h4 := totL_succ ps i hlt
      go_wp2
      all_goals first | (exfalso; omega) | skip
      go_roundw
      case rel => exact ⟨i + 1, by omega, by simp, by rw [h4]; simp, by trivial⟩
      case measure => simp only [RowKit.intOf]; omega
    · obtain rfl : i = ps.length := by omega
      rw [hall]
      go_wp2_with (go_at_call 94; refine (grow_walk N hl _).mono ?_)
      all_goals first | (exfalso; omega) | skip
      rintro e W1 ⟨v1, rfl, hown, hb1⟩
      go_wp2
      go_loopw [6, 27] (fun s v wl => ∃ i : Nat, i ≤ ps.length ∧ v = .int .i64 i ∧ wl.ownsRow wr.heap.size 5 1 s (totL ps i) (Lib.byteCells (ps.take i).flatten) ∧ Below wr.heap.size wr wl) (fun _ v _ => ps.length - (RowKit.intOf v).toNat)
      case atStart => exact ⟨0, Nat.zero_le _, rfl, by simpa [totL, Lib.byteCells] using hown, hb1⟩
      case round =>
        obtain ⟨i, hi', rfl, hown2, hb2⟩ := hrel
        have h1 := totL_le ps i
        rw [hN] at h1
        by_cases hlt : i < ps.length
        · obtain ⟨a, c, hcell, ha⟩ := hp i hlt
          have h2 := totL_le ps (i + 1)
          rw [hN] at h2
          have h4 := totL_succ ps i hlt
          have hcell' : wr.cell? ⟨b, off + i, none⟩ = some (.slice a ps[i].length c) := by rw [← hcell]; exact hb2.cell hb
          obtain ⟨v2, w2, hr, hown3, hg⟩ := run_append_part (w := wr) i0 hi hz0 hz1 hz2 _ _ _ _ hown2 hb2.size ps[i] a c (fun h0 => by
            obtain ⟨b', off', rfl, hb', hc⟩ := ha h0
            exact ⟨b', off', rfl, hb', fun j h' => by rw [← hc j h']; exact hb2.cell hb'⟩) (by omega)
          go_wp2_with (at_builtin; refine wpList_append_run rfl _ _ 31 31 rfl _ _ _ _ rfl rfl hr ?_)
          all_goals first | (exfalso; omega) | skip
          go_wp2
          go_roundw
          case rel =>
            refine ⟨i + 1, by omega, by simp, ?_, hb2.grown hg hb2.size (fun k hk => ?_)⟩
            · rw [h4, flat_take ps i hlt]
              simpa [Lib.byteCells] using hown3
            · rcases hown2.2 with ⟨rfl, _⟩ | ⟨g, _, _, rfl, hg, _⟩
              · simp [Value.ownBlock] at hk
              · simp only [Value.ownBlock, Option.some.injEq] at hk; omega
          case measure => simp only [RowKit.intOf]; omega
        · obtain rfl : i = ps.length := by omega
          rw [hall, List.take_length] at hown2
          go_wp2
          all_goals first | (exfalso; omega) | skip
          go_ret
          exact ⟨_, rfl, hown2, hb2⟩
end Go.Proofs.YtclgfgnhcakhdaaGreatDoor
