import Derived.Test.YtfifgnffipdmeaaDoorTOwn_concat
import Derived.Test.YtfifgnffipdmeaaDoorTBld
import Derived.Test.YtfifgnffipdmeaaDoorTOwn_concat
import Derived.Lib.AppendIntMem
namespace Go.Proofs.YtfifgnffipdmeaaDoor
open Go.Am
set_option linter.unusedSimpArgs false
set_option linter.unusedVariables false
set_option maxRecDepth 100000

/-! Functions of the library, by their contracts. -/
theorem spec_strs {E : Env} {f : FuncId} {ds : List AVal} {xs : List Value} {r : AVal} {x : Value} (hn : noU ds = true) (hr : Const r x) (hd : ∀ (S : Nat → Prop) (w : World) (ys : List Value) (U : List Nat), ORels S w ds ys U → ys = xs)
    (h : ∀ w, Calls E.P f xs.toArray w fun e w' => e = .returned x ∧ w' = w) : Am.Spec E f ds r [] := by
  refine spec_below hn hr fun S w ys U hG hst hor hnd hb => ?_
  rw [hd S w ys U hor]
  refine (h w).mono ?_
  rintro e w' ⟨rfl, rfl⟩
  exact ⟨rfl, RowKit.Below.refl _ _⟩

theorem pairs_spec (l : List UInt8) (hl : l.length ≤ 1000000000000) : Am.Spec E 27 [.slice 1 (l.map byteRow)] (.str (pairsR l)) [] := by
  refine spec_below rfl (const_str _) fun S w xs U hG hst hor hnd hb => ?_
  obtain ⟨y, ys, U1, U2, rfl, rfl, ⟨⟨a, cap, rfl, _, hc⟩, rfl⟩, ⟨rfl, rfl⟩⟩ := hor
  rw [List.length_map]
  refine pairs_walk a cap l w hl fun hne => ?_
  obtain ⟨b, off, rfl, hS, hr⟩ := hc (by simpa using hne)
  refine ⟨b, off, rfl, hst b hS, fun i hi => ?_⟩
  rw [CRows_iff] at hr
  obtain ⟨_, h2⟩ := hr i (byteRow l[i]) (by simp [hi])
  obtain ⟨⟨x, h3, h4⟩, _⟩ := h2
  simp only [CRel] at h4
  subst h4
  simpa using h3
def pairsO : List Nat → List AVal → Option Res := fun _ ds => match ds with
  | [.slice st es] => gu (st = 1 ∧ es.length ≤ 1000000000000) ((unbyte es).bind fun l => some (.str (pairsR l), []))
  | _ => none
theorem pairsO_ok : ∀ ex ds q, pairsO ex ds = some q → SpecX E ex 27 ds q.1 q.2 := by
  intro ex ds q hq
  unfold pairsO at hq
  split at hq
  · rw [gu_some, Option.bind_eq_some_iff] at hq
    obtain ⟨⟨rfl, h1⟩, l, h2, h3⟩ := hq
    simp only [Option.some.injEq] at h3
    subst h3
    have := unbyte_spec _ _ h2
    subst this
    exact specX_of_spec (pairs_spec l (by simpa using h1))
  · cases hq

def itoaO : List Nat → List AVal → Option Res := fun _ ds => match ds with
  | [.int .i64 n] => gu (-9223372036854775808 ≤ n ∧ n ≤ 9223372036854775807) (some (.str (Lib.itoa n), []))
  | _ => none
theorem itoaO_ok : ∀ ex ds q, itoaO ex ds = some q → SpecX E ex 28 ds q.1 q.2 := by
  intro ex ds q hq
  unfold itoaO at hq
  split at hq
  · simp only [gu_some, Option.some.injEq] at hq
    obtain ⟨⟨h1, h2⟩, rfl⟩ := hq
    refine specX_of_spec (spec_below rfl (const_str _) fun S w xs U hG hst hor hnd hb => ?_)
    obtain ⟨y, ys, U1, U2, rfl, rfl, ⟨h3, rfl⟩, ⟨rfl, rfl⟩⟩ := hor
    simp only [CRel] at h3
    subst h3
    refine (Tryd.strconv_Itoa _ h1 h2 w (tabIs_of_glob (g := 1) (by kernel_rfl) (by kernel_rfl) hG)).mono ?_
    rintro e w' ⟨rfl, k, os, rfl⟩
    exact ⟨rfl, Lib.below_grow _ _ (Nat.le_refl _) _ _⟩
  · cases hq

def indexByteO : List Nat → List AVal → Option Res := fun _ ds => match ds with
  | [.str s, .int .u8 c] => gu (0 ≤ c ∧ c < 256) (some (.int .i64 (Lib.indexByte s c.toNat.toUInt8), []))
  | _ => none
theorem indexByteO_ok : ∀ ex ds q, indexByteO ex ds = some q → SpecX E ex 39 ds q.1 q.2 := by
  intro ex ds q hq
  unfold indexByteO at hq
  split at hq
  · rename_i s c
    simp only [gu_some, Option.some.injEq] at hq
    obtain ⟨⟨h1, h2⟩, rfl⟩ := hq
    refine specX_of_spec (spec_strs (xs := [.string ⟨s.toArray⟩, .int .u8 c]) rfl (const_int _ _) (fun S w ys U hor => ?_) (fun w => Tryd.strings_IndexByte ⟨s.toArray⟩ c w))
    obtain ⟨y, ys, U1, U2, rfl, rfl, ⟨h3, _⟩, ⟨z, zs, U3, U4, rfl, rfl, ⟨h4, _⟩, ⟨rfl, _⟩⟩⟩ := hor
    simp only [CRel] at h3 h4
    rw [h3, h4]
  · cases hq

def cutPrefixO : List Nat → List AVal → Option Res := fun _ ds => match ds with
  | [.str s, .str p] => some (.tup [.str (Lib.trimPrefix s p), .bool (Lib.hasPrefix s p)], [])
  | _ => none
theorem cutPrefixO_ok : ∀ ex ds q, cutPrefixO ex ds = some q → SpecX E ex 31 ds q.1 q.2 := by
  intro ex ds q hq
  unfold cutPrefixO at hq
  split at hq
  · rename_i s p
    simp only [Option.some.injEq] at hq
    subst hq
    refine specX_of_spec (spec_strs (xs := [.string ⟨s.toArray⟩, .string ⟨p.toArray⟩]) rfl (const_tup (xs := [.string ⟨(Lib.trimPrefix s p).toArray⟩, .bool (Lib.hasPrefix s p)]) (const_cons (const_str _) (const_cons (const_bool _) const_nil))) (fun S w ys U hor => ?_) (fun w => Tryd.strings_CutPrefix ⟨s.toArray⟩ ⟨p.toArray⟩ w))
    obtain ⟨y, ys, U1, U2, rfl, rfl, ⟨h3, _⟩, ⟨z, zs, U3, U4, rfl, rfl, ⟨h4, _⟩, ⟨rfl, _⟩⟩⟩ := hor
    simp only [CRel] at h3 h4
    rw [h3, h4]
  · cases hq

def own : Own := ownOf [(27, pairsO), (28, itoaO), (39, indexByteO), (31, cutPrefixO), (48, concatO)]
noncomputable def C : Cf := ⟨E, M, own⟩
@[go_sem] theorem C_E : C.E = E := rfl
@[go_sem] theorem C_M : C.M = M := rfl
@[go_sem] theorem C_X : C.X = own := rfl
theorem own_ok : OwnOk C.E C.X := ownOf_ok fun p hp => by
  simp only [List.mem_cons, List.not_mem_nil, or_false] at hp
  rcases hp with rfl | rfl | rfl | rfl | rfl
  · exact pairsO_ok
  · exact itoaO_ok
  · exact indexByteO_ok
  · exact cutPrefixO_ok
  · exact concatO_ok
theorem ow_27 (ex ds) : fn C 27 ex ds = pairsO ex ds := fn_own rfl ex ds
theorem ow_28 (ex ds) : fn C 28 ex ds = itoaO ex ds := fn_own rfl ex ds
theorem ow_39 (ex ds) : fn C 39 ex ds = indexByteO ex ds := fn_own rfl ex ds
theorem ow_31 (ex ds) : fn C 31 ex ds = cutPrefixO ex ds := fn_own rfl ex ds
theorem ow_48 (ex ds) : fn C 48 ex ds = concatO ex ds := fn_own rfl ex ds

@[go_sem] theorem e27 (l : List UInt8) (hl : l.length ≤ 1000000000000) : fn C 27 [] [.slice 1 (l.map byteRow)] = some (.str (pairsR l), []) := by
  rw [ow_27]; simp [pairsO, gu, unbyte_map, hl]

@[go_sem] theorem e28 (n : Int) (h : -9223372036854775808 ≤ n ∧ n ≤ 9223372036854775807) : fn C 28 [] [.int .i64 n] = some (.str (Lib.itoa n), []) := by
  rw [ow_28]; simp only [itoaO, gu, h, if_true, and_self]

@[go_sem] theorem e39 (s : List UInt8) (c : UInt8) : fn C 39 [] [.str s, .int .u8 (c.toNat : Int)] = some (.int .i64 (Lib.indexByte s c), []) := by
  have h := c.toNat_lt
  rw [ow_39]
  simp only [indexByteO, gu, Int.toNat_natCast]
  rw [if_pos (by omega)]
  simp

@[go_sem] theorem e31 (s p : List UInt8) : fn C 31 [] [.str s, .str p] = some (.tup [.str (Lib.trimPrefix s p), .bool (Lib.hasPrefix s p)], []) := by
  rw [ow_31]; rfl

theorem unparts_two (a b : List UInt8) : unparts [[.slice 1 (a.map byteRow)], [.slice 1 (b.map byteRow)]] = some [a, b] := by
  simp [unparts, unbyte_map]
@[go_sem] theorem e48 (a b : List UInt8) (h : a.length + b.length ≤ 1000000000000) : fn C 48 [] [.slice 1 [[.slice 1 (a.map byteRow)], [.slice 1 (b.map byteRow)]]] = some (.slice 1 ((a ++ b).map byteRow), []) := by
  rw [ow_48]; simp [concatO, gu, unparts_two, h]

end Go.Proofs.YtfifgnffipdmeaaDoor
