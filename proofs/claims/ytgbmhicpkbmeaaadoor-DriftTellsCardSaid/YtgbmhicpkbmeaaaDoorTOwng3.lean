import Derived.Test.YtgbmhicpkbmeaaaDoorFacts
import Derived.Test.YtgbmhicpkbmeaaaDoorTBld
import Derived.Test.YtgbmhicpkbmeaaaDoorTJoin
import Derived.Lib.AppendIntMem
import Derived.Lib.ItoaLen
namespace Go.Proofs.YtgbmhicpkbmeaaaDoor
open Go.Am
set_option linter.unusedSimpArgs false
set_option linter.unusedVariables false
set_option maxRecDepth 100000

/-! Functions of the library, by their contracts. -/
theorem spec_strs {E : Env} {f : FuncId} {ds : List AVal} {xs : List Value} {r : AVal} {x : Value} (hn : noU ds = true) (hr : Const r x) (hd : ∀ (S : Nat → Prop) (w : World) (ys : List Value) (U : List Nat), ORels S w ds ys U → ys = xs)
    (h : ∀ w, Calls E.P f xs.toArray w fun e w' => e = .returned x ∧ w' = w) : Am.Spec E f ds r [] := by
  refine spec_below hn hr fun S w ys U hG hst hor hnd hb => ?_
  rw [hd S w ys U hor]
  refine (h w).mono ?_
  rintro e w' ⟨rfl, rfl⟩
  exact ⟨rfl, RowKit.Below.refl _ _⟩

theorem pairs_spec (l : List UInt8) (hl : l.length ≤ 1000000000000) : Am.Spec E 65 [.slice 1 (l.map byteRow)] (.str (pairsR l)) [] := by
  refine spec_below rfl (const_str _) fun S w xs U hG hst hor hnd hb => ?_
  obtain ⟨y, ys, U1, U2, rfl, rfl, ⟨⟨a, cap, rfl, _, hc⟩, rfl⟩, ⟨rfl, rfl⟩⟩ := hor
  rw [List.length_map]
  refine pairs_walk a cap l w hl fun hne => ?_
  obtain ⟨b, off, rfl, hS, hr⟩ := hc (by simpa using hne)
  refine ⟨b, off, rfl, hst b hS, fun i hi => ?_⟩
  rw [CRows_iff] at hr
  obtain ⟨_, h2⟩ := hr i (byteRow l[i]) (by simp [hi])
  obtain ⟨⟨x, h3, h4⟩, _⟩ := h2
  simp only [CRel] at h4
  subst h4
  simpa using h3
def pairsO : List Nat → List AVal → Option Res := fun _ ds => match ds with
  | [.slice st es] => gu (st = 1 ∧ es.length ≤ 1000000000000) ((unbyte es).bind fun l => some (.str (pairsR l), []))
  | _ => none
theorem pairsO_ok : ∀ ex ds q, pairsO ex ds = some q → SpecX E ex 65 ds q.1 q.2 := by
  intro ex ds q hq
  unfold pairsO at hq
  split at hq
  · rw [gu_some, Option.bind_eq_some_iff] at hq
    obtain ⟨⟨rfl, h1⟩, l, h2, h3⟩ := hq
    simp only [Option.some.injEq] at h3
    subst h3
    have := unbyte_spec _ _ h2
    subst this
    exact specX_of_spec (pairs_spec l (by simpa using h1))
  · cases hq

def itoaO : List Nat → List AVal → Option Res := fun _ ds => match ds with
  | [.int .i64 n] => gu (-9223372036854775808 ≤ n ∧ n ≤ 9223372036854775807) (some (.str (Lib.itoa n), []))
  | _ => none
theorem itoaO_ok : ∀ ex ds q, itoaO ex ds = some q → SpecX E ex 70 ds q.1 q.2 := by
  intro ex ds q hq
  unfold itoaO at hq
  split at hq
  · simp only [gu_some, Option.some.injEq] at hq
    obtain ⟨⟨h1, h2⟩, rfl⟩ := hq
    refine specX_of_spec (spec_below rfl (const_str _) fun S w xs U hG hst hor hnd hb => ?_)
    obtain ⟨y, ys, U1, U2, rfl, rfl, ⟨h3, rfl⟩, ⟨rfl, rfl⟩⟩ := hor
    simp only [CRel] at h3
    subst h3
    refine (Tryd.strconv_Itoa _ h1 h2 w (tabIs_of_glob (g := 1) (by kernel_rfl) (by kernel_rfl) hG)).mono ?_
    rintro e w' ⟨rfl, k, os, rfl⟩
    exact ⟨rfl, Lib.below_grow _ _ (Nat.le_refl _) _ _⟩
  · cases hq

def unstr : List (List AVal) → Option (List (List UInt8))
  | [] => some []
  | r :: rs => match r with
    | [.str s] => (unstr rs).bind fun l => some (s :: l)
    | _ => none
def strRow (s : List UInt8) : List AVal := [.str s]
@[go_sem] theorem strRow_eq (s : List UInt8) : strRow s = [.str s] := rfl
theorem unstr_map (l : List (List UInt8)) : unstr (l.map strRow) = some l := by
  induction l with
  | nil => rfl
  | cons s l ih => simp only [List.map_cons, strRow, unstr] at ih ⊢; rw [ih]; rfl
theorem unstr_spec : ∀ (rs : List (List AVal)) (l : List (List UInt8)), unstr rs = some l → rs = l.map strRow
  | [], l, h => by simp only [unstr, Option.some.injEq] at h; subst h; rfl
  | r :: rs, l, h => by
    unfold unstr at h
    split at h
    · rename_i s
      simp only [Option.bind_eq_some_iff, Option.some.injEq] at h
      obtain ⟨l', h1, rfl⟩ := h
      rw [unstr_spec rs l' h1]; rfl
    · cases h
theorem join_spec (l : List (List UInt8)) (sep : List UInt8) (h1 : l.length ≤ 1000000) (h2 : (Lib.join l sep).length ≤ 140737488355328) : Am.Spec E 57 [.slice 1 (l.map strRow), .str sep] (.str (Lib.join l sep)) [] := by
  refine spec_below rfl (const_str _) fun S w xs U hG hst hor hnd hb => ?_
  obtain ⟨y, ys, U1, U2, rfl, rfl, ⟨⟨a, cap, rfl, hcap, hc⟩, rfl⟩, ⟨z, zs, U3, U4, rfl, rfl, ⟨h4, rfl⟩, ⟨rfl, rfl⟩⟩⟩ := hor
  simp only [CRel] at h4
  subst h4
  rw [List.length_map] at hcap ⊢
  cases l with
  | nil =>
    refine (join_none a cap ⟨sep.toArray⟩ w).mono ?_
    rintro e w' ⟨rfl, rfl⟩
    exact ⟨rfl, RowKit.Below.refl _ _⟩
  | cons s l =>
    obtain ⟨b, off, rfl, hS, hr⟩ := hc (by simp)
    have e : ((s :: l).map fun t => (⟨t.toArray⟩ : ByteArray)).map (·.data.toList) = s :: l := by
      rw [List.map_map]; simp [Function.comp_def]
    have hw := join_walk b off cap ((s :: l).map fun t => (⟨t.toArray⟩ : ByteArray)) ⟨sep.toArray⟩ w (fun j x hj => ?_) (hst b hS) (by simp at h1 ⊢; omega) (by simpa using hcap) (by rw [e]; exact h2)
    · rw [e, List.length_map] at hw
      exact hw
    · rw [CRows_iff] at hr
      rw [List.getElem?_map, Option.map_eq_some_iff] at hj
      obtain ⟨t, ht, rfl⟩ := hj
      obtain ⟨_, h2⟩ := hr j (strRow t) (by rw [List.getElem?_map, ht]; rfl)
      obtain ⟨⟨x, h3, h4⟩, _⟩ := h2
      simp only [CRel] at h4
      subst h4
      simpa using h3
def joinO : List Nat → List AVal → Option Res := fun _ ds => match ds with
  | [.slice st es, .str sep] => gu (st = 1) ((unstr es).bind fun l => gu (l.length ≤ 1000000 ∧ (Lib.join l sep).length ≤ 140737488355328) (some (.str (Lib.join l sep), [])))
  | _ => none
theorem joinO_ok : ∀ ex ds q, joinO ex ds = some q → SpecX E ex 57 ds q.1 q.2 := by
  intro ex ds q hq
  unfold joinO at hq
  split at hq
  · rw [gu_some, Option.bind_eq_some_iff] at hq
    obtain ⟨rfl, l, h2, h3⟩ := hq
    rw [gu_some] at h3
    obtain ⟨⟨h4, h5⟩, h3⟩ := h3
    simp only [Option.some.injEq] at h3
    subst h3
    have := unstr_spec _ _ h2
    subst this
    exact specX_of_spec (join_spec l _ h4 h5)
  · cases hq

def own : Own := ownOf [(65, pairsO), (70, itoaO), (57, joinO)]
noncomputable def C : Cf := ⟨E, M, own⟩
@[go_sem] theorem C_E : C.E = E := rfl
@[go_sem] theorem C_M : C.M = M := rfl
@[go_sem] theorem C_X : C.X = own := rfl
theorem own_ok : OwnOk C.E C.X := ownOf_ok fun p hp => by
  simp only [List.mem_cons, List.not_mem_nil, or_false] at hp
  rcases hp with rfl | rfl | rfl
  · exact pairsO_ok
  · exact itoaO_ok
  · exact joinO_ok
theorem ow_65 (ex ds) : fn C 65 ex ds = pairsO ex ds := fn_own rfl ex ds
theorem ow_70 (ex ds) : fn C 70 ex ds = itoaO ex ds := fn_own rfl ex ds
theorem ow_57 (ex ds) : fn C 57 ex ds = joinO ex ds := fn_own rfl ex ds

@[go_sem] theorem e65 (l : List UInt8) (h : l.length ≤ 1000000000000) : fn C 65 [] [.slice 1 (l.map byteRow)] = some (.str (pairsR l), []) := by
  rw [ow_65]; simp [pairsO, gu, unbyte_map, h]

@[go_sem] theorem e70 (n : Int) (h : -9223372036854775808 ≤ n ∧ n ≤ 9223372036854775807) : fn C 70 [] [.int .i64 n] = some (.str (Lib.itoa n), []) := by
  rw [ow_70]; simp only [itoaO, gu, h, if_true, and_self]

theorem eJoin (l : List (List UInt8)) (sep : List UInt8) (h1 : l.length ≤ 1000000) (h2 : (Lib.join l sep).length ≤ 140737488355328) : fn C 57 [] [.slice 1 (l.map strRow), .str sep] = some (.str (Lib.join l sep), []) := by
  rw [ow_57]; simp [joinO, gu, unstr_map, h1, h2]

end Go.Proofs.YtgbmhicpkbmeaaaDoor
namespace Go.Proofs.YtgbmhicpkbmeaaaDoor
open Go.Am
set_option linter.unusedSimpArgs false
set_option linter.unusedVariables false
set_option maxRecDepth 100000
def okB (b : UInt8) : Bool := decide (32 < b.toNat) && decide (b.toNat < 127)
def keyR (l : List UInt8) : Bool := decide (1 ≤ l.length) && decide (l.length ≤ 24) && l.all okB

@[go_sem] theorem e78 (l : List UInt8) : fn C 78 [] [.str l] = some (.bool (decide (l.length ≤ 32)), []) := by
  rw [fn_text Tryd.func78 rfl rfl Tryd.results78 fq78.1 rfl rfl (by kernel_rfl)]
  simp -implicitDefEqProofs -dsimp +contextual (maxSteps := 9999999) (disch := first | omega | simp only [go_sem] <;> omega | refine ib ?_; kernel_rfl) only [go_sem, seval, ↓reduceIte] <;>
  exact Res_bool (by simp; omega)

@[go_sem] theorem e77 (l : List UInt8) (hl : l.length ≤ 9223372036854775807) : fn C 77 [] [.str l] = some (.bool (keyR l), []) := by
  rw [fn_text Tryd.func77 rfl rfl Tryd.results77 fq77.1 rfl rfl (by kernel_rfl)]
  simp -implicitDefEqProofs -dsimp +contextual (maxSteps := 9999999) (disch := first | omega | simp only [go_sem] <;> omega | refine ib ?_; kernel_rfl) only [go_sem, seval, ↓reduceIte]
  refine (kLoop_rec (fun i f H => f 0 = .str l ∧ f 5 = .int .i64 l.length ∧ f 6 = .int .i64 (i : Nat) ∧ H = Heap.nil ∧ i ≤ l.length) (fun i => l.length - i) (fun i => some (.bool (decide (1 ≤ l.length) && decide (l.length ≤ 24) && (l.drop i).all okB), [])) ?_ 0 _ _ ⟨rfl, rfl, rfl, rfl, by omega⟩).trans rfl
  rintro i f _ ⟨h0, h5, h6, rfl, hi⟩ ih
  by_cases hl : i < l.length
  · rw [List.drop_eq_getElem_cons hl]
    simp -implicitDefEqProofs -dsimp +contextual (maxSteps := 9999999) (disch := first | omega | simp only [go_sem] <;> omega | refine ib ?_; kernel_rfl) only [go_sem, seval, ↓reduceIte, h0, h5, h6, hl]
    (repeat' (refine kD_intro (fun _ => ?_) (fun _ => ?_)))
    · exact Res_bool (by simp [okB] <;> omega)
    · exact Res_bool (by simp [okB] <;> omega)
    · have hb : okB l[i] = true := by simp [okB] <;> omega
      exact (ih (i + 1) _ _ (by exact ⟨h0, h5, rfl, rfl, by omega⟩) (by omega)).trans (by simp [hb])
  · simp -implicitDefEqProofs -dsimp +contextual (maxSteps := 9999999) (disch := first | omega | simp only [go_sem] <;> omega | refine ib ?_; kernel_rfl) only [go_sem, seval, ↓reduceIte, h0, h5, h6, hl]
    obtain rfl : i = l.length := by omega
    cases l with
    | nil => simp -implicitDefEqProofs -dsimp +contextual (maxSteps := 9999999) (disch := first | omega | simp only [go_sem] <;> omega | refine ib ?_; kernel_rfl) only [go_sem, seval, ↓reduceIte]
    | cons b l => simp -implicitDefEqProofs -dsimp +contextual (maxSteps := 9999999) (disch := first | omega | simp only [go_sem] <;> omega | refine ib ?_; kernel_rfl) only [go_sem, seval, ↓reduceIte] <;> exact Res_bool (by simp <;> omega)

end Go.Proofs.YtgbmhicpkbmeaaaDoor
namespace Go.Proofs.YtgbmhicpkbmeaaaDoor
open Go.Am
set_option linter.unusedSimpArgs false
set_option linter.unusedVariables false
set_option maxRecDepth 100000
/-! Numbers as texts. -/
@[go_sem] theorem e56 (n : Int) (h1 : -9223372036854775808 ≤ n) (h2 : n ≤ 9223372036854775807) : fn C 56 [] [.int .i64 n] = some (.str (Lib.itoa n), []) := by
  rw [fn_text Tryd.func56 rfl rfl Tryd.results56 fq56.1 rfl rfl (by kernel_rfl)]
  simp -implicitDefEqProofs -dsimp +contextual (maxSteps := 9999999) (disch := first | omega | simp only [go_sem] <;> omega | refine ib ?_; kernel_rfl) only [go_sem, seval, ↓reduceIte, h1, h2]

end Go.Proofs.YtgbmhicpkbmeaaaDoor
namespace Go.Proofs.YtgbmhicpkbmeaaaDoor
open Go.Am
set_option linter.unusedSimpArgs false
set_option linter.unusedVariables false
set_option maxRecDepth 100000
open Lib
def d10S : List UInt8 := [48, 49, 50, 51, 52, 53, 54, 55, 56, 57]
@[go_sem] theorem d10S_fold : ([48, 49, 50, 51, 52, 53, 54, 55, 56, 57] : List UInt8) = d10S := rfl
@[go_sem] theorem d10S_len : d10S.length = 10 := rfl
@[go_sem] theorem d10S_cut (d : Nat) (h : d < 10) : (d10S.drop d).take (d + 1 - d) = decDigits d := by
  have : ∀ n : Fin 10, (d10S.drop n.val).take (n.val + 1 - n.val) = [UInt8.ofNat (48 + n.val)] := by decide
  rw [decDigits_one h]
  exact this ⟨d, h⟩
theorem dec_len (n : Nat) (h : n ≤ 9223372036854775808) : (decDigits n).length ≤ 21 := by
  have := itoa_length_le (-(n : Int)) (by omega) (by omega)
  by_cases h0 : n = 0
  · subst h0; rw [decDigits_one (by decide)]; decide
  · rw [itoa, if_pos (by omega)] at this
    simp at this; omega
theorem dec_step (n : Nat) (h : 10 ≤ n) : decDigits (n / 10) ++ decDigits (n % 10) = decDigits n := by
  rw [decDigits_one (show n % 10 < 10 by omega)]
  conv => rhs; rw [decDigits, dif_neg (by omega)]
set_option maxHeartbeats 4000000 in
theorem refNum_nat (n : Nat) (hn : n ≤ 9223372036854775807) : fn C 58 [] [.int .i64 (n : Int)] = some (.str (decDigits n), []) := by
  induction n using Nat.strongRecOn with
  | ind n ih =>
    rw [fn_text Tryd.func58 rfl rfl Tryd.results58 fq58.1 rfl rfl (by kernel_rfl)]
    by_cases h : 9 < n
    · have h1 := ih (n / 10) (by omega) (by omega)
      have h2 := ih (n % 10) (by omega) (by omega)
      have l1 := dec_len (n / 10) (by omega)
      have l2 := dec_len (n % 10) (by omega)
      simp -implicitDefEqProofs -dsimp +contextual (maxSteps := 9999999) (disch := first | omega | simp only [go_sem] <;> omega | refine ib ?_; kernel_rfl) only [go_sem, seval, ↓reduceIte, h, h1, h2, Nat.not_lt_zero]
      rw [dec_step n (by omega)]
    · simp -implicitDefEqProofs -dsimp +contextual (maxSteps := 9999999) (disch := first | omega | simp only [go_sem] <;> omega | refine ib ?_; kernel_rfl) only [go_sem, seval, ↓reduceIte, h, Nat.not_lt_zero]
set_option maxHeartbeats 4000000 in
theorem refNum_neg (n : Nat) (h1 : 1 ≤ n) (hn : n ≤ 9223372036854775808) : fn C 58 [] [.int .i64 (-(n : Int))] = some (.str (45 :: decDigits n), []) := by
  induction n using Nat.strongRecOn with
  | ind n ih =>
    rw [fn_text Tryd.func58 rfl rfl Tryd.results58 fq58.1 rfl rfl (by kernel_rfl)]
    by_cases h : n < 10
    · have h1 := refNum_nat n (by omega)
      have l1 := dec_len n (by omega)
      have hz : -(n : Int) < 0 := by omega
      have hz2 : -10 < -(n : Int) := by omega
      simp -implicitDefEqProofs -dsimp +contextual (maxSteps := 9999999) (disch := first | omega | simp only [go_sem] <;> omega | refine ib ?_; kernel_rfl) only [go_sem, seval, ↓reduceIte, h, h1, hz, hz2, Int.sub_neg, Int.zero_add]
    · have h2 := ih (n / 10) (by omega) (by omega) (by omega)
      have h3 := refNum_nat (n % 10) (by omega)
      have l1 := dec_len (n / 10) (by omega)
      have l2 := dec_len (n % 10) (by omega)
      have hz : -(n : Int) < 0 := by omega
      have hz2 : ¬ -10 < -(n : Int) := by omega
      have e1 : IntKind.i64.wrap ((-(n : Int)).tdiv 10) = -((n / 10 : Nat) : Int) := by
        rw [IntKind.wrap_i64, Int.neg_tdiv, show (n : Int).tdiv 10 = ((n / 10 : Nat) : Int) from rfl]; omega
      have e2 : (-(n : Int)).tmod 10 = -((n % 10 : Nat) : Int) := by
        rw [Int.neg_tmod, show (n : Int).tmod 10 = ((n % 10 : Nat) : Int) from rfl]
      simp -implicitDefEqProofs -dsimp +contextual (maxSteps := 9999999) (disch := first | omega | simp only [go_sem] <;> omega | refine ib ?_; kernel_rfl) only [go_sem, seval, ↓reduceIte, h, h2, h3, hz, hz2, e1, e2, Int.sub_neg, Int.zero_add]
      rw [dec_step n (by omega)]
@[go_sem] theorem e58 (n : Int) (h1 : -9223372036854775808 ≤ n) (h2 : n ≤ 9223372036854775807) : fn C 58 [] [.int .i64 n] = some (.str (itoa n), []) := by
  by_cases h : n < 0
  · have := refNum_neg n.natAbs (by omega) (by omega)
    rw [show -((n.natAbs : Nat) : Int) = n by omega] at this
    rw [this, itoa, if_pos h]
  · have := refNum_nat n.toNat (by omega)
    rw [show ((n.toNat : Nat) : Int) = n by omega] at this
    rw [this, itoa, if_neg h]

end Go.Proofs.YtgbmhicpkbmeaaaDoor
namespace Go.Proofs.YtgbmhicpkbmeaaaDoor
open Go.Am
set_option linter.unusedSimpArgs false
set_option linter.unusedVariables false
set_option maxRecDepth 100000
/-! Layer 1: numbers as bytes. -/
def beN (s n : Nat) : List UInt8 := (List.range s).map fun i => UInt8.ofNat (n / 2 ^ (8 * (s - 1 - i)))
@[go_sem] theorem beN_len (s n : Nat) : (beN s n).length = s := by simp [beN]
theorem beN_get (s n i : Nat) (h : i < (beN s n).length) : (beN s n)[i] = UInt8.ofNat (n / 2 ^ (8 * (s - 1 - i))) := by simp [beN]

theorem beN_drop (s n k : Nat) (hk : k < s) : (beN s n).drop (s - k - 1) = UInt8.ofNat (n / 2 ^ (8 * k)) :: (beN s n).drop (s - k) := by
  rw [List.drop_eq_getElem_cons (by rw [beN_len]; omega), beN_get, show s - 1 - (s - k - 1) = k by omega, show s - k - 1 + 1 = s - k by omega]
theorem rep_set (l t : List UInt8) (m : Nat) (x : UInt8) : (l ++ (List.replicate (m + 1) 0 ++ t)).set (l.length + m) x = l ++ (List.replicate m 0 ++ x :: t) := by
  rw [List.set_append_right _ _ (by omega), Nat.add_sub_cancel_left, List.replicate_succ', List.append_assoc, List.set_append_right _ _ (by simp)]
  simp
end Go.Proofs.YtgbmhicpkbmeaaaDoor
namespace Go.Proofs.YtgbmhicpkbmeaaaDoor
open Go.Am
set_option linter.unusedSimpArgs false
set_option linter.unusedVariables false
set_option maxRecDepth 100000
/-! Layer 1: texts as bytes. -/
def textB (s : List UInt8) : List UInt8 := beN 2 s.length ++ s
@[go_sem] theorem textB_len (s : List UInt8) : (textB s).length = s.length + 2 := by simp [textB, beN_len]; omega
theorem beN_2 (n : Nat) : beN 2 n = [UInt8.ofNat (n / 256), UInt8.ofNat n] := by simp [beN, List.range, List.range.loop]
theorem beN_8 (n : Nat) : beN 8 n = [UInt8.ofNat (n / 72057594037927936), UInt8.ofNat (n / 281474976710656), UInt8.ofNat (n / 1099511627776), UInt8.ofNat (n / 4294967296), UInt8.ofNat (n / 16777216), UInt8.ofNat (n / 65536), UInt8.ofNat (n / 256), UInt8.ofNat n] := by simp [beN, List.range, List.range.loop]
end Go.Proofs.YtgbmhicpkbmeaaaDoor
namespace Go.Proofs.YtgbmhicpkbmeaaaDoor
open Go.Am
set_option linter.unusedSimpArgs false
set_option linter.unusedVariables false
set_option maxRecDepth 100000
/-! Numbers of bytes, the highest first. -/
theorem u64_shl8 (P : Program) (t : TypeId) (k : IntKind) (a : Nat) (ha : a < 72057594037927936) : binV P .shl t (.int .u64 (a : Int)) (.int k 8) = some (.int .u64 ((a * 256 : Nat) : Int)) := by
  have e : binV P .shl t (.int .u64 (a : Int)) (.int k 8) = some (.int .u64 (IntKind.u64.wrap ((a : Int) * 2 ^ 8))) := rfl
  rw [e]
  exact congrArg (fun x => some (AVal.int .u64 x)) (by rw [IntKind.wrap_u64]; omega)
theorem or_low8 (a b : Nat) (hb : b < 256) : a * 256 ||| b = a * 256 + b := by
  have := Nat.two_pow_add_eq_or_of_lt (i := 8) (b := b) (by simpa using hb) a
  rw [show 2 ^ 8 * a = a * 256 by omega] at this
  exact this.symm
theorem u64_or8 (P : Program) (t : TypeId) (a b : Nat) (ha : a * 256 < 18446744073709551616) (hb : b < 256) : binV P .or t (.int .u64 ((a * 256 : Nat) : Int)) (.int .u64 (b : Int)) = some (.int .u64 ((a * 256 + b : Nat) : Int)) := by
  have e : binV P .or t (.int .u64 ((a * 256 : Nat) : Int)) (.int .u64 (b : Int)) = some (.int .u64 (IntKind.u64.wrap ((BitVec.ofInt 64 ((a * 256 : Nat) : Int) ||| BitVec.ofInt 64 (b : Int)).toNat : Int))) := rfl
  rw [e, BitVec.ofInt_natCast, BitVec.ofInt_natCast, BitVec.toNat_or, BitVec.toNat_ofNat, BitVec.toNat_ofNat, Nat.mod_eq_of_lt (show a * 256 < 2 ^ 64 by omega), Nat.mod_eq_of_lt (show b < 2 ^ 64 by omega), or_low8 a b hb]
  exact congrArg (fun x => some (AVal.int .u64 x)) (by rw [IntKind.wrap_u64]; omega)

def beV (l : List UInt8) : Nat := l.foldl (fun n c => n * 256 + c.toNat) 0
theorem beV_take (l : List UInt8) (i : Nat) (h : i < l.length) : beV (l.take (i + 1)) = beV (l.take i) * 256 + l[i].toNat := by
  rw [List.take_succ_eq_append_getElem h, beV, List.foldl_append]; rfl
theorem beV_lt (l : List UInt8) : beV l < 256 ^ l.length := by
  have : ∀ (l : List UInt8) (a : Nat), l.foldl (fun n c => n * 256 + c.toNat) a < (a + 1) * 256 ^ l.length := by
    intro l
    induction l with
    | nil => intro a; simp
    | cons x l ih =>
      intro a
      have h := u8_lt x
      refine Nat.lt_of_lt_of_le (ih _) ?_
      rw [List.length_cons, Nat.pow_succ, Nat.mul_comm (256 ^ l.length), ← Nat.mul_assoc]
      exact Nat.mul_le_mul_right _ (by simp only; omega)
  simpa [beV] using this l 0
@[go_sem] theorem rep_byte (n : Nat) : List.replicate n [AVal.int .u8 0] = (List.replicate n (0 : UInt8)).map byteRow := by rw [List.map_replicate]; rfl

end Go.Proofs.YtgbmhicpkbmeaaaDoor
namespace Go.Proofs.YtgbmhicpkbmeaaaDoor
open Go.Am
set_option linter.unusedSimpArgs false
set_option linter.unusedVariables false
set_option maxRecDepth 100000
/-! Small laws. -/
theorem itoa_le (n : Int) (h1 : -9223372036854775808 ≤ n) (h2 : n ≤ 9223372036854775807) : (Lib.itoa n).length ≤ 21 := Lib.itoa_length_le n h1 h2
theorem take_eq_step {α : Type} {a b : List α} {i : Nat} (ha : i < a.length) (hb : i < b.length) (ht : a.take i = b.take i) (he : a[i] = b[i]) : a.take (i + 1) = b.take (i + 1) := by
  rw [List.take_succ_eq_append_getElem ha, List.take_succ_eq_append_getElem hb, ht, he]
theorem take_eq_end {α : Type} {a b : List α} (hl : a.length = b.length) (ht : a.take a.length = b.take a.length) : a = b := by
  rwa [List.take_length, hl, List.take_length] at ht
theorem take_ne {α : Type} {a b : List α} {i : Nat} (ha : i < a.length) (hb : i < b.length) (he : ¬ a[i] = b[i]) : ¬ a = b := fun e => he (by subst e; rfl)
theorem itoa0 : Lib.itoa 0 = [48] := by rw [Lib.itoa, if_neg (by decide), show (0 : Int).toNat = 0 from rfl, Lib.decDigits_one (by decide)]; rfl
theorem itoa37 : Lib.itoa 37 = [51, 55] := by rw [Lib.itoa, if_neg (by decide), show (37 : Int).toNat = 37 from rfl, Lib.decDigits_two (by decide) (by decide)]; rfl

end Go.Proofs.YtgbmhicpkbmeaaaDoor
namespace Go.Proofs.YtgbmhicpkbmeaaaDoor
open Go.Am
set_option linter.unusedSimpArgs false
set_option linter.unusedVariables false
set_option maxRecDepth 100000
/-! Layer 10: digits. -/
def hexS : List UInt8 := [48, 49, 50, 51, 52, 53, 54, 55, 56, 57, 97, 98, 99, 100, 101, 102]
@[go_sem] theorem hexS_fold : ([48, 49, 50, 51, 52, 53, 54, 55, 56, 57, 97, 98, 99, 100, 101, 102] : List UInt8) = hexS := rfl
@[go_sem] theorem hexS_len : hexS.length = 16 := rfl
@[go_sem] theorem hexS_get (d : Nat) (h : d < hexS.length) : hexS[d] = hexd d := by
  have : ∀ n : Fin 16, hexS[n.val]'(n.isLt) = hexd n.val := by decide
  exact this ⟨d, h⟩
@[go_sem] theorem hexS_cut (d : Nat) (h : d < 16) : (hexS.drop d).take (d + 1 - d) = [hexd d] := by
  have : ∀ n : Fin 16, (hexS.drop n.val).take (n.val + 1 - n.val) = [hexd n.val] := by decide
  exact this ⟨d, h⟩
def hexR (n : Nat) : List UInt8 := pairsR (beN 8 n)

@[go_sem] theorem e45 (n : Nat) (hn : n ≤ 18446744073709551615) : fn C 45 [] [.int .u64 (n : Int)] = some (.str (hexR n), []) := by
  rw [fn_text Tryd.func45 rfl rfl Tryd.results45 fq45.1 rfl rfl (by kernel_rfl)]
  have hp := e65 (beN 8 n) (by rw [beN_len]; decide)
  have e : (beN 8 n).map byteRow = [[.int .u8 ((UInt8.ofNat (n / 72057594037927936)).toNat : Int)], [.int .u8 ((UInt8.ofNat (n / 281474976710656)).toNat : Int)], [.int .u8 ((UInt8.ofNat (n / 1099511627776)).toNat : Int)], [.int .u8 ((UInt8.ofNat (n / 4294967296)).toNat : Int)], [.int .u8 ((UInt8.ofNat (n / 16777216)).toNat : Int)], [.int .u8 ((UInt8.ofNat (n / 65536)).toNat : Int)], [.int .u8 ((UInt8.ofNat (n / 256)).toNat : Int)], [.int .u8 ((UInt8.ofNat (n / 1)).toNat : Int)]] := rfl
  rw [e] at hp
  simp -implicitDefEqProofs -dsimp +contextual (maxSteps := 9999999) (disch := first | omega | simp only [go_sem] <;> omega | refine ib ?_; kernel_rfl) only [go_sem, seval, ↓reduceIte, kLoop_eq, u8_wrap, hp]
  rfl

theorem byte_hi (m : Nat) : (UInt8.ofNat m).toNat / 16 = m / 16 % 16 := by simp [UInt8.toNat_ofNat']; omega
theorem byte_lo (m : Nat) : (UInt8.ofNat m).toNat % 16 = m % 16 := by simp [UInt8.toNat_ofNat']
@[go_sem] theorem e44 (n : Nat) (hn : n ≤ 18446744073709551615) : fn C 44 [] [.int .u64 (n : Int)] = some (.str (hexR n), []) := by
  rw [fn_text Tryd.func44 rfl rfl Tryd.results44 fq44.1 rfl rfl (by kernel_rfl)]
  simp -implicitDefEqProofs -dsimp +contextual (maxSteps := 9999999) (disch := first | omega | simp only [go_sem] <;> omega | refine ib ?_; kernel_rfl) only [go_sem, seval, ↓reduceIte, kLoop_eq, Nat.div_div_eq_div_mul]
  simp only [hexR, pairsR, beN, show List.range 8 = [0, 1, 2, 3, 4, 5, 6, 7] from rfl, List.map_cons, List.map_nil, List.flatMap_cons, List.flatMap_nil, List.cons_append, List.nil_append, byte_hi, byte_lo, Nat.div_div_eq_div_mul, Nat.reducePow, Nat.reduceMul, Nat.reduceSub, Nat.div_one]

def digV (c : UInt8) : Nat := if 48 ≤ c.toNat ∧ c.toNat ≤ 57 then c.toNat - 48 else if 97 ≤ c.toNat ∧ c.toNat ≤ 102 then c.toNat - 87 else 16
theorem digV_le (c : UInt8) : digV c ≤ 16 := by simp only [digV]; split <;> (try split) <;> omega
theorem hexd_dig (c : UInt8) (i : Nat) (hi : i < 16) : (hexd i).toNat = c.toNat ↔ digV c = i := by
  have : ∀ (n : Fin 256) (k : Fin 16), (hexd k.val).toNat = (UInt8.ofNat n.val).toNat ↔ digV (UInt8.ofNat n.val) = k.val := by decide +kernel
  have h := this ⟨c.toNat, c.toNat_lt⟩ ⟨i, hi⟩
  simpa using h

theorem idx_dig (c : UInt8) : Lib.indexByte hexS c = if digV c < 16 then (digV c : Int) else -1 := by
  have : ∀ n : Fin 256, Lib.indexByte hexS (UInt8.ofNat n.val) = if digV (UInt8.ofNat n.val) < 16 then (digV (UInt8.ofNat n.val) : Int) else -1 := by decide +kernel
  have h := this ⟨c.toNat, c.toNat_lt⟩
  simpa using h

theorem i64_or4 (P : Program) (t : TypeId) (a b : Nat) (ha : a < 16) (hb : b < 16) : binV P .or t (.int .i64 ((a * 16 : Nat) : Int)) (.int .i64 (b : Int)) = some (.int .i64 ((16 * a + b : Nat) : Int)) := by
  have h : ∀ a b : Fin 16, IntKind.i64.wrap ((BitVec.ofInt 64 ((a.val * 16 : Nat) : Int) ||| BitVec.ofInt 64 (b.val : Int)).toNat : Int) = ((16 * a.val + b.val : Nat) : Int) := by decide +kernel
  have e : binV P .or t (.int .i64 ((a * 16 : Nat) : Int)) (.int .i64 (b : Int)) = some (.int .i64 (IntKind.i64.wrap ((BitVec.ofInt 64 ((a * 16 : Nat) : Int) ||| BitVec.ofInt 64 (b : Int)).toNat : Int))) := rfl
  rw [e]
  exact congrArg (fun x => some (AVal.int .i64 x)) (h ⟨a, ha⟩ ⟨b, hb⟩)
theorem i64_shl4 (P : Program) (t : TypeId) (k : IntKind) (a : Nat) (ha : a < 16) : binV P .shl t (.int .i64 (a : Int)) (.int k 4) = some (.int .i64 ((a * 16 : Nat) : Int)) := by
  have e : binV P .shl t (.int .i64 (a : Int)) (.int k 4) = some (.int .i64 (IntKind.i64.wrap ((a : Int) * 2 ^ 4))) := rfl
  rw [e]
  exact congrArg (fun x => some (AVal.int .i64 x)) (by rw [IntKind.wrap_i64]; omega)
end Go.Proofs.YtgbmhicpkbmeaaaDoor
namespace Go.Proofs.YtgbmhicpkbmeaaaDoor
open Go.Am
set_option linter.unusedSimpArgs false
set_option linter.unusedVariables false
set_option maxRecDepth 100000
/-! Layer 10: bytes written, numbers in decimal digits. -/
def fillTo (l : List UInt8) (m : Nat) : List UInt8 := l.take m ++ List.replicate (l.length - m) 0
theorem fillTo_len (l : List UInt8) (m : Nat) (h : m ≤ l.length) : (fillTo l m).length = l.length := by simp [fillTo]; omega
theorem fillTo_zero (l : List UInt8) : fillTo l 0 = List.replicate l.length 0 := by simp [fillTo]
theorem fillTo_all (l : List UInt8) (m : Nat) (h : l.length ≤ m) : fillTo l m = l := by simp [fillTo, List.take_of_length_le h, show l.length - m = 0 by omega]
theorem fillTo_set (l : List UInt8) (m : Nat) (h : m < l.length) : (fillTo l m).set m l[m] = fillTo l (m + 1) := by
  unfold fillTo
  rw [List.set_append_right _ _ (by simp; omega), show l.length - m = (l.length - (m + 1)) + 1 by omega, List.replicate_succ, List.length_take, Nat.min_eq_left (by omega), Nat.sub_self, List.set_cons_zero, List.take_succ_eq_append_getElem h, List.append_assoc]
  rfl

def bytesR (l : List UInt8) : List UInt8 := if l = [] then [45] else pairsR l
@[go_sem] theorem e40 (l : List UInt8) (hl : l.length ≤ 1000000000000) : fn C 40 [] [.slice 1 (l.map byteRow)] = some (.str (bytesR l), []) := by
  rw [fn_text Tryd.func40 rfl rfl Tryd.results40 fq40.1 rfl rfl (by kernel_rfl)]
  by_cases h : l = []
  · subst h
    simp -implicitDefEqProofs -dsimp +contextual (maxSteps := 9999999) (disch := first | omega | simp only [go_sem] <;> omega | refine ib ?_; kernel_rfl) only [go_sem, seval, ↓reduceIte]
    rfl
  · have h0 : ¬ l.length = 0 := by simpa using h
    simp -implicitDefEqProofs -dsimp +contextual (maxSteps := 9999999) (disch := first | omega | simp only [go_sem] <;> omega | refine ib ?_; kernel_rfl) only [go_sem, seval, ↓reduceIte, h0]
    rw [bytesR, if_neg h]
theorem pairsR_get (l : List UInt8) (i : Nat) (h : i < l.length) : (pairsR l)[2 * i]'(by rw [pairsR_len]; omega) = hexd (l[i].toNat / 16) ∧ (pairsR l)[2 * i + 1]'(by rw [pairsR_len]; omega) = hexd (l[i].toNat % 16) := by
  have e : pairsR l = pairsR (l.take i) ++ ([hexd (l[i].toNat / 16), hexd (l[i].toNat % 16)] ++ pairsR (l.drop (i + 1))) := by
    rw [← List.append_assoc, ← pairsR_take l i h]
    unfold pairsR
    rw [← List.flatMap_append, List.take_append_drop]
  have hl : (pairsR (l.take i)).length = 2 * i := by rw [pairsR_len, List.length_take]; omega
  constructor
  · rw [List.getElem_of_eq e, List.getElem_append_right (by omega)]; simp [hl]
  · rw [List.getElem_of_eq e, List.getElem_append_right (by omega)]; simp [hl]
set_option maxHeartbeats 4000000 in
@[go_sem] theorem e43 (l : List UInt8) (hl : l.length ≤ 1000000000000) : fn C 43 [] [.slice 1 (l.map byteRow)] = some (.str (bytesR l), []) := by
  rw [fn_text Tryd.func43 rfl rfl Tryd.results43 fq43.1 rfl rfl (by kernel_rfl)]
  by_cases h : l = []
  · subst h
    simp -implicitDefEqProofs -dsimp +contextual (maxSteps := 9999999) (disch := first | omega | simp only [go_sem] <;> omega | refine ib ?_; kernel_rfl) only [go_sem, seval, ↓reduceIte]
    rfl
  · have h0 : ¬ l.length = 0 := by simpa using h
    simp -implicitDefEqProofs -dsimp +contextual (maxSteps := 9999999) (disch := first | omega | simp only [go_sem] <;> omega | refine ib ?_; kernel_rfl) only [go_sem, seval, ↓reduceIte, h0]
    rw [bytesR, if_neg h]
    obtain ⟨A, hA⟩ : ∃ A, A = pairsR l := ⟨_, rfl⟩
    have hlen : A.length = 2 * l.length := by rw [hA, pairsR_len]
    have hg : ∀ i (h : i < l.length), A[2 * i]'(by omega) = hexd (l[i].toNat / 16) ∧ A[2 * i + 1]'(by omega) = hexd (l[i].toNat % 16) := by subst hA; exact pairsR_get l
    rw [← hA]
    have z1 := fillTo_zero A
    rw [hlen] at z1
    refine kLoop_rec (fun (i : Nat) f H => f 0 = .slice 1 (l.map byteRow) ∧ f 3 = .osl 111 1 0 (2 * l.length) ∧ f 4 = .int .i64 (i : Int) ∧ H 111 = ⟨1, .live, 1, (fillTo A (2 * i)).map byteRow, true⟩ ∧ i ≤ l.length) (fun i => l.length - i) (fun _ => some (.str A, [])) ?_ 0 _ _ ?_
    · rintro i f H ⟨f0, f3, f4, H111, hi⟩ ih
      have hf := fillTo_len A (2 * i) (by omega)
      have hf2 := fillTo_len A (2 * i + 1)
      by_cases hl : i < l.length
      · have hc := u8_lt (l[i]'(by omega))
        obtain ⟨g1, g2⟩ := hg i hl
        simp -implicitDefEqProofs -dsimp +contextual (maxSteps := 9999999) (disch := first | omega | simp only [go_sem] <;> omega | refine ib ?_; kernel_rfl) only [go_sem, seval, ↓reduceIte, f0, f3, f4, H111, hl, hf, hlen, h0]
        rw [← g1, fillTo_set _ _ (by omega), ← g2, fillTo_set _ _ (by omega), show 2 * i + 1 + 1 = 2 * (i + 1) by omega]
        exact ih (i + 1) _ _ ⟨f0, f3, rfl, rfl, by omega⟩ (by omega)
      · obtain rfl : i = l.length := by omega
        rw [fillTo_all _ _ (by omega)] at H111
        simp -implicitDefEqProofs -dsimp +contextual (maxSteps := 9999999) (disch := first | omega | simp only [go_sem] <;> omega | refine ib ?_; kernel_rfl) only [go_sem, seval, ↓reduceIte, f0, f3, f4, H111, hl, hf, hlen, h0]
    · refine ⟨rfl, rfl, rfl, ?_, by omega⟩
      rw [show 2 * 0 = 0 from rfl, z1]
      rfl

end Go.Proofs.YtgbmhicpkbmeaaaDoor
namespace Go.Proofs.YtgbmhicpkbmeaaaDoor
open Go.Am
set_option linter.unusedSimpArgs false
set_option linter.unusedVariables false
set_option maxRecDepth 100000
structure It where
  k : List UInt8
  v : List UInt8
  n : Int
  g : Bool
deriving DecidableEq
def It.cs (x : It) : List AVal := [.str x.k, .str x.v, .int .i64 x.n, .bool x.g]
def zeroIt : It := ⟨[], [], 0, false⟩
@[go_sem] theorem zeroIt_k : zeroIt.k = [] := rfl
@[go_sem] theorem zeroIt_v : zeroIt.v = [] := rfl
@[go_sem] theorem zeroIt_n : zeroIt.n = 0 := rfl
@[go_sem] theorem zeroIt_g : zeroIt.g = false := rfl
@[go_sem] theorem It.cs_eq (x : It) : x.cs = [.str x.k, .str x.v, .int .i64 x.n, .bool x.g] := rfl
@[go_sem] theorem It.ones_cs (l : List It) : ones (l.map It.cs) = true := ones_map _ _ fun x => rfl
@[go_sem] theorem It.clos_cs (l : List It) : (l.map It.cs).all clos = true := allclos_map _ (fun _ => rfl) l
@[go_sem] theorem It.flat_cs (l : List It) : flatss (l.map It.cs) = true := flatss_map _ (fun _ => rfl) l
@[go_sem] theorem It.ok_cs (l : List It) : okRows (l.map It.cs) = decide (l.length ≤ 1073741824) := okRows_map _ (fun _ => rfl) (fun _ => rfl) l
@[go_sem] theorem It.eta (x : It) : (⟨x.k, x.v, x.n, x.g⟩ : It) = x := rfl
@[go_sem] theorem It.set_cs (l : List It) (j : Nat) (k v : List UInt8) (n : Int) (g : Bool) : (l.map It.cs).set j [.str k, .str v, .int .i64 n, .bool g] = (l.set j ⟨k, v, n, g⟩).map It.cs := by rw [List.map_set]; rfl
@[go_sem] theorem It.app_cs (l : List It) (k v : List UInt8) (n : Int) (g : Bool) : l.map It.cs ++ [[.str k, .str v, .int .i64 n, .bool g]] = (l ++ [(⟨k, v, n, g⟩ : It)]).map It.cs := by rw [List.map_append]; rfl
theorem It.eq_iff (x y : It) : x = y ↔ x.k = y.k ∧ x.v = y.v ∧ x.n = y.n ∧ x.g = y.g := by cases x; cases y; simp

def itemR (x : It) : Bool := keyR x.k && decide (x.v.length ≤ 32) && decide (1 ≤ x.n) && decide (x.n ≤ 1073741824)

@[go_sem] theorem e61 (k v : List UInt8) (n : Int) (g : Bool) (hk : k.length ≤ 9223372036854775807) : fn C 61 [] [.agg [.str k, .str v, .int .i64 n, .bool g]] = some (.bool (itemR ⟨k, v, n, g⟩), []) := by
  rw [fn_text Tryd.func61 rfl rfl Tryd.results61 fq61.1 rfl rfl (by kernel_rfl)]
  simp -implicitDefEqProofs -dsimp +contextual (maxSteps := 9999999) (disch := first | omega | simp only [go_sem] <;> omega | refine ib ?_; kernel_rfl) only [go_sem, seval, ↓reduceIte]
  (repeat' (refine kD_intro (fun _ => ?_) (fun _ => ?_))) <;> exact Res_bool (by simp [itemR, *]; try omega)

@[go_sem] theorem eqItem (a b a' b' : List UInt8) (c c' : Int) (d d' : Bool) : eqF E.P 8 79 (.agg [.str a, .str b, .int .i64 c, .bool d]) (.agg [.str a', .str b', .int .i64 c', .bool d']) = some (decide ((⟨a, b, c, d⟩ : It) = ⟨a', b', c', d'⟩)) := by
  have u26 : E.P.underlying 79 = _ := Tryd.underlying79
  have u9 : E.P.underlying 9 = _ := Tryd.underlying9
  have u3 : E.P.underlying 3 = _ := Tryd.underlying3
  have u4 : E.P.underlying 4 = _ := Tryd.underlying4
  have hs : E.P.stoodInHeld 79 = false := by kernel_rfl
  simp [eqF, eqGo, u26, u9, u3, u4, hs, tq9.1, tq9.2.1, tq3.1, tq3.2.1, tq4.1, tq4.2.1, mkV, beq_dec, Bool.and_assoc, ← Bool.decide_and]
end Go.Proofs.YtgbmhicpkbmeaaaDoor
namespace Go.Proofs.YtgbmhicpkbmeaaaDoor
open Go.Am
set_option linter.unusedSimpArgs false
set_option linter.unusedVariables false
set_option maxRecDepth 100000
/-! Layer 11: certificates as bytes. -/
structure En where
  name : List UInt8
  id : Nat
  fr : Int
  un : Int
  ix : Int
  tag : List UInt8
deriving DecidableEq
def En.cs (e : En) : List AVal := [.str e.name, .int .u64 (e.id : Int), .int .i64 e.fr, .int .i64 e.un, .int .i64 e.ix, .str e.tag]
@[go_sem] theorem En.cs_eq (e : En) : e.cs = [.str e.name, .int .u64 (e.id : Int), .int .i64 e.fr, .int .i64 e.un, .int .i64 e.ix, .str e.tag] := rfl
def u64V (n : Int) : Nat := (n % 18446744073709551616).toNat
theorem wrap_u64V (n : Int) : IntKind.u64.wrap n = (u64V n : Int) := by rw [IntKind.wrap_u64, u64V]; omega
theorem u64V_le (n : Int) : u64V n ≤ 18446744073709551615 := by rw [u64V]; omega
structure En.ok (e : En) : Prop where
  id : e.id ≤ 18446744073709551615
  f1 : -9223372036854775808 ≤ e.fr
  f2 : e.fr ≤ 9223372036854775807
  u1 : -9223372036854775808 ≤ e.un
  u2 : e.un ≤ 9223372036854775807
  i1 : -9223372036854775808 ≤ e.ix
  i2 : e.ix ≤ 9223372036854775807
def bodyB (e : En) : List UInt8 := textB e.name ++ beN 8 e.id ++ beN 4 (u64V e.fr) ++ beN 4 (u64V e.un) ++ beN 2 (u64V e.ix)
@[go_sem] theorem bodyB_len (e : En) : (bodyB e).length = e.name.length + 20 := by simp [bodyB, beN_len, textB_len]
def entB (e : En) : List UInt8 := bodyB e ++ e.tag
@[go_sem] theorem entB_len (e : En) : (entB e).length = e.name.length + 20 + e.tag.length := by simp [entB, bodyB_len]
end Go.Proofs.YtgbmhicpkbmeaaaDoor
namespace Go.Proofs.YtgbmhicpkbmeaaaDoor
open Go.Am
set_option linter.unusedSimpArgs false
set_option linter.unusedVariables false
set_option maxRecDepth 100000
/-! Nodes, and what is in them. -/
structure Pr where
  e : En
  since : Int
  under : Int
deriving DecidableEq
def Pr.cs (p : Pr) : List AVal := [.str p.e.name, .int .u64 (p.e.id : Int), .int .i64 p.e.fr, .int .i64 p.e.un, .int .i64 p.e.ix, .str p.e.tag, .int .i64 p.since, .int .i64 p.under]
@[go_sem] theorem Pr.cs_eq (p : Pr) : p.cs = [.str p.e.name, .int .u64 (p.e.id : Int), .int .i64 p.e.fr, .int .i64 p.e.un, .int .i64 p.e.ix, .str p.e.tag, .int .i64 p.since, .int .i64 p.under] := rfl
structure Fg where
  bit : Int
  p : Pr
deriving DecidableEq
def Fg.cs (x : Fg) : List AVal := [.int .i64 x.bit, .str x.p.e.name, .int .u64 (x.p.e.id : Int), .int .i64 x.p.e.fr, .int .i64 x.p.e.un, .int .i64 x.p.e.ix, .str x.p.e.tag, .int .i64 x.p.since, .int .i64 x.p.under]
@[go_sem] theorem Fg.cs_eq (x : Fg) : x.cs = [.int .i64 x.bit, .str x.p.e.name, .int .u64 (x.p.e.id : Int), .int .i64 x.p.e.fr, .int .i64 x.p.e.un, .int .i64 x.p.e.ix, .str x.p.e.tag, .int .i64 x.p.since, .int .i64 x.p.under] := rfl
structure Wn where
  top : Int
  low : Nat
  high : Nat
deriving DecidableEq
structure Se where
  id : Nat
  nonce : Nat
  peer : En
  role : Int
  state : Int
  send : List UInt8
  hear : List UInt8
  epoch : Int
  count : Int
  since : Int
  seq : Int
  seen : Wn
  used : Int
deriving DecidableEq
def Se.cs (s : Se) : List AVal := [.int .u64 (s.id : Int), .int .u64 (s.nonce : Int), .str s.peer.name, .int .u64 (s.peer.id : Int), .int .i64 s.peer.fr, .int .i64 s.peer.un, .int .i64 s.peer.ix, .str s.peer.tag, .int .i64 s.role, .int .i64 s.state, .str s.send, .str s.hear, .int .i64 s.epoch, .int .i64 s.count, .int .i64 s.since, .int .i64 s.seq, .int .i64 s.seen.top, .int .u64 (s.seen.low : Int), .int .u64 (s.seen.high : Int), .int .i64 s.used]
@[go_sem] theorem Se.cs_eq (s : Se) : s.cs = [.int .u64 (s.id : Int), .int .u64 (s.nonce : Int), .str s.peer.name, .int .u64 (s.peer.id : Int), .int .i64 s.peer.fr, .int .i64 s.peer.un, .int .i64 s.peer.ix, .str s.peer.tag, .int .i64 s.role, .int .i64 s.state, .str s.send, .str s.hear, .int .i64 s.epoch, .int .i64 s.count, .int .i64 s.since, .int .i64 s.seq, .int .i64 s.seen.top, .int .u64 (s.seen.low : Int), .int .u64 (s.seen.high : Int), .int .i64 s.used] := rfl
structure Ms where
  kind : Int
  rid : Int
  ver : Int
  err : Int
  id : Nat
  has : Bool
  gone : Bool
  key : List UInt8
  val : List UInt8
  ents : List En
  items : List It
deriving DecidableEq
def Ms.cs (m : Ms) : List AVal := [.int .i64 m.kind, .int .i64 m.rid, .int .i64 m.ver, .int .i64 m.err, .int .u64 (m.id : Int), .bool m.has, .bool m.gone, .str m.key, .str m.val, .slice 6 (m.ents.map En.cs), .slice 4 (m.items.map It.cs)]
@[go_sem] theorem Ms.cs_eq (m : Ms) : m.cs = [.int .i64 m.kind, .int .i64 m.rid, .int .i64 m.ver, .int .i64 m.err, .int .u64 (m.id : Int), .bool m.has, .bool m.gone, .str m.key, .str m.val, .slice 6 (m.ents.map En.cs), .slice 4 (m.items.map It.cs)] := rfl
structure Pd where
  rid : Int
  why : Int
  job : Int
  til : Int
  tries : Int
  session : Nat
  to : En
  m : Ms
deriving DecidableEq
def Pd.cs (p : Pd) : List AVal := [.int .i64 p.rid, .int .i64 p.why, .int .i64 p.job, .int .i64 p.til, .int .i64 p.tries, .int .u64 (p.session : Int), .str p.to.name, .int .u64 (p.to.id : Int), .int .i64 p.to.fr, .int .i64 p.to.un, .int .i64 p.to.ix, .str p.to.tag, .int .i64 p.m.kind, .int .i64 p.m.rid, .int .i64 p.m.ver, .int .i64 p.m.err, .int .u64 (p.m.id : Int), .bool p.m.has, .bool p.m.gone, .str p.m.key, .str p.m.val, .slice 6 (p.m.ents.map En.cs), .slice 4 (p.m.items.map It.cs)]
@[go_sem] theorem Pd.cs_eq (p : Pd) : p.cs = [.int .i64 p.rid, .int .i64 p.why, .int .i64 p.job, .int .i64 p.til, .int .i64 p.tries, .int .u64 (p.session : Int), .str p.to.name, .int .u64 (p.to.id : Int), .int .i64 p.to.fr, .int .i64 p.to.un, .int .i64 p.to.ix, .str p.to.tag, .int .i64 p.m.kind, .int .i64 p.m.rid, .int .i64 p.m.ver, .int .i64 p.m.err, .int .u64 (p.m.id : Int), .bool p.m.has, .bool p.m.gone, .str p.m.key, .str p.m.val, .slice 6 (p.m.ents.map En.cs), .slice 4 (p.m.items.map It.cs)] := rfl
structure Jb where
  id : Int
  kind : Int
  phase : Int
  hops : Int
  tries : Int
  til : Int
  key : List UInt8
  val : List UInt8
  owner : En
  item : It
  acks : Int
  waits : Int
  asked : List (List UInt8)
  back : En
  backRid : Int
  backJob : Int
deriving DecidableEq
def Jb.cs (j : Jb) : List AVal := [.int .i64 j.id, .int .i64 j.kind, .int .i64 j.phase, .int .i64 j.hops, .int .i64 j.tries, .int .i64 j.til, .str j.key, .str j.val, .str j.owner.name, .int .u64 (j.owner.id : Int), .int .i64 j.owner.fr, .int .i64 j.owner.un, .int .i64 j.owner.ix, .str j.owner.tag, .str j.item.k, .str j.item.v, .int .i64 j.item.n, .bool j.item.g, .int .i64 j.acks, .int .i64 j.waits, .slice 1 (j.asked.map strRow), .str j.back.name, .int .u64 (j.back.id : Int), .int .i64 j.back.fr, .int .i64 j.back.un, .int .i64 j.back.ix, .str j.back.tag, .int .i64 j.backRid, .int .i64 j.backJob]
@[go_sem] theorem Jb.cs_eq (j : Jb) : j.cs = [.int .i64 j.id, .int .i64 j.kind, .int .i64 j.phase, .int .i64 j.hops, .int .i64 j.tries, .int .i64 j.til, .str j.key, .str j.val, .str j.owner.name, .int .u64 (j.owner.id : Int), .int .i64 j.owner.fr, .int .i64 j.owner.un, .int .i64 j.owner.ix, .str j.owner.tag, .str j.item.k, .str j.item.v, .int .i64 j.item.n, .bool j.item.g, .int .i64 j.acks, .int .i64 j.waits, .slice 1 (j.asked.map strRow), .str j.back.name, .int .u64 (j.back.id : Int), .int .i64 j.back.fr, .int .i64 j.back.un, .int .i64 j.back.ix, .str j.back.tag, .int .i64 j.backRid, .int .i64 j.backJob] := rfl
structure Rs where
  job : Int
  kind : Int
  ver : Int
  key : List UInt8
  val : List UInt8
  has : Bool
  gone : Bool
  err : Int
deriving DecidableEq
def Rs.cs (r : Rs) : List AVal := [.int .i64 r.job, .int .i64 r.kind, .int .i64 r.ver, .str r.key, .str r.val, .bool r.has, .bool r.gone, .int .i64 r.err]
@[go_sem] theorem Rs.cs_eq (r : Rs) : r.cs = [.int .i64 r.job, .int .i64 r.kind, .int .i64 r.ver, .str r.key, .str r.val, .bool r.has, .bool r.gone, .int .i64 r.err] := rfl
def u64Row (n : Nat) : List AVal := [.int .u64 (n : Int)]
@[go_sem] theorem u64Row_eq (n : Nat) : u64Row n = [.int .u64 (n : Int)] := rfl
structure Nd where
  me : En
  clock : Int
  psk : List UInt8
  gateI : Int
  gateK : List UInt8
  ready : Bool
  pred : List Pr
  list : List Pr
  fingers : List Fg
  sessions : List Se
  pends : List Pd
  items : List It
  jobs : List Jb
  rid : Int
  jobId : Int
  draws : List Nat
  results : List Rs
deriving DecidableEq

@[go_sem] theorem En_ones (l : List (En)) : ones (l.map En.cs) = true := ones_map _ _ fun _ => rfl
@[go_sem] theorem En_clos (l : List (En)) : (l.map En.cs).all clos = true := allclos_map _ (fun _ => rfl) l
@[go_sem] theorem En_flat (l : List (En)) : flatss (l.map En.cs) = true := flatss_map _ (fun _ => rfl) l
@[go_sem] theorem En_ok (l : List (En)) : okRows (l.map En.cs) = decide (l.length ≤ 1073741824) := okRows_map _ (fun _ => rfl) (fun _ => rfl) l
@[go_sem] theorem Pr_ones (l : List (Pr)) : ones (l.map Pr.cs) = true := ones_map _ _ fun _ => rfl
@[go_sem] theorem Pr_clos (l : List (Pr)) : (l.map Pr.cs).all clos = true := allclos_map _ (fun _ => rfl) l
@[go_sem] theorem Pr_flat (l : List (Pr)) : flatss (l.map Pr.cs) = true := flatss_map _ (fun _ => rfl) l
@[go_sem] theorem Pr_ok (l : List (Pr)) : okRows (l.map Pr.cs) = decide (l.length ≤ 1073741824) := okRows_map _ (fun _ => rfl) (fun _ => rfl) l
@[go_sem] theorem Fg_ones (l : List (Fg)) : ones (l.map Fg.cs) = true := ones_map _ _ fun _ => rfl
@[go_sem] theorem Fg_clos (l : List (Fg)) : (l.map Fg.cs).all clos = true := allclos_map _ (fun _ => rfl) l
@[go_sem] theorem Fg_flat (l : List (Fg)) : flatss (l.map Fg.cs) = true := flatss_map _ (fun _ => rfl) l
@[go_sem] theorem Fg_ok (l : List (Fg)) : okRows (l.map Fg.cs) = decide (l.length ≤ 1073741824) := okRows_map _ (fun _ => rfl) (fun _ => rfl) l
@[go_sem] theorem Se_ones (l : List (Se)) : ones (l.map Se.cs) = true := ones_map _ _ fun _ => rfl
@[go_sem] theorem Se_clos (l : List (Se)) : (l.map Se.cs).all clos = true := allclos_map _ (fun _ => rfl) l
@[go_sem] theorem Se_flat (l : List (Se)) : flatss (l.map Se.cs) = true := flatss_map _ (fun _ => rfl) l
@[go_sem] theorem Se_ok (l : List (Se)) : okRows (l.map Se.cs) = decide (l.length ≤ 1073741824) := okRows_map _ (fun _ => rfl) (fun _ => rfl) l
@[go_sem] theorem Pd_ones (l : List (Pd)) : ones (l.map Pd.cs) = true := ones_map _ _ fun _ => rfl
@[go_sem] theorem Pd_clos (l : List (Pd)) : (l.map Pd.cs).all clos = true := allclos_map _ (fun _ => rfl) l
@[go_sem] theorem Pd_ok (l : List (Pd)) : okRows (l.map Pd.cs) = decide (l.length ≤ 1073741824) := okRows_map _ (fun _ => rfl) (fun _ => rfl) l
@[go_sem] theorem Jb_ones (l : List (Jb)) : ones (l.map Jb.cs) = true := ones_map _ _ fun _ => rfl
@[go_sem] theorem Jb_clos (l : List (Jb)) : (l.map Jb.cs).all clos = true := allclos_map _ (fun _ => rfl) l
@[go_sem] theorem Jb_ok (l : List (Jb)) : okRows (l.map Jb.cs) = decide (l.length ≤ 1073741824) := okRows_map _ (fun _ => rfl) (fun _ => rfl) l
@[go_sem] theorem Rs_ones (l : List (Rs)) : ones (l.map Rs.cs) = true := ones_map _ _ fun _ => rfl
@[go_sem] theorem Rs_clos (l : List (Rs)) : (l.map Rs.cs).all clos = true := allclos_map _ (fun _ => rfl) l
@[go_sem] theorem Rs_flat (l : List (Rs)) : flatss (l.map Rs.cs) = true := flatss_map _ (fun _ => rfl) l
@[go_sem] theorem Rs_ok (l : List (Rs)) : okRows (l.map Rs.cs) = decide (l.length ≤ 1073741824) := okRows_map _ (fun _ => rfl) (fun _ => rfl) l
@[go_sem] theorem strRow_ones (l : List (List UInt8)) : ones (l.map strRow) = true := ones_map _ _ fun _ => rfl
@[go_sem] theorem strRow_clos (l : List (List UInt8)) : (l.map strRow).all clos = true := allclos_map _ (fun _ => rfl) l
@[go_sem] theorem strRow_flat (l : List (List UInt8)) : flatss (l.map strRow) = true := flatss_map _ (fun _ => rfl) l
@[go_sem] theorem strRow_ok (l : List (List UInt8)) : okRows (l.map strRow) = decide (l.length ≤ 1073741824) := okRows_map _ (fun _ => rfl) (fun _ => rfl) l
@[go_sem] theorem u64Row_ones (l : List (Nat)) : ones (l.map u64Row) = true := ones_map _ _ fun _ => rfl
@[go_sem] theorem u64Row_clos (l : List (Nat)) : (l.map u64Row).all clos = true := allclos_map _ (fun _ => rfl) l
@[go_sem] theorem u64Row_flat (l : List (Nat)) : flatss (l.map u64Row) = true := flatss_map _ (fun _ => rfl) l
@[go_sem] theorem u64Row_ok (l : List (Nat)) : okRows (l.map u64Row) = decide (l.length ≤ 1073741824) := okRows_map _ (fun _ => rfl) (fun _ => rfl) l
@[go_sem] theorem Ms_ones (l : List (Ms)) : ones (l.map Ms.cs) = true := ones_map _ _ fun _ => rfl
@[go_sem] theorem Ms_clos (l : List (Ms)) : (l.map Ms.cs).all clos = true := allclos_map _ (fun _ => rfl) l
@[go_sem] theorem Ms_ok (l : List (Ms)) : okRows (l.map Ms.cs) = decide (l.length ≤ 1073741824) := okRows_map _ (fun _ => rfl) (fun _ => rfl) l

def greatE (e : En) : Bool := decide (1000 < e.name.length) || decide (1000 < e.tag.length)
structure En.small (e : En) : Prop where
  n : e.name.length ≤ 1000
  t : e.tag.length ≤ 1000
theorem greatE_no {e : En} (h : greatE e = false) : e.small := by
  simp only [greatE, Bool.or_eq_false_iff, decide_eq_false_iff_not, Nat.not_lt] at h
  exact ⟨h.1, h.2⟩
def greatPs (l : List Pr) : Bool := decide (40 < l.length) || l.any fun p => greatE p.e
def greatS (s : Se) : Bool := decide (300 < s.send.length) || decide (300 < s.hear.length) || greatE s.peer
def greatSs (l : List Se) : Bool := decide (60 < l.length) || l.any greatS
def greatI (x : It) : Bool := decide (300 < x.k.length) || decide (300 < x.v.length)
def greatM (m : Ms) : Bool := decide (300 < m.key.length) || decide (300 < m.val.length) || decide (30 < m.ents.length) || decide (30 < m.items.length) || m.ents.any greatE || m.items.any greatI
def greatPds (l : List Pd) : Bool := decide (50 < l.length) || l.any fun p => greatE p.to || greatM p.m
def greatJ (j : Jb) : Bool := decide (300 < j.key.length) || decide (300 < j.val.length) || decide (300 < j.item.k.length) || decide (300 < j.item.v.length) || greatE j.owner || greatE j.back || decide (30 < j.asked.length) || j.asked.any fun a => decide (1000 < a.length)
def greatIs (l : List It) : Bool := decide (60 < l.length) || l.any greatI
def greatN (n : Nd) : Bool := greatE n.me || decide (300 < n.psk.length) || decide (300 < n.gateK.length) || greatPs n.pred || greatPs n.list || decide (70 < n.fingers.length) || greatSs n.sessions || greatPds n.pends || greatIs n.items || decide (20 < n.jobs.length) || decide (60 < n.draws.length) || decide (40 < n.results.length) || (n.fingers.any fun x => greatE x.p.e) || n.jobs.any greatJ || n.results.any fun r => decide (300 < r.key.length) || decide (300 < r.val.length)

end Go.Proofs.YtgbmhicpkbmeaaaDoor
namespace Go.Proofs.YtgbmhicpkbmeaaaDoor
open Go.Am
set_option linter.unusedSimpArgs false
set_option linter.unusedVariables false
set_option maxRecDepth 100000
/-! Nodes: their cells; equal entries; great ones. -/
theorem any_at {α : Type} {p : α → Bool} {l : List α} {i : Nat} (hi : i < l.length) (h : p l[i] = true) : l.any p = true := List.any_eq_true.2 ⟨l[i], List.getElem_mem hi, h⟩
theorem any_take {α : Type} {p : α → Bool} {l : List α} {i : Nat} (hi : i < l.length) (ha : (l.take i).any p = false) (h : p l[i] = false) : (l.take (i + 1)).any p = false := by
  rw [List.take_succ_eq_append_getElem hi, List.any_append, ha]; simp [h]
theorem any_end {α : Type} {p : α → Bool} {l : List α} (ha : (l.take l.length).any p = false) : l.any p = false := by rwa [List.take_length] at ha
theorem any_mem {α : Type} {p : α → Bool} {l : List α} (ha : l.any p = false) : ∀ x ∈ l, p x = false := by
  intro x hx; rw [List.any_eq_false] at ha; simpa using ha x hx

def Nd.cs (n : Nd) : List AVal := [.str n.me.name, .int .u64 (n.me.id : Int), .int .i64 n.me.fr, .int .i64 n.me.un, .int .i64 n.me.ix, .str n.me.tag, .int .i64 n.clock, .str n.psk, .int .i64 n.gateI, .str n.gateK, .bool n.ready, .slice 8 (n.pred.map Pr.cs), .slice 8 (n.list.map Pr.cs), .slice 9 (n.fingers.map Fg.cs), .slice 20 (n.sessions.map Se.cs), .slice 23 (n.pends.map Pd.cs), .slice 4 (n.items.map It.cs), .slice 29 (n.jobs.map Jb.cs), .int .i64 n.rid, .int .i64 n.jobId, .slice 1 (n.draws.map u64Row), .slice 8 (n.results.map Rs.cs)]

@[go_sem] theorem eqEntry (n t n' t' : List UInt8) (a b c d a' b' c' d' : Int) : eqF E.P 8 24 (.agg [.str n, .int .u64 a, .int .i64 b, .int .i64 c, .int .i64 d, .str t]) (.agg [.str n', .int .u64 a', .int .i64 b', .int .i64 c', .int .i64 d', .str t']) = some (decide (n = n' ∧ a = a' ∧ b = b' ∧ c = c' ∧ d = d' ∧ t = t')) := by
  have u1 : E.P.underlying 24 = _ := Tryd.underlying24
  have u2 : E.P.underlying 9 = _ := Tryd.underlying9
  have u3 : E.P.underlying 3 = _ := Tryd.underlying3
  have u4 : E.P.underlying 22 = _ := Tryd.underlying22
  have hs : E.P.stoodInHeld 24 = false := by kernel_rfl
  simp [eqF, eqGo, u1, u2, u3, u4, hs, tq9.1, tq9.2.1, tq3.1, tq3.2.1, tq22.1, tq22.2.1, mkV, beq_dec, Bool.and_assoc, ← Bool.decide_and]

@[go_sem] theorem eqPeer (n t n' t' : List UInt8) (a b c d e f a' b' c' d' e' f' : Int) : eqF E.P 8 75 (.agg [.str n, .int .u64 a, .int .i64 b, .int .i64 c, .int .i64 d, .str t, .int .i64 e, .int .i64 f]) (.agg [.str n', .int .u64 a', .int .i64 b', .int .i64 c', .int .i64 d', .str t', .int .i64 e', .int .i64 f']) = some (decide ((n = n' ∧ a = a' ∧ b = b' ∧ c = c' ∧ d = d' ∧ t = t') ∧ e = e' ∧ f = f')) := by
  have u0 : E.P.underlying 75 = _ := Tryd.underlying75
  have u1 : E.P.underlying 24 = _ := Tryd.underlying24
  have u2 : E.P.underlying 9 = _ := Tryd.underlying9
  have u3 : E.P.underlying 3 = _ := Tryd.underlying3
  have u4 : E.P.underlying 22 = _ := Tryd.underlying22
  have hs : E.P.stoodInHeld 24 = false := by kernel_rfl
  have hp : E.P.stoodInHeld 75 = false := by kernel_rfl
  simp [eqF, eqGo, u0, u1, u2, u3, u4, hs, hp, tq9.1, tq9.2.1, tq3.1, tq3.2.1, tq22.1, tq22.2.1, tq24.1, tq24.2.1, mkV, beq_dec, Bool.and_assoc, ← Bool.decide_and]

@[go_sem] theorem e14 (e : En) (hn : e.name.length ≤ 9223372036854775807) (ht : e.tag.length ≤ 9223372036854775807) : fn C 14 [] [.agg [.str e.name, .int .u64 (e.id : Int), .int .i64 e.fr, .int .i64 e.un, .int .i64 e.ix, .str e.tag]] = some (.bool (greatE e), []) := by
  rw [fn_text Tryd.func14 rfl rfl Tryd.results14 fq14.1 rfl rfl (by kernel_rfl)]
  simp -implicitDefEqProofs -dsimp +contextual (maxSteps := 9999999) (disch := first | omega | simp only [go_sem] <;> omega | refine ib ?_; kernel_rfl) only [go_sem, seval, ↓reduceIte]
  (repeat' (refine kD_intro (fun _ => ?_) (fun _ => ?_))) <;> exact Res_bool (by simp [greatE, *])
/-- Lengths that a machine can hold. -/
structure En.fit (e : En) : Prop where
  n : e.name.length ≤ 9223372036854775807
  t : e.tag.length ≤ 9223372036854775807
structure Pr.fit (p : Pr) : Prop where
  l : p.e.fit
structure Se.fit (x : Se) : Prop where
  p : x.peer.fit
  s : x.send.length ≤ 9223372036854775807
  h : x.hear.length ≤ 9223372036854775807
structure It.fit (x : It) : Prop where
  k : x.k.length ≤ 9223372036854775807
  v : x.v.length ≤ 9223372036854775807
structure Ms.fit (m : Ms) : Prop where
  k : m.key.length ≤ 9223372036854775807
  v : m.val.length ≤ 9223372036854775807
  e : m.ents.length ≤ 9223372036854775807
  i : m.items.length ≤ 9223372036854775807
  es : ∀ e ∈ m.ents, e.fit
  is : ∀ x ∈ m.items, x.fit
structure Pd.fit (p : Pd) : Prop where
  t : p.to.fit
  m : p.m.fit
structure Jb.fit (j : Jb) : Prop where
  k : j.key.length ≤ 9223372036854775807
  v : j.val.length ≤ 9223372036854775807
  ik : j.item.fit
  o : j.owner.fit
  b : j.back.fit
  a : j.asked.length ≤ 9223372036854775807
  al : ∀ s ∈ j.asked, s.length ≤ 9223372036854775807
structure Rs.fit (r : Rs) : Prop where
  k : r.key.length ≤ 9223372036854775807
  v : r.val.length ≤ 9223372036854775807
structure Nd.fit (n : Nd) : Prop where
  me : n.me.fit
  psk : n.psk.length ≤ 9223372036854775807
  gk : n.gateK.length ≤ 9223372036854775807
  pl : n.pred.length ≤ 9223372036854775807
  p : ∀ p ∈ n.pred, p.fit
  ll : n.list.length ≤ 9223372036854775807
  l : ∀ p ∈ n.list, p.fit
  fl : n.fingers.length ≤ 9223372036854775807
  f : ∀ f ∈ n.fingers, f.p.fit
  sl : n.sessions.length ≤ 9223372036854775807
  s : ∀ s ∈ n.sessions, s.fit
  dl : n.pends.length ≤ 9223372036854775807
  d : ∀ p ∈ n.pends, p.fit
  il : n.items.length ≤ 9223372036854775807
  i : ∀ x ∈ n.items, x.fit
  jl : n.jobs.length ≤ 9223372036854775807
  j : ∀ j ∈ n.jobs, j.fit
  wl : n.draws.length ≤ 9223372036854775807
  rl : n.results.length ≤ 9223372036854775807
  r : ∀ r ∈ n.results, r.fit

@[reducible] def I64 (n : Int) : Prop := -9223372036854775808 ≤ n ∧ n ≤ 9223372036854775807
@[reducible] def U64 (n : Nat) : Prop := n ≤ 18446744073709551615
structure Pr.ok (p : Pr) : Prop where
  e : p.e.ok
  s1 : -9223372036854775808 ≤ p.since
  s2 : p.since ≤ 9223372036854775807
  u1 : -9223372036854775808 ≤ p.under
  u2 : p.under ≤ 9223372036854775807
structure Rs.ok (r : Rs) : Prop where
  j1 : -9223372036854775808 ≤ r.job
  j2 : r.job ≤ 9223372036854775807
  k1 : -9223372036854775808 ≤ r.kind
  k2 : r.kind ≤ 9223372036854775807
  v1 : -9223372036854775808 ≤ r.ver
  v2 : r.ver ≤ 9223372036854775807
  e1 : -9223372036854775808 ≤ r.err
  e2 : r.err ≤ 9223372036854775807
structure Fg.ok (x : Fg) : Prop where
  b : I64 x.bit
  p : x.p.ok
structure It.ok (x : It) : Prop where
  n : I64 x.n
structure Se.ok (x : Se) : Prop where
  id : U64 x.id
  nonce : U64 x.nonce
  peer : x.peer.ok
  role : I64 x.role
  state : I64 x.state
  epoch : I64 x.epoch
  count : I64 x.count
  since : I64 x.since
  seq : I64 x.seq
  top : I64 x.seen.top
  low : U64 x.seen.low
  high : U64 x.seen.high
  used : I64 x.used
structure Ms.ok (m : Ms) : Prop where
  kind : I64 m.kind
  rid : I64 m.rid
  ver : I64 m.ver
  err : I64 m.err
  id : U64 m.id
  ents : ∀ e ∈ m.ents, e.ok
  items : ∀ x ∈ m.items, x.ok
structure Pd.ok (p : Pd) : Prop where
  rid : I64 p.rid
  why : I64 p.why
  job : I64 p.job
  til : I64 p.til
  tries : I64 p.tries
  session : U64 p.session
  to : p.to.ok
  m : p.m.ok
structure Jb.ok (j : Jb) : Prop where
  id : I64 j.id
  kind : I64 j.kind
  phase : I64 j.phase
  hops : I64 j.hops
  tries : I64 j.tries
  til : I64 j.til
  owner : j.owner.ok
  item : j.item.ok
  acks : I64 j.acks
  waits : I64 j.waits
  back : j.back.ok
  backRid : I64 j.backRid
  backJob : I64 j.backJob
structure Nd.ok (n : Nd) : Prop where
  me : n.me.ok
  clock : I64 n.clock
  gate : I64 n.gateI
  pred : ∀ p ∈ n.pred, p.ok
  list : ∀ p ∈ n.list, p.ok
  fingers : ∀ p ∈ n.fingers, p.ok
  sessions : ∀ p ∈ n.sessions, p.ok
  pends : ∀ p ∈ n.pends, p.ok
  items : ∀ p ∈ n.items, p.ok
  jobs : ∀ p ∈ n.jobs, p.ok
  rid : I64 n.rid
  jobId : I64 n.jobId
  draws : ∀ d ∈ n.draws, U64 d
  results : ∀ p ∈ n.results, p.ok

@[go_sem] theorem e33 (l : List Pr) (hl : l.length ≤ 9223372036854775807) (hp : ∀ p ∈ l, p.fit) : fn C 33 [] [.slice 8 (l.map Pr.cs)] = some (.bool (greatPs l), []) := by
  rw [fn_text Tryd.func33 rfl rfl Tryd.results33 fq33.1 rfl rfl (by kernel_rfl)]
  unfold greatPs
  by_cases hb : 40 < l.length
  · simp -implicitDefEqProofs -dsimp +contextual (maxSteps := 9999999) (disch := first | omega | simp only [go_sem] <;> omega | refine ib ?_; kernel_rfl) only [go_sem, seval, ↓reduceIte, hb]
    try simp [hb]
  · simp -implicitDefEqProofs -dsimp +contextual (maxSteps := 9999999) (disch := first | omega | simp only [go_sem] <;> omega | refine ib ?_; kernel_rfl) only [go_sem, seval, ↓reduceIte, hb]
    refine kFor l.length (fun i f H => f 0 = .slice 8 (l.map Pr.cs) ∧ f 3 = .int .i64 (i : Nat) ∧ H = Heap.nil ∧ (l.take i).any (fun p => greatE p.e) = false) ?_ ?_ ⟨rfl, rfl, rfl, rfl⟩
    · rintro i f _ hi ⟨h0, h3, rfl, ha⟩ ih
      have := (hp _ (List.getElem_mem hi)).l.n
      have := (hp _ (List.getElem_mem hi)).l.t
      simp -implicitDefEqProofs -dsimp +contextual (maxSteps := 9999999) (disch := first | omega | simp only [go_sem] <;> omega | refine ib ?_; kernel_rfl) only [go_sem, seval, ↓reduceIte, h0, h3, hi]
      (repeat' (refine kD_intro (fun _ => ?_) (fun _ => ?_)))
      · rename_i h; rw [any_at (p := fun p => greatE p.e) hi h] <;> simp
      · rename_i h; exact ih _ _ ⟨h0, rfl, rfl, any_take hi ha (by simpa using h)⟩
    · rintro f _ ⟨h0, h3, rfl, ha⟩
      simp -implicitDefEqProofs -dsimp +contextual (maxSteps := 9999999) (disch := first | omega | simp only [go_sem] <;> omega | refine ib ?_; kernel_rfl) only [go_sem, seval, ↓reduceIte, h0, h3]
      rw [any_end ha] <;> simp [hb]

@[go_sem] theorem e62 (s : Se) (h : s.fit) : fn C 62 [] [.agg [.int .u64 (s.id : Int), .int .u64 (s.nonce : Int), .str s.peer.name, .int .u64 (s.peer.id : Int), .int .i64 s.peer.fr, .int .i64 s.peer.un, .int .i64 s.peer.ix, .str s.peer.tag, .int .i64 s.role, .int .i64 s.state, .str s.send, .str s.hear, .int .i64 s.epoch, .int .i64 s.count, .int .i64 s.since, .int .i64 s.seq, .int .i64 s.seen.top, .int .u64 (s.seen.low : Int), .int .u64 (s.seen.high : Int), .int .i64 s.used]] = some (.bool (greatS s), []) := by
  rw [fn_text Tryd.func62 rfl rfl Tryd.results62 fq62.1 rfl rfl (by kernel_rfl)]
  have := h.p.n
  have := h.p.t
  have := h.s
  have := h.h
  simp -implicitDefEqProofs -dsimp +contextual (maxSteps := 9999999) (disch := first | omega | simp only [go_sem] <;> omega | refine ib ?_; kernel_rfl) only [go_sem, seval, ↓reduceIte]
  (repeat' (refine kD_intro (fun _ => ?_) (fun _ => ?_))) <;> exact Res_bool (by simp [greatS, *])

@[go_sem] theorem e34 (l : List Se) (hl : l.length ≤ 9223372036854775807) (hp : ∀ p ∈ l, p.fit) : fn C 34 [] [.slice 20 (l.map Se.cs)] = some (.bool (greatSs l), []) := by
  rw [fn_text Tryd.func34 rfl rfl Tryd.results34 fq34.1 rfl rfl (by kernel_rfl)]
  unfold greatSs
  by_cases hb : 60 < l.length
  · simp -implicitDefEqProofs -dsimp +contextual (maxSteps := 9999999) (disch := first | omega | simp only [go_sem] <;> omega | refine ib ?_; kernel_rfl) only [go_sem, seval, ↓reduceIte, hb]
    try simp [hb]
  · simp -implicitDefEqProofs -dsimp +contextual (maxSteps := 9999999) (disch := first | omega | simp only [go_sem] <;> omega | refine ib ?_; kernel_rfl) only [go_sem, seval, ↓reduceIte, hb]
    refine kFor l.length (fun i f H => f 0 = .slice 20 (l.map Se.cs) ∧ f 3 = .int .i64 (i : Nat) ∧ H = Heap.nil ∧ (l.take i).any greatS = false) ?_ ?_ ⟨rfl, rfl, rfl, rfl⟩
    · rintro i f _ hi ⟨h0, h3, rfl, ha⟩ ih
      have := hp _ (List.getElem_mem hi)
      simp -implicitDefEqProofs -dsimp +contextual (maxSteps := 9999999) (disch := first | omega | simp only [go_sem] <;> omega | refine ib ?_; kernel_rfl) only [go_sem, seval, ↓reduceIte, h0, h3, hi, this]
      (repeat' (refine kD_intro (fun _ => ?_) (fun _ => ?_)))
      · rename_i h; rw [any_at hi h] <;> simp
      · rename_i h; exact ih _ _ ⟨h0, rfl, rfl, any_take hi ha (by simpa using h)⟩
    · rintro f _ ⟨h0, h3, rfl, ha⟩
      simp -implicitDefEqProofs -dsimp +contextual (maxSteps := 9999999) (disch := first | omega | simp only [go_sem] <;> omega | refine ib ?_; kernel_rfl) only [go_sem, seval, ↓reduceIte, h0, h3]
      rw [any_end ha] <;> simp [hb]

@[go_sem] theorem e36 (l : List It) (hl : l.length ≤ 9223372036854775807) (hp : ∀ x ∈ l, x.fit) : fn C 36 [] [.slice 4 (l.map It.cs)] = some (.bool (greatIs l), []) := by
  rw [fn_text Tryd.func36 rfl rfl Tryd.results36 fq36.1 rfl rfl (by kernel_rfl)]
  unfold greatIs
  by_cases hb : 60 < l.length
  · simp -implicitDefEqProofs -dsimp +contextual (maxSteps := 9999999) (disch := first | omega | simp only [go_sem] <;> omega | refine ib ?_; kernel_rfl) only [go_sem, seval, ↓reduceIte, hb]
    try simp [hb]
  · simp -implicitDefEqProofs -dsimp +contextual (maxSteps := 9999999) (disch := first | omega | simp only [go_sem] <;> omega | refine ib ?_; kernel_rfl) only [go_sem, seval, ↓reduceIte, hb]
    refine kFor l.length (fun i f H => f 0 = .slice 4 (l.map It.cs) ∧ f 3 = .int .i64 (i : Nat) ∧ H = Heap.nil ∧ (l.take i).any greatI = false) ?_ ?_ ⟨rfl, rfl, rfl, rfl⟩
    · rintro i f _ hi ⟨h0, h3, rfl, ha⟩ ih
      have := (hp _ (List.getElem_mem hi)).k
      have := (hp _ (List.getElem_mem hi)).v
      simp -implicitDefEqProofs -dsimp +contextual (maxSteps := 9999999) (disch := first | omega | simp only [go_sem] <;> omega | refine ib ?_; kernel_rfl) only [go_sem, seval, ↓reduceIte, h0, h3, hi]
      (repeat' (refine kD_intro (fun _ => ?_) (fun _ => ?_)))
      · rename_i h; rw [any_at (p := greatI) hi (by simp [greatI, h])] <;> simp
      · rename_i h h'; rw [any_at (p := greatI) hi (by simp [greatI, h'])] <;> simp
      · rename_i h h'; exact ih _ _ ⟨h0, rfl, rfl, any_take hi ha (by simp [greatI]; omega)⟩
    · rintro f _ ⟨h0, h3, rfl, ha⟩
      simp -implicitDefEqProofs -dsimp +contextual (maxSteps := 9999999) (disch := first | omega | simp only [go_sem] <;> omega | refine ib ?_; kernel_rfl) only [go_sem, seval, ↓reduceIte, h0, h3]
      rw [any_end ha] <;> simp [hb]

set_option maxHeartbeats 1000000 in
@[go_sem] theorem e63 (m : Ms) (h : m.fit) : fn C 63 [] [.agg [.int .i64 m.kind, .int .i64 m.rid, .int .i64 m.ver, .int .i64 m.err, .int .u64 (m.id : Int), .bool m.has, .bool m.gone, .str m.key, .str m.val, .slice 6 (m.ents.map En.cs), .slice 4 (m.items.map It.cs)]] = some (.bool (greatM m), []) := by
  rw [fn_text Tryd.func63 rfl rfl Tryd.results63 fq63.1 rfl rfl (by kernel_rfl)]
  have := h.k
  have := h.v
  have := h.e
  have := h.i
  unfold greatM
  by_cases b1 : 300 < m.key.length
  · simp -implicitDefEqProofs -dsimp +contextual (maxSteps := 9999999) (disch := first | omega | simp only [go_sem] <;> omega | refine ib ?_; kernel_rfl) only [go_sem, seval, ↓reduceIte, b1]
    try simp [b1]
  by_cases b2 : 300 < m.val.length
  · simp -implicitDefEqProofs -dsimp +contextual (maxSteps := 9999999) (disch := first | omega | simp only [go_sem] <;> omega | refine ib ?_; kernel_rfl) only [go_sem, seval, ↓reduceIte, b1, b2]
    try simp [b2]
  by_cases b3 : 30 < m.ents.length
  · simp -implicitDefEqProofs -dsimp +contextual (maxSteps := 9999999) (disch := first | omega | simp only [go_sem] <;> omega | refine ib ?_; kernel_rfl) only [go_sem, seval, ↓reduceIte, b1, b2, b3]
    try simp [b3]
  by_cases b4 : 30 < m.items.length
  · simp -implicitDefEqProofs -dsimp +contextual (maxSteps := 9999999) (disch := first | omega | simp only [go_sem] <;> omega | refine ib ?_; kernel_rfl) only [go_sem, seval, ↓reduceIte, b1, b2, b3, b4]
    try simp [b4]
  simp -implicitDefEqProofs -dsimp +contextual (maxSteps := 9999999) (disch := first | omega | simp only [go_sem] <;> omega | refine ib ?_; kernel_rfl) only [go_sem, seval, ↓reduceIte, b1, b2, b3, b4]
  refine kFor m.ents.length (fun i f H => f 1 = .ptr 101 1 0 0 ∧ f 3 = .int .i64 (i : Nat) ∧ H 101 = ⟨1, .live, 11, [m.cs], false⟩ ∧ (m.ents.take i).any greatE = false) ?_ ?_ ⟨rfl, rfl, rfl, rfl⟩
  · rintro i f H hi ⟨h1, h3, hH, ha⟩ ih
    have := (h.es _ (List.getElem_mem hi)).n
    have := (h.es _ (List.getElem_mem hi)).t
    simp -implicitDefEqProofs -dsimp +contextual (maxSteps := 9999999) (disch := first | omega | simp only [go_sem] <;> omega | refine ib ?_; kernel_rfl) only [go_sem, seval, ↓reduceIte, h1, h3, hH, hi]
    (repeat' (refine kD_intro (fun _ => ?_) (fun _ => ?_)))
    · rename_i h; rw [any_at hi h] <;> simp
    · rename_i h; exact ih _ _ ⟨h1, rfl, hH, any_take hi ha (by simpa using h)⟩
  · rintro f H ⟨h1, h3, hH, ha⟩
    simp -implicitDefEqProofs -dsimp +contextual (maxSteps := 9999999) (disch := first | omega | simp only [go_sem] <;> omega | refine ib ?_; kernel_rfl) only [go_sem, seval, ↓reduceIte, h1, h3, hH]
    refine kFor m.items.length (fun i f H => f 1 = .ptr 101 1 0 0 ∧ f 4 = .int .i64 (i : Nat) ∧ H 101 = ⟨1, .live, 11, [m.cs], false⟩ ∧ (m.items.take i).any greatI = false) ?_ ?_ ⟨h1, rfl, hH, rfl⟩
    · rintro i f H hi ⟨h1, h3, hH, ha2⟩ ih
      have := (h.is _ (List.getElem_mem hi)).k
      have := (h.is _ (List.getElem_mem hi)).v
      simp -implicitDefEqProofs -dsimp +contextual (maxSteps := 9999999) (disch := first | omega | simp only [go_sem] <;> omega | refine ib ?_; kernel_rfl) only [go_sem, seval, ↓reduceIte, h1, h3, hH, hi]
      (repeat' (refine kD_intro (fun _ => ?_) (fun _ => ?_)))
      · rename_i h; rw [any_at (p := greatI) hi (by simp [greatI, h])] <;> simp
      · rename_i h h'; rw [any_at (p := greatI) hi (by simp [greatI, h'])] <;> simp
      · rename_i h h'; exact ih _ _ ⟨h1, rfl, hH, any_take hi ha2 (by simp [greatI]; omega)⟩
    · rintro f H ⟨h1, h3, hH, ha2⟩
      simp -implicitDefEqProofs -dsimp +contextual (maxSteps := 9999999) (disch := first | omega | simp only [go_sem] <;> omega | refine ib ?_; kernel_rfl) only [go_sem, seval, ↓reduceIte, h1, h3, hH]
      rw [any_end ha, any_end ha2] <;> simp [b1, b2, b3, b4]

@[go_sem] theorem e35 (l : List Pd) (hl : l.length ≤ 9223372036854775807) (hp : ∀ x ∈ l, x.fit) : fn C 35 [] [.slice 23 (l.map Pd.cs)] = some (.bool (greatPds l), []) := by
  rw [fn_text Tryd.func35 rfl rfl Tryd.results35 fq35.1 rfl rfl (by kernel_rfl)]
  unfold greatPds
  by_cases hb : 50 < l.length
  · simp -implicitDefEqProofs -dsimp +contextual (maxSteps := 9999999) (disch := first | omega | simp only [go_sem] <;> omega | refine ib ?_; kernel_rfl) only [go_sem, seval, ↓reduceIte, hb]
    try simp [hb]
  · simp -implicitDefEqProofs -dsimp +contextual (maxSteps := 9999999) (disch := first | omega | simp only [go_sem] <;> omega | refine ib ?_; kernel_rfl) only [go_sem, seval, ↓reduceIte, hb]
    refine kFor l.length (fun i f H => f 0 = .slice 23 (l.map Pd.cs) ∧ f 3 = .int .i64 (i : Nat) ∧ H = Heap.nil ∧ (l.take i).any (fun p => greatE p.to || greatM p.m) = false) ?_ ?_ ⟨rfl, rfl, rfl, rfl⟩
    · rintro i f _ hi ⟨h0, h3, rfl, ha⟩ ih
      have := (hp _ (List.getElem_mem hi)).t.n
      have := (hp _ (List.getElem_mem hi)).t.t
      have := (hp _ (List.getElem_mem hi)).m
      simp -implicitDefEqProofs -dsimp +contextual (maxSteps := 9999999) (disch := first | omega | simp only [go_sem] <;> omega | refine ib ?_; kernel_rfl) only [go_sem, seval, ↓reduceIte, h0, h3, hi]
      (repeat' (refine kD_intro (fun _ => ?_) (fun _ => ?_)))
      · rename_i h; rw [any_at (p := fun p : Pd => greatE p.to || greatM p.m) hi (by simp [h])] <;> simp
      · rename_i h h'; rw [any_at (p := fun p : Pd => greatE p.to || greatM p.m) hi (by simp [h'])] <;> simp
      · rename_i h h'; exact ih _ _ ⟨h0, rfl, rfl, any_take hi ha (by simp [h, h'])⟩
    · rintro f _ ⟨h0, h3, rfl, ha⟩
      simp -implicitDefEqProofs -dsimp +contextual (maxSteps := 9999999) (disch := first | omega | simp only [go_sem] <;> omega | refine ib ?_; kernel_rfl) only [go_sem, seval, ↓reduceIte, h0, h3]
      rw [any_end ha] <;> simp [hb]

end Go.Proofs.YtgbmhicpkbmeaaaDoor
namespace Go.Proofs.YtgbmhicpkbmeaaaDoor
open Go.Am
set_option linter.unusedSimpArgs false
set_option linter.unusedVariables false
set_option maxRecDepth 100000
/-! Great nodes. -/
def askedG (j : Jb) : Bool := j.asked.any fun a => decide (1000 < a.length)
def resG (r : Rs) : Bool := decide (300 < r.key.length) || decide (300 < r.val.length)
set_option maxHeartbeats 4000000 in
@[go_sem] theorem e9 (n : Nd) (h : n.fit) : fn C 9 [] [.agg [.str n.me.name, .int .u64 (n.me.id : Int), .int .i64 n.me.fr, .int .i64 n.me.un, .int .i64 n.me.ix, .str n.me.tag, .int .i64 n.clock, .str n.psk, .int .i64 n.gateI, .str n.gateK, .bool n.ready, .slice 8 (n.pred.map Pr.cs), .slice 8 (n.list.map Pr.cs), .slice 9 (n.fingers.map Fg.cs), .slice 20 (n.sessions.map Se.cs), .slice 23 (n.pends.map Pd.cs), .slice 4 (n.items.map It.cs), .slice 29 (n.jobs.map Jb.cs), .int .i64 n.rid, .int .i64 n.jobId, .slice 1 (n.draws.map u64Row), .slice 8 (n.results.map Rs.cs)]] = some (.bool (greatN n), []) := by
  rw [fn_text Tryd.func9 rfl rfl Tryd.results9 fq9.1 rfl rfl (by kernel_rfl)]
  have hme1 := h.me.n
  have hme2 := h.me.t
  obtain ⟨h1, h2, h3, h4, h5, h6, h7, h8, h9, h10, h11, h12, h13, h14, h15, h16, h17, h18, h19, h20⟩ := h
  rcases Bool.eq_false_or_eq_true (greatE n.me) with b1 | b1
  · simp -implicitDefEqProofs -dsimp +contextual (maxSteps := 9999999) (disch := first | omega | simp only [go_sem] <;> omega | refine ib ?_; kernel_rfl) only [go_sem, seval, ↓reduceIte, b1]
    simp [greatN, b1]
  by_cases b2 : 300 < n.psk.length
  · simp -implicitDefEqProofs -dsimp +contextual (maxSteps := 9999999) (disch := first | omega | simp only [go_sem] <;> omega | refine ib ?_; kernel_rfl) only [go_sem, seval, ↓reduceIte, b1, b2]
    simp [greatN, b2]
  by_cases b3 : 300 < n.gateK.length
  · simp -implicitDefEqProofs -dsimp +contextual (maxSteps := 9999999) (disch := first | omega | simp only [go_sem] <;> omega | refine ib ?_; kernel_rfl) only [go_sem, seval, ↓reduceIte, b1, b2, b3]
    simp [greatN, b3]
  rcases Bool.eq_false_or_eq_true (greatPs n.pred) with b4 | b4
  · simp -implicitDefEqProofs -dsimp +contextual (maxSteps := 9999999) (disch := first | omega | simp only [go_sem] <;> omega | refine ib ?_; kernel_rfl) only [go_sem, seval, ↓reduceIte, b1, b2, b3, b4, h5]
    simp [greatN, b4]
  rcases Bool.eq_false_or_eq_true (greatPs n.list) with b5 | b5
  · simp -implicitDefEqProofs -dsimp +contextual (maxSteps := 9999999) (disch := first | omega | simp only [go_sem] <;> omega | refine ib ?_; kernel_rfl) only [go_sem, seval, ↓reduceIte, b1, b2, b3, b4, b5, h5, h7]
    simp [greatN, b5]
  by_cases b6 : 70 < n.fingers.length
  · simp -implicitDefEqProofs -dsimp +contextual (maxSteps := 9999999) (disch := first | omega | simp only [go_sem] <;> omega | refine ib ?_; kernel_rfl) only [go_sem, seval, ↓reduceIte, b1, b2, b3, b4, b5, b6, h5, h7]
    simp [greatN, b6]
  rcases Bool.eq_false_or_eq_true (greatSs n.sessions) with b7 | b7
  · simp -implicitDefEqProofs -dsimp +contextual (maxSteps := 9999999) (disch := first | omega | simp only [go_sem] <;> omega | refine ib ?_; kernel_rfl) only [go_sem, seval, ↓reduceIte, b1, b2, b3, b4, b5, b6, b7, h5, h7, h11]
    simp [greatN, b7]
  rcases Bool.eq_false_or_eq_true (greatPds n.pends) with b8 | b8
  · simp -implicitDefEqProofs -dsimp +contextual (maxSteps := 9999999) (disch := first | omega | simp only [go_sem] <;> omega | refine ib ?_; kernel_rfl) only [go_sem, seval, ↓reduceIte, b1, b2, b3, b4, b5, b6, b7, b8, h5, h7, h11, h13]
    simp [greatN, b8]
  rcases Bool.eq_false_or_eq_true (greatIs n.items) with b9 | b9
  · simp -implicitDefEqProofs -dsimp +contextual (maxSteps := 9999999) (disch := first | omega | simp only [go_sem] <;> omega | refine ib ?_; kernel_rfl) only [go_sem, seval, ↓reduceIte, b1, b2, b3, b4, b5, b6, b7, b8, b9, h5, h7, h11, h13, h15]
    simp [greatN, b9]
  by_cases b10 : 20 < n.jobs.length
  · simp -implicitDefEqProofs -dsimp +contextual (maxSteps := 9999999) (disch := first | omega | simp only [go_sem] <;> omega | refine ib ?_; kernel_rfl) only [go_sem, seval, ↓reduceIte, b1, b2, b3, b4, b5, b6, b7, b8, b9, b10, h5, h7, h11, h13, h15]
    simp [greatN, b10]
  by_cases b11 : 60 < n.draws.length
  · simp -implicitDefEqProofs -dsimp +contextual (maxSteps := 9999999) (disch := first | omega | simp only [go_sem] <;> omega | refine ib ?_; kernel_rfl) only [go_sem, seval, ↓reduceIte, b1, b2, b3, b4, b5, b6, b7, b8, b9, b10, b11, h5, h7, h11, h13, h15]
    simp [greatN, b11]
  by_cases b12 : 40 < n.results.length
  · simp -implicitDefEqProofs -dsimp +contextual (maxSteps := 9999999) (disch := first | omega | simp only [go_sem] <;> omega | refine ib ?_; kernel_rfl) only [go_sem, seval, ↓reduceIte, b1, b2, b3, b4, b5, b6, b7, b8, b9, b10, b11, b12, h5, h7, h11, h13, h15]
    simp [greatN, b12]
  simp -implicitDefEqProofs -dsimp +contextual (maxSteps := 9999999) (disch := first | omega | simp only [go_sem] <;> omega | refine ib ?_; kernel_rfl) only [go_sem, seval, ↓reduceIte, b1, b2, b3, b4, b5, b6, b7, b8, b9, b10, b11, b12, h5, h7, h11, h13, h15]
  refine kFor n.fingers.length (fun i f H => f 1 = .ptr 101 1 0 0 ∧ f 3 = .int .i64 (i : Nat) ∧ H 101 = ⟨1, .live, 22, [n.cs], false⟩ ∧ (n.fingers.take i).any (fun x => greatE x.p.e) = false) ?_ ?_ ⟨rfl, rfl, rfl, rfl⟩
  · rintro i f H hi ⟨f1, f3, hH, ha⟩ ih
    have k1 := (h9 _ (List.getElem_mem hi)).l.n
    have k2 := (h9 _ (List.getElem_mem hi)).l.t
    simp -implicitDefEqProofs -dsimp +contextual (maxSteps := 9999999) (disch := first | omega | simp only [go_sem] <;> omega | refine ib ?_; kernel_rfl) only [go_sem, seval, ↓reduceIte, f1, f3, hH, hi, Nd.cs]
    (repeat' (refine kD_intro (fun _ => ?_) (fun _ => ?_)))
    · rename_i g; simp [greatN, any_at (p := fun x : Fg => greatE x.p.e) hi g]
    · rename_i g; exact ih _ _ ⟨f1, rfl, hH, any_take hi ha (by simpa using g)⟩
  rintro f H ⟨f1, f3, hH, ha⟩
  simp -implicitDefEqProofs -dsimp +contextual (maxSteps := 9999999) (disch := first | omega | simp only [go_sem] <;> omega | refine ib ?_; kernel_rfl) only [go_sem, seval, ↓reduceIte, f1, f3, hH, Nd.cs]
  have a1 := any_end ha
  refine kFor n.jobs.length (fun i f H => f 1 = .ptr 101 1 0 0 ∧ f 4 = .int .i64 (i : Nat) ∧ H 101 = ⟨1, .live, 22, [n.cs], false⟩ ∧ (n.jobs.take i).any greatJ = false) ?_ ?_ ⟨f1, rfl, hH, rfl⟩
  · rintro i f H hi ⟨f1, f4, hH, ha⟩ ih
    obtain ⟨k1, k2, ⟨k3, k4⟩, ⟨k5, k6⟩, ⟨k7, k8⟩, k9, k10⟩ := h17 _ (List.getElem_mem hi)
    have big : greatJ n.jobs[i] = true → greatN n = true := fun g => by simp [greatN, any_at hi g]
    by_cases c1 : 300 < n.jobs[i].key.length
    · simp -implicitDefEqProofs -dsimp +contextual (maxSteps := 9999999) (disch := first | omega | simp only [go_sem] <;> omega | refine ib ?_; kernel_rfl) only [go_sem, seval, ↓reduceIte, f1, f4, hH, hi, Nd.cs, c1]
      rw [big (by simp [greatJ, c1])]
    by_cases c2 : 300 < n.jobs[i].val.length
    · simp -implicitDefEqProofs -dsimp +contextual (maxSteps := 9999999) (disch := first | omega | simp only [go_sem] <;> omega | refine ib ?_; kernel_rfl) only [go_sem, seval, ↓reduceIte, f1, f4, hH, hi, Nd.cs, c1, c2]
      rw [big (by simp [greatJ, c2])]
    by_cases c3 : 300 < n.jobs[i].item.k.length
    · simp -implicitDefEqProofs -dsimp +contextual (maxSteps := 9999999) (disch := first | omega | simp only [go_sem] <;> omega | refine ib ?_; kernel_rfl) only [go_sem, seval, ↓reduceIte, f1, f4, hH, hi, Nd.cs, c1, c2, c3]
      rw [big (by simp [greatJ, c3])]
    by_cases c4 : 300 < n.jobs[i].item.v.length
    · simp -implicitDefEqProofs -dsimp +contextual (maxSteps := 9999999) (disch := first | omega | simp only [go_sem] <;> omega | refine ib ?_; kernel_rfl) only [go_sem, seval, ↓reduceIte, f1, f4, hH, hi, Nd.cs, c1, c2, c3, c4]
      rw [big (by simp [greatJ, c4])]
    rcases Bool.eq_false_or_eq_true (greatE n.jobs[i].owner) with c5 | c5
    · simp -implicitDefEqProofs -dsimp +contextual (maxSteps := 9999999) (disch := first | omega | simp only [go_sem] <;> omega | refine ib ?_; kernel_rfl) only [go_sem, seval, ↓reduceIte, f1, f4, hH, hi, Nd.cs, c1, c2, c3, c4, c5]
      rw [big (by simp [greatJ, c5])]
    rcases Bool.eq_false_or_eq_true (greatE n.jobs[i].back) with c6 | c6
    · simp -implicitDefEqProofs -dsimp +contextual (maxSteps := 9999999) (disch := first | omega | simp only [go_sem] <;> omega | refine ib ?_; kernel_rfl) only [go_sem, seval, ↓reduceIte, f1, f4, hH, hi, Nd.cs, c1, c2, c3, c4, c5, c6]
      rw [big (by simp [greatJ, c6])]
    by_cases c7 : 30 < n.jobs[i].asked.length
    · simp -implicitDefEqProofs -dsimp +contextual (maxSteps := 9999999) (disch := first | omega | simp only [go_sem] <;> omega | refine ib ?_; kernel_rfl) only [go_sem, seval, ↓reduceIte, f1, f4, hH, hi, Nd.cs, c1, c2, c3, c4, c5, c6, c7]
      rw [big (by simp [greatJ, c7])]
    simp -implicitDefEqProofs -dsimp +contextual (maxSteps := 9999999) (disch := first | omega | simp only [go_sem] <;> omega | refine ib ?_; kernel_rfl) only [go_sem, seval, ↓reduceIte, f1, f4, hH, hi, Nd.cs, c1, c2, c3, c4, c5, c6, c7]
    refine kFor n.jobs[i].asked.length (fun k f H => f 1 = .ptr 101 1 0 0 ∧ f 4 = .int .i64 (i : Nat) ∧ f 6 = .int .i64 (k : Nat) ∧ H 101 = ⟨1, .live, 22, [n.cs], false⟩ ∧ (∃ g, f 5 = .ptr 105 g 0 0 ∧ H 105 = ⟨g, .live, 29, [n.jobs[i].cs], false⟩) ∧ (n.jobs[i].asked.take k).any (fun a => decide (1000 < a.length)) = false) ?_ ?_ ⟨f1, f4, rfl, by simp [Heap.set, hH], ⟨_, rfl, rfl⟩, rfl⟩
    · rintro k f H hk ⟨f1, f4, f6, hH, ⟨g, f5, hG⟩, hb⟩ ih2
      have q1 := k10 _ (List.getElem_mem hk)
      simp -implicitDefEqProofs -dsimp +contextual (maxSteps := 9999999) (disch := first | omega | simp only [go_sem] <;> omega | refine ib ?_; kernel_rfl) only [go_sem, seval, ↓reduceIte, f1, f4, f5, f6, hH, hG, hk, hi]
      (repeat' (refine kD_intro (fun _ => ?_) (fun _ => ?_)))
      · rename_i g'; rw [big (by simp [greatJ, any_at (p := fun a : List UInt8 => decide (1000 < a.length)) hk (by simpa using g')])]
      · rename_i g'; exact ih2 _ _ ⟨f1, f4, rfl, hH, ⟨g, f5, hG⟩, any_take hk hb (by simpa using g')⟩
    · rintro f H ⟨f1, f4, f6, hH, ⟨g, f5, hG⟩, hb⟩
      simp -implicitDefEqProofs -dsimp +contextual (maxSteps := 9999999) (disch := first | omega | simp only [go_sem] <;> omega | refine ib ?_; kernel_rfl) only [go_sem, seval, ↓reduceIte, f1, f4, f5, f6, hH, hG, hi]
      exact ih _ _ ⟨f1, rfl, hH, any_take hi ha (by simp [greatJ, c1, c2, c3, c4, c5, c6, c7, any_end hb])⟩
  rintro f H ⟨f1, f4, hH, ha⟩
  simp -implicitDefEqProofs -dsimp +contextual (maxSteps := 9999999) (disch := first | omega | simp only [go_sem] <;> omega | refine ib ?_; kernel_rfl) only [go_sem, seval, ↓reduceIte, f1, f4, hH, Nd.cs]
  have a2 := any_end ha
  refine kFor n.results.length (fun i f H => f 1 = .ptr 101 1 0 0 ∧ f 7 = .int .i64 (i : Nat) ∧ H 101 = ⟨1, .live, 22, [n.cs], false⟩ ∧ (n.results.take i).any resG = false) ?_ ?_ ⟨f1, rfl, hH, rfl⟩
  · rintro i f H hi ⟨f1, f7, hH, ha⟩ ih
    have k1 := (h20 _ (List.getElem_mem hi)).k
    have k2 := (h20 _ (List.getElem_mem hi)).v
    have big : resG n.results[i] = true → greatN n = true := fun g => by
      have := any_at hi g
      unfold resG at this
      simp [greatN, this]
    simp -implicitDefEqProofs -dsimp +contextual (maxSteps := 9999999) (disch := first | omega | simp only [go_sem] <;> omega | refine ib ?_; kernel_rfl) only [go_sem, seval, ↓reduceIte, f1, f7, hH, hi, Nd.cs]
    (repeat' (refine kD_intro (fun _ => ?_) (fun _ => ?_)))
    · rename_i g; rw [big (by simp [resG, g])]
    · rename_i g g'; rw [big (by simp [resG, g'])]
    · rename_i g g'; exact ih _ _ ⟨f1, rfl, hH, any_take hi ha (by simp [resG]; omega)⟩
  rintro f H ⟨f1, f7, hH, ha⟩
  simp -implicitDefEqProofs -dsimp +contextual (maxSteps := 9999999) (disch := first | omega | simp only [go_sem] <;> omega | refine ib ?_; kernel_rfl) only [go_sem, seval, ↓reduceIte, f1, f7, hH, Nd.cs]
  have a3 := any_end ha
  unfold resG at a3
  simp [greatN, b1, b2, b3, b4, b5, b6, b7, b8, b9, b10, b11, b12, a1, a2, a3]

end Go.Proofs.YtgbmhicpkbmeaaaDoor
namespace Go.Proofs.YtgbmhicpkbmeaaaDoor
open Go.Am
set_option linter.unusedSimpArgs false
set_option linter.unusedVariables false
set_option maxRecDepth 100000
/-! Nodes that are not great. -/
structure Se.small (x : Se) : Prop where
  p : x.peer.small
  s : x.send.length ≤ 300
  h : x.hear.length ≤ 300
structure It.small (x : It) : Prop where
  k : x.k.length ≤ 300
  v : x.v.length ≤ 300
structure Ms.small (m : Ms) : Prop where
  k : m.key.length ≤ 300
  v : m.val.length ≤ 300
  e : m.ents.length ≤ 30
  i : m.items.length ≤ 30
  es : ∀ e ∈ m.ents, e.small
  is : ∀ x ∈ m.items, x.small
structure Pd.small (p : Pd) : Prop where
  t : p.to.small
  m : p.m.small
structure Jb.small (j : Jb) : Prop where
  k : j.key.length ≤ 300
  v : j.val.length ≤ 300
  i : j.item.small
  o : j.owner.small
  b : j.back.small
  a : j.asked.length ≤ 30
  al : ∀ s ∈ j.asked, s.length ≤ 1000
structure Rs.small (r : Rs) : Prop where
  k : r.key.length ≤ 300
  v : r.val.length ≤ 300
structure Nd.small (n : Nd) : Prop where
  me : n.me.small
  psk : n.psk.length ≤ 300
  gk : n.gateK.length ≤ 300
  pl : n.pred.length ≤ 40
  p : ∀ p ∈ n.pred, p.e.small
  ll : n.list.length ≤ 40
  l : ∀ p ∈ n.list, p.e.small
  fl : n.fingers.length ≤ 70
  f : ∀ f ∈ n.fingers, f.p.e.small
  sl : n.sessions.length ≤ 60
  s : ∀ s ∈ n.sessions, s.small
  dl : n.pends.length ≤ 50
  d : ∀ p ∈ n.pends, p.small
  il : n.items.length ≤ 60
  i : ∀ x ∈ n.items, x.small
  jl : n.jobs.length ≤ 20
  j : ∀ j ∈ n.jobs, j.small
  wl : n.draws.length ≤ 60
  rl : n.results.length ≤ 40
  r : ∀ r ∈ n.results, r.small
theorem greatS_no {s : Se} (h : greatS s = false) : s.small := by
  simp only [greatS, Bool.or_eq_false_iff, decide_eq_false_iff_not, Nat.not_lt] at h
  exact ⟨greatE_no h.2, h.1.1, h.1.2⟩
theorem greatI_no {x : It} (h : greatI x = false) : x.small := by
  simp only [greatI, Bool.or_eq_false_iff, decide_eq_false_iff_not, Nat.not_lt] at h
  exact ⟨h.1, h.2⟩
theorem greatM_no {m : Ms} (h : greatM m = false) : m.small := by
  simp only [greatM, Bool.or_eq_false_iff, decide_eq_false_iff_not, Nat.not_lt] at h
  obtain ⟨⟨⟨⟨⟨h1, h2⟩, h3⟩, h4⟩, h5⟩, h6⟩ := h
  exact ⟨h1, h2, h3, h4, fun e he => greatE_no (any_mem h5 e he), fun x hx => greatI_no (any_mem h6 x hx)⟩
theorem greatJ_no {j : Jb} (h : greatJ j = false) : j.small := by
  simp only [greatJ, Bool.or_eq_false_iff, decide_eq_false_iff_not, Nat.not_lt] at h
  obtain ⟨⟨⟨⟨⟨⟨⟨h1, h2⟩, h3⟩, h4⟩, h5⟩, h6⟩, h7⟩, h8⟩ := h
  exact ⟨h1, h2, ⟨h3, h4⟩, greatE_no h5, greatE_no h6, h7, fun s hs => by have := any_mem h8 s hs; simpa using this⟩
theorem greatPs_no {l : List Pr} (h : greatPs l = false) : l.length ≤ 40 ∧ ∀ p ∈ l, p.e.small := by
  simp only [greatPs, Bool.or_eq_false_iff, decide_eq_false_iff_not, Nat.not_lt] at h
  exact ⟨h.1, fun p hp => greatE_no (any_mem h.2 p hp)⟩
theorem greatSs_no {l : List Se} (h : greatSs l = false) : l.length ≤ 60 ∧ ∀ p ∈ l, p.small := by
  simp only [greatSs, Bool.or_eq_false_iff, decide_eq_false_iff_not, Nat.not_lt] at h
  exact ⟨h.1, fun p hp => greatS_no (any_mem h.2 p hp)⟩
theorem greatIs_no {l : List It} (h : greatIs l = false) : l.length ≤ 60 ∧ ∀ p ∈ l, p.small := by
  simp only [greatIs, Bool.or_eq_false_iff, decide_eq_false_iff_not, Nat.not_lt] at h
  exact ⟨h.1, fun p hp => greatI_no (any_mem h.2 p hp)⟩
theorem greatPds_no {l : List Pd} (h : greatPds l = false) : l.length ≤ 50 ∧ ∀ p ∈ l, p.small := by
  simp only [greatPds, Bool.or_eq_false_iff, decide_eq_false_iff_not, Nat.not_lt] at h
  refine ⟨h.1, fun p hp => ?_⟩
  have := any_mem h.2 p hp
  simp only [Bool.or_eq_false_iff] at this
  exact ⟨greatE_no this.1, greatM_no this.2⟩
theorem greatN_no {n : Nd} (h : greatN n = false) : n.small := by
  simp only [greatN, Bool.or_eq_false_iff, decide_eq_false_iff_not, Nat.not_lt] at h
  obtain ⟨⟨⟨⟨⟨⟨⟨⟨⟨⟨⟨⟨⟨⟨h1, h2⟩, h3⟩, h4⟩, h5⟩, h6⟩, h7⟩, h8⟩, h9⟩, h10⟩, h11⟩, h12⟩, h13⟩, h14⟩, h15⟩ := h
  have q4 := greatPs_no h4; have q5 := greatPs_no h5; have q7 := greatSs_no h7; have q8 := greatPds_no h8; have q9 := greatIs_no h9
  exact ⟨greatE_no h1, h2, h3, q4.1, q4.2, q5.1, q5.2, h6, fun x hx => greatE_no (any_mem h13 x hx), q7.1, q7.2, q8.1, q8.2, q9.1, q9.2, h10, fun x hx => greatJ_no (any_mem h14 x hx), h11, h12, fun r hr => by
    have := any_mem h15 r hr
    simp only [Bool.or_eq_false_iff, decide_eq_false_iff_not, Nat.not_lt] at this
    exact ⟨this.1, this.2⟩⟩

end Go.Proofs.YtgbmhicpkbmeaaaDoor
namespace Go.Proofs.YtgbmhicpkbmeaaaDoor
open Go.Am
set_option linter.unusedSimpArgs false
set_option linter.unusedVariables false
set_option maxRecDepth 100000
/-! What the arguments are, by their shapes. -/
theorem Shs_split : ∀ {a b : List Shp} {xs : List AVal}, Shs (a ++ b) xs → ∃ x y, xs = x ++ y ∧ Shs a x ∧ Shs b y
  | [], _, xs, h => ⟨[], xs, rfl, rfl, h⟩
  | c :: a, b, xs, h => by
    simp only [List.cons_append, Shs] at h
    obtain ⟨v, as', rfl, h1, h2⟩ := h
    obtain ⟨x, y, rfl, h3, h4⟩ := Shs_split h2
    exact ⟨v :: x, y, rfl, by simp only [Shs]; exact ⟨v, x, rfl, h1, h3⟩, h4⟩
theorem rdU {z : Int} (h : (Lit.int .u64 z).wf = true) : ∃ n : Nat, z = (n : Int) ∧ n ≤ 18446744073709551615 := by
  have h := wf_u64 h
  obtain ⟨n, rfl⟩ := Int.eq_ofNat_of_zero_le h.1
  exact ⟨n, rfl, by omega⟩
theorem rdStr {xs : List AVal} (h : Shs [.s] xs) : ∃ l : List UInt8, xs = strRow l ∧ l.length ≤ 9223372036854775807 := by
  simp only [Shs, Sh] at h
  obtain ⟨_, _, rfl, ⟨l, rfl, hl⟩, rfl⟩ := h
  exact ⟨l, rfl, hl⟩
theorem rdNat {xs : List AVal} (h : Shs [.i .u64] xs) : ∃ n : Nat, xs = u64Row n ∧ n ≤ 18446744073709551615 := by
  simp only [Shs, Sh] at h
  obtain ⟨_, _, rfl, ⟨z, rfl, hz⟩, rfl⟩ := h
  obtain ⟨n, rfl, hn⟩ := rdU hz
  exact ⟨n, rfl, hn⟩
structure Wn.ok (x : Wn) : Prop where
  top : I64 x.top
  low : U64 x.low
  high : U64 x.high
def Wn.cs (x : Wn) : List AVal := [.int .i64 x.top, .int .u64 (x.low : Int), .int .u64 (x.high : Int)]
def shEn : List Shp := [.s, .i .u64, .i .i64, .i .i64, .i .i64, .s]
theorem rdEn {xs : List AVal} (h : Shs shEn xs) : ∃ x : En, xs = x.cs ∧ x.ok ∧ x.fit := by
  unfold shEn at h
  have p0 := h
  simp only [Shs, Sh] at p0
  obtain ⟨_, _, rfl, ⟨v_name, rfl, t_name⟩, _, _, rfl, ⟨v_id, rfl, k_id⟩, _, _, rfl, ⟨v_fr, rfl, k_fr⟩, _, _, rfl, ⟨v_un, rfl, k_un⟩, _, _, rfl, ⟨v_ix, rfl, k_ix⟩, _, _, rfl, ⟨v_tag, rfl, t_tag⟩, rfl⟩ := p0
  obtain ⟨v_id, rfl, u_id⟩ := rdU k_id
  have k_fr := wf_i64 k_fr
  have k_un := wf_i64 k_un
  have k_ix := wf_i64 k_ix
  exact ⟨⟨v_name, v_id, v_fr, v_un, v_ix, v_tag⟩, rfl, ⟨u_id, k_fr.1, k_fr.2, k_un.1, k_un.2, k_ix.1, k_ix.2⟩, ⟨t_name, t_tag⟩⟩
def shPr : List Shp := shEn ++ [.i .i64, .i .i64]
theorem rdPr {xs : List AVal} (h : Shs shPr xs) : ∃ x : Pr, xs = x.cs ∧ x.ok ∧ x.fit := by
  unfold shPr at h
  obtain ⟨x1, y1, rfl, p0, p1⟩ := Shs_split h
  obtain ⟨v_e, rfl, k_e, t_e⟩ := rdEn p0
  simp only [Shs, Sh] at p1
  obtain ⟨_, _, rfl, ⟨v_since, rfl, k_since⟩, _, _, rfl, ⟨v_under, rfl, k_under⟩, rfl⟩ := p1
  have k_since := wf_i64 k_since
  have k_under := wf_i64 k_under
  exact ⟨⟨v_e, v_since, v_under⟩, rfl, ⟨k_e, k_since.1, k_since.2, k_under.1, k_under.2⟩, ⟨t_e⟩⟩
def shFg : List Shp := [.i .i64] ++ shPr
theorem rdFg {xs : List AVal} (h : Shs shFg xs) : ∃ x : Fg, xs = x.cs ∧ x.ok ∧ x.p.fit := by
  unfold shFg at h
  obtain ⟨x1, y1, rfl, p0, p1⟩ := Shs_split h
  simp only [Shs, Sh] at p0
  obtain ⟨_, _, rfl, ⟨v_bit, rfl, k_bit⟩, rfl⟩ := p0
  have k_bit := wf_i64 k_bit
  obtain ⟨v_p, rfl, k_p, t_p⟩ := rdPr p1
  exact ⟨⟨v_bit, v_p⟩, rfl, ⟨k_bit, k_p⟩, t_p⟩
def shIt : List Shp := [.s, .s, .i .i64, .b]
theorem rdIt {xs : List AVal} (h : Shs shIt xs) : ∃ x : It, xs = x.cs ∧ x.ok ∧ x.fit := by
  unfold shIt at h
  have p0 := h
  simp only [Shs, Sh] at p0
  obtain ⟨_, _, rfl, ⟨v_k, rfl, t_k⟩, _, _, rfl, ⟨v_v, rfl, t_v⟩, _, _, rfl, ⟨v_n, rfl, k_n⟩, _, _, rfl, ⟨v_g, rfl⟩, rfl⟩ := p0
  have k_n := wf_i64 k_n
  exact ⟨⟨v_k, v_v, v_n, v_g⟩, rfl, ⟨k_n⟩, ⟨t_k, t_v⟩⟩
def shWn : List Shp := [.i .i64, .i .u64, .i .u64]
theorem rdWn {xs : List AVal} (h : Shs shWn xs) : ∃ x : Wn, xs = x.cs ∧ x.ok ∧ True := by
  unfold shWn at h
  have p0 := h
  simp only [Shs, Sh] at p0
  obtain ⟨_, _, rfl, ⟨v_top, rfl, k_top⟩, _, _, rfl, ⟨v_low, rfl, k_low⟩, _, _, rfl, ⟨v_high, rfl, k_high⟩, rfl⟩ := p0
  have k_top := wf_i64 k_top
  obtain ⟨v_low, rfl, u_low⟩ := rdU k_low
  obtain ⟨v_high, rfl, u_high⟩ := rdU k_high
  exact ⟨⟨v_top, v_low, v_high⟩, rfl, ⟨k_top, u_low, u_high⟩, trivial⟩
def shSe : List Shp := [.i .u64, .i .u64] ++ shEn ++ [.i .i64, .i .i64, .s, .s, .i .i64, .i .i64, .i .i64, .i .i64] ++ shWn ++ [.i .i64]
theorem rdSe {xs : List AVal} (h : Shs shSe xs) : ∃ x : Se, xs = x.cs ∧ x.ok ∧ x.fit := by
  unfold shSe at h
  obtain ⟨x4, y4, rfl, h4, p4⟩ := Shs_split h
  obtain ⟨x3, y3, rfl, h3, p3⟩ := Shs_split h4
  obtain ⟨x2, y2, rfl, h2, p2⟩ := Shs_split h3
  obtain ⟨x1, y1, rfl, p0, p1⟩ := Shs_split h2
  simp only [Shs, Sh] at p0
  obtain ⟨_, _, rfl, ⟨v_id, rfl, k_id⟩, _, _, rfl, ⟨v_nonce, rfl, k_nonce⟩, rfl⟩ := p0
  obtain ⟨v_id, rfl, u_id⟩ := rdU k_id
  obtain ⟨v_nonce, rfl, u_nonce⟩ := rdU k_nonce
  obtain ⟨v_peer, rfl, k_peer, t_peer⟩ := rdEn p1
  simp only [Shs, Sh] at p2
  obtain ⟨_, _, rfl, ⟨v_role, rfl, k_role⟩, _, _, rfl, ⟨v_state, rfl, k_state⟩, _, _, rfl, ⟨v_send, rfl, t_send⟩, _, _, rfl, ⟨v_hear, rfl, t_hear⟩, _, _, rfl, ⟨v_epoch, rfl, k_epoch⟩, _, _, rfl, ⟨v_count, rfl, k_count⟩, _, _, rfl, ⟨v_since, rfl, k_since⟩, _, _, rfl, ⟨v_seq, rfl, k_seq⟩, rfl⟩ := p2
  have k_role := wf_i64 k_role
  have k_state := wf_i64 k_state
  have k_epoch := wf_i64 k_epoch
  have k_count := wf_i64 k_count
  have k_since := wf_i64 k_since
  have k_seq := wf_i64 k_seq
  obtain ⟨v_seen, rfl, k_seen, t_seen⟩ := rdWn p3
  simp only [Shs, Sh] at p4
  obtain ⟨_, _, rfl, ⟨v_used, rfl, k_used⟩, rfl⟩ := p4
  have k_used := wf_i64 k_used
  exact ⟨⟨v_id, v_nonce, v_peer, v_role, v_state, v_send, v_hear, v_epoch, v_count, v_since, v_seq, v_seen, v_used⟩, rfl, ⟨u_id, u_nonce, k_peer, k_role, k_state, k_epoch, k_count, k_since, k_seq, k_seen.top, k_seen.low, k_seen.high, k_used⟩, ⟨t_peer, t_send, t_hear⟩⟩
def shMs : List Shp := [.i .i64, .i .i64, .i .i64, .i .i64, .i .u64, .b, .b, .s, .s, .sl 6 shEn, .sl 4 shIt]
theorem rdMs {xs : List AVal} (h : Shs shMs xs) : ∃ x : Ms, xs = x.cs ∧ x.ok ∧ x.fit := by
  unfold shMs at h
  have p0 := h
  simp only [Shs, Sh] at p0
  obtain ⟨_, _, rfl, ⟨v_kind, rfl, k_kind⟩, _, _, rfl, ⟨v_rid, rfl, k_rid⟩, _, _, rfl, ⟨v_ver, rfl, k_ver⟩, _, _, rfl, ⟨v_err, rfl, k_err⟩, _, _, rfl, ⟨v_id, rfl, k_id⟩, _, _, rfl, ⟨v_has, rfl⟩, _, _, rfl, ⟨v_gone, rfl⟩, _, _, rfl, ⟨v_key, rfl, t_key⟩, _, _, rfl, ⟨v_val, rfl, t_val⟩, _, _, rfl, ⟨v_ents, rfl, n_ents, r_ents⟩, _, _, rfl, ⟨v_items, rfl, n_items, r_items⟩, rfl⟩ := p0
  have k_kind := wf_i64 k_kind
  have k_rid := wf_i64 k_rid
  have k_ver := wf_i64 k_ver
  have k_err := wf_i64 k_err
  obtain ⟨v_id, rfl, u_id⟩ := rdU k_id
  obtain ⟨v_ents, rfl, q_ents⟩ := rows_map En.cs (fun x => x.ok ∧ x.fit) (fun r hr => rdEn (r_ents r hr))
  rw [List.length_map] at n_ents
  obtain ⟨v_items, rfl, q_items⟩ := rows_map It.cs (fun x => x.ok ∧ x.fit) (fun r hr => rdIt (r_items r hr))
  rw [List.length_map] at n_items
  exact ⟨⟨v_kind, v_rid, v_ver, v_err, v_id, v_has, v_gone, v_key, v_val, v_ents, v_items⟩, rfl, ⟨k_kind, k_rid, k_ver, k_err, u_id, fun x hx => (q_ents x hx).1, fun x hx => (q_items x hx).1⟩, ⟨t_key, t_val, n_ents, n_items, fun x hx => (q_ents x hx).2, fun x hx => (q_items x hx).2⟩⟩
def shPd : List Shp := [.i .i64, .i .i64, .i .i64, .i .i64, .i .i64, .i .u64] ++ shEn ++ shMs
theorem rdPd {xs : List AVal} (h : Shs shPd xs) : ∃ x : Pd, xs = x.cs ∧ x.ok ∧ x.fit := by
  unfold shPd at h
  obtain ⟨x2, y2, rfl, h2, p2⟩ := Shs_split h
  obtain ⟨x1, y1, rfl, p0, p1⟩ := Shs_split h2
  simp only [Shs, Sh] at p0
  obtain ⟨_, _, rfl, ⟨v_rid, rfl, k_rid⟩, _, _, rfl, ⟨v_why, rfl, k_why⟩, _, _, rfl, ⟨v_job, rfl, k_job⟩, _, _, rfl, ⟨v_til, rfl, k_til⟩, _, _, rfl, ⟨v_tries, rfl, k_tries⟩, _, _, rfl, ⟨v_session, rfl, k_session⟩, rfl⟩ := p0
  have k_rid := wf_i64 k_rid
  have k_why := wf_i64 k_why
  have k_job := wf_i64 k_job
  have k_til := wf_i64 k_til
  have k_tries := wf_i64 k_tries
  obtain ⟨v_session, rfl, u_session⟩ := rdU k_session
  obtain ⟨v_to, rfl, k_to, t_to⟩ := rdEn p1
  obtain ⟨v_m, rfl, k_m, t_m⟩ := rdMs p2
  exact ⟨⟨v_rid, v_why, v_job, v_til, v_tries, v_session, v_to, v_m⟩, rfl, ⟨k_rid, k_why, k_job, k_til, k_tries, u_session, k_to, k_m⟩, ⟨t_to, t_m⟩⟩
def shJb : List Shp := [.i .i64, .i .i64, .i .i64, .i .i64, .i .i64, .i .i64, .s, .s] ++ shEn ++ shIt ++ [.i .i64, .i .i64, .sl 1 [.s]] ++ shEn ++ [.i .i64, .i .i64]
theorem rdJb {xs : List AVal} (h : Shs shJb xs) : ∃ x : Jb, xs = x.cs ∧ x.ok ∧ x.fit := by
  unfold shJb at h
  obtain ⟨x5, y5, rfl, h5, p5⟩ := Shs_split h
  obtain ⟨x4, y4, rfl, h4, p4⟩ := Shs_split h5
  obtain ⟨x3, y3, rfl, h3, p3⟩ := Shs_split h4
  obtain ⟨x2, y2, rfl, h2, p2⟩ := Shs_split h3
  obtain ⟨x1, y1, rfl, p0, p1⟩ := Shs_split h2
  simp only [Shs, Sh] at p0
  obtain ⟨_, _, rfl, ⟨v_id, rfl, k_id⟩, _, _, rfl, ⟨v_kind, rfl, k_kind⟩, _, _, rfl, ⟨v_phase, rfl, k_phase⟩, _, _, rfl, ⟨v_hops, rfl, k_hops⟩, _, _, rfl, ⟨v_tries, rfl, k_tries⟩, _, _, rfl, ⟨v_til, rfl, k_til⟩, _, _, rfl, ⟨v_key, rfl, t_key⟩, _, _, rfl, ⟨v_val, rfl, t_val⟩, rfl⟩ := p0
  have k_id := wf_i64 k_id
  have k_kind := wf_i64 k_kind
  have k_phase := wf_i64 k_phase
  have k_hops := wf_i64 k_hops
  have k_tries := wf_i64 k_tries
  have k_til := wf_i64 k_til
  obtain ⟨v_owner, rfl, k_owner, t_owner⟩ := rdEn p1
  obtain ⟨v_item, rfl, k_item, t_item⟩ := rdIt p2
  simp only [Shs, Sh] at p3
  obtain ⟨_, _, rfl, ⟨v_acks, rfl, k_acks⟩, _, _, rfl, ⟨v_waits, rfl, k_waits⟩, _, _, rfl, ⟨v_asked, rfl, n_asked, r_asked⟩, rfl⟩ := p3
  have k_acks := wf_i64 k_acks
  have k_waits := wf_i64 k_waits
  obtain ⟨v_asked, rfl, t_asked⟩ := rows_map strRow (fun l => l.length ≤ 9223372036854775807) (fun r hr => rdStr (r_asked r hr))
  rw [List.length_map] at n_asked
  obtain ⟨v_back, rfl, k_back, t_back⟩ := rdEn p4
  simp only [Shs, Sh] at p5
  obtain ⟨_, _, rfl, ⟨v_backRid, rfl, k_backRid⟩, _, _, rfl, ⟨v_backJob, rfl, k_backJob⟩, rfl⟩ := p5
  have k_backRid := wf_i64 k_backRid
  have k_backJob := wf_i64 k_backJob
  exact ⟨⟨v_id, v_kind, v_phase, v_hops, v_tries, v_til, v_key, v_val, v_owner, v_item, v_acks, v_waits, v_asked, v_back, v_backRid, v_backJob⟩, rfl, ⟨k_id, k_kind, k_phase, k_hops, k_tries, k_til, k_owner, k_item, k_acks, k_waits, k_back, k_backRid, k_backJob⟩, ⟨t_key, t_val, t_item, t_owner, t_back, n_asked, t_asked⟩⟩
def shRs : List Shp := [.i .i64, .i .i64, .i .i64, .s, .s, .b, .b, .i .i64]
theorem rdRs {xs : List AVal} (h : Shs shRs xs) : ∃ x : Rs, xs = x.cs ∧ x.ok ∧ x.fit := by
  unfold shRs at h
  have p0 := h
  simp only [Shs, Sh] at p0
  obtain ⟨_, _, rfl, ⟨v_job, rfl, k_job⟩, _, _, rfl, ⟨v_kind, rfl, k_kind⟩, _, _, rfl, ⟨v_ver, rfl, k_ver⟩, _, _, rfl, ⟨v_key, rfl, t_key⟩, _, _, rfl, ⟨v_val, rfl, t_val⟩, _, _, rfl, ⟨v_has, rfl⟩, _, _, rfl, ⟨v_gone, rfl⟩, _, _, rfl, ⟨v_err, rfl, k_err⟩, rfl⟩ := p0
  have k_job := wf_i64 k_job
  have k_kind := wf_i64 k_kind
  have k_ver := wf_i64 k_ver
  have k_err := wf_i64 k_err
  exact ⟨⟨v_job, v_kind, v_ver, v_key, v_val, v_has, v_gone, v_err⟩, rfl, ⟨k_job.1, k_job.2, k_kind.1, k_kind.2, k_ver.1, k_ver.2, k_err.1, k_err.2⟩, ⟨t_key, t_val⟩⟩
def shNd : List Shp := shEn ++ [.i .i64, .s, .i .i64, .s, .b, .sl 8 shPr, .sl 8 shPr, .sl 9 shFg, .sl 20 shSe, .sl 23 shPd, .sl 4 shIt, .sl 29 shJb, .i .i64, .i .i64, .sl 1 [.i .u64], .sl 8 shRs]
theorem rdNd {xs : List AVal} (h : Shs shNd xs) : ∃ x : Nd, xs = x.cs ∧ x.ok ∧ x.fit := by
  unfold shNd at h
  obtain ⟨x1, y1, rfl, p0, p1⟩ := Shs_split h
  obtain ⟨v_me, rfl, k_me, t_me⟩ := rdEn p0
  simp only [Shs, Sh] at p1
  obtain ⟨_, _, rfl, ⟨v_clock, rfl, k_clock⟩, _, _, rfl, ⟨v_psk, rfl, t_psk⟩, _, _, rfl, ⟨v_gateI, rfl, k_gateI⟩, _, _, rfl, ⟨v_gateK, rfl, t_gateK⟩, _, _, rfl, ⟨v_ready, rfl⟩, _, _, rfl, ⟨v_pred, rfl, n_pred, r_pred⟩, _, _, rfl, ⟨v_list, rfl, n_list, r_list⟩, _, _, rfl, ⟨v_fingers, rfl, n_fingers, r_fingers⟩, _, _, rfl, ⟨v_sessions, rfl, n_sessions, r_sessions⟩, _, _, rfl, ⟨v_pends, rfl, n_pends, r_pends⟩, _, _, rfl, ⟨v_items, rfl, n_items, r_items⟩, _, _, rfl, ⟨v_jobs, rfl, n_jobs, r_jobs⟩, _, _, rfl, ⟨v_rid, rfl, k_rid⟩, _, _, rfl, ⟨v_jobId, rfl, k_jobId⟩, _, _, rfl, ⟨v_draws, rfl, n_draws, r_draws⟩, _, _, rfl, ⟨v_results, rfl, n_results, r_results⟩, rfl⟩ := p1
  have k_clock := wf_i64 k_clock
  have k_gateI := wf_i64 k_gateI
  obtain ⟨v_pred, rfl, q_pred⟩ := rows_map Pr.cs (fun x => x.ok ∧ x.fit) (fun r hr => rdPr (r_pred r hr))
  rw [List.length_map] at n_pred
  obtain ⟨v_list, rfl, q_list⟩ := rows_map Pr.cs (fun x => x.ok ∧ x.fit) (fun r hr => rdPr (r_list r hr))
  rw [List.length_map] at n_list
  obtain ⟨v_fingers, rfl, q_fingers⟩ := rows_map Fg.cs (fun x => x.ok ∧ x.p.fit) (fun r hr => rdFg (r_fingers r hr))
  rw [List.length_map] at n_fingers
  obtain ⟨v_sessions, rfl, q_sessions⟩ := rows_map Se.cs (fun x => x.ok ∧ x.fit) (fun r hr => rdSe (r_sessions r hr))
  rw [List.length_map] at n_sessions
  obtain ⟨v_pends, rfl, q_pends⟩ := rows_map Pd.cs (fun x => x.ok ∧ x.fit) (fun r hr => rdPd (r_pends r hr))
  rw [List.length_map] at n_pends
  obtain ⟨v_items, rfl, q_items⟩ := rows_map It.cs (fun x => x.ok ∧ x.fit) (fun r hr => rdIt (r_items r hr))
  rw [List.length_map] at n_items
  obtain ⟨v_jobs, rfl, q_jobs⟩ := rows_map Jb.cs (fun x => x.ok ∧ x.fit) (fun r hr => rdJb (r_jobs r hr))
  rw [List.length_map] at n_jobs
  have k_rid := wf_i64 k_rid
  have k_jobId := wf_i64 k_jobId
  obtain ⟨v_draws, rfl, k_draws⟩ := rows_map u64Row U64 (fun r hr => rdNat (r_draws r hr))
  rw [List.length_map] at n_draws
  obtain ⟨v_results, rfl, q_results⟩ := rows_map Rs.cs (fun x => x.ok ∧ x.fit) (fun r hr => rdRs (r_results r hr))
  rw [List.length_map] at n_results
  exact ⟨⟨v_me, v_clock, v_psk, v_gateI, v_gateK, v_ready, v_pred, v_list, v_fingers, v_sessions, v_pends, v_items, v_jobs, v_rid, v_jobId, v_draws, v_results⟩, rfl, ⟨k_me, k_clock, k_gateI, fun x hx => (q_pred x hx).1, fun x hx => (q_list x hx).1, fun x hx => (q_fingers x hx).1, fun x hx => (q_sessions x hx).1, fun x hx => (q_pends x hx).1, fun x hx => (q_items x hx).1, fun x hx => (q_jobs x hx).1, k_rid, k_jobId, k_draws, fun x hx => (q_results x hx).1⟩, ⟨t_me, t_psk, t_gateK, n_pred, fun x hx => (q_pred x hx).2, n_list, fun x hx => (q_list x hx).2, n_fingers, fun x hx => (q_fingers x hx).2, n_sessions, fun x hx => (q_sessions x hx).2, n_pends, fun x hx => (q_pends x hx).2, n_items, fun x hx => (q_items x hx).2, n_jobs, fun x hx => (q_jobs x hx).2, n_draws, n_results, fun x hx => (q_results x hx).2⟩⟩

end Go.Proofs.YtgbmhicpkbmeaaaDoor
namespace Go.Proofs.YtgbmhicpkbmeaaaDoor
open Go.Am
set_option linter.unusedSimpArgs false
set_option linter.unusedVariables false
set_option maxRecDepth 100000
def placeR (l : List It) (key : List UInt8) : Int := if l.findIdx (fun x => decide (x.k = key)) < l.length then (l.findIdx (fun x => decide (x.k = key)) : Nat) else -1
theorem all_take {α : Type} {p : α → Bool} {l : List α} {i : Nat} (h : i < l.length) (h1 : (l.take i).all p = true) (h2 : p l[i] = true) : (l.take (i + 1)).all p = true := by
  rw [List.take_succ_eq_append_getElem h, List.all_append, h1]; simp [h2]
theorem place_at {l : List It} {key : List UInt8} {i : Nat} (h : i < l.length) (hn : (l.take i).all (fun x => !decide (x.k = key)) = true) (he : l[i].k = key) : placeR l key = i := by
  have : l.findIdx (fun x => decide (x.k = key)) = i := by
    rw [List.findIdx_eq h]
    refine ⟨by simpa using he, fun j hj => ?_⟩
    have := List.all_eq_true.1 hn l[j] (by
      rw [List.mem_take_iff_getElem]; exact ⟨j, by omega, rfl⟩)
    simpa using this
  unfold placeR
  rw [this, if_pos h]
theorem place_none {l : List It} {key : List UInt8} (hn : l.all (fun x => !decide (x.k = key)) = true) : placeR l key = -1 := by
  unfold placeR
  rw [if_neg]
  intro hlt
  have := List.findIdx_getElem (w := hlt)
  have h2 := List.all_eq_true.1 hn _ (List.getElem_mem hlt)
  simp only [Bool.not_eq_true', decide_eq_false_iff_not] at h2
  exact h2 (by simpa using this)
def getR (l : List It) (key : List UInt8) : It × Bool := match l.find? (fun x => decide (x.k = key)) with | some x => (x, true) | none => (zeroIt, false)
theorem get_at {l : List It} {key : List UInt8} {i : Nat} (h : i < l.length) (hn : (l.take i).all (fun x => !decide (x.k = key)) = true) (he : l[i].k = key) : getR l key = (l[i], true) := by
  have : l.find? (fun x => decide (x.k = key)) = some l[i] := by
    rw [List.find?_eq_some_iff_getElem]
    refine ⟨by simpa using he, i, h, rfl, fun j hj => ?_⟩
    have := List.all_eq_true.1 hn l[j] (by
      rw [List.mem_take_iff_getElem]; exact ⟨j, by omega, rfl⟩)
    simpa using this
  simp [getR, this]
theorem get_none {l : List It} {key : List UInt8} (hn : l.all (fun x => !decide (x.k = key)) = true) : getR l key = (zeroIt, false) := by
  have : l.find? (fun x => decide (x.k = key)) = none := by
    rw [List.find?_eq_none]
    intro x hx
    have := List.all_eq_true.1 hn x hx
    simpa using this
  simp [getR, this]
/-- Where a key is. -/
theorem place_cases (l : List It) (key : List UInt8) : (∃ (j : Nat) (h : j < l.length), l[j].k = key ∧ (l.take j).all (fun x => !decide (x.k = key)) = true ∧ placeR l key = j ∧ getR l key = (l[j], true)) ∨ (l.all (fun x => !decide (x.k = key)) = true ∧ placeR l key = -1 ∧ getR l key = (zeroIt, false)) := by
  by_cases h : l.all (fun x => !decide (x.k = key)) = true
  · exact .inr ⟨h, place_none h, get_none h⟩
  · left
    have hlt : l.findIdx (fun x => decide (x.k = key)) < l.length := by
      rw [List.findIdx_lt_length]
      simp only [List.all_eq_true, Bool.not_eq_true', decide_eq_false_iff_not, Classical.not_forall, Classical.not_not] at h
      obtain ⟨x, hx, he⟩ := h
      exact ⟨x, hx, by simpa using he⟩
    have he : l[l.findIdx (fun x => decide (x.k = key))].k = key := by
      have := List.findIdx_getElem (w := hlt); simpa using this
    have hn : (l.take (l.findIdx (fun x => decide (x.k = key)))).all (fun x => !decide (x.k = key)) = true := by
      rw [List.all_eq_true]
      intro x hx
      rw [List.mem_take_iff_getElem] at hx
      obtain ⟨j, hj, rfl⟩ := hx
      have := List.not_of_lt_findIdx (p := fun x : It => decide (x.k = key)) (xs := l) (i := j) (by omega)
      simpa using this
    exact ⟨_, hlt, he, hn, place_at hlt hn he, get_at hlt hn he⟩

@[go_sem] theorem e53 (l : List It) (key : List UInt8) (hl : l.length ≤ 9223372036854775807) : fn C 53 [] [.slice 4 (l.map It.cs), .str key] = some (.int .i64 (placeR l key), []) := by
  rw [fn_text Tryd.func53 rfl rfl Tryd.results53 fq53.1 rfl rfl (by kernel_rfl)]
  simp -implicitDefEqProofs -dsimp +contextual (maxSteps := 9999999) (disch := first | omega | simp only [go_sem] <;> omega | refine ib ?_; kernel_rfl) only [go_sem, seval, ↓reduceIte]
  refine (kLoop_rec (fun i f H => f 0 = .slice 4 (l.map It.cs) ∧ f 1 = .str key ∧ f 5 = .int .i64 (i : Nat) ∧ H = Heap.nil ∧ i ≤ l.length ∧ (l.take i).all (fun x => !decide (x.k = key)) = true) (fun i => l.length - i) (fun i => some (.int .i64 (placeR l key), [])) ?_ 0 _ _ ⟨rfl, rfl, rfl, rfl, by omega, rfl⟩).trans rfl
  rintro i f _ ⟨h0, h1, h5, rfl, hi, hall⟩ ih
  by_cases hl : i < l.length
  · simp -implicitDefEqProofs -dsimp +contextual (maxSteps := 9999999) (disch := first | omega | simp only [go_sem] <;> omega | refine ib ?_; kernel_rfl) only [go_sem, seval, ↓reduceIte, h0, h1, h5, hl]
    (repeat' (refine kD_intro (fun _ => ?_) (fun _ => ?_)))
    · rename_i h; rw [place_at hl hall h]
    · rename_i h; exact ih (i + 1) _ _ ⟨h0, h1, rfl, rfl, by omega, all_take hl hall (by simpa using h)⟩ (by omega)
  · simp -implicitDefEqProofs -dsimp +contextual (maxSteps := 9999999) (disch := first | omega | simp only [go_sem] <;> omega | refine ib ?_; kernel_rfl) only [go_sem, seval, ↓reduceIte, h0, h1, h5, hl]
    obtain rfl : i = l.length := by omega
    rw [place_none (by simpa using hall)]

@[go_sem] theorem e82 (k v : List UInt8) (n : Int) (g : Bool) (key : List UInt8) : fn C 82 [] [.agg [.str k, .str v, .int .i64 n, .bool g], .iptr [.str key]] = some (.bool (decide (k = key)), []) := by
  rw [fn_text Tryd.func82 rfl rfl Tryd.results82 fq82.1 rfl rfl (by kernel_rfl)]
  simp -implicitDefEqProofs -dsimp +contextual (maxSteps := 9999999) (disch := first | omega | simp only [go_sem] <;> omega | refine ib ?_; kernel_rfl) only [go_sem, seval, ↓reduceIte]

@[go_sem] theorem e81 (l : List It) (key : List UInt8) (hl : l.length ≤ 9223372036854775807) : fn C 81 [] [.slice 4 (l.map It.cs), .fn (.func 82) [] [.iptr [.str key]]] = some (.int .i64 (placeR l key), []) := by
  rw [fn_text Tryd.func81 rfl rfl Tryd.results81 fq81.1 rfl rfl (by kernel_rfl)]
  simp -implicitDefEqProofs -dsimp +contextual (maxSteps := 9999999) (disch := first | omega | simp only [go_sem] <;> omega | refine ib ?_; kernel_rfl) only [go_sem, seval, ↓reduceIte]
  refine (kLoop_rec (fun i f H => f 0 = .slice 4 (l.map It.cs) ∧ f 1 = .fn (.func 82) [] [.iptr [.str key]] ∧ f 7 = .int .i64 l.length ∧ f 8 = .int .i64 (i : Nat) ∧ H = Heap.nil ∧ i ≤ l.length ∧ (l.take i).all (fun x => !decide (x.k = key)) = true) (fun i => l.length - i) (fun i => some (.int .i64 (placeR l key), [])) ?_ 0 _ _ ⟨rfl, rfl, rfl, rfl, rfl, by omega, rfl⟩).trans rfl
  rintro i f _ ⟨h0, h1, h7, h8, rfl, hi, hall⟩ ih
  by_cases hl : i < l.length
  · simp -implicitDefEqProofs -dsimp +contextual (maxSteps := 9999999) (disch := first | omega | simp only [go_sem] <;> omega | refine ib ?_; kernel_rfl) only [go_sem, seval, ↓reduceIte, h0, h1, h7, h8, hl]
    (repeat' (refine kD_intro (fun _ => ?_) (fun _ => ?_)))
    · rename_i h; rw [place_at hl hall h]
    · rename_i h; exact ih (i + 1) _ _ ⟨h0, h1, h7, rfl, rfl, by omega, all_take hl hall (by simpa using h)⟩ (by omega)
  · simp -implicitDefEqProofs -dsimp +contextual (maxSteps := 9999999) (disch := first | omega | simp only [go_sem] <;> omega | refine ib ?_; kernel_rfl) only [go_sem, seval, ↓reduceIte, h0, h1, h7, h8, hl]
    obtain rfl : i = l.length := by omega
    rw [place_none (by simpa using hall)]

@[go_sem] theorem e68 (l : List It) (key : List UInt8) (hl : l.length ≤ 9223372036854775807) : fn C 68 [] [.slice 4 (l.map It.cs), .str key] = some (.int .i64 (placeR l key), []) := by
  rw [fn_text Tryd.func68 rfl rfl Tryd.results68 fq68.1 rfl rfl (by kernel_rfl)]
  simp -implicitDefEqProofs -dsimp +contextual (maxSteps := 9999999) (disch := first | omega | simp only [go_sem] <;> omega | refine ib ?_; kernel_rfl) only [go_sem, seval, ↓reduceIte]

@[go_sem] theorem e54 (l : List It) (key : List UInt8) (hl : l.length ≤ 9223372036854775807) : fn C 54 [] [.slice 4 (l.map It.cs), .str key] = some (.tup [.agg (getR l key).1.cs, .bool (getR l key).2], []) := by
  rw [fn_text Tryd.func54 rfl rfl Tryd.results54 fq54.1 rfl rfl (by kernel_rfl)]
  simp -implicitDefEqProofs -dsimp +contextual (maxSteps := 9999999) (disch := first | omega | simp only [go_sem] <;> omega | refine ib ?_; kernel_rfl) only [go_sem, seval, ↓reduceIte]
  refine (kLoop_rec (fun i f H => f 0 = .slice 4 (l.map It.cs) ∧ f 1 = .str key ∧ f 4 = .ptr 104 1 0 0 ∧ f 6 = .int .i64 (i : Nat) ∧ H 104 = ⟨1, .live, 4, [zeroIt.cs], false⟩ ∧ i ≤ l.length ∧ (l.take i).all (fun x => !decide (x.k = key)) = true) (fun i => l.length - i) (fun i => some (.tup [.agg (getR l key).1.cs, .bool (getR l key).2], [])) ?_ 0 _ _ ⟨rfl, rfl, rfl, rfl, rfl, by omega, rfl⟩).trans rfl
  rintro i f H ⟨h0, h1, h4, h6, hH, hi, hall⟩ ih
  by_cases hl : i < l.length
  · simp -implicitDefEqProofs -dsimp +contextual (maxSteps := 9999999) (disch := first | omega | simp only [go_sem] <;> omega | refine ib ?_; kernel_rfl) only [go_sem, seval, ↓reduceIte, h0, h1, h4, h6, hl, hH]
    (repeat' (refine kD_intro (fun _ => ?_) (fun _ => ?_)))
    · rename_i h; rw [get_at hl hall h]; simp [h]
    · rename_i h; exact ih (i + 1) _ _ ⟨h0, h1, h4, rfl, by simp -implicitDefEqProofs -dsimp +contextual (maxSteps := 9999999) (disch := first | omega | simp only [go_sem] <;> omega | refine ib ?_; kernel_rfl) only [go_sem, seval, ↓reduceIte, hH], by omega, all_take hl hall (by simpa using h)⟩ (by omega)
  · simp -implicitDefEqProofs -dsimp +contextual (maxSteps := 9999999) (disch := first | omega | simp only [go_sem] <;> omega | refine ib ?_; kernel_rfl) only [go_sem, seval, ↓reduceIte, h0, h1, h4, h6, hl, hH]
    obtain rfl : i = l.length := by omega
    rw [get_none (by simpa using hall)] <;> rfl

@[go_sem] theorem e69 (l : List It) (key : List UInt8) (hl : l.length ≤ 9223372036854775807) : fn C 69 [] [.slice 4 (l.map It.cs), .str key] = some (.tup [.agg (getR l key).1.cs, .bool (getR l key).2], []) := by
  rw [fn_text Tryd.func69 rfl rfl Tryd.results69 fq69.1 rfl rfl (by kernel_rfl)]
  rcases place_cases l key with ⟨j, hj, he, hn, hp, hg⟩ | ⟨hn, hp, hg⟩
  · simp -implicitDefEqProofs -dsimp +contextual (maxSteps := 9999999) (disch := first | omega | simp only [go_sem] <;> omega | refine ib ?_; kernel_rfl) only [go_sem, seval, ↓reduceIte, hp, hg]
  · simp -implicitDefEqProofs -dsimp +contextual (maxSteps := 9999999) (disch := first | omega | simp only [go_sem] <;> omega | refine ib ?_; kernel_rfl) only [go_sem, seval, ↓reduceIte, hp, hg]

theorem less_at (a b : List UInt8) (i : Nat) (h : a.take i = b.take i) (ha : i < a.length) (hb : i < b.length) (hne : a[i] ≠ b[i]) : Op.bytesLess a b = decide (a[i].toNat < b[i].toNat) := by
  induction i generalizing a b with
  | zero =>
    cases a with
    | nil => simp at ha
    | cons x a =>
      cases b with
      | nil => simp at hb
      | cons y b =>
        simp only [List.getElem_cons_zero] at hne ⊢
        simp [Op.bytesLess, hne, UInt8.lt_iff_toNat_lt]
  | succ i ih =>
    cases a with
    | nil => simp at ha
    | cons x a =>
      cases b with
      | nil => simp at hb
      | cons y b =>
        simp only [List.take_succ_cons, List.cons.injEq] at h
        obtain ⟨rfl, h⟩ := h
        simp only [List.getElem_cons_succ] at hne ⊢
        rw [← ih a b h (by simpa using ha) (by simpa using hb) hne]
        simp [Op.bytesLess]
theorem less_len (a b : List UInt8) (i : Nat) (hi : i ≤ a.length) (hi' : i ≤ b.length) (h : a.take i = b.take i) (he : i = a.length ∨ i = b.length) : Op.bytesLess a b = decide (a.length < b.length) := by
  induction i generalizing a b with
  | zero =>
    cases a with
    | nil => cases b <;> simp [Op.bytesLess]
    | cons x a =>
      cases b with
      | nil => simp [Op.bytesLess]
      | cons y b => simp at he
  | succ i ih =>
    cases a with
    | nil => simp at hi
    | cons x a =>
      cases b with
      | nil => simp at hi'
      | cons y b =>
        simp only [List.take_succ_cons, List.cons.injEq] at h
        obtain ⟨rfl, h⟩ := h
        have := ih a b (by simpa using hi) (by simpa using hi') h (by simpa using he)
        simp [Op.bytesLess, this]

def chainR : Option It → List It → Bool
  | _, [] => true
  | p, x :: r => itemR x && (match p with | none => true | some y => Op.bytesLess y.k x.k) && chainR (some x) r
def rightR (l : List It) : Bool := chainR none l && decide (l.length ≤ 16)
def prevR (l : List It) (i : Nat) : Option It := if i = 0 then none else l[i - 1]?

@[go_sem] theorem e32 (l : List It) (hl : l.length ≤ 9223372036854775807) (hk : ∀ x ∈ l, x.k.length ≤ 9223372036854775807) : fn C 32 [] [.slice 4 (l.map It.cs)] = some (.bool (rightR l), []) := by
  rw [fn_text Tryd.func32 rfl rfl Tryd.results32 fq32.1 rfl rfl (by kernel_rfl)]
  simp -implicitDefEqProofs -dsimp +contextual (maxSteps := 9999999) (disch := first | omega | simp only [go_sem] <;> omega | refine ib ?_; kernel_rfl) only [go_sem, seval, ↓reduceIte]
  refine (kLoop_rec (fun i f _ => f 0 = .slice 4 (l.map It.cs) ∧ f 5 = .slice 4 (l.map It.cs) ∧ f 6 = .int .i64 l.length ∧ f 7 = .int .i64 (i : Nat) ∧ i ≤ l.length) (fun i => l.length - i) (fun i => some (.bool (chainR (prevR l i) (l.drop i) && decide (l.length ≤ 16)), [])) ?_ 0 _ _ ⟨rfl, rfl, rfl, rfl, by omega⟩).trans rfl
  rintro i f H ⟨h0, h5, h6, h7, hi⟩ ih
  by_cases hl : i < l.length
  · rw [List.drop_eq_getElem_cons hl]
    have k1 := hk l[i] (List.getElem_mem _)
    have k2 := hk (l[i - 1]'(by omega)) (List.getElem_mem _)
    simp -implicitDefEqProofs -dsimp +contextual (maxSteps := 9999999) (disch := first | omega | simp only [go_sem] <;> omega | refine ib ?_; kernel_rfl) only [go_sem, seval, ↓reduceIte, h0, h5, h6, h7, hl]
    (repeat' (refine kD_intro (fun _ => ?_) (fun _ => ?_)))
    · rename_i hit h0i hle
      refine (ih (i + 1) _ _ (by exact ⟨h0, h5, h6, rfl, by omega⟩) (by omega)).trans ?_
      exact Res_bool (by simp [chainR, prevR, hit, show i ≠ 0 by omega, hle, List.getElem?_eq_getElem (show i - 1 < l.length by omega), hl])
    · rename_i hit h0i hle
      exact Res_bool (by simp [chainR, prevR, hit, show i ≠ 0 by omega, hle, List.getElem?_eq_getElem (show i - 1 < l.length by omega)])
    · rename_i hit h0i
      refine (ih (i + 1) _ _ (by exact ⟨h0, h5, h6, rfl, by omega⟩) (by omega)).trans ?_
      obtain rfl : i = 0 := by omega
      exact Res_bool (by simp [chainR, prevR, hit, hl])
    · rename_i hit
      exact Res_bool (by simp [chainR, hit])
  · simp -implicitDefEqProofs -dsimp +contextual (maxSteps := 9999999) (disch := first | omega | simp only [go_sem] <;> omega | refine ib ?_; kernel_rfl) only [go_sem, seval, ↓reduceIte, h0, h5, h6, h7, hl]
    obtain rfl : i = l.length := by omega
    exact Res_bool (by simp [chainR] <;> omega)

/-- Where a key belongs. -/
def insAt : List It → List UInt8 → Nat
  | [], _ => 0
  | x :: r, k => if Op.bytesLess x.k k = true then insAt r k + 1 else 0
def setR (l : List It) (x : It) : List It := if 0 ≤ placeR l x.k then l.set (placeR l x.k).toNat x else l.take (insAt l x.k) ++ x :: l.drop (insAt l x.k)
theorem insAt_le (l : List It) (k) : insAt l k ≤ l.length := by
  induction l with
  | nil => simp [insAt]
  | cons x r ih => simp only [insAt]; split <;> simp <;> omega
theorem insAt_eq (l : List It) (k : List UInt8) (i : Nat) (hi : i ≤ l.length) (h : ∀ j (hj : j < l.length), j < i → Op.bytesLess l[j].k k = true) (hn : ∀ (hj : i < l.length), Op.bytesLess l[i].k k = false) : insAt l k = i := by
  induction l generalizing i with
  | nil => simp at hi; simp [insAt, hi]
  | cons x r ih =>
    cases i with
    | zero => have := hn (by simp); simp at this; simp [insAt, this]
    | succ i =>
      have h0 := h 0 (by simp) (by omega)
      simp at h0
      simp only [insAt, h0, if_true]
      rw [ih i (by simpa using hi) (fun j hj hji => h (j + 1) (by simpa using hj) (by omega)) (fun hj => hn (by simpa using hj))]
theorem set_map {α β : Type} (f : α → β) (l : List α) (i : Nat) (a : α) : (l.map f).set i (f a) = (l.set i a).map f := by rw [List.map_set]

theorem ins_len (l : List It) (x : It) (i : Nat) (hi : i ≤ l.length) : (l.take i ++ x :: l.drop i).length = l.length + 1 := by simp; omega

def putV (n : Int) : Int := (if 0 > n then 0 else n) + 1
def putR (l : List It) (k v : List UInt8) (g : Bool) : List It × It × Int :=
  if keyR k = true ∧ v.length ≤ 32 then
    if (getR l k).2 = false ∧ 16 ≤ l.length then (l, zeroIt, 27)
    else if 1073741824 ≤ (getR l k).1.n then (l, zeroIt, 3)
    else (setR l ⟨k, if g = true then [] else v, putV (getR l k).1.n, g⟩, ⟨k, if g = true then [] else v, putV (getR l k).1.n, g⟩, 0)
  else (l, zeroIt, 2)
theorem getR_false (l : List It) (k : List UInt8) (h : (getR l k).2 = false) : (getR l k).1 = zeroIt := by
  unfold getR at h ⊢
  split at h
  · cases h
  · rfl
end Go.Proofs.YtgbmhicpkbmeaaaDoor
namespace Go.Proofs.YtgbmhicpkbmeaaaDoor
open Go.Am
set_option linter.unusedSimpArgs false
set_option linter.unusedVariables false
set_option maxRecDepth 100000
/-! Stores: what a put, a merge come to. -/
theorem bl_irrefl (a : List UInt8) : Op.bytesLess a a = false := by
  induction a with
  | nil => rfl
  | cons x a ih => simp [Op.bytesLess, ih]
theorem bl_trans : ∀ (a b c : List UInt8), Op.bytesLess a b = true → Op.bytesLess b c = true → Op.bytesLess a c = true
  | _, [], _, h, _ => by simp [Op.bytesLess] at h
  | _, _ :: _, [], _, h => by simp [Op.bytesLess] at h
  | [], _ :: _, _ :: _, _, _ => rfl
  | x :: a, y :: b, z :: c, h, k => by
    simp only [Op.bytesLess, Bool.or_eq_true, Bool.and_eq_true, decide_eq_true_eq, beq_iff_eq] at h k ⊢
    rcases h with h | ⟨rfl, h⟩
    · rcases k with k | ⟨rfl, k⟩
      · left; rw [UInt8.lt_iff_toNat_lt] at *; omega
      · left; exact h
    · rcases k with k | ⟨rfl, k⟩
      · left; exact k
      · right; exact ⟨rfl, bl_trans a b c h k⟩
theorem bl_total : ∀ (a b : List UInt8), Op.bytesLess a b = false → a ≠ b → Op.bytesLess b a = true
  | [], [], _, h => absurd rfl h
  | _ :: _, [], _, _ => rfl
  | [], _ :: _, h, _ => by simp [Op.bytesLess] at h
  | x :: a, y :: b, h, hne => by
    simp only [Op.bytesLess, Bool.or_eq_false_iff, decide_eq_false_iff_not, Bool.and_eq_false_iff, beq_eq_false_iff_ne, ne_eq] at h
    simp only [Op.bytesLess, Bool.or_eq_true, Bool.and_eq_true, decide_eq_true_eq, beq_iff_eq]
    obtain ⟨h1, h2⟩ := h
    by_cases e : x = y
    · subst e
      right
      refine ⟨rfl, bl_total a b ?_ fun e => hne (by rw [e])⟩
      rcases h2 with h2 | h2
      · exact absurd rfl h2
      · exact h2
    · left
      rw [UInt8.lt_iff_toNat_lt] at *
      have : x.toNat ≠ y.toNat := fun h => e (UInt8.toNat_inj.1 h)
      omega
def BL (a b : It) : Prop := Op.bytesLess a.k b.k = true
/-- Items by rising keys. -/
def Srt (l : List It) : Prop := l.Pairwise BL
theorem chain_iff (l : List It) : ∀ p : Option It, chainR p l = true ↔ ((∀ x ∈ l, itemR x = true) ∧ Srt l ∧ ∀ y, p = some y → ∀ x ∈ l, BL y x) := by
  induction l with
  | nil => intro p; simp [chainR, Srt]
  | cons x l ih =>
    intro p
    simp only [chainR, Bool.and_eq_true, ih, Srt, List.pairwise_cons, List.mem_cons, forall_eq_or_imp, Option.some.injEq, forall_eq']
    constructor
    · rintro ⟨⟨h1, h2⟩, h3, h4, h5⟩
      refine ⟨⟨h1, h3⟩, ⟨h5, h4⟩, ?_⟩
      rintro y rfl
      exact ⟨h2, fun z hz => bl_trans _ _ _ h2 (h5 z hz)⟩
    · rintro ⟨⟨h1, h3⟩, ⟨h5, h4⟩, h6⟩
      refine ⟨⟨h1, ?_⟩, h3, h4, h5⟩
      cases p with
      | none => rfl
      | some y => exact (h6 y rfl).1
theorem right_iff (l : List It) : rightR l = true ↔ ((∀ x ∈ l, itemR x = true) ∧ Srt l ∧ l.length ≤ 16) := by
  simp only [rightR, Bool.and_eq_true, chain_iff, decide_eq_true_eq, reduceCtorEq, false_implies, implies_true, and_true]
  exact and_assoc

theorem getR_eq (l : List It) (k : List UInt8) : getR l k = match l.find? (fun x => decide (x.k = k)) with | some x => (x, true) | none => (zeroIt, false) := rfl
theorem getR_skip (a : List It) (b : List It) (k : List UInt8) (h : ∀ z ∈ a, z.k ≠ k) : getR (a ++ b) k = getR b k := by
  have : a.find? (fun x => decide (x.k = k)) = none := by simpa using h
  rw [getR_eq, getR_eq, List.find?_append, this]; rfl
theorem getR_here (x : It) (b : List It) : getR (x :: b) x.k = (x, true) := by simp [getR_eq]
theorem getR_there (x : It) (b : List It) (k : List UInt8) (h : x.k ≠ k) : getR (x :: b) k = getR b k := by simp [getR_eq, List.find?_cons, h]
theorem getR_app (a b : List It) (x : It) (k : List UInt8) (h : x.k ≠ k) : getR (a ++ x :: b) k = getR (a ++ b) k := by
  simp [getR_eq, List.find?_append, List.find?_cons, h]
theorem getR_no (l : List It) (k : List UInt8) : (getR l k).2 = false ↔ ∀ z ∈ l, z.k ≠ k := by
  rw [getR_eq]
  split
  · rename_i x h
    simp only [reduceCtorEq, Bool.true_eq_false, false_iff]
    intro hn
    have h1 := List.find?_some h
    exact hn x (List.mem_of_find?_eq_some h) (by simpa using h1)
  · rename_i h; simpa using h
theorem getR_yes (l : List It) (k : List UInt8) (h : (getR l k).2 = true) : (getR l k).1 ∈ l ∧ (getR l k).1.k = k := by
  rw [getR_eq] at h ⊢
  split at h
  · rename_i x hx
    have h1 := List.find?_some hx
    exact ⟨List.mem_of_find?_eq_some hx, by simpa using h1⟩
  · cases h
/-- In a sorted list each item is got by its key. -/
theorem getR_mem {l : List It} (hs : Srt l) {x : It} (h : x ∈ l) : getR l x.k = (x, true) := by
  induction l with
  | nil => cases h
  | cons y l ih =>
    rw [Srt, List.pairwise_cons] at hs
    rcases List.mem_cons.1 h with rfl | h
    · exact getR_here _ _
    · rw [getR_there _ _ _ (fun e => ?_)]
      · exact ih hs.2 h
      · have := hs.1 x h
        rw [BL, e, bl_irrefl] at this; cases this


end Go.Proofs.YtgbmhicpkbmeaaaDoor
namespace Go.Proofs.YtgbmhicpkbmeaaaDoor
open Go.Am
set_option linter.unusedSimpArgs false
set_option linter.unusedVariables false
set_option maxRecDepth 100000
/-! Layer 9: distances on the ring. -/
def distR (a b : Nat) : Nat := (b + 18446744073709551616 - a) % 18446744073709551616

@[go_sem] theorem e76 (a b : Nat) (ha : a ≤ 18446744073709551615) (hb : b ≤ 18446744073709551615) : fn C 76 [] [.int .u64 (a : Int), .int .u64 (b : Int)] = some (.int .u64 (distR a b : Int), []) := by
  rw [fn_text Tryd.func76 rfl rfl Tryd.results76 fq76.1 rfl rfl (by kernel_rfl)]
  simp -implicitDefEqProofs -dsimp +contextual (maxSteps := 9999999) (disch := first | omega | simp only [go_sem] <;> omega | refine ib ?_; kernel_rfl) only [go_sem, seval, ↓reduceIte]
  rw [show IntKind.u64.wrap ((b : Int) - a) = ((distR a b : Nat) : Int) by rw [IntKind.wrap_u64, distR]; omega]

end Go.Proofs.YtgbmhicpkbmeaaaDoor
namespace Go.Proofs.YtgbmhicpkbmeaaaDoor
open Go.Am
set_option linter.unusedSimpArgs false
set_option linter.unusedVariables false
set_option maxRecDepth 100000
/-! Layer 24: peers. -/
def placeG {α : Type} (q : α → Bool) (l : List α) : Int := if l.findIdx q < l.length then (l.findIdx q : Nat) else -1
theorem placeG_at {α : Type} {q : α → Bool} {l : List α} {i : Nat} (h : i < l.length) (hn : (l.take i).any q = false) (he : q l[i] = true) : placeG q l = i := by
  have : l.findIdx q = i := by
    rw [List.findIdx_eq h]
    refine ⟨he, fun j hj => ?_⟩
    exact any_mem hn l[j] (by rw [List.mem_take_iff_getElem]; exact ⟨j, by omega, rfl⟩)
  unfold placeG
  rw [this, if_pos h]
theorem placeG_none {α : Type} {q : α → Bool} {l : List α} (hn : l.any q = false) : placeG q l = -1 := by
  unfold placeG
  rw [if_neg]
  intro hlt
  have := List.findIdx_getElem (w := hlt)
  rw [any_mem hn _ (List.getElem_mem hlt)] at this
  cases this
theorem placeG_cases {α : Type} (q : α → Bool) (l : List α) : (∃ (j : Nat) (h : j < l.length), q l[j] = true ∧ (l.take j).any q = false ∧ placeG q l = j) ∨ (l.any q = false ∧ placeG q l = -1) := by
  rcases Bool.eq_false_or_eq_true (l.any q) with h | h
  · left
    have hlt : l.findIdx q < l.length := by
      rw [List.findIdx_lt_length]; rw [List.any_eq_true] at h; exact h
    have hn : (l.take (l.findIdx q)).any q = false := by
      rw [List.any_eq_false]
      intro x hx
      rw [List.mem_take_iff_getElem] at hx
      obtain ⟨j, hj, rfl⟩ := hx
      have := List.not_of_lt_findIdx (p := q) (xs := l) (i := j) (by omega)
      simpa using this
    exact ⟨_, hlt, List.findIdx_getElem (w := hlt), hn, placeG_at hlt hn (List.findIdx_getElem (w := hlt))⟩
  · exact .inr ⟨h, placeG_none h⟩
def prN (name : List UInt8) (p : Pr) : Bool := decide (p.e.name = name)

@[go_sem] theorem e52 (l : List Pr) (name : List UInt8) (hl : l.length ≤ 9223372036854775807) : fn C 52 [] [.slice 8 (l.map Pr.cs), .str name] = some (.int .i64 (placeG (prN name) l), []) := by
  rw [fn_text Tryd.func52 rfl rfl Tryd.results52 fq52.1 rfl rfl (by kernel_rfl)]
  simp -implicitDefEqProofs -dsimp +contextual (maxSteps := 9999999) (disch := first | omega | simp only [go_sem] <;> omega | refine ib ?_; kernel_rfl) only [go_sem, seval, ↓reduceIte]
  refine kFor l.length (fun i f H => f 0 = .slice 8 (l.map Pr.cs) ∧ f 1 = .str name ∧ f 5 = .int .i64 (i : Nat) ∧ H = Heap.nil ∧ (l.take i).any (prN name) = false) ?_ ?_ ⟨rfl, rfl, rfl, rfl, rfl⟩
  · rintro i f _ hi ⟨f0, f1, f5, rfl, ha⟩ ih
    simp -implicitDefEqProofs -dsimp +contextual (maxSteps := 9999999) (disch := first | omega | simp only [go_sem] <;> omega | refine ib ?_; kernel_rfl) only [go_sem, seval, ↓reduceIte, f0, f1, f5, hi]
    (repeat' (refine kD_intro (fun _ => ?_) (fun _ => ?_)))
    · rename_i h; rw [placeG_at hi ha (by simp [prN, h])]
    · rename_i h; exact ih _ _ ⟨f0, f1, rfl, rfl, any_take hi ha (by simp [prN, h])⟩
  · rintro f _ ⟨f0, f1, f5, rfl, ha⟩
    simp -implicitDefEqProofs -dsimp +contextual (maxSteps := 9999999) (disch := first | omega | simp only [go_sem] <;> omega | refine ib ?_; kernel_rfl) only [go_sem, seval, ↓reduceIte, f0, f1, f5]
    rw [placeG_none (any_end ha)]

@[go_sem] theorem e75 (p : Pr) (name : List UInt8) : fn C 75 [] [.agg [.str p.e.name, .int .u64 (p.e.id : Int), .int .i64 p.e.fr, .int .i64 p.e.un, .int .i64 p.e.ix, .str p.e.tag, .int .i64 p.since, .int .i64 p.under], .iptr [.str name]] = some (.bool (decide (p.e.name = name)), []) := by
  rw [fn_text Tryd.func75 rfl rfl Tryd.results75 fq75.1 rfl rfl (by kernel_rfl)]
  simp -implicitDefEqProofs -dsimp +contextual (maxSteps := 9999999) (disch := first | omega | simp only [go_sem] <;> omega | refine ib ?_; kernel_rfl) only [go_sem, seval, ↓reduceIte]

@[go_sem] theorem eIdxPlace (l : List Pr) (name : List UInt8) (hl : l.length ≤ 9223372036854775807) : fn C 74 [] [.slice 8 (l.map Pr.cs), .fn (.func 75) [] [.iptr [.str name]]] = some (.int .i64 (placeG (prN name) l), []) := by
  rw [fn_text Tryd.func74 rfl rfl Tryd.results74 fq74.1 rfl rfl (by kernel_rfl)]
  simp -implicitDefEqProofs -dsimp +contextual (maxSteps := 9999999) (disch := first | omega | simp only [go_sem] <;> omega | refine ib ?_; kernel_rfl) only [go_sem, seval, ↓reduceIte]
  refine kFor l.length (fun i f H => f 0 = .slice 8 (l.map Pr.cs) ∧ f 1 = .fn (.func 75) [] [.iptr [.str name]] ∧ f 7 = .int .i64 l.length ∧ f 8 = .int .i64 (i : Nat) ∧ H = Heap.nil ∧ (l.take i).any (prN name) = false) ?_ ?_ (by exact ⟨rfl, rfl, rfl, rfl, rfl, rfl⟩)
  · rintro i f _ hi ⟨f0, f1, f7, f8, rfl, ha⟩ ih
    simp -implicitDefEqProofs -dsimp +contextual (maxSteps := 9999999) (disch := first | omega | simp only [go_sem] <;> omega | refine ib ?_; kernel_rfl) only [go_sem, seval, ↓reduceIte, f0, f1, f7, f8, hi]
    (repeat' (refine kD_intro (fun _ => ?_) (fun _ => ?_)))
    · rename_i h; rw [placeG_at hi ha (by simp [prN, h])]
    · rename_i h; exact ih _ _ ⟨f0, f1, f7, rfl, rfl, any_take hi ha (by simp [prN, h])⟩
  · rintro f _ ⟨f0, f1, f7, f8, rfl, ha⟩
    simp -implicitDefEqProofs -dsimp +contextual (maxSteps := 9999999) (disch := first | omega | simp only [go_sem] <;> omega | refine ib ?_; kernel_rfl) only [go_sem, seval, ↓reduceIte, f0, f1, f7, f8]
    rw [placeG_none (any_end ha)]

@[go_sem] theorem e59 (l : List Pr) (name : List UInt8) (hl : l.length ≤ 9223372036854775807) : fn C 59 [] [.slice 8 (l.map Pr.cs), .str name] = some (.int .i64 (placeG (prN name) l), []) := by
  rw [fn_text Tryd.func59 rfl rfl Tryd.results59 fq59.1 rfl rfl (by kernel_rfl)]
  simp -implicitDefEqProofs -dsimp +contextual (maxSteps := 9999999) (disch := first | omega | simp only [go_sem] <;> omega | refine ib ?_; kernel_rfl) only [go_sem, seval, ↓reduceIte]

def aheadR (me : En) (a b : Pr) : Bool := if distR me.id a.e.id = distR me.id b.e.id then Op.bytesLess a.e.name b.e.name else decide (distR me.id a.e.id < distR me.id b.e.id)
@[go_sem] theorem e60 (me : En) (a b : Pr) (h1 : U64 me.id) (h2 : U64 a.e.id) (h3 : U64 b.e.id) : fn C 60 [] [.agg [.str me.name, .int .u64 (me.id : Int), .int .i64 me.fr, .int .i64 me.un, .int .i64 me.ix, .str me.tag], .agg [.str a.e.name, .int .u64 (a.e.id : Int), .int .i64 a.e.fr, .int .i64 a.e.un, .int .i64 a.e.ix, .str a.e.tag, .int .i64 a.since, .int .i64 a.under], .agg [.str b.e.name, .int .u64 (b.e.id : Int), .int .i64 b.e.fr, .int .i64 b.e.un, .int .i64 b.e.ix, .str b.e.tag, .int .i64 b.since, .int .i64 b.under]] = some (.bool (aheadR me a b), []) := by
  rw [fn_text Tryd.func60 rfl rfl Tryd.results60 fq60.1 rfl rfl (by kernel_rfl)]
  simp -implicitDefEqProofs -dsimp +contextual (maxSteps := 9999999) (disch := first | omega | simp only [go_sem] <;> omega | refine ib ?_; kernel_rfl) only [go_sem, seval, ↓reduceIte]
  (repeat' (refine kD_intro (fun _ => ?_) (fun _ => ?_)))
  · rename_i h; exact Res_bool (by simp [aheadR, h])
  · rename_i h; exact Res_bool (by simp [aheadR, h])

def rightAt (me : En) (l : List Pr) (i : Nat) (h : i < l.length) : Bool := !decide (l[i].e.name = me.name) && decide (placeG (prN l[i].e.name) l = (i : Int)) && (decide (i = 0) || aheadR me (l[i - 1]'(by omega)) l[i])
/-- A list that may be a node's. -/
def RightP (me : En) (l : List Pr) : Prop := (∀ i (h : i < l.length), rightAt me l i h = true) ∧ l.length ≤ 7
open Classical in
noncomputable def rightP (me : En) (l : List Pr) : Bool := decide (RightP me l)
theorem rightP_iff (me : En) (l : List Pr) : rightP me l = true ↔ RightP me l := by simp [rightP]
@[go_sem] theorem e31 (me : En) (l : List Pr) (h1 : U64 me.id) (hl : l.length ≤ 9223372036854775807) (h2 : ∀ p ∈ l, U64 p.e.id) : fn C 31 [] [.agg [.str me.name, .int .u64 (me.id : Int), .int .i64 me.fr, .int .i64 me.un, .int .i64 me.ix, .str me.tag], .slice 8 (l.map Pr.cs)] = some (.bool (rightP me l), []) := by
  rw [fn_text Tryd.func31 rfl rfl Tryd.results31 fq31.1 rfl rfl (by kernel_rfl)]
  simp -implicitDefEqProofs -dsimp +contextual (maxSteps := 9999999) (disch := first | omega | simp only [go_sem] <;> omega | refine ib ?_; kernel_rfl) only [go_sem, seval, ↓reduceIte]
  refine kFor l.length (fun i f H => f 1 = .slice 8 (l.map Pr.cs) ∧ f 2 = .ptr 102 1 0 0 ∧ f 7 = .slice 8 (l.map Pr.cs) ∧ f 8 = .int .i64 l.length ∧ f 9 = .int .i64 (i : Nat) ∧ H 102 = ⟨1, .live, 6, [me.cs], false⟩ ∧ ∀ j (h : j < l.length), j < i → rightAt me l j h = true) ?_ ?_ (by exact ⟨rfl, rfl, rfl, rfl, rfl, rfl, fun j h hj => by omega⟩)
  · rintro i f H hi ⟨f1, f2, f7, f8, f9, hH, ha⟩ ih
    have k1 := h2 _ (List.getElem_mem hi)
    have k2 := h2 (l[i - 1]'(by omega)) (List.getElem_mem _)
    have bad : rightAt me l i hi = false → rightP me l = false := fun h => by
      simp only [rightP, decide_eq_false_iff_not]
      intro hr
      have := hr.1 i hi
      rw [h] at this; cases this
    have good : rightAt me l i hi = true → ∀ j (h : j < l.length), j < i + 1 → rightAt me l j h = true := fun h j hj hji => by
      rcases Nat.lt_or_ge j i with h' | h'
      · exact ha j hj h'
      · obtain rfl : j = i := by omega
        exact h
    by_cases c1 : l[i].e.name = me.name
    · simp -implicitDefEqProofs -dsimp +contextual (maxSteps := 9999999) (disch := first | omega | simp only [go_sem] <;> omega | refine ib ?_; kernel_rfl) only [go_sem, seval, ↓reduceIte, f1, f2, f7, f8, f9, hH, hi, c1]
      rw [bad (by simp [rightAt, c1])]
    by_cases c2 : placeG (prN l[i].e.name) l = (i : Int)
    · by_cases c3 : 0 < i
      · simp -implicitDefEqProofs -dsimp +contextual (maxSteps := 9999999) (disch := first | omega | simp only [go_sem] <;> omega | refine ib ?_; kernel_rfl) only [go_sem, seval, ↓reduceIte, f1, f2, f7, f8, f9, hH, hi, c1, c2, c3]
        (repeat' (refine kD_intro (fun _ => ?_) (fun _ => ?_)))
        · rename_i c4; refine ih _ _ ⟨f1, f2, f7, f8, rfl, by simp [Heap.set, hH], good (by simp [rightAt, c1, c2, c4])⟩
        · rename_i c4; rw [bad (by simp [rightAt, c1, c2, c4]; omega)]
      · simp -implicitDefEqProofs -dsimp +contextual (maxSteps := 9999999) (disch := first | omega | simp only [go_sem] <;> omega | refine ib ?_; kernel_rfl) only [go_sem, seval, ↓reduceIte, f1, f2, f7, f8, f9, hH, hi, c1, c2, c3]
        refine ih _ _ ⟨f1, f2, f7, f8, rfl, by simp [Heap.set, hH], good (by simp [rightAt, c1, c2]; omega)⟩
    · simp -implicitDefEqProofs -dsimp +contextual (maxSteps := 9999999) (disch := first | omega | simp only [go_sem] <;> omega | refine ib ?_; kernel_rfl) only [go_sem, seval, ↓reduceIte, f1, f2, f7, f8, f9, hH, hi, c1, c2]
      rw [bad (by simp [rightAt, c1, c2])]
  · rintro f H ⟨f1, f2, f7, f8, f9, hH, ha⟩
    simp -implicitDefEqProofs -dsimp +contextual (maxSteps := 9999999) (disch := first | omega | simp only [go_sem] <;> omega | refine ib ?_; kernel_rfl) only [go_sem, seval, ↓reduceIte, f1, f2, f7, f8, f9, hH]
    refine Res_bool ?_
    exact ⟨fun h => (rightP_iff me l).2 ⟨fun i hi => ha i hi hi, by simpa using h⟩, fun h => by have := ((rightP_iff me l).1 h).2; simpa using this⟩

end Go.Proofs.YtgbmhicpkbmeaaaDoor
