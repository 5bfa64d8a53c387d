import Derived.Test.YtclgfgnhcakhdaaGreatDoorDn8
namespace Go.Am
theorem ib {ops : Array Oper} {tr : List (List Nat × List Nat)} (h : indepB ops tr = true) : indepB ops tr = true := h
@[reducible] def Fq (E : Env) (M : Mds) (f : FuncId) (l : Nat) (pa re : List Nat) (pk rk : List (List Nat)) : Prop :=
  M.loc f = l ∧ M.par f = pa ∧ M.res f = re ∧ E.P.goFn f = true ∧ E.P.parK f = pk ∧ E.P.resK f = rk
theorem Fq.of {E : Env} {M : Mds} {f : FuncId} {l : Nat} {pa re : List Nat} {pk rk : List (List Nat)} (h : (M.loc f, M.par f, M.res f, E.P.goFn f, E.P.parK f, E.P.resK f) = (l, pa, re, true, pk, rk)) : Fq E M f l pa re pk rk := by
  simpa [Fq] using h
@[reducible] def Tq (E : Env) (t : TypeId) (sz : Option Nat) (row : Option Bool) (zero : Option (List AVal)) (s i b : Bool) (k : Option IntKind) (u g : Bool) : Prop :=
  E.P.szO t = sz ∧ E.P.rowO t = row ∧ E.P.zeroL t = zero ∧ E.P.isStr t = s ∧ E.P.isInt t = i ∧ boolT E.P t = b ∧ kindO E.P t = k ∧ (E.P.underlying t).isSome = u ∧ E.P.eqGuardType E.P.depth t = g
theorem Tq.of {E : Env} {t : TypeId} {sz : Option Nat} {row : Option Bool} {zero : Option (List AVal)} {s i b : Bool} {k : Option IntKind} {u g : Bool} (h : (E.P.szO t, E.P.rowO t, E.P.zeroL t, E.P.isStr t, E.P.isInt t, boolT E.P t, kindO E.P t, (E.P.underlying t).isSome, E.P.eqGuardType E.P.depth t) = (sz, row, zero, s, i, b, k, u, g)) : Tq E t sz row zero s i b k u g := by
  simpa [Tq] using h
@[reducible] def Uq (E : Env) (t : TypeId) (eo eb : Option Nat) (ez : Option (List AVal)) (bt pt c : Bool) (arr : Option (Nat × Nat × Bool)) : Prop :=
  E.P.elemO t = eo ∧ E.P.elemBytes t = eb ∧ E.P.elemZero t = ez ∧ E.P.isBytes t = bt ∧ ptrT E.P t = pt ∧ E.P.isComp t = c ∧ E.P.arrO t = arr
theorem Uq.of {E : Env} {t : TypeId} {eo eb : Option Nat} {ez : Option (List AVal)} {bt pt c : Bool} {arr : Option (Nat × Nat × Bool)} (h : (E.P.elemO t, E.P.elemBytes t, E.P.elemZero t, E.P.isBytes t, ptrT E.P t, E.P.isComp t, E.P.arrO t) = (eo, eb, ez, bt, pt, c, arr)) : Uq E t eo eb ez bt pt c arr := by
  simpa [Uq] using h
end Go.Am
