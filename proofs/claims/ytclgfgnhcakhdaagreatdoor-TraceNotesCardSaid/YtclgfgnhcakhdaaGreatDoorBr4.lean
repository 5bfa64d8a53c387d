import Derived.Test.YtclgfgnhcakhdaaGreatDoorBr3
import Derived.Test.YtclgfgnhcakhdaaGreatDoorDn6
import Derived.Lib.LaidTab
import Derived.Lib.LaidU8
import Derived.Below
import Derived.Shelf.Vars
namespace Go.Am
open Go.RowKit
abbrev Tabs := List (Nat × String × IntKind × List Int)
def tabV (k : IntKind) (zs : List Int) : List AVal := zs.map (.int k)
def gamma (ts : Tabs) : Nat → Option (List AVal) := fun g => (ts.find? fun t => t.1 == g).map fun t => tabV t.2.2.1 t.2.2.2
theorem cells_ints {S : Nat → Prop} {w : World} {g : Nat} {k : IntKind} {arr : Array Value} {e : TypeId} {fz : Nat × Nat} (h : w.heap[g]? = some (.cells arr e fz)) : ∀ (zs : List Int) (off : Nat), arr.toList.drop off = zs.map (Value.int k) → CCells S w g off (tabV k zs)
  | [], _, _ => trivial
  | z :: zs, off, hd => by
    simp only [tabV, List.map_cons, CCells]
    have h0 : arr.toList[off]? = some (.int k z) := by
      have := congrArg (·[0]?) hd
      simpa [List.getElem?_drop] using this
    refine ⟨⟨_, ?_, rfl⟩, cells_ints h zs (off + 1) ?_⟩
    · simp only [World.cell?, h]
      rw [← Array.getElem?_toList]; exact h0
    · have := congrArg List.tail hd
      simpa using this
theorem globOk_tabs {P : Program} {W : World} {ts : Tabs} (hg : ∀ t ∈ ts, P.globalNamed t.2.1 = some t.1) (h : ∀ t ∈ ts, Lib.TabIs P W t.2.1 t.2.2.1 t.2.2.2) : GlobOk (gamma ts) (fun b => b < W.heap.size) W := by
  intro g cs hc
  unfold gamma at hc
  rw [Option.map_eq_some_iff] at hc
  obtain ⟨t, ht, rfl⟩ := hc
  have h1 := List.find?_some ht
  have h2 := List.mem_of_find?_eq_some ht
  simp only [beq_iff_eq] at h1
  subst h1
  have h3 := h t h2
  unfold Lib.TabIs World.var? at h3
  rw [hg t h2, Option.bind_some] at h3
  split at h3
  · rename_i arr e fz hh
    simp only [Option.some.injEq] at h3
    refine ⟨?_, cells_ints hh _ 0 (by simp [h3]), arr, e, fz, hh, by simp [h3, tabV], fun hj => ?_⟩
    rotate_left
    · exfalso
      unfold tabV at hj
      cases hz : t.2.2.2 with
      | nil => rw [hz] at hj; cases hj
      | cons z zs => rw [hz] at hj; cases hj
    rcases Nat.lt_or_ge t.1 W.heap.size with h' | h'
    · exact h'
    · simp [Array.getElem?_eq_none h'] at hh
  · cases h3
theorem tabIs_of_glob {P : Program} {S : Nat → Prop} {w : World} {Γ : Nat → Option (List AVal)} {name : String} {g : Nat} {k : IntKind} {zs : List Int} (hg : P.globalNamed name = some g) (hG : Γ g = some (tabV k zs)) (h : GlobOk Γ S w) : Lib.TabIs P w name k zs := by
  obtain ⟨_, hc, arr, e, fz, hh, hs, _⟩ := h g _ hG
  unfold Lib.TabIs World.var?
  rw [hg, Option.bind_some, hh]
  simp only [Option.some.injEq]
  have hs' : arr.toList.length = zs.length := by simpa [tabV] using hs
  rw [CCells_iff] at hc
  apply Array.toList_inj.1
  apply List.ext_getElem?
  intro i
  by_cases hi : i < zs.length
  · obtain ⟨x, h1, h2⟩ := hc i (.int k zs[i]) (by simp [tabV, hi])
    simp only [CRel] at h2
    subst h2
    simp only [World.cell?, hh, Nat.zero_add] at h1
    rw [← Array.getElem?_toList] at h1
    simp only [Option.isSome_none, Bool.false_eq_true, if_false] at h1
    rw [h1]; simp [hi]
  · rw [List.getElem?_eq_none (by omega), List.getElem?_eq_none (by simp; omega)]
theorem tabIs_of_reads {P : Program} {W : World} {name : String} {k : IntKind} {zs : List Int} {g : Nat} {t e : TypeId} {n : Nat}
    (hg : P.globalNamed name = some g) (hty : (P.globals[g]?).map (·.type) = some t) (ht : P.underlying t = some (.array n e)) (he : P.underlying e = some (.int k)) (hce : P.cellsOf e = 1) (hct : P.cellsOf t = n)
    (h : Lib.VarReads P W name (Lib.tabData k zs)) : Lib.TabIs P W name k zs := by
  obtain ⟨g', t', cs, fuel, p, hg', ht', hvar, hd⟩ := h
  obtain rfl := Option.some.inj (hg.symm.trans hg')
  obtain rfl := Option.some.inj (hty.symm.trans ht')
  unfold Lib.TabIs
  rw [hvar, ← Lib.cells_of_tab ht he hce hct hd]
def Const (r : AVal) (x : Value) : Prop := ∀ (S : Nat → Prop) (w : World), ORel S w r x []
theorem const_str (l : List UInt8) : Const (.str l) (.string ⟨l.toArray⟩) := fun _ _ => ⟨rfl, rfl⟩
theorem const_int (k n) : Const (.int k n) (.int k n) := fun _ _ => ⟨rfl, rfl⟩
theorem const_bool (b) : Const (.bool b) (.bool b) := fun _ _ => ⟨rfl, rfl⟩
theorem const_tup {rs : List AVal} {xs : List Value} (h : ∀ S w, ORels S w rs xs []) : Const (.tup rs) (.tuple xs.toArray) := fun S w => ⟨xs.toArray, rfl, by simpa using h S w⟩
theorem const_cons {r : AVal} {x : Value} {rs : List AVal} {xs : List Value} (h : Const r x) (hs : ∀ S w, ORels S w rs xs []) : ∀ S w, ORels S w (r :: rs) (x :: xs) [] := fun S w => ⟨x, xs, [], [], rfl, rfl, h S w, hs S w⟩
theorem const_nil : ∀ (S : Nat → Prop) (w : World), ORels S w [] [] [] := fun _ _ => ⟨rfl, rfl⟩
def noU : List AVal → Bool
  | [] => true
  | .uptr _ :: _ => false
  | _ :: ds => noU ds
theorem lentOf_noU : ∀ {ds : List AVal} {xs : List Value}, noU ds = true → lentOf ds xs = []
  | [], _, _ => by simp [lentOf]
  | d :: ds, [], _ => by cases d <;> simp [lentOf]
  | d :: ds, x :: xs, h => by
    cases d <;> simp only [noU, Bool.false_eq_true] at h <;> simp only [lentOf] <;> exact lentOf_noU h
theorem spec_below {E : Env} {f : FuncId} {ds : List AVal} {r : AVal} {x : Value} (hn : noU ds = true) (hr : Const r x)
    (h : ∀ (S : Nat → Prop) (w : World) (xs : List Value) (U : List Nat), GlobOk E.Γ S w → (∀ b, S b → b < w.heap.size) → ORels S w ds xs U → U.Nodup → (∀ b ∈ U, b < w.heap.size ∧ ¬ S b) → Calls E.P f xs.toArray w fun e w' => e = .returned x ∧ Below w.heap.size w w') :
    Am.Spec E f ds r [] := by
  intro S w xs U _ hG hst hor hnd hb
  refine (h S w xs U hG hst hor hnd hb).mono ?_
  rintro e w' ⟨rfl, hb⟩
  refine ⟨x, [], rfl, Keep.same hb.os hb.tape hb.output hb.size (fun k hk => hb.block k hk), ?_, List.nodup_nil, fun b hb => by cases hb⟩
  rw [lentOf_noU hn]
  exact ⟨x, [], [], [], rfl, rfl, hr _ _, rfl, rfl⟩
def gammaJ (js : List Nat) (ts : Tabs) : Nat → Option (List AVal) := fun g => if js.contains g then some [.junk] else gamma ts g
theorem junk_of_shaped {P : Program} {w : World} {g : Nat} {t : TypeId} {zero : Array Value} (h : w.ShapedOpen P) (hg : g < P.globals.size)
    (h0 : ((begin P (fun _ _ => 0) default).world.heap[g]?).bind Obj.row? = some (zero, t)) (hz : zero.size = 1)
    (hb : P.buildable t = true) (hc : P.cellTypes P.depth t = some [t]) (hu : P.underlying t = some (.int .i64)) :
    ∃ arr e fz, w.heap[g]? = some (Go.Obj.cells arr e fz) ∧ arr.size = 1 ∧ ∃ n, arr[0]? = some (.int .i64 n) := by
  obtain ⟨m, hm⟩ := Go.Proofs.cell_of_shapedOpen_int h hg h0 hz hb hc hu
  obtain ⟨cs, hh, hs, _⟩ := h.1 g zero t hg h0
  refine ⟨cs, t, _, hh, by omega, m, ?_⟩
  simpa [World.cell?, hh] using hm
theorem globOk_tabsJ {P : Program} {W : World} {ts : Tabs} {js : List Nat} (hg : ∀ t ∈ ts, P.globalNamed t.2.1 = some t.1) (h : ∀ t ∈ ts, Lib.TabIs P W t.2.1 t.2.2.1 t.2.2.2)
    (hj : ∀ g ∈ js, ∃ arr e fz, W.heap[g]? = some (Go.Obj.cells arr e fz) ∧ arr.size = 1 ∧ ∃ n, arr[0]? = some (.int .i64 n)) : GlobOk (gammaJ js ts) (fun b => b < W.heap.size) W := by
  intro g cs hc
  unfold gammaJ at hc
  split at hc
  · rename_i hm
    simp only [Option.some.injEq] at hc
    subst hc
    obtain ⟨arr, e, fz, hh, hs, n, hn⟩ := hj g (by simpa using hm)
    refine ⟨?_, ⟨⟨.int .i64 n, by simp [World.cell?, hh, hn], trivial⟩, trivial⟩, arr, e, fz, hh, hs, fun _ => ⟨n, hn⟩⟩
    rcases Nat.lt_or_ge g W.heap.size with h' | h'
    · exact h'
    · simp [Array.getElem?_eq_none h'] at hh
  · exact globOk_tabs hg h g cs hc
end Go.Am
