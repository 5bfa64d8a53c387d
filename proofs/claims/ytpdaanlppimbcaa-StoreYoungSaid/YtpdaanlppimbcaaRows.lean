/-
  No cell of these rows narrows 'for every input' (looked for: loops, veiled, ifaces, maps, wideKeys, modest, calm, conditions, laid).
  DERIVED. THE GIVEN ROWS OF THIS SEAT. 3 by the template 'for every input the law returns true; each argument reads behind the call as it read before'; 0 by the template 'total and deterministic' (their statements: YtpdaanlppimbcaaTotals.lean).
  GIVEN WITH THE SEED: the statements are not yours to turn. If you find one false, say at which input.
  Laid BY PROGRAM, IN A SANDBOX (cutbox-rows.mjs): the forced cells as the released guide's own fill.sh prints them over the translation f41fb5501ea7e984… (all of the seat's roots in one cut). By AI agents, Wed Nov 11 2026. No macro, syntax, notation, axiom, sorry.
-/
import Derived.Test.YtpdaanlppimbcaaChecked
import GoSem.Claim
import GoSem.ClaimJoined
import GoSem.ClaimMapViews
import Derived.JoinedTies
import Derived.KernelRfl
namespace Go.Proofs.Ytpdaanlppimbcaa
/- THE CELL 'sum', in the pinned program and in every row, IS THE sha256 OF THE DUMP (.gsa) THAT YtpdaanlppimbcaaProg.lean LOADS. Nothing in Lean hashes anything: it is a label: what it is worth is what the hold of that sum in a sandbox is worth. -/
noncomputable def Try.pinned : Pinned := { name := "ytpdaanlppimbcaa", sum := "f41fb5501ea7e9848b59e5b81432e0b4d92881f882720df28b2cfd58ec4fb63e", checked := Try.checked }
namespace Rows
def none {H : Type} : Left H := { results := [], args := [] }

/-- 'carcanetlaw27.StorePuts': WHATEVER THE INPUT: true; the input reads as it did. -/
def storePutsSpec : ChangeSpec := { name := "storePuts", fn := fun _ => fun
  | [d1, d2, d3, d4] => { results := [.lit (.bool true)], args := [d1, d2, d3, d4] }
  | _ => none }
def storePutsRow : OpenClaim := { program := "ytpdaanlppimbcaa", sum := "f41fb5501ea7e9848b59e5b81432e0b4d92881f882720df28b2cfd58ec4fb63e", func := "carcanet/carcanetlaw27.StorePuts", spec := "storePuts", inPlace := ["slices.overlaps[carcanet/api.Item]"], unfollowed := true, recurses := true, apart := false }
def StorePutsSaid : Prop := storePutsRow.holds Try.pinned (OpenSpec.ofChange storePutsSpec)

/-- ITS FALSE NEIGHBOUR: 'it returns false'. Refute it at one input. -/
def storePutsWrong : ChangeSpec := { name := "storePuts", fn := fun _ => fun
  | [d1, d2, d3, d4] => { results := [.lit (.bool false)], args := [d1, d2, d3, d4] }
  | _ => none }
def StorePutsWrongFalsely : Prop := storePutsRow.holds Try.pinned (OpenSpec.ofChange storePutsWrong)

/-- 'carcanetlaw27.StoreStays': WHATEVER THE INPUT: true; the input reads as it did. -/
def storeStaysSpec : ChangeSpec := { name := "storeStays", fn := fun _ => fun
  | [d1, d2, d3, d4, d5] => { results := [.lit (.bool true)], args := [d1, d2, d3, d4, d5] }
  | _ => none }
def storeStaysRow : OpenClaim := { program := "ytpdaanlppimbcaa", sum := "f41fb5501ea7e9848b59e5b81432e0b4d92881f882720df28b2cfd58ec4fb63e", func := "carcanet/carcanetlaw27.StoreStays", spec := "storeStays", inPlace := ["slices.overlaps[carcanet/api.Item]"], unfollowed := true, recurses := true, apart := false }
def StoreStaysSaid : Prop := storeStaysRow.holds Try.pinned (OpenSpec.ofChange storeStaysSpec)

/-- ITS FALSE NEIGHBOUR: 'it returns false'. Refute it at one input. -/
def storeStaysWrong : ChangeSpec := { name := "storeStays", fn := fun _ => fun
  | [d1, d2, d3, d4, d5] => { results := [.lit (.bool false)], args := [d1, d2, d3, d4, d5] }
  | _ => none }
def StoreStaysWrongFalsely : Prop := storeStaysRow.holds Try.pinned (OpenSpec.ofChange storeStaysWrong)

/-- 'carcanetlaw27.StoreYoung': WHATEVER THE INPUT: true; the input reads as it did. -/
def storeYoungSpec : ChangeSpec := { name := "storeYoung", fn := fun _ => fun
  | [d1, d2] => { results := [.lit (.bool true)], args := [d1, d2] }
  | _ => none }
def storeYoungRow : OpenClaim := { program := "ytpdaanlppimbcaa", sum := "f41fb5501ea7e9848b59e5b81432e0b4d92881f882720df28b2cfd58ec4fb63e", func := "carcanet/carcanetlaw27.StoreYoung", spec := "storeYoung", inPlace := ["slices.overlaps[carcanet/api.Item]"], unfollowed := true, recurses := true, apart := false }
def StoreYoungSaid : Prop := storeYoungRow.holds Try.pinned (OpenSpec.ofChange storeYoungSpec)

/-- ITS FALSE NEIGHBOUR: 'it returns false'. Refute it at one input. -/
def storeYoungWrong : ChangeSpec := { name := "storeYoung", fn := fun _ => fun
  | [d1, d2] => { results := [.lit (.bool false)], args := [d1, d2] }
  | _ => none }
def StoreYoungWrongFalsely : Prop := storeYoungRow.holds Try.pinned (OpenSpec.ofChange storeYoungWrong)

/- THE SECOND FORM. 'bulk': how many values and letters a reading holds, each counted each time it is reached (what is shared counts as often as it is met; a slice's spare places count too). A statement '..UptoSaid' is the law's where the arguments, and the package variables that the reading takes, are together of bulk at most 1048576: NARROWER than '..Said'. Prove '..Said' where nothing that the law and all that it calls make is longer than what came in: it says more and counts as full. Else prove '..UptoSaid'. A law counts once. -/
mutual
def uptoBulk {H : Type} : DataW H → Nat
  | .lit (.string bytes) => bytes.length + 1
  | .lit _ => 1
  | .nil => 1
  | .ptr d => uptoBulk d + 1
  | .slice elems spare => uptoBulkAll elems + uptoBulkAll spare + 1
  | .agg parts => uptoBulkAll parts + 1
  | .iface _ d => uptoBulk d + 1
  | .map entries => uptoBulkEntries entries + 1
  | .held _ => 1
def uptoBulkAll {H : Type} : List (DataW H) → Nat
  | [] => 0
  | d :: r => uptoBulk d + uptoBulkAll r
def uptoBulkEntries {H : Type} : List (Lit × DataW H) → Nat
  | [] => 0
  | x :: r => uptoBulkEntry x + uptoBulkEntries r
def uptoBulkEntry {H : Type} : Lit × DataW H → Nat
  | (.string bytes, d) => bytes.length + uptoBulk d + 1
  | (_, d) => uptoBulk d + 1
 end
def uptoSmall : (H : Type) → List (DataW H) → Bool := fun _ ds => decide (uptoBulkAll ds ≤ 1048576)
def OpenSpec.upto (s : _root_.Go.ChangeSpec) : _root_.Go.OpenSpec := { _root_.Go.OpenSpec.ofChange s with cond := some uptoSmall }

/-- 'carcanetlaw27.StorePuts', WHERE WHAT IT READS IS OF BULK AT MOST 1048576: true; the input reads as it did. -/
def storePutsUptoRow : OpenClaim := { program := "ytpdaanlppimbcaa", sum := "f41fb5501ea7e9848b59e5b81432e0b4d92881f882720df28b2cfd58ec4fb63e", func := "carcanet/carcanetlaw27.StorePuts", spec := "storePuts", inPlace := ["slices.overlaps[carcanet/api.Item]"], unfollowed := true, recurses := true, apart := false, narrowed := true }
def StorePutsUptoSaid : Prop := storePutsUptoRow.holds Try.pinned (OpenSpec.upto storePutsSpec)

/-- 'carcanetlaw27.StoreStays', WHERE WHAT IT READS IS OF BULK AT MOST 1048576: true; the input reads as it did. -/
def storeStaysUptoRow : OpenClaim := { program := "ytpdaanlppimbcaa", sum := "f41fb5501ea7e9848b59e5b81432e0b4d92881f882720df28b2cfd58ec4fb63e", func := "carcanet/carcanetlaw27.StoreStays", spec := "storeStays", inPlace := ["slices.overlaps[carcanet/api.Item]"], unfollowed := true, recurses := true, apart := false, narrowed := true }
def StoreStaysUptoSaid : Prop := storeStaysUptoRow.holds Try.pinned (OpenSpec.upto storeStaysSpec)

/-- 'carcanetlaw27.StoreYoung', WHERE WHAT IT READS IS OF BULK AT MOST 1048576: true; the input reads as it did. -/
def storeYoungUptoRow : OpenClaim := { program := "ytpdaanlppimbcaa", sum := "f41fb5501ea7e9848b59e5b81432e0b4d92881f882720df28b2cfd58ec4fb63e", func := "carcanet/carcanetlaw27.StoreYoung", spec := "storeYoung", inPlace := ["slices.overlaps[carcanet/api.Item]"], unfollowed := true, recurses := true, apart := false, narrowed := true }
def StoreYoungUptoSaid : Prop := storeYoungUptoRow.holds Try.pinned (OpenSpec.upto storeYoungSpec)

end Rows
end Go.Proofs.Ytpdaanlppimbcaa
