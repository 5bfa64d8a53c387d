/-
  No cell of these rows narrows 'for every input' (looked for: loops, veiled, ifaces, maps, wideKeys, modest, calm, conditions, laid).
  DERIVED. THE GIVEN ROWS OF THIS SEAT. 4 by the template 'for every input the law returns true; each argument reads behind the call as it read before'; 0 by the template 'total and deterministic' (their statements: YtmfcabokoijcdaaTotals.lean).
  GIVEN WITH THE SEED: the statements are not yours to turn. If you find one false, say at which input.
  Laid BY PROGRAM, IN A SANDBOX (cutbox-rows.mjs): the forced cells as the released guide's own fill.sh prints them over the translation 6dba592cf059824c… (all of the seat's roots in one cut). By AI agents, Wed Nov 11 2026. No macro, syntax, notation, axiom, sorry.
-/
import Derived.Test.YtmfcabokoijcdaaChecked
import GoSem.Claim
import GoSem.ClaimJoined
import GoSem.ClaimMapViews
import Derived.JoinedTies
import Derived.KernelRfl
namespace Go.Proofs.Ytmfcabokoijcdaa
/- THE CELL 'sum', in the pinned program and in every row, IS THE sha256 OF THE DUMP (.gsa) THAT YtmfcabokoijcdaaProg.lean LOADS. Nothing in Lean hashes anything: it is a label: what it is worth is what the hold of that sum in a sandbox is worth. -/
noncomputable def Try.pinned : Pinned := { name := "ytmfcabokoijcdaa", sum := "6dba592cf059824cc02d599f8c02f0b7b2a98196e34ebe5c91177c0e8cc6cfad", checked := Try.checked }
namespace Rows
def none {H : Type} : Left H := { results := [], args := [] }

/-- 'carcanetlaw29.CopiesBegin': WHATEVER THE INPUT: true; the input reads as it did. -/
def copiesBeginSpec : ChangeSpec := { name := "copiesBegin", fn := fun _ => fun
  | [d1, d2, d3, d4, d5, d6, d7] => { results := [.lit (.bool true)], args := [d1, d2, d3, d4, d5, d6, d7] }
  | _ => none }
def copiesBeginRow : OpenClaim := { program := "ytmfcabokoijcdaa", sum := "6dba592cf059824cc02d599f8c02f0b7b2a98196e34ebe5c91177c0e8cc6cfad", func := "carcanet/carcanetlaw29.CopiesBegin", spec := "copiesBegin", inPlace := ["slices.overlaps[carcanet/api.Item]"], unfollowed := true, recurses := true, apart := false }
def CopiesBeginSaid : Prop := copiesBeginRow.holds Try.pinned (OpenSpec.ofChange copiesBeginSpec)

/-- ITS FALSE NEIGHBOUR: 'it returns false'. Refute it at one input. -/
def copiesBeginWrong : ChangeSpec := { name := "copiesBegin", fn := fun _ => fun
  | [d1, d2, d3, d4, d5, d6, d7] => { results := [.lit (.bool false)], args := [d1, d2, d3, d4, d5, d6, d7] }
  | _ => none }
def CopiesBeginWrongFalsely : Prop := copiesBeginRow.holds Try.pinned (OpenSpec.ofChange copiesBeginWrong)

/-- 'carcanetlaw29.CopiesOnce': WHATEVER THE INPUT: true; the input reads as it did. -/
def copiesOnceSpec : ChangeSpec := { name := "copiesOnce", fn := fun _ => fun
  | [d1, d2, d3, d4, d5] => { results := [.lit (.bool true)], args := [d1, d2, d3, d4, d5] }
  | _ => none }
def copiesOnceRow : OpenClaim := { program := "ytmfcabokoijcdaa", sum := "6dba592cf059824cc02d599f8c02f0b7b2a98196e34ebe5c91177c0e8cc6cfad", func := "carcanet/carcanetlaw29.CopiesOnce", spec := "copiesOnce", inPlace := ["slices.overlaps[carcanet/api.Item]"], unfollowed := true, recurses := true, apart := false }
def CopiesOnceSaid : Prop := copiesOnceRow.holds Try.pinned (OpenSpec.ofChange copiesOnceSpec)

/-- ITS FALSE NEIGHBOUR: 'it returns false'. Refute it at one input. -/
def copiesOnceWrong : ChangeSpec := { name := "copiesOnce", fn := fun _ => fun
  | [d1, d2, d3, d4, d5] => { results := [.lit (.bool false)], args := [d1, d2, d3, d4, d5] }
  | _ => none }
def CopiesOnceWrongFalsely : Prop := copiesOnceRow.holds Try.pinned (OpenSpec.ofChange copiesOnceWrong)

/-- 'carcanetlaw29.CopiesSettle': WHATEVER THE INPUT: true; the input reads as it did. -/
def copiesSettleSpec : ChangeSpec := { name := "copiesSettle", fn := fun _ => fun
  | [d1, d2, d3, d4, d5] => { results := [.lit (.bool true)], args := [d1, d2, d3, d4, d5] }
  | _ => none }
def copiesSettleRow : OpenClaim := { program := "ytmfcabokoijcdaa", sum := "6dba592cf059824cc02d599f8c02f0b7b2a98196e34ebe5c91177c0e8cc6cfad", func := "carcanet/carcanetlaw29.CopiesSettle", spec := "copiesSettle", inPlace := ["slices.overlaps[carcanet/api.Item]"], unfollowed := true, recurses := true, apart := false }
def CopiesSettleSaid : Prop := copiesSettleRow.holds Try.pinned (OpenSpec.ofChange copiesSettleSpec)

/-- ITS FALSE NEIGHBOUR: 'it returns false'. Refute it at one input. -/
def copiesSettleWrong : ChangeSpec := { name := "copiesSettle", fn := fun _ => fun
  | [d1, d2, d3, d4, d5] => { results := [.lit (.bool false)], args := [d1, d2, d3, d4, d5] }
  | _ => none }
def CopiesSettleWrongFalsely : Prop := copiesSettleRow.holds Try.pinned (OpenSpec.ofChange copiesSettleWrong)

/-- 'carcanetlaw29.CopiesGo': WHATEVER THE INPUT: true; the input reads as it did. -/
def copiesGoSpec : ChangeSpec := { name := "copiesGo", fn := fun _ => fun
  | [d1, d2, d3] => { results := [.lit (.bool true)], args := [d1, d2, d3] }
  | _ => none }
def copiesGoRow : OpenClaim := { program := "ytmfcabokoijcdaa", sum := "6dba592cf059824cc02d599f8c02f0b7b2a98196e34ebe5c91177c0e8cc6cfad", func := "carcanet/carcanetlaw29.CopiesGo", spec := "copiesGo", inPlace := ["slices.overlaps[carcanet/api.Item]"], unfollowed := true, recurses := true, apart := false }
def CopiesGoSaid : Prop := copiesGoRow.holds Try.pinned (OpenSpec.ofChange copiesGoSpec)

/-- ITS FALSE NEIGHBOUR: 'it returns false'. Refute it at one input. -/
def copiesGoWrong : ChangeSpec := { name := "copiesGo", fn := fun _ => fun
  | [d1, d2, d3] => { results := [.lit (.bool false)], args := [d1, d2, d3] }
  | _ => none }
def CopiesGoWrongFalsely : Prop := copiesGoRow.holds Try.pinned (OpenSpec.ofChange copiesGoWrong)

/- THE SECOND FORM. 'bulk': how many values and letters a reading holds, each counted each time it is reached (what is shared counts as often as it is met; a slice's spare places count too). A statement '..UptoSaid' is the law's where the arguments, and the package variables that the reading takes, are together of bulk at most 1048576: NARROWER than '..Said'. Prove '..Said' where nothing that the law and all that it calls make is longer than what came in: it says more and counts as full. Else prove '..UptoSaid'. A law counts once. -/
mutual
def uptoBulk {H : Type} : DataW H → Nat
  | .lit (.string bytes) => bytes.length + 1
  | .lit _ => 1
  | .nil => 1
  | .ptr d => uptoBulk d + 1
  | .slice elems spare => uptoBulkAll elems + uptoBulkAll spare + 1
  | .agg parts => uptoBulkAll parts + 1
  | .iface _ d => uptoBulk d + 1
  | .map entries => uptoBulkEntries entries + 1
  | .held _ => 1
def uptoBulkAll {H : Type} : List (DataW H) → Nat
  | [] => 0
  | d :: r => uptoBulk d + uptoBulkAll r
def uptoBulkEntries {H : Type} : List (Lit × DataW H) → Nat
  | [] => 0
  | x :: r => uptoBulkEntry x + uptoBulkEntries r
def uptoBulkEntry {H : Type} : Lit × DataW H → Nat
  | (.string bytes, d) => bytes.length + uptoBulk d + 1
  | (_, d) => uptoBulk d + 1
 end
def uptoSmall : (H : Type) → List (DataW H) → Bool := fun _ ds => decide (uptoBulkAll ds ≤ 1048576)
def OpenSpec.upto (s : _root_.Go.ChangeSpec) : _root_.Go.OpenSpec := { _root_.Go.OpenSpec.ofChange s with cond := some uptoSmall }

/-- 'carcanetlaw29.CopiesBegin', WHERE WHAT IT READS IS OF BULK AT MOST 1048576: true; the input reads as it did. -/
def copiesBeginUptoRow : OpenClaim := { program := "ytmfcabokoijcdaa", sum := "6dba592cf059824cc02d599f8c02f0b7b2a98196e34ebe5c91177c0e8cc6cfad", func := "carcanet/carcanetlaw29.CopiesBegin", spec := "copiesBegin", inPlace := ["slices.overlaps[carcanet/api.Item]"], unfollowed := true, recurses := true, apart := false, narrowed := true }
def CopiesBeginUptoSaid : Prop := copiesBeginUptoRow.holds Try.pinned (OpenSpec.upto copiesBeginSpec)

/-- 'carcanetlaw29.CopiesOnce', WHERE WHAT IT READS IS OF BULK AT MOST 1048576: true; the input reads as it did. -/
def copiesOnceUptoRow : OpenClaim := { program := "ytmfcabokoijcdaa", sum := "6dba592cf059824cc02d599f8c02f0b7b2a98196e34ebe5c91177c0e8cc6cfad", func := "carcanet/carcanetlaw29.CopiesOnce", spec := "copiesOnce", inPlace := ["slices.overlaps[carcanet/api.Item]"], unfollowed := true, recurses := true, apart := false, narrowed := true }
def CopiesOnceUptoSaid : Prop := copiesOnceUptoRow.holds Try.pinned (OpenSpec.upto copiesOnceSpec)

/-- 'carcanetlaw29.CopiesSettle', WHERE WHAT IT READS IS OF BULK AT MOST 1048576: true; the input reads as it did. -/
def copiesSettleUptoRow : OpenClaim := { program := "ytmfcabokoijcdaa", sum := "6dba592cf059824cc02d599f8c02f0b7b2a98196e34ebe5c91177c0e8cc6cfad", func := "carcanet/carcanetlaw29.CopiesSettle", spec := "copiesSettle", inPlace := ["slices.overlaps[carcanet/api.Item]"], unfollowed := true, recurses := true, apart := false, narrowed := true }
def CopiesSettleUptoSaid : Prop := copiesSettleUptoRow.holds Try.pinned (OpenSpec.upto copiesSettleSpec)

/-- 'carcanetlaw29.CopiesGo', WHERE WHAT IT READS IS OF BULK AT MOST 1048576: true; the input reads as it did. -/
def copiesGoUptoRow : OpenClaim := { program := "ytmfcabokoijcdaa", sum := "6dba592cf059824cc02d599f8c02f0b7b2a98196e34ebe5c91177c0e8cc6cfad", func := "carcanet/carcanetlaw29.CopiesGo", spec := "copiesGo", inPlace := ["slices.overlaps[carcanet/api.Item]"], unfollowed := true, recurses := true, apart := false, narrowed := true }
def CopiesGoUptoSaid : Prop := copiesGoUptoRow.holds Try.pinned (OpenSpec.upto copiesGoSpec)

end Rows
end Go.Proofs.Ytmfcabokoijcdaa
