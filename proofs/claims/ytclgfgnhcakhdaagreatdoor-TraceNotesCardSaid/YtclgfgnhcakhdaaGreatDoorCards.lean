/-
  DERIVED. GIVEN WITH THE SEED: THE CARDS: each row of YtclgfgnhcakhdaaGreatDoorRows.lean that lists a variable, with what it lists TIED to the program's text (the seventh form; the later family's looks); each row that meets fmt, with fmt's text TOLD by the authors' own Lean function (tested against real Go, not proved from fmt's source: count such statements apart). THE CARD IS WHAT COUNTS. Prove the row's statement (the work); the ties are given (YtclgfgnhcakhdaaGreatDoorTie.lean); close each card by the builder's one call (the guide's Derived/Test/ToyasCard.lean, 'card_holds'). Laid BY PROGRAM, IN A SANDBOX (cutbox-door.mjs). By AI agents, Wed Nov 11 2026. No macro, syntax, notation, axiom, sorry.
-/
import Derived.Test.YtclgfgnhcakhdaaGreatDoorRows
import GoSem.ClaimSeven
namespace Go.Proofs.YtclgfgnhcakhdaaGreatDoor
namespace Rows

/-- THE TIED CARD OF 'carcanetlaw51.TraceNotes'. -/
def traceNotesCard : Claim7 := { stood := { row := traceNotesRow, standIns := [], harness := (true, "4a1717b7a3fdbce98795608094afe741c2559d5134558346f45a5e367b25472d"), looks := false }, kinds := [], alts := [], laidByText := true, laidKinds := [.data, .data, .data, .data, .data, .pinned], laidTests := true, laidLooks := .later }
def TraceNotesCardSaid : Prop := Claim7.holds Tryz.pinned (.plain (OpenSpec.ofChange traceNotesSpec)) traceNotesCard

/-- THE TIED CARD OF 'carcanetlaw51.TraceReads'. -/
def traceReadsCard : Claim7 := { stood := { row := traceReadsRow, standIns := [], harness := (true, "4a1717b7a3fdbce98795608094afe741c2559d5134558346f45a5e367b25472d"), looks := false }, kinds := [], alts := [], laidByText := true, laidKinds := [.data, .data, .data, .data, .data, .pinned], laidTests := true, laidLooks := .later }
def TraceReadsCardSaid : Prop := Claim7.holds Tryz.pinned (.plain (OpenSpec.ofChange traceReadsSpec)) traceReadsCard

/-- THE TIED CARD OF 'carcanetlaw51.TraceBack'. -/
def traceBackCard : Claim7 := { stood := { row := traceBackRow, standIns := [], harness := (true, "4a1717b7a3fdbce98795608094afe741c2559d5134558346f45a5e367b25472d"), looks := false }, kinds := [], alts := [], laidByText := true, laidKinds := [.data, .data, .data, .data, .data, .pinned], laidTests := true, laidLooks := .later }
def TraceBackCardSaid : Prop := Claim7.holds Tryz.pinned (.plain (OpenSpec.ofChange traceBackSpec)) traceBackCard

/-- THE SECOND FORM's CARD OF 'carcanetlaw51.TraceNotes'. -/
def traceNotesUptoCard : Claim7 := { stood := { row := traceNotesUptoRow, standIns := [], harness := (true, "4a1717b7a3fdbce98795608094afe741c2559d5134558346f45a5e367b25472d"), looks := false }, kinds := [], alts := [], laidByText := true, laidKinds := [.data, .data, .data, .data, .data, .pinned], laidTests := true, laidLooks := .later }
def TraceNotesUptoCardSaid : Prop := Claim7.holds Tryz.pinned (.plain (OpenSpec.upto traceNotesSpec)) traceNotesUptoCard

/-- THE SECOND FORM's CARD OF 'carcanetlaw51.TraceReads'. -/
def traceReadsUptoCard : Claim7 := { stood := { row := traceReadsUptoRow, standIns := [], harness := (true, "4a1717b7a3fdbce98795608094afe741c2559d5134558346f45a5e367b25472d"), looks := false }, kinds := [], alts := [], laidByText := true, laidKinds := [.data, .data, .data, .data, .data, .pinned], laidTests := true, laidLooks := .later }
def TraceReadsUptoCardSaid : Prop := Claim7.holds Tryz.pinned (.plain (OpenSpec.upto traceReadsSpec)) traceReadsUptoCard

/-- THE SECOND FORM's CARD OF 'carcanetlaw51.TraceBack'. -/
def traceBackUptoCard : Claim7 := { stood := { row := traceBackUptoRow, standIns := [], harness := (true, "4a1717b7a3fdbce98795608094afe741c2559d5134558346f45a5e367b25472d"), looks := false }, kinds := [], alts := [], laidByText := true, laidKinds := [.data, .data, .data, .data, .data, .pinned], laidTests := true, laidLooks := .later }
def TraceBackUptoCardSaid : Prop := Claim7.holds Tryz.pinned (.plain (OpenSpec.upto traceBackSpec)) traceBackUptoCard
end Rows
end Go.Proofs.YtclgfgnhcakhdaaGreatDoor
