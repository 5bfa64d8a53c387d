/-
  DERIVED. GIVEN WITH THE SEED: THE CARDS: each row of YtgbmhicpkbmeaaaDoorRows.lean that lists a variable, with what it lists TIED to the program's text (the seventh form; the later family's looks); each row that meets fmt, with fmt's text TOLD by the authors' own Lean function (tested against real Go, not proved from fmt's source: count such statements apart). THE CARD IS WHAT COUNTS. Prove the row's statement (the work); the ties are given (YtgbmhicpkbmeaaaDoorTie.lean); close each card by the builder's one call (the guide's Derived/Test/ToyasCard.lean, 'card_holds'). Laid BY PROGRAM, IN A SANDBOX (cutbox-door.mjs). By AI agents, Wed Nov 11 2026. No macro, syntax, notation, axiom, sorry.
-/
import Derived.Test.YtgbmhicpkbmeaaaDoorRows
import GoSem.ClaimSeven
namespace Go.Proofs.YtgbmhicpkbmeaaaDoor
namespace Rows

/-- THE TIED CARD OF 'carcanetlaw44.ReportNodes'. -/
def reportNodesCard : Claim7 := { stood := { row := reportNodesRow, standIns := [], harness := (true, "41ebb445df357ad369200268b0140b3830afce70d19476f0e8322348366e92e5"), looks := false }, kinds := [], alts := [], laidByText := true, laidKinds := [.data, .data, .data], laidTests := true, laidLooks := .later }
def ReportNodesCardSaid : Prop := Claim7.holds Tryd.pinned (.plain (OpenSpec.ofChange reportNodesSpec)) reportNodesCard

/-- THE TIED CARD OF 'carcanetlaw44.ReportOnes'. -/
def reportOnesCard : Claim7 := { stood := { row := reportOnesRow, standIns := [], harness := (true, "41ebb445df357ad369200268b0140b3830afce70d19476f0e8322348366e92e5"), looks := false }, kinds := [], alts := [], laidByText := true, laidKinds := [.data, .data, .data], laidTests := true, laidLooks := .later }
def ReportOnesCardSaid : Prop := Claim7.holds Tryd.pinned (.plain (OpenSpec.ofChange reportOnesSpec)) reportOnesCard

/-- THE TIED CARD OF 'carcanetlaw44.ReportCounts'. -/
def reportCountsCard : Claim7 := { stood := { row := reportCountsRow, standIns := [], harness := (true, "41ebb445df357ad369200268b0140b3830afce70d19476f0e8322348366e92e5"), looks := false }, kinds := [], alts := [], laidByText := true, laidKinds := [.data, .data, .data], laidTests := true, laidLooks := .later }
def ReportCountsCardSaid : Prop := Claim7.holds Tryd.pinned (.plain (OpenSpec.ofChange reportCountsSpec)) reportCountsCard

/-- THE TIED CARD OF 'carcanetlaw50.DriftTells'. -/
def driftTellsCard : Claim7 := { stood := { row := driftTellsRow, standIns := [], harness := (true, "41ebb445df357ad369200268b0140b3830afce70d19476f0e8322348366e92e5"), looks := false }, kinds := [], alts := [], laidByText := true, laidKinds := [.data, .data, .data], laidTests := true, laidLooks := .later }
def DriftTellsCardSaid : Prop := Claim7.holds Tryd.pinned (.plain (OpenSpec.ofChange driftTellsSpec)) driftTellsCard

/-- THE TIED CARD OF 'carcanetlaw50.DriftTurns'. -/
def driftTurnsCard : Claim7 := { stood := { row := driftTurnsRow, standIns := [], harness := (true, "41ebb445df357ad369200268b0140b3830afce70d19476f0e8322348366e92e5"), looks := false }, kinds := [], alts := [], laidByText := true, laidKinds := [.data, .data, .data], laidTests := true, laidLooks := .later }
def DriftTurnsCardSaid : Prop := Claim7.holds Tryd.pinned (.plain (OpenSpec.ofChange driftTurnsSpec)) driftTurnsCard

/-- THE TIED CARD OF 'carcanetlaw50.DriftNone'. -/
def driftNoneCard : Claim7 := { stood := { row := driftNoneRow, standIns := [], harness := (true, "41ebb445df357ad369200268b0140b3830afce70d19476f0e8322348366e92e5"), looks := false }, kinds := [], alts := [], laidByText := true, laidKinds := [.data, .data, .data], laidTests := true, laidLooks := .later }
def DriftNoneCardSaid : Prop := Claim7.holds Tryd.pinned (.plain (OpenSpec.ofChange driftNoneSpec)) driftNoneCard

/-- THE SECOND FORM's CARD OF 'carcanetlaw44.ReportNodes'. -/
def reportNodesUptoCard : Claim7 := { stood := { row := reportNodesUptoRow, standIns := [], harness := (true, "41ebb445df357ad369200268b0140b3830afce70d19476f0e8322348366e92e5"), looks := false }, kinds := [], alts := [], laidByText := true, laidKinds := [.data, .data, .data], laidTests := true, laidLooks := .later }
def ReportNodesUptoCardSaid : Prop := Claim7.holds Tryd.pinned (.plain (OpenSpec.upto reportNodesSpec)) reportNodesUptoCard

/-- THE SECOND FORM's CARD OF 'carcanetlaw44.ReportOnes'. -/
def reportOnesUptoCard : Claim7 := { stood := { row := reportOnesUptoRow, standIns := [], harness := (true, "41ebb445df357ad369200268b0140b3830afce70d19476f0e8322348366e92e5"), looks := false }, kinds := [], alts := [], laidByText := true, laidKinds := [.data, .data, .data], laidTests := true, laidLooks := .later }
def ReportOnesUptoCardSaid : Prop := Claim7.holds Tryd.pinned (.plain (OpenSpec.upto reportOnesSpec)) reportOnesUptoCard

/-- THE SECOND FORM's CARD OF 'carcanetlaw44.ReportCounts'. -/
def reportCountsUptoCard : Claim7 := { stood := { row := reportCountsUptoRow, standIns := [], harness := (true, "41ebb445df357ad369200268b0140b3830afce70d19476f0e8322348366e92e5"), looks := false }, kinds := [], alts := [], laidByText := true, laidKinds := [.data, .data, .data], laidTests := true, laidLooks := .later }
def ReportCountsUptoCardSaid : Prop := Claim7.holds Tryd.pinned (.plain (OpenSpec.upto reportCountsSpec)) reportCountsUptoCard

/-- THE SECOND FORM's CARD OF 'carcanetlaw50.DriftTells'. -/
def driftTellsUptoCard : Claim7 := { stood := { row := driftTellsUptoRow, standIns := [], harness := (true, "41ebb445df357ad369200268b0140b3830afce70d19476f0e8322348366e92e5"), looks := false }, kinds := [], alts := [], laidByText := true, laidKinds := [.data, .data, .data], laidTests := true, laidLooks := .later }
def DriftTellsUptoCardSaid : Prop := Claim7.holds Tryd.pinned (.plain (OpenSpec.upto driftTellsSpec)) driftTellsUptoCard

/-- THE SECOND FORM's CARD OF 'carcanetlaw50.DriftTurns'. -/
def driftTurnsUptoCard : Claim7 := { stood := { row := driftTurnsUptoRow, standIns := [], harness := (true, "41ebb445df357ad369200268b0140b3830afce70d19476f0e8322348366e92e5"), looks := false }, kinds := [], alts := [], laidByText := true, laidKinds := [.data, .data, .data], laidTests := true, laidLooks := .later }
def DriftTurnsUptoCardSaid : Prop := Claim7.holds Tryd.pinned (.plain (OpenSpec.upto driftTurnsSpec)) driftTurnsUptoCard

/-- THE SECOND FORM's CARD OF 'carcanetlaw50.DriftNone'. -/
def driftNoneUptoCard : Claim7 := { stood := { row := driftNoneUptoRow, standIns := [], harness := (true, "41ebb445df357ad369200268b0140b3830afce70d19476f0e8322348366e92e5"), looks := false }, kinds := [], alts := [], laidByText := true, laidKinds := [.data, .data, .data], laidTests := true, laidLooks := .later }
def DriftNoneUptoCardSaid : Prop := Claim7.holds Tryd.pinned (.plain (OpenSpec.upto driftNoneSpec)) driftNoneUptoCard
end Rows
end Go.Proofs.YtgbmhicpkbmeaaaDoor
