/-
  DERIVED. GIVEN WITH THE SEED: THE CARDS: each row of YtnpkhdjgedeppaaDoorRows.lean that lists a variable, with what it lists TIED to the program's text (the seventh form; the later family's looks); each row that meets fmt, with fmt's text TOLD by the authors' own Lean function (tested against real Go, not proved from fmt's source: count such statements apart). THE CARD IS WHAT COUNTS. Prove the row's statement (the work); the ties are given (YtnpkhdjgedeppaaDoorTie.lean); close each card by the builder's one call (the guide's Derived/Test/ToyasCard.lean, 'card_holds'). Laid BY PROGRAM, IN A SANDBOX (cutbox-door.mjs). By AI agents, Wed Nov 11 2026. No macro, syntax, notation, axiom, sorry.
-/
import Derived.Test.YtnpkhdjgedeppaaDoorRows
import GoSem.ClaimSeven
namespace Go.Proofs.YtnpkhdjgedeppaaDoor
namespace Rows

/-- THE TIED CARD OF 'carcanetlaw31.ClientAlone'. -/
def clientAloneCard : Claim7 := { stood := { row := clientAloneRow, standIns := [], harness := (true, "b9dea87c5d9067bd9eb58071913a9654b5fa6dd6527f276034054a0be6928fc1"), looks := false }, kinds := [], alts := [], laidByText := true, laidKinds := [.data], laidTests := true, laidLooks := .later }
def ClientAloneCardSaid : Prop := Claim7.holds Tryd.pinned (.plain (OpenSpec.ofChange clientAloneSpec)) clientAloneCard

/-- THE TIED CARD OF 'carcanetlaw31.ClientEnds'. -/
def clientEndsCard : Claim7 := { stood := { row := clientEndsRow, standIns := [], harness := (true, "b9dea87c5d9067bd9eb58071913a9654b5fa6dd6527f276034054a0be6928fc1"), looks := false }, kinds := [], alts := [], laidByText := true, laidKinds := [.data], laidTests := true, laidLooks := .later }
def ClientEndsCardSaid : Prop := Claim7.holds Tryd.pinned (.plain (OpenSpec.ofChange clientEndsSpec)) clientEndsCard

/-- THE SECOND FORM's CARD OF 'carcanetlaw31.ClientAlone'. -/
def clientAloneUptoCard : Claim7 := { stood := { row := clientAloneUptoRow, standIns := [], harness := (true, "b9dea87c5d9067bd9eb58071913a9654b5fa6dd6527f276034054a0be6928fc1"), looks := false }, kinds := [], alts := [], laidByText := true, laidKinds := [.data], laidTests := true, laidLooks := .later }
def ClientAloneUptoCardSaid : Prop := Claim7.holds Tryd.pinned (.plain (OpenSpec.upto clientAloneSpec)) clientAloneUptoCard

/-- THE SECOND FORM's CARD OF 'carcanetlaw31.ClientEnds'. -/
def clientEndsUptoCard : Claim7 := { stood := { row := clientEndsUptoRow, standIns := [], harness := (true, "b9dea87c5d9067bd9eb58071913a9654b5fa6dd6527f276034054a0be6928fc1"), looks := false }, kinds := [], alts := [], laidByText := true, laidKinds := [.data], laidTests := true, laidLooks := .later }
def ClientEndsUptoCardSaid : Prop := Claim7.holds Tryd.pinned (.plain (OpenSpec.upto clientEndsSpec)) clientEndsUptoCard
end Rows
end Go.Proofs.YtnpkhdjgedeppaaDoor
