/-
  DERIVED. GIVEN WITH THE SEED: THE CARDS: each row of YtnpkhdjgedeppaaGreatDoorRows.lean that lists a variable, with what it lists TIED to the program's text (the seventh form; the later family's looks); each row that meets fmt, with fmt's text TOLD by the authors' own Lean function (tested against real Go, not proved from fmt's source: count such statements apart). THE CARD IS WHAT COUNTS. Prove the row's statement (the work); the ties are given (YtnpkhdjgedeppaaGreatDoorTie.lean); close each card by the builder's one call (the guide's Derived/Test/ToyasCard.lean, 'card_holds'). Laid BY PROGRAM, IN A SANDBOX (cutbox-door.mjs). By AI agents, Wed Nov 11 2026. No macro, syntax, notation, axiom, sorry.
-/
import Derived.Test.YtnpkhdjgedeppaaGreatDoorRows
import GoSem.ClaimSeven
namespace Go.Proofs.YtnpkhdjgedeppaaGreatDoor
namespace Rows

/-- THE TIED CARD OF 'carcanetlaw31.ClientBegins'. -/
def clientBeginsCard : Claim7 := { stood := { row := clientBeginsRow, standIns := [], harness := (true, "863a425ae540358994bb06c5b885c3ed1e348956489f225676add50bf16dacfa"), looks := false }, kinds := [], alts := [], laidByText := true, laidKinds := [.data], laidTests := true, laidLooks := .later }
def ClientBeginsCardSaid : Prop := Claim7.holds Tryz.pinned (.plain (OpenSpec.ofChange clientBeginsSpec)) clientBeginsCard

/-- THE TIED CARD OF 'carcanetlaw31.ClientGoes'. -/
def clientGoesCard : Claim7 := { stood := { row := clientGoesRow, standIns := [], harness := (true, "863a425ae540358994bb06c5b885c3ed1e348956489f225676add50bf16dacfa"), looks := false }, kinds := [], alts := [], laidByText := true, laidKinds := [.data], laidTests := true, laidLooks := .later }
def ClientGoesCardSaid : Prop := Claim7.holds Tryz.pinned (.plain (OpenSpec.ofChange clientGoesSpec)) clientGoesCard

/-- THE TIED CARD OF 'carcanetlaw30.ServeAnswers'. -/
def serveAnswersCard : Claim7 := { stood := { row := serveAnswersRow, standIns := [], harness := (true, "863a425ae540358994bb06c5b885c3ed1e348956489f225676add50bf16dacfa"), looks := false }, kinds := [], alts := [], laidByText := true, laidKinds := [.data], laidTests := true, laidLooks := .later }
def ServeAnswersCardSaid : Prop := Claim7.holds Tryz.pinned (.plain (OpenSpec.ofChange serveAnswersSpec)) serveAnswersCard

/-- THE TIED CARD OF 'carcanetlaw30.ServeKnows'. -/
def serveKnowsCard : Claim7 := { stood := { row := serveKnowsRow, standIns := [], harness := (true, "863a425ae540358994bb06c5b885c3ed1e348956489f225676add50bf16dacfa"), looks := false }, kinds := [], alts := [], laidByText := true, laidKinds := [.data], laidTests := true, laidLooks := .later }
def ServeKnowsCardSaid : Prop := Claim7.holds Tryz.pinned (.plain (OpenSpec.ofChange serveKnowsSpec)) serveKnowsCard

/-- THE TIED CARD OF 'carcanetlaw32.LearnAnswers'. -/
def learnAnswersCard : Claim7 := { stood := { row := learnAnswersRow, standIns := [], harness := (true, "863a425ae540358994bb06c5b885c3ed1e348956489f225676add50bf16dacfa"), looks := false }, kinds := [], alts := [], laidByText := true, laidKinds := [.data], laidTests := true, laidLooks := .later }
def LearnAnswersCardSaid : Prop := Claim7.holds Tryz.pinned (.plain (OpenSpec.ofChange learnAnswersSpec)) learnAnswersCard

/-- THE TIED CARD OF 'carcanetlaw32.LearnSelf'. -/
def learnSelfCard : Claim7 := { stood := { row := learnSelfRow, standIns := [], harness := (true, "863a425ae540358994bb06c5b885c3ed1e348956489f225676add50bf16dacfa"), looks := false }, kinds := [], alts := [], laidByText := true, laidKinds := [.data], laidTests := true, laidLooks := .later }
def LearnSelfCardSaid : Prop := Claim7.holds Tryz.pinned (.plain (OpenSpec.ofChange learnSelfSpec)) learnSelfCard

/-- THE TIED CARD OF 'carcanetlaw32.LearnLate'. -/
def learnLateCard : Claim7 := { stood := { row := learnLateRow, standIns := [], harness := (true, "863a425ae540358994bb06c5b885c3ed1e348956489f225676add50bf16dacfa"), looks := false }, kinds := [], alts := [], laidByText := true, laidKinds := [.data], laidTests := true, laidLooks := .later }
def LearnLateCardSaid : Prop := Claim7.holds Tryz.pinned (.plain (OpenSpec.ofChange learnLateSpec)) learnLateCard

/-- THE SECOND FORM's CARD OF 'carcanetlaw31.ClientBegins'. -/
def clientBeginsUptoCard : Claim7 := { stood := { row := clientBeginsUptoRow, standIns := [], harness := (true, "863a425ae540358994bb06c5b885c3ed1e348956489f225676add50bf16dacfa"), looks := false }, kinds := [], alts := [], laidByText := true, laidKinds := [.data], laidTests := true, laidLooks := .later }
def ClientBeginsUptoCardSaid : Prop := Claim7.holds Tryz.pinned (.plain (OpenSpec.upto clientBeginsSpec)) clientBeginsUptoCard

/-- THE SECOND FORM's CARD OF 'carcanetlaw31.ClientGoes'. -/
def clientGoesUptoCard : Claim7 := { stood := { row := clientGoesUptoRow, standIns := [], harness := (true, "863a425ae540358994bb06c5b885c3ed1e348956489f225676add50bf16dacfa"), looks := false }, kinds := [], alts := [], laidByText := true, laidKinds := [.data], laidTests := true, laidLooks := .later }
def ClientGoesUptoCardSaid : Prop := Claim7.holds Tryz.pinned (.plain (OpenSpec.upto clientGoesSpec)) clientGoesUptoCard

/-- THE SECOND FORM's CARD OF 'carcanetlaw30.ServeAnswers'. -/
def serveAnswersUptoCard : Claim7 := { stood := { row := serveAnswersUptoRow, standIns := [], harness := (true, "863a425ae540358994bb06c5b885c3ed1e348956489f225676add50bf16dacfa"), looks := false }, kinds := [], alts := [], laidByText := true, laidKinds := [.data], laidTests := true, laidLooks := .later }
def ServeAnswersUptoCardSaid : Prop := Claim7.holds Tryz.pinned (.plain (OpenSpec.upto serveAnswersSpec)) serveAnswersUptoCard

/-- THE SECOND FORM's CARD OF 'carcanetlaw30.ServeKnows'. -/
def serveKnowsUptoCard : Claim7 := { stood := { row := serveKnowsUptoRow, standIns := [], harness := (true, "863a425ae540358994bb06c5b885c3ed1e348956489f225676add50bf16dacfa"), looks := false }, kinds := [], alts := [], laidByText := true, laidKinds := [.data], laidTests := true, laidLooks := .later }
def ServeKnowsUptoCardSaid : Prop := Claim7.holds Tryz.pinned (.plain (OpenSpec.upto serveKnowsSpec)) serveKnowsUptoCard

/-- THE SECOND FORM's CARD OF 'carcanetlaw32.LearnAnswers'. -/
def learnAnswersUptoCard : Claim7 := { stood := { row := learnAnswersUptoRow, standIns := [], harness := (true, "863a425ae540358994bb06c5b885c3ed1e348956489f225676add50bf16dacfa"), looks := false }, kinds := [], alts := [], laidByText := true, laidKinds := [.data], laidTests := true, laidLooks := .later }
def LearnAnswersUptoCardSaid : Prop := Claim7.holds Tryz.pinned (.plain (OpenSpec.upto learnAnswersSpec)) learnAnswersUptoCard

/-- THE SECOND FORM's CARD OF 'carcanetlaw32.LearnSelf'. -/
def learnSelfUptoCard : Claim7 := { stood := { row := learnSelfUptoRow, standIns := [], harness := (true, "863a425ae540358994bb06c5b885c3ed1e348956489f225676add50bf16dacfa"), looks := false }, kinds := [], alts := [], laidByText := true, laidKinds := [.data], laidTests := true, laidLooks := .later }
def LearnSelfUptoCardSaid : Prop := Claim7.holds Tryz.pinned (.plain (OpenSpec.upto learnSelfSpec)) learnSelfUptoCard

/-- THE SECOND FORM's CARD OF 'carcanetlaw32.LearnLate'. -/
def learnLateUptoCard : Claim7 := { stood := { row := learnLateUptoRow, standIns := [], harness := (true, "863a425ae540358994bb06c5b885c3ed1e348956489f225676add50bf16dacfa"), looks := false }, kinds := [], alts := [], laidByText := true, laidKinds := [.data], laidTests := true, laidLooks := .later }
def LearnLateUptoCardSaid : Prop := Claim7.holds Tryz.pinned (.plain (OpenSpec.upto learnLateSpec)) learnLateUptoCard
end Rows
end Go.Proofs.YtnpkhdjgedeppaaGreatDoor
