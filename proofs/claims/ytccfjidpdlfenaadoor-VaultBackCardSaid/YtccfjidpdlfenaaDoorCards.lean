/-
  DERIVED. GIVEN WITH THE SEED: THE CARDS: each row of YtccfjidpdlfenaaDoorRows.lean that lists a variable, with what it lists TIED to the program's text (the seventh form; the later family's looks); each row that meets fmt, with fmt's text TOLD by the authors' own Lean function (tested against real Go, not proved from fmt's source: count such statements apart). THE CARD IS WHAT COUNTS. Prove the row's statement (the work); the ties are given (YtccfjidpdlfenaaDoorTie.lean); close each card by the builder's one call (the guide's Derived/Test/ToyasCard.lean, 'card_holds'). Laid BY PROGRAM, IN A SANDBOX (cutbox-door.mjs). By AI agents, Wed Nov 11 2026. No macro, syntax, notation, axiom, sorry.
-/
import Derived.Test.YtccfjidpdlfenaaDoorRows
import GoSem.ClaimSeven
namespace Go.Proofs.YtccfjidpdlfenaaDoor
namespace Rows

/-- THE TIED CARD OF 'carcanetlaw27.StoreMerges'. -/
def storeMergesCard : Claim7 := { stood := { row := storeMergesRow, standIns := [], harness := (true, "31de9d86ba46747fd207612bfe563c7d440146e24d32cf51ead5499df918ee27"), looks := false }, kinds := [], alts := [], laidByText := true, laidKinds := [.data], laidTests := true, laidLooks := .later }
def StoreMergesCardSaid : Prop := Claim7.holds Tryd.pinned (.plain (OpenSpec.ofChange storeMergesSpec)) storeMergesCard

/-- THE TIED CARD OF 'carcanetlaw18.KeysRoots'. -/
def keysRootsCard : Claim7 := { stood := { row := keysRootsRow, standIns := [], harness := (true, "31de9d86ba46747fd207612bfe563c7d440146e24d32cf51ead5499df918ee27"), looks := false }, kinds := [], alts := [], laidByText := true, laidKinds := [.data, .data, .data, .data], laidTests := true, laidLooks := .later }
def KeysRootsCardSaid : Prop := Claim7.holds Tryd.pinned (.plain (OpenSpec.ofChange keysRootsSpec)) keysRootsCard

/-- THE TIED CARD OF 'carcanetlaw18.KeysMine'. -/
def keysMineCard : Claim7 := { stood := { row := keysMineRow, standIns := [], harness := (true, "31de9d86ba46747fd207612bfe563c7d440146e24d32cf51ead5499df918ee27"), looks := false }, kinds := [], alts := [], laidByText := true, laidKinds := [.data, .data, .data, .data], laidTests := true, laidLooks := .later }
def KeysMineCardSaid : Prop := Claim7.holds Tryd.pinned (.plain (OpenSpec.ofChange keysMineSpec)) keysMineCard

/-- THE TIED CARD OF 'carcanetlaw49.VaultBack'. -/
def vaultBackCard : Claim7 := { stood := { row := vaultBackRow, standIns := [], harness := (true, "31de9d86ba46747fd207612bfe563c7d440146e24d32cf51ead5499df918ee27"), looks := false }, kinds := [], alts := [], laidByText := true, laidKinds := [.data], laidTests := true, laidLooks := .later }
def VaultBackCardSaid : Prop := Claim7.holds Tryd.pinned (.plain (OpenSpec.ofChange vaultBackSpec)) vaultBackCard

/-- THE TIED CARD OF 'carcanetlaw19.RecordHeads'. -/
def recordHeadsCard : Claim7 := { stood := { row := recordHeadsRow, standIns := [], harness := (true, "31de9d86ba46747fd207612bfe563c7d440146e24d32cf51ead5499df918ee27"), looks := false }, kinds := [], alts := [], laidByText := true, laidKinds := [.data, .data, .data, .data], laidTests := true, laidLooks := .later }
def RecordHeadsCardSaid : Prop := Claim7.holds Tryd.pinned (.plain (OpenSpec.ofChange recordHeadsSpec)) recordHeadsCard

/-- THE TIED CARD OF 'carcanetlaw19.RecordBack'. -/
def recordBackCard : Claim7 := { stood := { row := recordBackRow, standIns := [], harness := (true, "31de9d86ba46747fd207612bfe563c7d440146e24d32cf51ead5499df918ee27"), looks := false }, kinds := [], alts := [], laidByText := true, laidKinds := [.data, .data, .data, .data], laidTests := true, laidLooks := .later }
def RecordBackCardSaid : Prop := Claim7.holds Tryd.pinned (.plain (OpenSpec.ofChange recordBackSpec)) recordBackCard

/-- THE SECOND FORM's CARD OF 'carcanetlaw27.StoreMerges'. -/
def storeMergesUptoCard : Claim7 := { stood := { row := storeMergesUptoRow, standIns := [], harness := (true, "31de9d86ba46747fd207612bfe563c7d440146e24d32cf51ead5499df918ee27"), looks := false }, kinds := [], alts := [], laidByText := true, laidKinds := [.data], laidTests := true, laidLooks := .later }
def StoreMergesUptoCardSaid : Prop := Claim7.holds Tryd.pinned (.plain (OpenSpec.upto storeMergesSpec)) storeMergesUptoCard

/-- THE SECOND FORM's CARD OF 'carcanetlaw18.KeysRoots'. -/
def keysRootsUptoCard : Claim7 := { stood := { row := keysRootsUptoRow, standIns := [], harness := (true, "31de9d86ba46747fd207612bfe563c7d440146e24d32cf51ead5499df918ee27"), looks := false }, kinds := [], alts := [], laidByText := true, laidKinds := [.data, .data, .data, .data], laidTests := true, laidLooks := .later }
def KeysRootsUptoCardSaid : Prop := Claim7.holds Tryd.pinned (.plain (OpenSpec.upto keysRootsSpec)) keysRootsUptoCard

/-- THE SECOND FORM's CARD OF 'carcanetlaw18.KeysMine'. -/
def keysMineUptoCard : Claim7 := { stood := { row := keysMineUptoRow, standIns := [], harness := (true, "31de9d86ba46747fd207612bfe563c7d440146e24d32cf51ead5499df918ee27"), looks := false }, kinds := [], alts := [], laidByText := true, laidKinds := [.data, .data, .data, .data], laidTests := true, laidLooks := .later }
def KeysMineUptoCardSaid : Prop := Claim7.holds Tryd.pinned (.plain (OpenSpec.upto keysMineSpec)) keysMineUptoCard

/-- THE SECOND FORM's CARD OF 'carcanetlaw49.VaultBack'. -/
def vaultBackUptoCard : Claim7 := { stood := { row := vaultBackUptoRow, standIns := [], harness := (true, "31de9d86ba46747fd207612bfe563c7d440146e24d32cf51ead5499df918ee27"), looks := false }, kinds := [], alts := [], laidByText := true, laidKinds := [.data], laidTests := true, laidLooks := .later }
def VaultBackUptoCardSaid : Prop := Claim7.holds Tryd.pinned (.plain (OpenSpec.upto vaultBackSpec)) vaultBackUptoCard

/-- THE SECOND FORM's CARD OF 'carcanetlaw19.RecordHeads'. -/
def recordHeadsUptoCard : Claim7 := { stood := { row := recordHeadsUptoRow, standIns := [], harness := (true, "31de9d86ba46747fd207612bfe563c7d440146e24d32cf51ead5499df918ee27"), looks := false }, kinds := [], alts := [], laidByText := true, laidKinds := [.data, .data, .data, .data], laidTests := true, laidLooks := .later }
def RecordHeadsUptoCardSaid : Prop := Claim7.holds Tryd.pinned (.plain (OpenSpec.upto recordHeadsSpec)) recordHeadsUptoCard

/-- THE SECOND FORM's CARD OF 'carcanetlaw19.RecordBack'. -/
def recordBackUptoCard : Claim7 := { stood := { row := recordBackUptoRow, standIns := [], harness := (true, "31de9d86ba46747fd207612bfe563c7d440146e24d32cf51ead5499df918ee27"), looks := false }, kinds := [], alts := [], laidByText := true, laidKinds := [.data, .data, .data, .data], laidTests := true, laidLooks := .later }
def RecordBackUptoCardSaid : Prop := Claim7.holds Tryd.pinned (.plain (OpenSpec.upto recordBackSpec)) recordBackUptoCard
end Rows
end Go.Proofs.YtccfjidpdlfenaaDoor
