/-
  DERIVED. GIVEN WITH THE SEED: THE CARDS: each row of YtccfjidpdlfenaaGreatDoorRows.lean that lists a variable, with what it lists TIED to the program's text (the seventh form; the later family's looks); each row that meets fmt, with fmt's text TOLD by the authors' own Lean function (tested against real Go, not proved from fmt's source: count such statements apart). THE CARD IS WHAT COUNTS. Prove the row's statement (the work); the ties are given (YtccfjidpdlfenaaGreatDoorTie.lean); close each card by the builder's one call (the guide's Derived/Test/ToyasCard.lean, 'card_holds'). Laid BY PROGRAM, IN A SANDBOX (cutbox-door.mjs). By AI agents, Wed Nov 11 2026. No macro, syntax, notation, axiom, sorry.
-/
import Derived.Test.YtccfjidpdlfenaaGreatDoorRows
import GoSem.ClaimSeven
namespace Go.Proofs.YtccfjidpdlfenaaGreatDoor
namespace Rows

/-- THE TIED CARD OF 'carcanetlaw49.VaultLocks'. -/
def vaultLocksCard : Claim7 := { stood := { row := vaultLocksRow, standIns := [], harness := (true, "69f3e9bd9cbf252645cdc877f92004663c2c29885da8d48dfe3a467e4c462cbe"), looks := false }, kinds := [], alts := [], laidByText := true, laidKinds := [.data], laidTests := true, laidLooks := .later }
def VaultLocksCardSaid : Prop := Claim7.holds Tryz.pinned (.plain (OpenSpec.ofChange vaultLocksSpec)) vaultLocksCard

/-- THE TIED CARD OF 'carcanetlaw49.VaultForged'. -/
def vaultForgedCard : Claim7 := { stood := { row := vaultForgedRow, standIns := [], harness := (true, "69f3e9bd9cbf252645cdc877f92004663c2c29885da8d48dfe3a467e4c462cbe"), looks := false }, kinds := [], alts := [], laidByText := true, laidKinds := [.data], laidTests := true, laidLooks := .later }
def VaultForgedCardSaid : Prop := Claim7.holds Tryz.pinned (.plain (OpenSpec.ofChange vaultForgedSpec)) vaultForgedCard

/-- THE TIED CARD OF 'carcanetlaw49.VaultUnlocks'. -/
def vaultUnlocksCard : Claim7 := { stood := { row := vaultUnlocksRow, standIns := [], harness := (true, "69f3e9bd9cbf252645cdc877f92004663c2c29885da8d48dfe3a467e4c462cbe"), looks := false }, kinds := [], alts := [], laidByText := true, laidKinds := [.data], laidTests := true, laidLooks := .later }
def VaultUnlocksCardSaid : Prop := Claim7.holds Tryz.pinned (.plain (OpenSpec.ofChange vaultUnlocksSpec)) vaultUnlocksCard

/-- THE TIED CARD OF 'carcanetlaw19.RecordSeals'. -/
def recordSealsCard : Claim7 := { stood := { row := recordSealsRow, standIns := [], harness := (true, "69f3e9bd9cbf252645cdc877f92004663c2c29885da8d48dfe3a467e4c462cbe"), looks := false }, kinds := [], alts := [], laidByText := true, laidKinds := [.data, .data, .data, .data], laidTests := true, laidLooks := .later }
def RecordSealsCardSaid : Prop := Claim7.holds Tryz.pinned (.plain (OpenSpec.ofChange recordSealsSpec)) recordSealsCard

/-- THE TIED CARD OF 'carcanetlaw19.RecordOpens'. -/
def recordOpensCard : Claim7 := { stood := { row := recordOpensRow, standIns := [], harness := (true, "69f3e9bd9cbf252645cdc877f92004663c2c29885da8d48dfe3a467e4c462cbe"), looks := false }, kinds := [], alts := [], laidByText := true, laidKinds := [.data, .data, .data, .data], laidTests := true, laidLooks := .later }
def RecordOpensCardSaid : Prop := Claim7.holds Tryz.pinned (.plain (OpenSpec.ofChange recordOpensSpec)) recordOpensCard

/-- THE SECOND FORM's CARD OF 'carcanetlaw49.VaultLocks'. -/
def vaultLocksUptoCard : Claim7 := { stood := { row := vaultLocksUptoRow, standIns := [], harness := (true, "69f3e9bd9cbf252645cdc877f92004663c2c29885da8d48dfe3a467e4c462cbe"), looks := false }, kinds := [], alts := [], laidByText := true, laidKinds := [.data], laidTests := true, laidLooks := .later }
def VaultLocksUptoCardSaid : Prop := Claim7.holds Tryz.pinned (.plain (OpenSpec.upto vaultLocksSpec)) vaultLocksUptoCard

/-- THE SECOND FORM's CARD OF 'carcanetlaw49.VaultForged'. -/
def vaultForgedUptoCard : Claim7 := { stood := { row := vaultForgedUptoRow, standIns := [], harness := (true, "69f3e9bd9cbf252645cdc877f92004663c2c29885da8d48dfe3a467e4c462cbe"), looks := false }, kinds := [], alts := [], laidByText := true, laidKinds := [.data], laidTests := true, laidLooks := .later }
def VaultForgedUptoCardSaid : Prop := Claim7.holds Tryz.pinned (.plain (OpenSpec.upto vaultForgedSpec)) vaultForgedUptoCard

/-- THE SECOND FORM's CARD OF 'carcanetlaw49.VaultUnlocks'. -/
def vaultUnlocksUptoCard : Claim7 := { stood := { row := vaultUnlocksUptoRow, standIns := [], harness := (true, "69f3e9bd9cbf252645cdc877f92004663c2c29885da8d48dfe3a467e4c462cbe"), looks := false }, kinds := [], alts := [], laidByText := true, laidKinds := [.data], laidTests := true, laidLooks := .later }
def VaultUnlocksUptoCardSaid : Prop := Claim7.holds Tryz.pinned (.plain (OpenSpec.upto vaultUnlocksSpec)) vaultUnlocksUptoCard

/-- THE SECOND FORM's CARD OF 'carcanetlaw19.RecordSeals'. -/
def recordSealsUptoCard : Claim7 := { stood := { row := recordSealsUptoRow, standIns := [], harness := (true, "69f3e9bd9cbf252645cdc877f92004663c2c29885da8d48dfe3a467e4c462cbe"), looks := false }, kinds := [], alts := [], laidByText := true, laidKinds := [.data, .data, .data, .data], laidTests := true, laidLooks := .later }
def RecordSealsUptoCardSaid : Prop := Claim7.holds Tryz.pinned (.plain (OpenSpec.upto recordSealsSpec)) recordSealsUptoCard

/-- THE SECOND FORM's CARD OF 'carcanetlaw19.RecordOpens'. -/
def recordOpensUptoCard : Claim7 := { stood := { row := recordOpensUptoRow, standIns := [], harness := (true, "69f3e9bd9cbf252645cdc877f92004663c2c29885da8d48dfe3a467e4c462cbe"), looks := false }, kinds := [], alts := [], laidByText := true, laidKinds := [.data, .data, .data, .data], laidTests := true, laidLooks := .later }
def RecordOpensUptoCardSaid : Prop := Claim7.holds Tryz.pinned (.plain (OpenSpec.upto recordOpensSpec)) recordOpensUptoCard
end Rows
end Go.Proofs.YtccfjidpdlfenaaGreatDoor
