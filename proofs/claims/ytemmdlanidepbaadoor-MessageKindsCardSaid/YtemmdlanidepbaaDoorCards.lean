/-
  DERIVED. GIVEN WITH THE SEED: THE CARDS: each row of YtemmdlanidepbaaDoorRows.lean that lists a variable, with what it lists TIED to the program's text (the seventh form; the later family's looks); each row that meets fmt, with fmt's text TOLD by the authors' own Lean function (tested against real Go, not proved from fmt's source: count such statements apart). THE CARD IS WHAT COUNTS. Prove the row's statement (the work); the ties are given (YtemmdlanidepbaaDoorTie.lean); close each card by the builder's one call (the guide's Derived/Test/ToyasCard.lean, 'card_holds'). Laid BY PROGRAM, IN A SANDBOX (cutbox-door.mjs). By AI agents, Wed Nov 11 2026. No macro, syntax, notation, axiom, sorry.
-/
import Derived.Test.YtemmdlanidepbaaDoorRows
import GoSem.ClaimSeven
namespace Go.Proofs.YtemmdlanidepbaaDoor
namespace Rows

/-- THE TIED CARD OF 'millpondlaw18.MessagePuts'. -/
def messagePutsCard : Claim7 := { stood := { row := messagePutsRow, standIns := [], harness := (true, "69af78538213e224b01c480c8c2621a9f60d159f9e3f99ef834fc1c92b2355dc"), looks := true }, kinds := [], alts := [], laidByText := true, laidKinds := [.data, .pinned], laidTests := true, laidLooks := .later }
def MessagePutsCardSaid : Prop := Claim7.holds Tryd.pinned (.plain (OpenSpec.ofChange messagePutsSpec)) messagePutsCard

/-- THE TIED CARD OF 'millpondlaw18.MessageReads'. -/
def messageReadsCard : Claim7 := { stood := { row := messageReadsRow, standIns := [], harness := (true, "69af78538213e224b01c480c8c2621a9f60d159f9e3f99ef834fc1c92b2355dc"), looks := true }, kinds := [], alts := [], laidByText := true, laidKinds := [.data, .pinned], laidTests := true, laidLooks := .later }
def MessageReadsCardSaid : Prop := Claim7.holds Tryd.pinned (.plain (OpenSpec.ofChange messageReadsSpec)) messageReadsCard

/-- THE TIED CARD OF 'millpondlaw18.MessageKinds'. -/
def messageKindsCard : Claim7 := { stood := { row := messageKindsRow, standIns := [], harness := (true, "69af78538213e224b01c480c8c2621a9f60d159f9e3f99ef834fc1c92b2355dc"), looks := true }, kinds := [], alts := [], laidByText := true, laidKinds := [.data, .pinned], laidTests := true, laidLooks := .later }
def MessageKindsCardSaid : Prop := Claim7.holds Tryd.pinned (.plain (OpenSpec.ofChange messageKindsSpec)) messageKindsCard

/-- THE TIED CARD OF 'millpondlaw18.MessageDatagrams'. -/
def messageDatagramsCard : Claim7 := { stood := { row := messageDatagramsRow, standIns := [], harness := (true, "69af78538213e224b01c480c8c2621a9f60d159f9e3f99ef834fc1c92b2355dc"), looks := true }, kinds := [], alts := [], laidByText := true, laidKinds := [.data, .pinned], laidTests := true, laidLooks := .later }
def MessageDatagramsCardSaid : Prop := Claim7.holds Tryd.pinned (.plain (OpenSpec.ofChange messageDatagramsSpec)) messageDatagramsCard

/-- THE TIED CARD OF 'millpondlaw18.MessageBack'. -/
def messageBackCard : Claim7 := { stood := { row := messageBackRow, standIns := [], harness := (true, "69af78538213e224b01c480c8c2621a9f60d159f9e3f99ef834fc1c92b2355dc"), looks := true }, kinds := [], alts := [], laidByText := true, laidKinds := [.data, .pinned], laidTests := true, laidLooks := .later }
def MessageBackCardSaid : Prop := Claim7.holds Tryd.pinned (.plain (OpenSpec.ofChange messageBackSpec)) messageBackCard

/-- THE TIED CARD OF 'millpondlaw18.MessageBounds'. -/
def messageBoundsCard : Claim7 := { stood := { row := messageBoundsRow, standIns := [], harness := (true, "69af78538213e224b01c480c8c2621a9f60d159f9e3f99ef834fc1c92b2355dc"), looks := true }, kinds := [], alts := [], laidByText := true, laidKinds := [.data, .pinned], laidTests := true, laidLooks := .later }
def MessageBoundsCardSaid : Prop := Claim7.holds Tryd.pinned (.plain (OpenSpec.ofChange messageBoundsSpec)) messageBoundsCard

/-- THE SECOND FORM's CARD OF 'millpondlaw18.MessagePuts'. -/
def messagePutsUptoCard : Claim7 := { stood := { row := messagePutsUptoRow, standIns := [], harness := (true, "69af78538213e224b01c480c8c2621a9f60d159f9e3f99ef834fc1c92b2355dc"), looks := true }, kinds := [], alts := [], laidByText := true, laidKinds := [.data, .pinned], laidTests := true, laidLooks := .later }
def MessagePutsUptoCardSaid : Prop := Claim7.holds Tryd.pinned (.plain (OpenSpec.upto messagePutsSpec)) messagePutsUptoCard

/-- THE SECOND FORM's CARD OF 'millpondlaw18.MessageReads'. -/
def messageReadsUptoCard : Claim7 := { stood := { row := messageReadsUptoRow, standIns := [], harness := (true, "69af78538213e224b01c480c8c2621a9f60d159f9e3f99ef834fc1c92b2355dc"), looks := true }, kinds := [], alts := [], laidByText := true, laidKinds := [.data, .pinned], laidTests := true, laidLooks := .later }
def MessageReadsUptoCardSaid : Prop := Claim7.holds Tryd.pinned (.plain (OpenSpec.upto messageReadsSpec)) messageReadsUptoCard

/-- THE SECOND FORM's CARD OF 'millpondlaw18.MessageKinds'. -/
def messageKindsUptoCard : Claim7 := { stood := { row := messageKindsUptoRow, standIns := [], harness := (true, "69af78538213e224b01c480c8c2621a9f60d159f9e3f99ef834fc1c92b2355dc"), looks := true }, kinds := [], alts := [], laidByText := true, laidKinds := [.data, .pinned], laidTests := true, laidLooks := .later }
def MessageKindsUptoCardSaid : Prop := Claim7.holds Tryd.pinned (.plain (OpenSpec.upto messageKindsSpec)) messageKindsUptoCard

/-- THE SECOND FORM's CARD OF 'millpondlaw18.MessageDatagrams'. -/
def messageDatagramsUptoCard : Claim7 := { stood := { row := messageDatagramsUptoRow, standIns := [], harness := (true, "69af78538213e224b01c480c8c2621a9f60d159f9e3f99ef834fc1c92b2355dc"), looks := true }, kinds := [], alts := [], laidByText := true, laidKinds := [.data, .pinned], laidTests := true, laidLooks := .later }
def MessageDatagramsUptoCardSaid : Prop := Claim7.holds Tryd.pinned (.plain (OpenSpec.upto messageDatagramsSpec)) messageDatagramsUptoCard

/-- THE SECOND FORM's CARD OF 'millpondlaw18.MessageBack'. -/
def messageBackUptoCard : Claim7 := { stood := { row := messageBackUptoRow, standIns := [], harness := (true, "69af78538213e224b01c480c8c2621a9f60d159f9e3f99ef834fc1c92b2355dc"), looks := true }, kinds := [], alts := [], laidByText := true, laidKinds := [.data, .pinned], laidTests := true, laidLooks := .later }
def MessageBackUptoCardSaid : Prop := Claim7.holds Tryd.pinned (.plain (OpenSpec.upto messageBackSpec)) messageBackUptoCard

/-- THE SECOND FORM's CARD OF 'millpondlaw18.MessageBounds'. -/
def messageBoundsUptoCard : Claim7 := { stood := { row := messageBoundsUptoRow, standIns := [], harness := (true, "69af78538213e224b01c480c8c2621a9f60d159f9e3f99ef834fc1c92b2355dc"), looks := true }, kinds := [], alts := [], laidByText := true, laidKinds := [.data, .pinned], laidTests := true, laidLooks := .later }
def MessageBoundsUptoCardSaid : Prop := Claim7.holds Tryd.pinned (.plain (OpenSpec.upto messageBoundsSpec)) messageBoundsUptoCard
end Rows
end Go.Proofs.YtemmdlanidepbaaDoor
