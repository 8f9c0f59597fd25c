/-
  DERIVED. GIVEN WITH THE SEED: THE CARDS: each row of YtgmdimbiipemhaaGreatDoorRows.lean that lists a variable, with what it lists TIED to the program's text (the seventh form; the later family's looks); each row that meets fmt, with fmt's text TOLD by the authors' own Lean function (tested against real Go, not proved from fmt's source: count such statements apart). THE CARD IS WHAT COUNTS. Prove the row's statement (the work); the ties are given (YtgmdimbiipemhaaGreatDoorTie.lean); close each card by the builder's one call (the guide's Derived/Test/ToyasCard.lean, 'card_holds'). Laid BY PROGRAM, IN A SANDBOX (cutbox-door.mjs). By AI agents, Wed Nov 11 2026. No macro, syntax, notation, axiom, sorry.
-/
import Derived.Test.YtgmdimbiipemhaaGreatDoorRows
import GoSem.ClaimSeven
namespace Go.Proofs.YtgmdimbiipemhaaGreatDoor
namespace Rows

/-- THE TIED CARD OF 'stemmalaw08.BatchDecodes'. -/
def batchDecodesCard : Claim7 := { stood := { row := batchDecodesRow, standIns := [], harness := (true, "1734067c147459c3bec8dcdb83d863112b36d423078538fb4c94035c284defba"), looks := true }, kinds := [], alts := [], laidByText := true, laidKinds := [.data, .handle, .pinned], laidTests := true, laidLooks := .later }
def BatchDecodesCardSaid : Prop := Claim7.holds Tryz.pinned (.plain (OpenSpec.ofChange batchDecodesSpec)) batchDecodesCard

/-- THE TIED CARD OF 'stemmalaw21.GossipHears'. -/
def gossipHearsCard : Claim7 := { stood := { row := gossipHearsRow, standIns := [], harness := (true, "1734067c147459c3bec8dcdb83d863112b36d423078538fb4c94035c284defba"), looks := true }, kinds := [], alts := [], laidByText := true, laidKinds := [.data, .handle, .pinned], laidTests := true, laidLooks := .later }
def GossipHearsCardSaid : Prop := Claim7.holds Tryz.pinned (.plain (OpenSpec.ofChange gossipHearsSpec)) gossipHearsCard

/-- THE TIED CARD OF 'stemmalaw21.GossipBack'. -/
def gossipBackCard : Claim7 := { stood := { row := gossipBackRow, standIns := [], harness := (true, "1734067c147459c3bec8dcdb83d863112b36d423078538fb4c94035c284defba"), looks := true }, kinds := [], alts := [], laidByText := true, laidKinds := [.data, .handle, .pinned], laidTests := true, laidLooks := .later }
def GossipBackCardSaid : Prop := Claim7.holds Tryz.pinned (.plain (OpenSpec.ofChange gossipBackSpec)) gossipBackCard

/-- THE TIED CARD OF 'stemmalaw21.GossipOnly'. -/
def gossipOnlyCard : Claim7 := { stood := { row := gossipOnlyRow, standIns := [], harness := (true, "1734067c147459c3bec8dcdb83d863112b36d423078538fb4c94035c284defba"), looks := true }, kinds := [], alts := [], laidByText := true, laidKinds := [.data, .handle, .pinned], laidTests := true, laidLooks := .later }
def GossipOnlyCardSaid : Prop := Claim7.holds Tryz.pinned (.plain (OpenSpec.ofChange gossipOnlySpec)) gossipOnlyCard

/-- THE TIED CARD OF 'stemmalaw21.GossipSays'. -/
def gossipSaysCard : Claim7 := { stood := { row := gossipSaysRow, standIns := [], harness := (true, "1734067c147459c3bec8dcdb83d863112b36d423078538fb4c94035c284defba"), looks := true }, kinds := [], alts := [], laidByText := true, laidKinds := [.data, .handle, .pinned], laidTests := true, laidLooks := .later }
def GossipSaysCardSaid : Prop := Claim7.holds Tryz.pinned (.plain (OpenSpec.ofChange gossipSaysSpec)) gossipSaysCard

/-- THE TIED CARD OF 'stemmalaw09.OplogReads'. -/
def oplogReadsCard : Claim7 := { stood := { row := oplogReadsRow, standIns := [], harness := (true, "1734067c147459c3bec8dcdb83d863112b36d423078538fb4c94035c284defba"), looks := true }, kinds := [], alts := [], laidByText := true, laidKinds := [.data, .handle, .pinned], laidTests := true, laidLooks := .later }
def OplogReadsCardSaid : Prop := Claim7.holds Tryz.pinned (.plain (OpenSpec.ofChange oplogReadsSpec)) oplogReadsCard

/-- THE TIED CARD OF 'stemmalaw09.OplogNil'. -/
def oplogNilCard : Claim7 := { stood := { row := oplogNilRow, standIns := [], harness := (true, "1734067c147459c3bec8dcdb83d863112b36d423078538fb4c94035c284defba"), looks := true }, kinds := [], alts := [], laidByText := true, laidKinds := [.data, .handle, .sentinel, .pinned], laidTests := true, laidLooks := .later }
def OplogNilCardSaid : Prop := Claim7.holds Tryz.pinned (.plain (OpenSpec.ofChange oplogNilSpec)) oplogNilCard

/-- THE TIED CARD OF 'stemmalaw09.OplogAnew'. -/
def oplogAnewCard : Claim7 := { stood := { row := oplogAnewRow, standIns := [], harness := (true, "1734067c147459c3bec8dcdb83d863112b36d423078538fb4c94035c284defba"), looks := true }, kinds := [], alts := [], laidByText := true, laidKinds := [.data, .handle, .sentinel, .pinned], laidTests := true, laidLooks := .later }
def OplogAnewCardSaid : Prop := Claim7.holds Tryz.pinned (.plain (OpenSpec.ofChange oplogAnewSpec)) oplogAnewCard

/-- THE TIED CARD OF 'stemmalaw09.OplogPlays'. -/
def oplogPlaysCard : Claim7 := { stood := { row := oplogPlaysRow, standIns := [], harness := (true, "1734067c147459c3bec8dcdb83d863112b36d423078538fb4c94035c284defba"), looks := true }, kinds := [], alts := [], laidByText := true, laidKinds := [.data, .handle, .sentinel, .pinned], laidTests := true, laidLooks := .later }
def OplogPlaysCardSaid : Prop := Claim7.holds Tryz.pinned (.plain (OpenSpec.ofChange oplogPlaysSpec)) oplogPlaysCard

/-- THE TIED CARD OF 'stemmalaw09.OplogKeeps'. -/
def oplogKeepsCard : Claim7 := { stood := { row := oplogKeepsRow, standIns := [], harness := (true, "1734067c147459c3bec8dcdb83d863112b36d423078538fb4c94035c284defba"), looks := true }, kinds := [], alts := [], laidByText := true, laidKinds := [.data, .handle, .sentinel, .pinned], laidTests := true, laidLooks := .later }
def OplogKeepsCardSaid : Prop := Claim7.holds Tryz.pinned (.plain (OpenSpec.ofChange oplogKeepsSpec)) oplogKeepsCard

/-- THE SECOND FORM's CARD OF 'stemmalaw08.BatchDecodes'. -/
def batchDecodesUptoCard : Claim7 := { stood := { row := batchDecodesUptoRow, standIns := [], harness := (true, "1734067c147459c3bec8dcdb83d863112b36d423078538fb4c94035c284defba"), looks := true }, kinds := [], alts := [], laidByText := true, laidKinds := [.data, .handle, .pinned], laidTests := true, laidLooks := .later }
def BatchDecodesUptoCardSaid : Prop := Claim7.holds Tryz.pinned (.plain (OpenSpec.upto batchDecodesSpec)) batchDecodesUptoCard

/-- THE SECOND FORM's CARD OF 'stemmalaw21.GossipHears'. -/
def gossipHearsUptoCard : Claim7 := { stood := { row := gossipHearsUptoRow, standIns := [], harness := (true, "1734067c147459c3bec8dcdb83d863112b36d423078538fb4c94035c284defba"), looks := true }, kinds := [], alts := [], laidByText := true, laidKinds := [.data, .handle, .pinned], laidTests := true, laidLooks := .later }
def GossipHearsUptoCardSaid : Prop := Claim7.holds Tryz.pinned (.plain (OpenSpec.upto gossipHearsSpec)) gossipHearsUptoCard

/-- THE SECOND FORM's CARD OF 'stemmalaw21.GossipBack'. -/
def gossipBackUptoCard : Claim7 := { stood := { row := gossipBackUptoRow, standIns := [], harness := (true, "1734067c147459c3bec8dcdb83d863112b36d423078538fb4c94035c284defba"), looks := true }, kinds := [], alts := [], laidByText := true, laidKinds := [.data, .handle, .pinned], laidTests := true, laidLooks := .later }
def GossipBackUptoCardSaid : Prop := Claim7.holds Tryz.pinned (.plain (OpenSpec.upto gossipBackSpec)) gossipBackUptoCard

/-- THE SECOND FORM's CARD OF 'stemmalaw21.GossipOnly'. -/
def gossipOnlyUptoCard : Claim7 := { stood := { row := gossipOnlyUptoRow, standIns := [], harness := (true, "1734067c147459c3bec8dcdb83d863112b36d423078538fb4c94035c284defba"), looks := true }, kinds := [], alts := [], laidByText := true, laidKinds := [.data, .handle, .pinned], laidTests := true, laidLooks := .later }
def GossipOnlyUptoCardSaid : Prop := Claim7.holds Tryz.pinned (.plain (OpenSpec.upto gossipOnlySpec)) gossipOnlyUptoCard

/-- THE SECOND FORM's CARD OF 'stemmalaw21.GossipSays'. -/
def gossipSaysUptoCard : Claim7 := { stood := { row := gossipSaysUptoRow, standIns := [], harness := (true, "1734067c147459c3bec8dcdb83d863112b36d423078538fb4c94035c284defba"), looks := true }, kinds := [], alts := [], laidByText := true, laidKinds := [.data, .handle, .pinned], laidTests := true, laidLooks := .later }
def GossipSaysUptoCardSaid : Prop := Claim7.holds Tryz.pinned (.plain (OpenSpec.upto gossipSaysSpec)) gossipSaysUptoCard

/-- THE SECOND FORM's CARD OF 'stemmalaw09.OplogReads'. -/
def oplogReadsUptoCard : Claim7 := { stood := { row := oplogReadsUptoRow, standIns := [], harness := (true, "1734067c147459c3bec8dcdb83d863112b36d423078538fb4c94035c284defba"), looks := true }, kinds := [], alts := [], laidByText := true, laidKinds := [.data, .handle, .pinned], laidTests := true, laidLooks := .later }
def OplogReadsUptoCardSaid : Prop := Claim7.holds Tryz.pinned (.plain (OpenSpec.upto oplogReadsSpec)) oplogReadsUptoCard

/-- THE SECOND FORM's CARD OF 'stemmalaw09.OplogNil'. -/
def oplogNilUptoCard : Claim7 := { stood := { row := oplogNilUptoRow, standIns := [], harness := (true, "1734067c147459c3bec8dcdb83d863112b36d423078538fb4c94035c284defba"), looks := true }, kinds := [], alts := [], laidByText := true, laidKinds := [.data, .handle, .sentinel, .pinned], laidTests := true, laidLooks := .later }
def OplogNilUptoCardSaid : Prop := Claim7.holds Tryz.pinned (.plain (OpenSpec.upto oplogNilSpec)) oplogNilUptoCard

/-- THE SECOND FORM's CARD OF 'stemmalaw09.OplogAnew'. -/
def oplogAnewUptoCard : Claim7 := { stood := { row := oplogAnewUptoRow, standIns := [], harness := (true, "1734067c147459c3bec8dcdb83d863112b36d423078538fb4c94035c284defba"), looks := true }, kinds := [], alts := [], laidByText := true, laidKinds := [.data, .handle, .sentinel, .pinned], laidTests := true, laidLooks := .later }
def OplogAnewUptoCardSaid : Prop := Claim7.holds Tryz.pinned (.plain (OpenSpec.upto oplogAnewSpec)) oplogAnewUptoCard

/-- THE SECOND FORM's CARD OF 'stemmalaw09.OplogPlays'. -/
def oplogPlaysUptoCard : Claim7 := { stood := { row := oplogPlaysUptoRow, standIns := [], harness := (true, "1734067c147459c3bec8dcdb83d863112b36d423078538fb4c94035c284defba"), looks := true }, kinds := [], alts := [], laidByText := true, laidKinds := [.data, .handle, .sentinel, .pinned], laidTests := true, laidLooks := .later }
def OplogPlaysUptoCardSaid : Prop := Claim7.holds Tryz.pinned (.plain (OpenSpec.upto oplogPlaysSpec)) oplogPlaysUptoCard

/-- THE SECOND FORM's CARD OF 'stemmalaw09.OplogKeeps'. -/
def oplogKeepsUptoCard : Claim7 := { stood := { row := oplogKeepsUptoRow, standIns := [], harness := (true, "1734067c147459c3bec8dcdb83d863112b36d423078538fb4c94035c284defba"), looks := true }, kinds := [], alts := [], laidByText := true, laidKinds := [.data, .handle, .sentinel, .pinned], laidTests := true, laidLooks := .later }
def OplogKeepsUptoCardSaid : Prop := Claim7.holds Tryz.pinned (.plain (OpenSpec.upto oplogKeepsSpec)) oplogKeepsUptoCard
end Rows
end Go.Proofs.YtgmdimbiipemhaaGreatDoor
