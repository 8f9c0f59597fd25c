/-
  DERIVED. GIVEN WITH THE SEED: THE CARDS: each row of YtdlnokbeadkdfaaGreatDoorRows.lean that lists a variable, with what it lists TIED to the program's text (the seventh form; the later family's looks); each row that meets fmt, with fmt's text TOLD by the authors' own Lean function (tested against real Go, not proved from fmt's source: count such statements apart). THE CARD IS WHAT COUNTS. Prove the row's statement (the work); the ties are given (YtdlnokbeadkdfaaGreatDoorTie.lean); close each card by the builder's one call (the guide's Derived/Test/ToyasCard.lean, 'card_holds'). Laid BY PROGRAM, IN A SANDBOX (cutbox-door.mjs). By AI agents, Wed Nov 11 2026. No macro, syntax, notation, axiom, sorry.
-/
import Derived.Test.YtdlnokbeadkdfaaGreatDoorRows
import GoSem.ClaimSeven
namespace Go.Proofs.YtdlnokbeadkdfaaGreatDoor
namespace Rows

/-- THE TIED CARD OF 'stemmalaw08.BatchEncodes'. -/
def batchEncodesCard : Claim7 := { stood := { row := batchEncodesRow, standIns := [], harness := (true, "cb136d3cd730d7b8744dfe297fb2450ceba480dd0423a27cc19d3f9e6b6ae5d5"), looks := true }, kinds := [], alts := [], laidByText := true, laidKinds := [.data, .handle, .pinned], laidTests := true, laidLooks := .later }
def BatchEncodesCardSaid : Prop := Claim7.holds Tryz.pinned (.plain (OpenSpec.ofChange batchEncodesSpec)) batchEncodesCard

/-- THE TIED CARD OF 'stemmalaw08.BatchDecodes'. -/
def batchDecodesCard : Claim7 := { stood := { row := batchDecodesRow, standIns := [], harness := (true, "cb136d3cd730d7b8744dfe297fb2450ceba480dd0423a27cc19d3f9e6b6ae5d5"), looks := true }, kinds := [], alts := [], laidByText := true, laidKinds := [.data, .handle, .pinned], laidTests := true, laidLooks := .later }
def BatchDecodesCardSaid : Prop := Claim7.holds Tryz.pinned (.plain (OpenSpec.ofChange batchDecodesSpec)) batchDecodesCard

/-- THE TIED CARD OF 'stemmalaw08.BatchBack'. -/
def batchBackCard : Claim7 := { stood := { row := batchBackRow, standIns := [], harness := (true, "cb136d3cd730d7b8744dfe297fb2450ceba480dd0423a27cc19d3f9e6b6ae5d5"), looks := true }, kinds := [], alts := [], laidByText := true, laidKinds := [.data, .handle, .pinned], laidTests := true, laidLooks := .later }
def BatchBackCardSaid : Prop := Claim7.holds Tryz.pinned (.plain (OpenSpec.ofChange batchBackSpec)) batchBackCard

/-- THE SECOND FORM's CARD OF 'stemmalaw08.BatchEncodes'. -/
def batchEncodesUptoCard : Claim7 := { stood := { row := batchEncodesUptoRow, standIns := [], harness := (true, "cb136d3cd730d7b8744dfe297fb2450ceba480dd0423a27cc19d3f9e6b6ae5d5"), looks := true }, kinds := [], alts := [], laidByText := true, laidKinds := [.data, .handle, .pinned], laidTests := true, laidLooks := .later }
def BatchEncodesUptoCardSaid : Prop := Claim7.holds Tryz.pinned (.plain (OpenSpec.upto batchEncodesSpec)) batchEncodesUptoCard

/-- THE SECOND FORM's CARD OF 'stemmalaw08.BatchDecodes'. -/
def batchDecodesUptoCard : Claim7 := { stood := { row := batchDecodesUptoRow, standIns := [], harness := (true, "cb136d3cd730d7b8744dfe297fb2450ceba480dd0423a27cc19d3f9e6b6ae5d5"), looks := true }, kinds := [], alts := [], laidByText := true, laidKinds := [.data, .handle, .pinned], laidTests := true, laidLooks := .later }
def BatchDecodesUptoCardSaid : Prop := Claim7.holds Tryz.pinned (.plain (OpenSpec.upto batchDecodesSpec)) batchDecodesUptoCard

/-- THE SECOND FORM's CARD OF 'stemmalaw08.BatchBack'. -/
def batchBackUptoCard : Claim7 := { stood := { row := batchBackUptoRow, standIns := [], harness := (true, "cb136d3cd730d7b8744dfe297fb2450ceba480dd0423a27cc19d3f9e6b6ae5d5"), looks := true }, kinds := [], alts := [], laidByText := true, laidKinds := [.data, .handle, .pinned], laidTests := true, laidLooks := .later }
def BatchBackUptoCardSaid : Prop := Claim7.holds Tryz.pinned (.plain (OpenSpec.upto batchBackSpec)) batchBackUptoCard
end Rows
end Go.Proofs.YtdlnokbeadkdfaaGreatDoor
