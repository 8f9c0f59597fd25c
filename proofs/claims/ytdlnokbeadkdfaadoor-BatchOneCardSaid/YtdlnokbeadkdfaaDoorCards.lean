/-
  DERIVED. GIVEN WITH THE SEED: THE CARDS: each row of YtdlnokbeadkdfaaDoorRows.lean that lists a variable, with what it lists TIED to the program's text (the seventh form; the later family's looks); each row that meets fmt, with fmt's text TOLD by the authors' own Lean function (tested against real Go, not proved from fmt's source: count such statements apart). THE CARD IS WHAT COUNTS. Prove the row's statement (the work); the ties are given (YtdlnokbeadkdfaaDoorTie.lean); close each card by the builder's one call (the guide's Derived/Test/ToyasCard.lean, 'card_holds'). Laid BY PROGRAM, IN A SANDBOX (cutbox-door.mjs). By AI agents, Wed Nov 11 2026. No macro, syntax, notation, axiom, sorry.
-/
import Derived.Test.YtdlnokbeadkdfaaDoorRows
import GoSem.ClaimSeven
namespace Go.Proofs.YtdlnokbeadkdfaaDoor
namespace Rows

/-- THE TIED CARD OF 'stemmalaw08.BatchOnly'. -/
def batchOnlyCard : Claim7 := { stood := { row := batchOnlyRow, standIns := [], harness := (true, "79f56799c0bb8b3abf88f06bf590a6c4687219141b0ed30b8837df979a76195a"), looks := true }, kinds := [], alts := [], laidByText := true, laidKinds := [.data, .handle, .pinned], laidTests := true, laidLooks := .later }
def BatchOnlyCardSaid : Prop := Claim7.holds Tryd.pinned (.plain (OpenSpec.ofChange batchOnlySpec)) batchOnlyCard

/-- THE TIED CARD OF 'stemmalaw08.BatchOne'. -/
def batchOneCard : Claim7 := { stood := { row := batchOneRow, standIns := [], harness := (true, "79f56799c0bb8b3abf88f06bf590a6c4687219141b0ed30b8837df979a76195a"), looks := true }, kinds := [], alts := [], laidByText := true, laidKinds := [.data, .handle, .pinned], laidTests := true, laidLooks := .later }
def BatchOneCardSaid : Prop := Claim7.holds Tryd.pinned (.plain (OpenSpec.ofChange batchOneSpec)) batchOneCard

/-- THE SECOND FORM's CARD OF 'stemmalaw08.BatchOnly'. -/
def batchOnlyUptoCard : Claim7 := { stood := { row := batchOnlyUptoRow, standIns := [], harness := (true, "79f56799c0bb8b3abf88f06bf590a6c4687219141b0ed30b8837df979a76195a"), looks := true }, kinds := [], alts := [], laidByText := true, laidKinds := [.data, .handle, .pinned], laidTests := true, laidLooks := .later }
def BatchOnlyUptoCardSaid : Prop := Claim7.holds Tryd.pinned (.plain (OpenSpec.upto batchOnlySpec)) batchOnlyUptoCard

/-- THE SECOND FORM's CARD OF 'stemmalaw08.BatchOne'. -/
def batchOneUptoCard : Claim7 := { stood := { row := batchOneUptoRow, standIns := [], harness := (true, "79f56799c0bb8b3abf88f06bf590a6c4687219141b0ed30b8837df979a76195a"), looks := true }, kinds := [], alts := [], laidByText := true, laidKinds := [.data, .handle, .pinned], laidTests := true, laidLooks := .later }
def BatchOneUptoCardSaid : Prop := Claim7.holds Tryd.pinned (.plain (OpenSpec.upto batchOneSpec)) batchOneUptoCard
end Rows
end Go.Proofs.YtdlnokbeadkdfaaDoor
