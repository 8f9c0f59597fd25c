/-
  DERIVED. GIVEN WITH THE SEED: THE CARDS: each row of YtlgipkemoldckaaGreatDoorRows.lean that lists a variable, with what it lists TIED to the program's text (the seventh form; the later family's looks); each row that meets fmt, with fmt's text TOLD by the authors' own Lean function (tested against real Go, not proved from fmt's source: count such statements apart). THE CARD IS WHAT COUNTS. Prove the row's statement (the work); the ties are given (YtlgipkemoldckaaGreatDoorTie.lean); close each card by the builder's one call (the guide's Derived/Test/ToyasCard.lean, 'card_holds'). Laid BY PROGRAM, IN A SANDBOX (cutbox-door.mjs). By AI agents, Wed Nov 11 2026. No macro, syntax, notation, axiom, sorry.
-/
import Derived.Test.YtlgipkemoldckaaGreatDoorRows
import GoSem.ClaimSeven
namespace Go.Proofs.YtlgipkemoldckaaGreatDoor
namespace Rows

/-- THE TIED CARD OF 'stemmalaw20.ViewRenders'. -/
def viewRendersCard : Claim7 := { stood := { row := viewRendersRow, standIns := [], harness := (true, "4e28c369914c2bcd365155d406d5b67c16751c88e782c3283f5d81be1e5a33af"), looks := false }, kinds := [], alts := [], laidByText := true, laidKinds := [.data, .data, .data], laidTests := true, laidLooks := .later }
def ViewRendersCardSaid : Prop := Claim7.holds Tryz.pinned (.plain (OpenSpec.ofChange viewRendersSpec)) viewRendersCard

/-- THE TIED CARD OF 'stemmalaw20.ViewText'. -/
def viewTextCard : Claim7 := { stood := { row := viewTextRow, standIns := [], harness := (true, "4e28c369914c2bcd365155d406d5b67c16751c88e782c3283f5d81be1e5a33af"), looks := false }, kinds := [], alts := [], laidByText := true, laidKinds := [.data, .data, .data], laidTests := true, laidLooks := .later }
def ViewTextCardSaid : Prop := Claim7.holds Tryz.pinned (.plain (OpenSpec.ofChange viewTextSpec)) viewTextCard

/-- THE TIED CARD OF 'stemmalaw20.ViewBuilds'. -/
def viewBuildsCard : Claim7 := { stood := { row := viewBuildsRow, standIns := [], harness := (true, "4e28c369914c2bcd365155d406d5b67c16751c88e782c3283f5d81be1e5a33af"), looks := false }, kinds := [], alts := [], laidByText := true, laidKinds := [.data, .data, .data], laidTests := true, laidLooks := .later }
def ViewBuildsCardSaid : Prop := Claim7.holds Tryz.pinned (.plain (OpenSpec.ofChange viewBuildsSpec)) viewBuildsCard

/-- THE TIED CARD OF 'stemmalaw20.ViewOnce'. -/
def viewOnceCard : Claim7 := { stood := { row := viewOnceRow, standIns := [], harness := (true, "4e28c369914c2bcd365155d406d5b67c16751c88e782c3283f5d81be1e5a33af"), looks := false }, kinds := [], alts := [], laidByText := true, laidKinds := [.data, .data, .data], laidTests := true, laidLooks := .later }
def ViewOnceCardSaid : Prop := Claim7.holds Tryz.pinned (.plain (OpenSpec.ofChange viewOnceSpec)) viewOnceCard

/-- THE TIED CARD OF 'stemmalaw20.ViewUnder'. -/
def viewUnderCard : Claim7 := { stood := { row := viewUnderRow, standIns := [], harness := (true, "4e28c369914c2bcd365155d406d5b67c16751c88e782c3283f5d81be1e5a33af"), looks := false }, kinds := [], alts := [], laidByText := true, laidKinds := [.data, .data, .data], laidTests := true, laidLooks := .later }
def ViewUnderCardSaid : Prop := Claim7.holds Tryz.pinned (.plain (OpenSpec.ofChange viewUnderSpec)) viewUnderCard

/-- THE TIED CARD OF 'stemmalaw20.ViewOrder'. -/
def viewOrderCard : Claim7 := { stood := { row := viewOrderRow, standIns := [], harness := (true, "4e28c369914c2bcd365155d406d5b67c16751c88e782c3283f5d81be1e5a33af"), looks := false }, kinds := [], alts := [], laidByText := true, laidKinds := [.data, .data, .data], laidTests := true, laidLooks := .later }
def ViewOrderCardSaid : Prop := Claim7.holds Tryz.pinned (.plain (OpenSpec.ofChange viewOrderSpec)) viewOrderCard

/-- THE TIED CARD OF 'stemmalaw20.ViewKinds'. -/
def viewKindsCard : Claim7 := { stood := { row := viewKindsRow, standIns := [], harness := (true, "4e28c369914c2bcd365155d406d5b67c16751c88e782c3283f5d81be1e5a33af"), looks := false }, kinds := [], alts := [], laidByText := true, laidKinds := [.data, .data, .data], laidTests := true, laidLooks := .later }
def ViewKindsCardSaid : Prop := Claim7.holds Tryz.pinned (.plain (OpenSpec.ofChange viewKindsSpec)) viewKindsCard

/-- THE SECOND FORM's CARD OF 'stemmalaw20.ViewRenders'. -/
def viewRendersUptoCard : Claim7 := { stood := { row := viewRendersUptoRow, standIns := [], harness := (true, "4e28c369914c2bcd365155d406d5b67c16751c88e782c3283f5d81be1e5a33af"), looks := false }, kinds := [], alts := [], laidByText := true, laidKinds := [.data, .data, .data], laidTests := true, laidLooks := .later }
def ViewRendersUptoCardSaid : Prop := Claim7.holds Tryz.pinned (.plain (OpenSpec.upto viewRendersSpec)) viewRendersUptoCard

/-- THE SECOND FORM's CARD OF 'stemmalaw20.ViewText'. -/
def viewTextUptoCard : Claim7 := { stood := { row := viewTextUptoRow, standIns := [], harness := (true, "4e28c369914c2bcd365155d406d5b67c16751c88e782c3283f5d81be1e5a33af"), looks := false }, kinds := [], alts := [], laidByText := true, laidKinds := [.data, .data, .data], laidTests := true, laidLooks := .later }
def ViewTextUptoCardSaid : Prop := Claim7.holds Tryz.pinned (.plain (OpenSpec.upto viewTextSpec)) viewTextUptoCard

/-- THE SECOND FORM's CARD OF 'stemmalaw20.ViewBuilds'. -/
def viewBuildsUptoCard : Claim7 := { stood := { row := viewBuildsUptoRow, standIns := [], harness := (true, "4e28c369914c2bcd365155d406d5b67c16751c88e782c3283f5d81be1e5a33af"), looks := false }, kinds := [], alts := [], laidByText := true, laidKinds := [.data, .data, .data], laidTests := true, laidLooks := .later }
def ViewBuildsUptoCardSaid : Prop := Claim7.holds Tryz.pinned (.plain (OpenSpec.upto viewBuildsSpec)) viewBuildsUptoCard

/-- THE SECOND FORM's CARD OF 'stemmalaw20.ViewOnce'. -/
def viewOnceUptoCard : Claim7 := { stood := { row := viewOnceUptoRow, standIns := [], harness := (true, "4e28c369914c2bcd365155d406d5b67c16751c88e782c3283f5d81be1e5a33af"), looks := false }, kinds := [], alts := [], laidByText := true, laidKinds := [.data, .data, .data], laidTests := true, laidLooks := .later }
def ViewOnceUptoCardSaid : Prop := Claim7.holds Tryz.pinned (.plain (OpenSpec.upto viewOnceSpec)) viewOnceUptoCard

/-- THE SECOND FORM's CARD OF 'stemmalaw20.ViewUnder'. -/
def viewUnderUptoCard : Claim7 := { stood := { row := viewUnderUptoRow, standIns := [], harness := (true, "4e28c369914c2bcd365155d406d5b67c16751c88e782c3283f5d81be1e5a33af"), looks := false }, kinds := [], alts := [], laidByText := true, laidKinds := [.data, .data, .data], laidTests := true, laidLooks := .later }
def ViewUnderUptoCardSaid : Prop := Claim7.holds Tryz.pinned (.plain (OpenSpec.upto viewUnderSpec)) viewUnderUptoCard

/-- THE SECOND FORM's CARD OF 'stemmalaw20.ViewOrder'. -/
def viewOrderUptoCard : Claim7 := { stood := { row := viewOrderUptoRow, standIns := [], harness := (true, "4e28c369914c2bcd365155d406d5b67c16751c88e782c3283f5d81be1e5a33af"), looks := false }, kinds := [], alts := [], laidByText := true, laidKinds := [.data, .data, .data], laidTests := true, laidLooks := .later }
def ViewOrderUptoCardSaid : Prop := Claim7.holds Tryz.pinned (.plain (OpenSpec.upto viewOrderSpec)) viewOrderUptoCard

/-- THE SECOND FORM's CARD OF 'stemmalaw20.ViewKinds'. -/
def viewKindsUptoCard : Claim7 := { stood := { row := viewKindsUptoRow, standIns := [], harness := (true, "4e28c369914c2bcd365155d406d5b67c16751c88e782c3283f5d81be1e5a33af"), looks := false }, kinds := [], alts := [], laidByText := true, laidKinds := [.data, .data, .data], laidTests := true, laidLooks := .later }
def ViewKindsUptoCardSaid : Prop := Claim7.holds Tryz.pinned (.plain (OpenSpec.upto viewKindsSpec)) viewKindsUptoCard
end Rows
end Go.Proofs.YtlgipkemoldckaaGreatDoor
