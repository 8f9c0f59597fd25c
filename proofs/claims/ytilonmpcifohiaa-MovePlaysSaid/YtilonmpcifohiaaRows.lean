/-
  No cell of these rows narrows 'for every input' (looked for: loops, veiled, ifaces, maps, wideKeys, modest, calm, conditions, laid).
  DERIVED. THE GIVEN ROWS OF THIS SEAT. 7 by the template 'for every input the law returns true; each argument reads behind the call as it read before'; 0 by the template 'total and deterministic' (their statements: YtilonmpcifohiaaTotals.lean).
  GIVEN WITH THE SEED: the statements are not yours to turn. If you find one false, say at which input.
  Laid BY PROGRAM, IN A SANDBOX (cutbox-rows.mjs): the forced cells as the released guide's own fill.sh prints them over the translation 7e8c547fa31bd878… (all of the seat's roots in one cut). By AI agents, Wed Nov 11 2026. No macro, syntax, notation, axiom, sorry.
-/
import Derived.Test.YtilonmpcifohiaaChecked
import GoSem.Claim
import GoSem.ClaimJoined
import GoSem.ClaimMapViews
import Derived.JoinedTies
import Derived.KernelRfl
namespace Go.Proofs.Ytilonmpcifohiaa
/- THE CELL 'sum', in the pinned program and in every row, IS THE sha256 OF THE DUMP (.gsa) THAT YtilonmpcifohiaaProg.lean LOADS. Nothing in Lean hashes anything: it is a label: what it is worth is what the hold of that sum in a sandbox is worth. -/
noncomputable def Try.pinned : Pinned := { name := "ytilonmpcifohiaa", sum := "7e8c547fa31bd87833e1329f67ea881a652eeb80fc91717fcc6e82e8d3cd3aa1", checked := Try.checked }
namespace Rows
def none {H : Type} : Left H := { results := [], args := [] }

/-- 'stemmalaw14.MoveTakes': WHATEVER THE INPUT: true; the input reads as it did. -/
def moveTakesSpec : ChangeSpec := { name := "moveTakes", fn := fun _ => fun
  | [d1, d2] => { results := [.lit (.bool true)], args := [d1, d2] }
  | _ => none }
def moveTakesRow : OpenClaim := { program := "ytilonmpcifohiaa", sum := "7e8c547fa31bd87833e1329f67ea881a652eeb80fc91717fcc6e82e8d3cd3aa1", func := "stemma/stemmalaw14.MoveTakes", spec := "moveTakes", inPlace := ["slices.overlaps[stemma/movetree.move]"], unfollowed := true, recurses := true, plainKeys := false, apart := false }
def MoveTakesSaid : Prop := moveTakesRow.holds Try.pinned (OpenSpec.ofChange moveTakesSpec)

/-- ITS FALSE NEIGHBOUR: 'it returns false'. Refute it at one input. -/
def moveTakesWrong : ChangeSpec := { name := "moveTakes", fn := fun _ => fun
  | [d1, d2] => { results := [.lit (.bool false)], args := [d1, d2] }
  | _ => none }
def MoveTakesWrongFalsely : Prop := moveTakesRow.holds Try.pinned (OpenSpec.ofChange moveTakesWrong)

/-- 'stemmalaw14.MoveLast': WHATEVER THE INPUT: true; the input reads as it did. -/
def moveLastSpec : ChangeSpec := { name := "moveLast", fn := fun _ => fun
  | [d] => { results := [.lit (.bool true)], args := [d] }
  | _ => none }
def moveLastRow : OpenClaim := { program := "ytilonmpcifohiaa", sum := "7e8c547fa31bd87833e1329f67ea881a652eeb80fc91717fcc6e82e8d3cd3aa1", func := "stemma/stemmalaw14.MoveLast", spec := "moveLast", inPlace := ["slices.overlaps[stemma/movetree.move]"], unfollowed := true, recurses := true, plainKeys := false, apart := false }
def MoveLastSaid : Prop := moveLastRow.holds Try.pinned (OpenSpec.ofChange moveLastSpec)

/-- ITS FALSE NEIGHBOUR: 'it returns false'. Refute it at one input. -/
def moveLastWrong : ChangeSpec := { name := "moveLast", fn := fun _ => fun
  | [d] => { results := [.lit (.bool false)], args := [d] }
  | _ => none }
def MoveLastWrongFalsely : Prop := moveLastRow.holds Try.pinned (OpenSpec.ofChange moveLastWrong)

/-- 'stemmalaw14.MovePlays': WHATEVER THE INPUT: true; the input reads as it did. -/
def movePlaysSpec : ChangeSpec := { name := "movePlays", fn := fun _ => fun
  | [d] => { results := [.lit (.bool true)], args := [d] }
  | _ => none }
def movePlaysRow : OpenClaim := { program := "ytilonmpcifohiaa", sum := "7e8c547fa31bd87833e1329f67ea881a652eeb80fc91717fcc6e82e8d3cd3aa1", func := "stemma/stemmalaw14.MovePlays", spec := "movePlays", inPlace := ["slices.overlaps[stemma/movetree.move]"], unfollowed := true, recurses := true, plainKeys := false, apart := false }
def MovePlaysSaid : Prop := movePlaysRow.holds Try.pinned (OpenSpec.ofChange movePlaysSpec)

/-- ITS FALSE NEIGHBOUR: 'it returns false'. Refute it at one input. -/
def movePlaysWrong : ChangeSpec := { name := "movePlays", fn := fun _ => fun
  | [d] => { results := [.lit (.bool false)], args := [d] }
  | _ => none }
def MovePlaysWrongFalsely : Prop := movePlaysRow.holds Try.pinned (OpenSpec.ofChange movePlaysWrong)

/-- 'stemmalaw14.MoveOrder': WHATEVER THE INPUT: true; the input reads as it did. -/
def moveOrderSpec : ChangeSpec := { name := "moveOrder", fn := fun _ => fun
  | [d1, d2] => { results := [.lit (.bool true)], args := [d1, d2] }
  | _ => none }
def moveOrderRow : OpenClaim := { program := "ytilonmpcifohiaa", sum := "7e8c547fa31bd87833e1329f67ea881a652eeb80fc91717fcc6e82e8d3cd3aa1", func := "stemma/stemmalaw14.MoveOrder", spec := "moveOrder", inPlace := ["slices.overlaps[stemma/movetree.move]"], unfollowed := true, recurses := true, plainKeys := false, apart := false }
def MoveOrderSaid : Prop := moveOrderRow.holds Try.pinned (OpenSpec.ofChange moveOrderSpec)

/-- ITS FALSE NEIGHBOUR: 'it returns false'. Refute it at one input. -/
def moveOrderWrong : ChangeSpec := { name := "moveOrder", fn := fun _ => fun
  | [d1, d2] => { results := [.lit (.bool false)], args := [d1, d2] }
  | _ => none }
def MoveOrderWrongFalsely : Prop := moveOrderRow.holds Try.pinned (OpenSpec.ofChange moveOrderWrong)

/-- 'stemmalaw14.MoveRings': WHATEVER THE INPUT: true; the input reads as it did. -/
def moveRingsSpec : ChangeSpec := { name := "moveRings", fn := fun _ => fun
  | [d] => { results := [.lit (.bool true)], args := [d] }
  | _ => none }
def moveRingsRow : OpenClaim := { program := "ytilonmpcifohiaa", sum := "7e8c547fa31bd87833e1329f67ea881a652eeb80fc91717fcc6e82e8d3cd3aa1", func := "stemma/stemmalaw14.MoveRings", spec := "moveRings", inPlace := ["slices.overlaps[stemma/movetree.move]"], unfollowed := true, recurses := true, plainKeys := false, apart := false }
def MoveRingsSaid : Prop := moveRingsRow.holds Try.pinned (OpenSpec.ofChange moveRingsSpec)

/-- ITS FALSE NEIGHBOUR: 'it returns false'. Refute it at one input. -/
def moveRingsWrong : ChangeSpec := { name := "moveRings", fn := fun _ => fun
  | [d] => { results := [.lit (.bool false)], args := [d] }
  | _ => none }
def MoveRingsWrongFalsely : Prop := moveRingsRow.holds Try.pinned (OpenSpec.ofChange moveRingsWrong)

/-- 'stemmalaw14.MoveNil': WHATEVER THE INPUT: true; the input reads as it did. -/
def moveNilSpec : ChangeSpec := { name := "moveNil", fn := fun _ => fun
  | [d] => { results := [.lit (.bool true)], args := [d] }
  | _ => none }
def moveNilRow : OpenClaim := { program := "ytilonmpcifohiaa", sum := "7e8c547fa31bd87833e1329f67ea881a652eeb80fc91717fcc6e82e8d3cd3aa1", func := "stemma/stemmalaw14.MoveNil", spec := "moveNil", inPlace := ["slices.overlaps[stemma/movetree.move]"], unfollowed := true, recurses := true, plainKeys := false, apart := false }
def MoveNilSaid : Prop := moveNilRow.holds Try.pinned (OpenSpec.ofChange moveNilSpec)

/-- ITS FALSE NEIGHBOUR: 'it returns false'. Refute it at one input. -/
def moveNilWrong : ChangeSpec := { name := "moveNil", fn := fun _ => fun
  | [d] => { results := [.lit (.bool false)], args := [d] }
  | _ => none }
def MoveNilWrongFalsely : Prop := moveNilRow.holds Try.pinned (OpenSpec.ofChange moveNilWrong)

/-- 'stemmalaw14.MoveKids': WHATEVER THE INPUT: true; the input reads as it did. -/
def moveKidsSpec : ChangeSpec := { name := "moveKids", fn := fun _ => fun
  | [d1, d2] => { results := [.lit (.bool true)], args := [d1, d2] }
  | _ => none }
def moveKidsRow : OpenClaim := { program := "ytilonmpcifohiaa", sum := "7e8c547fa31bd87833e1329f67ea881a652eeb80fc91717fcc6e82e8d3cd3aa1", func := "stemma/stemmalaw14.MoveKids", spec := "moveKids", inPlace := ["slices.overlaps[stemma/movetree.move]"], unfollowed := true, recurses := true, plainKeys := false, apart := false }
def MoveKidsSaid : Prop := moveKidsRow.holds Try.pinned (OpenSpec.ofChange moveKidsSpec)

/-- ITS FALSE NEIGHBOUR: 'it returns false'. Refute it at one input. -/
def moveKidsWrong : ChangeSpec := { name := "moveKids", fn := fun _ => fun
  | [d1, d2] => { results := [.lit (.bool false)], args := [d1, d2] }
  | _ => none }
def MoveKidsWrongFalsely : Prop := moveKidsRow.holds Try.pinned (OpenSpec.ofChange moveKidsWrong)

/- THE SECOND FORM. 'bulk': how many values and letters a reading holds, each counted each time it is reached (what is shared counts as often as it is met; a slice's spare places count too). A statement '..UptoSaid' is the law's where the arguments, and the package variables that the reading takes, are together of bulk at most 1048576: NARROWER than '..Said'. Prove '..Said' where nothing that the law and all that it calls make is longer than what came in: it says more and counts as full. Else prove '..UptoSaid'. A law counts once. -/
mutual
def uptoBulk {H : Type} : DataW H → Nat
  | .lit (.string bytes) => bytes.length + 1
  | .lit _ => 1
  | .nil => 1
  | .ptr d => uptoBulk d + 1
  | .slice elems spare => uptoBulkAll elems + uptoBulkAll spare + 1
  | .agg parts => uptoBulkAll parts + 1
  | .iface _ d => uptoBulk d + 1
  | .map entries => uptoBulkEntries entries + 1
  | .held _ => 1
def uptoBulkAll {H : Type} : List (DataW H) → Nat
  | [] => 0
  | d :: r => uptoBulk d + uptoBulkAll r
def uptoBulkEntries {H : Type} : List (Lit × DataW H) → Nat
  | [] => 0
  | x :: r => uptoBulkEntry x + uptoBulkEntries r
def uptoBulkEntry {H : Type} : Lit × DataW H → Nat
  | (.string bytes, d) => bytes.length + uptoBulk d + 1
  | (_, d) => uptoBulk d + 1
 end
def uptoSmall : (H : Type) → List (DataW H) → Bool := fun _ ds => decide (uptoBulkAll ds ≤ 1048576)
def OpenSpec.upto (s : _root_.Go.ChangeSpec) : _root_.Go.OpenSpec := { _root_.Go.OpenSpec.ofChange s with cond := some uptoSmall }

/-- 'stemmalaw14.MoveTakes', WHERE WHAT IT READS IS OF BULK AT MOST 1048576: true; the input reads as it did. -/
def moveTakesUptoRow : OpenClaim := { program := "ytilonmpcifohiaa", sum := "7e8c547fa31bd87833e1329f67ea881a652eeb80fc91717fcc6e82e8d3cd3aa1", func := "stemma/stemmalaw14.MoveTakes", spec := "moveTakes", inPlace := ["slices.overlaps[stemma/movetree.move]"], unfollowed := true, recurses := true, plainKeys := false, apart := false, narrowed := true }
def MoveTakesUptoSaid : Prop := moveTakesUptoRow.holds Try.pinned (OpenSpec.upto moveTakesSpec)

/-- 'stemmalaw14.MoveLast', WHERE WHAT IT READS IS OF BULK AT MOST 1048576: true; the input reads as it did. -/
def moveLastUptoRow : OpenClaim := { program := "ytilonmpcifohiaa", sum := "7e8c547fa31bd87833e1329f67ea881a652eeb80fc91717fcc6e82e8d3cd3aa1", func := "stemma/stemmalaw14.MoveLast", spec := "moveLast", inPlace := ["slices.overlaps[stemma/movetree.move]"], unfollowed := true, recurses := true, plainKeys := false, apart := false, narrowed := true }
def MoveLastUptoSaid : Prop := moveLastUptoRow.holds Try.pinned (OpenSpec.upto moveLastSpec)

/-- 'stemmalaw14.MovePlays', WHERE WHAT IT READS IS OF BULK AT MOST 1048576: true; the input reads as it did. -/
def movePlaysUptoRow : OpenClaim := { program := "ytilonmpcifohiaa", sum := "7e8c547fa31bd87833e1329f67ea881a652eeb80fc91717fcc6e82e8d3cd3aa1", func := "stemma/stemmalaw14.MovePlays", spec := "movePlays", inPlace := ["slices.overlaps[stemma/movetree.move]"], unfollowed := true, recurses := true, plainKeys := false, apart := false, narrowed := true }
def MovePlaysUptoSaid : Prop := movePlaysUptoRow.holds Try.pinned (OpenSpec.upto movePlaysSpec)

/-- 'stemmalaw14.MoveOrder', WHERE WHAT IT READS IS OF BULK AT MOST 1048576: true; the input reads as it did. -/
def moveOrderUptoRow : OpenClaim := { program := "ytilonmpcifohiaa", sum := "7e8c547fa31bd87833e1329f67ea881a652eeb80fc91717fcc6e82e8d3cd3aa1", func := "stemma/stemmalaw14.MoveOrder", spec := "moveOrder", inPlace := ["slices.overlaps[stemma/movetree.move]"], unfollowed := true, recurses := true, plainKeys := false, apart := false, narrowed := true }
def MoveOrderUptoSaid : Prop := moveOrderUptoRow.holds Try.pinned (OpenSpec.upto moveOrderSpec)

/-- 'stemmalaw14.MoveRings', WHERE WHAT IT READS IS OF BULK AT MOST 1048576: true; the input reads as it did. -/
def moveRingsUptoRow : OpenClaim := { program := "ytilonmpcifohiaa", sum := "7e8c547fa31bd87833e1329f67ea881a652eeb80fc91717fcc6e82e8d3cd3aa1", func := "stemma/stemmalaw14.MoveRings", spec := "moveRings", inPlace := ["slices.overlaps[stemma/movetree.move]"], unfollowed := true, recurses := true, plainKeys := false, apart := false, narrowed := true }
def MoveRingsUptoSaid : Prop := moveRingsUptoRow.holds Try.pinned (OpenSpec.upto moveRingsSpec)

/-- 'stemmalaw14.MoveNil', WHERE WHAT IT READS IS OF BULK AT MOST 1048576: true; the input reads as it did. -/
def moveNilUptoRow : OpenClaim := { program := "ytilonmpcifohiaa", sum := "7e8c547fa31bd87833e1329f67ea881a652eeb80fc91717fcc6e82e8d3cd3aa1", func := "stemma/stemmalaw14.MoveNil", spec := "moveNil", inPlace := ["slices.overlaps[stemma/movetree.move]"], unfollowed := true, recurses := true, plainKeys := false, apart := false, narrowed := true }
def MoveNilUptoSaid : Prop := moveNilUptoRow.holds Try.pinned (OpenSpec.upto moveNilSpec)

/-- 'stemmalaw14.MoveKids', WHERE WHAT IT READS IS OF BULK AT MOST 1048576: true; the input reads as it did. -/
def moveKidsUptoRow : OpenClaim := { program := "ytilonmpcifohiaa", sum := "7e8c547fa31bd87833e1329f67ea881a652eeb80fc91717fcc6e82e8d3cd3aa1", func := "stemma/stemmalaw14.MoveKids", spec := "moveKids", inPlace := ["slices.overlaps[stemma/movetree.move]"], unfollowed := true, recurses := true, plainKeys := false, apart := false, narrowed := true }
def MoveKidsUptoSaid : Prop := moveKidsUptoRow.holds Try.pinned (OpenSpec.upto moveKidsSpec)

end Rows
end Go.Proofs.Ytilonmpcifohiaa
