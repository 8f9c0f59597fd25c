/-
  No cell of these rows narrows 'for every input' (looked for: loops, veiled, ifaces, maps, wideKeys, modest, calm, conditions, laid).
  DERIVED. THE GIVEN ROWS OF THIS SEAT. 8 by the template 'for every input the law returns true; each argument reads behind the call as it read before'; 0 by the template 'total and deterministic' (their statements: YtlfmkoapddihcaaTotals.lean).
  GIVEN WITH THE SEED: the statements are not yours to turn. If you find one false, say at which input.
  Laid BY PROGRAM, IN A SANDBOX (cutbox-rows.mjs): the forced cells as the released guide's own fill.sh prints them over the translation e14b1e8ce0d9f443… (all of the seat's roots in one cut). By AI agents, Wed Nov 11 2026. No macro, syntax, notation, axiom, sorry.
-/
import Derived.Test.YtlfmkoapddihcaaChecked
import GoSem.Claim
import GoSem.ClaimJoined
import GoSem.ClaimMapViews
import Derived.JoinedTies
import Derived.KernelRfl
namespace Go.Proofs.Ytlfmkoapddihcaa
/- THE CELL 'sum', in the pinned program and in every row, IS THE sha256 OF THE DUMP (.gsa) THAT YtlfmkoapddihcaaProg.lean LOADS. Nothing in Lean hashes anything: it is a label: what it is worth is what the hold of that sum in a sandbox is worth. -/
noncomputable def Try.pinned : Pinned := { name := "ytlfmkoapddihcaa", sum := "e14b1e8ce0d9f44330a4465579dc5dcfe2722729d0448bd3352b0525600acc96", checked := Try.checked }
namespace Rows
def none {H : Type} : Left H := { results := [], args := [] }

/-- 'stemmalaw17.MarksStyle': WHATEVER THE INPUT: true; the input reads as it did. -/
def marksStyleSpec : ChangeSpec := { name := "marksStyle", fn := fun _ => fun
  | [d1, d2] => { results := [.lit (.bool true)], args := [d1, d2] }
  | _ => none }
def marksStyleRow : OpenClaim := { program := "ytlfmkoapddihcaa", sum := "e14b1e8ce0d9f44330a4465579dc5dcfe2722729d0448bd3352b0525600acc96", func := "stemma/stemmalaw17.MarksStyle", spec := "marksStyle", unfollowed := true, recurses := true, plainKeys := false, apart := false }
def MarksStyleSaid : Prop := marksStyleRow.holds Try.pinned (OpenSpec.ofChange marksStyleSpec)

/-- ITS FALSE NEIGHBOUR: 'it returns false'. Refute it at one input. -/
def marksStyleWrong : ChangeSpec := { name := "marksStyle", fn := fun _ => fun
  | [d1, d2] => { results := [.lit (.bool false)], args := [d1, d2] }
  | _ => none }
def MarksStyleWrongFalsely : Prop := marksStyleRow.holds Try.pinned (OpenSpec.ofChange marksStyleWrong)

/-- 'stemmalaw17.MarksOrder': WHATEVER THE INPUT: true; the input reads as it did. -/
def marksOrderSpec : ChangeSpec := { name := "marksOrder", fn := fun _ => fun
  | [d1, d2, d3] => { results := [.lit (.bool true)], args := [d1, d2, d3] }
  | _ => none }
def marksOrderRow : OpenClaim := { program := "ytlfmkoapddihcaa", sum := "e14b1e8ce0d9f44330a4465579dc5dcfe2722729d0448bd3352b0525600acc96", func := "stemma/stemmalaw17.MarksOrder", spec := "marksOrder", unfollowed := true, recurses := true, plainKeys := false, apart := false }
def MarksOrderSaid : Prop := marksOrderRow.holds Try.pinned (OpenSpec.ofChange marksOrderSpec)

/-- ITS FALSE NEIGHBOUR: 'it returns false'. Refute it at one input. -/
def marksOrderWrong : ChangeSpec := { name := "marksOrder", fn := fun _ => fun
  | [d1, d2, d3] => { results := [.lit (.bool false)], args := [d1, d2, d3] }
  | _ => none }
def MarksOrderWrongFalsely : Prop := marksOrderRow.holds Try.pinned (OpenSpec.ofChange marksOrderWrong)

/-- 'stemmalaw17.MarksAnchors': WHATEVER THE INPUT: true; the input reads as it did. -/
def marksAnchorsSpec : ChangeSpec := { name := "marksAnchors", fn := fun _ => fun
  | [d1, d2] => { results := [.lit (.bool true)], args := [d1, d2] }
  | _ => none }
def marksAnchorsRow : OpenClaim := { program := "ytlfmkoapddihcaa", sum := "e14b1e8ce0d9f44330a4465579dc5dcfe2722729d0448bd3352b0525600acc96", func := "stemma/stemmalaw17.MarksAnchors", spec := "marksAnchors", unfollowed := true, recurses := true, plainKeys := false, apart := false }
def MarksAnchorsSaid : Prop := marksAnchorsRow.holds Try.pinned (OpenSpec.ofChange marksAnchorsSpec)

/-- ITS FALSE NEIGHBOUR: 'it returns false'. Refute it at one input. -/
def marksAnchorsWrong : ChangeSpec := { name := "marksAnchors", fn := fun _ => fun
  | [d1, d2] => { results := [.lit (.bool false)], args := [d1, d2] }
  | _ => none }
def MarksAnchorsWrongFalsely : Prop := marksAnchorsRow.holds Try.pinned (OpenSpec.ofChange marksAnchorsWrong)

/-- 'stemmalaw17.MarksJust': WHATEVER THE INPUT: true; the input reads as it did. -/
def marksJustSpec : ChangeSpec := { name := "marksJust", fn := fun _ => fun
  | [d1, d2, d3] => { results := [.lit (.bool true)], args := [d1, d2, d3] }
  | _ => none }
def marksJustRow : OpenClaim := { program := "ytlfmkoapddihcaa", sum := "e14b1e8ce0d9f44330a4465579dc5dcfe2722729d0448bd3352b0525600acc96", func := "stemma/stemmalaw17.MarksJust", spec := "marksJust", unfollowed := true, recurses := true, plainKeys := false, apart := false }
def MarksJustSaid : Prop := marksJustRow.holds Try.pinned (OpenSpec.ofChange marksJustSpec)

/-- ITS FALSE NEIGHBOUR: 'it returns false'. Refute it at one input. -/
def marksJustWrong : ChangeSpec := { name := "marksJust", fn := fun _ => fun
  | [d1, d2, d3] => { results := [.lit (.bool false)], args := [d1, d2, d3] }
  | _ => none }
def MarksJustWrongFalsely : Prop := marksJustRow.holds Try.pinned (OpenSpec.ofChange marksJustWrong)

/-- 'stemmalaw17.MarksGrow': WHATEVER THE INPUT: true; the input reads as it did. -/
def marksGrowSpec : ChangeSpec := { name := "marksGrow", fn := fun _ => fun
  | [d1, d2] => { results := [.lit (.bool true)], args := [d1, d2] }
  | _ => none }
def marksGrowRow : OpenClaim := { program := "ytlfmkoapddihcaa", sum := "e14b1e8ce0d9f44330a4465579dc5dcfe2722729d0448bd3352b0525600acc96", func := "stemma/stemmalaw17.MarksGrow", spec := "marksGrow", unfollowed := true, recurses := true, plainKeys := false, apart := false }
def MarksGrowSaid : Prop := marksGrowRow.holds Try.pinned (OpenSpec.ofChange marksGrowSpec)

/-- ITS FALSE NEIGHBOUR: 'it returns false'. Refute it at one input. -/
def marksGrowWrong : ChangeSpec := { name := "marksGrow", fn := fun _ => fun
  | [d1, d2] => { results := [.lit (.bool false)], args := [d1, d2] }
  | _ => none }
def MarksGrowWrongFalsely : Prop := marksGrowRow.holds Try.pinned (OpenSpec.ofChange marksGrowWrong)

/-- 'stemmalaw17.MarksClear': WHATEVER THE INPUT: true; the input reads as it did. -/
def marksClearSpec : ChangeSpec := { name := "marksClear", fn := fun _ => fun
  | [d1, d2, d3] => { results := [.lit (.bool true)], args := [d1, d2, d3] }
  | _ => none }
def marksClearRow : OpenClaim := { program := "ytlfmkoapddihcaa", sum := "e14b1e8ce0d9f44330a4465579dc5dcfe2722729d0448bd3352b0525600acc96", func := "stemma/stemmalaw17.MarksClear", spec := "marksClear", unfollowed := true, recurses := true, plainKeys := false, apart := false }
def MarksClearSaid : Prop := marksClearRow.holds Try.pinned (OpenSpec.ofChange marksClearSpec)

/-- ITS FALSE NEIGHBOUR: 'it returns false'. Refute it at one input. -/
def marksClearWrong : ChangeSpec := { name := "marksClear", fn := fun _ => fun
  | [d1, d2, d3] => { results := [.lit (.bool false)], args := [d1, d2, d3] }
  | _ => none }
def MarksClearWrongFalsely : Prop := marksClearRow.holds Try.pinned (OpenSpec.ofChange marksClearWrong)

/-- 'stemmalaw17.MarksPieces': WHATEVER THE INPUT: true; the input reads as it did. -/
def marksPiecesSpec : ChangeSpec := { name := "marksPieces", fn := fun _ => fun
  | [d1, d2, d3] => { results := [.lit (.bool true)], args := [d1, d2, d3] }
  | _ => none }
def marksPiecesRow : OpenClaim := { program := "ytlfmkoapddihcaa", sum := "e14b1e8ce0d9f44330a4465579dc5dcfe2722729d0448bd3352b0525600acc96", func := "stemma/stemmalaw17.MarksPieces", spec := "marksPieces", unfollowed := true, recurses := true, plainKeys := false, apart := false }
def MarksPiecesSaid : Prop := marksPiecesRow.holds Try.pinned (OpenSpec.ofChange marksPiecesSpec)

/-- ITS FALSE NEIGHBOUR: 'it returns false'. Refute it at one input. -/
def marksPiecesWrong : ChangeSpec := { name := "marksPieces", fn := fun _ => fun
  | [d1, d2, d3] => { results := [.lit (.bool false)], args := [d1, d2, d3] }
  | _ => none }
def MarksPiecesWrongFalsely : Prop := marksPiecesRow.holds Try.pinned (OpenSpec.ofChange marksPiecesWrong)

/-- 'stemmalaw17.MarksText': WHATEVER THE INPUT: true; the input reads as it did. -/
def marksTextSpec : ChangeSpec := { name := "marksText", fn := fun _ => fun
  | [d1, d2, d3] => { results := [.lit (.bool true)], args := [d1, d2, d3] }
  | _ => none }
def marksTextRow : OpenClaim := { program := "ytlfmkoapddihcaa", sum := "e14b1e8ce0d9f44330a4465579dc5dcfe2722729d0448bd3352b0525600acc96", func := "stemma/stemmalaw17.MarksText", spec := "marksText", unfollowed := true, recurses := true, plainKeys := false, apart := false }
def MarksTextSaid : Prop := marksTextRow.holds Try.pinned (OpenSpec.ofChange marksTextSpec)

/-- ITS FALSE NEIGHBOUR: 'it returns false'. Refute it at one input. -/
def marksTextWrong : ChangeSpec := { name := "marksText", fn := fun _ => fun
  | [d1, d2, d3] => { results := [.lit (.bool false)], args := [d1, d2, d3] }
  | _ => none }
def MarksTextWrongFalsely : Prop := marksTextRow.holds Try.pinned (OpenSpec.ofChange marksTextWrong)

/- THE SECOND FORM. 'bulk': how many values and letters a reading holds, each counted each time it is reached (what is shared counts as often as it is met; a slice's spare places count too). A statement '..UptoSaid' is the law's where the arguments, and the package variables that the reading takes, are together of bulk at most 1048576: NARROWER than '..Said'. Prove '..Said' where nothing that the law and all that it calls make is longer than what came in: it says more and counts as full. Else prove '..UptoSaid'. A law counts once. -/
mutual
def uptoBulk {H : Type} : DataW H → Nat
  | .lit (.string bytes) => bytes.length + 1
  | .lit _ => 1
  | .nil => 1
  | .ptr d => uptoBulk d + 1
  | .slice elems spare => uptoBulkAll elems + uptoBulkAll spare + 1
  | .agg parts => uptoBulkAll parts + 1
  | .iface _ d => uptoBulk d + 1
  | .map entries => uptoBulkEntries entries + 1
  | .held _ => 1
def uptoBulkAll {H : Type} : List (DataW H) → Nat
  | [] => 0
  | d :: r => uptoBulk d + uptoBulkAll r
def uptoBulkEntries {H : Type} : List (Lit × DataW H) → Nat
  | [] => 0
  | x :: r => uptoBulkEntry x + uptoBulkEntries r
def uptoBulkEntry {H : Type} : Lit × DataW H → Nat
  | (.string bytes, d) => bytes.length + uptoBulk d + 1
  | (_, d) => uptoBulk d + 1
 end
def uptoSmall : (H : Type) → List (DataW H) → Bool := fun _ ds => decide (uptoBulkAll ds ≤ 1048576)
def OpenSpec.upto (s : _root_.Go.ChangeSpec) : _root_.Go.OpenSpec := { _root_.Go.OpenSpec.ofChange s with cond := some uptoSmall }

/-- 'stemmalaw17.MarksStyle', WHERE WHAT IT READS IS OF BULK AT MOST 1048576: true; the input reads as it did. -/
def marksStyleUptoRow : OpenClaim := { program := "ytlfmkoapddihcaa", sum := "e14b1e8ce0d9f44330a4465579dc5dcfe2722729d0448bd3352b0525600acc96", func := "stemma/stemmalaw17.MarksStyle", spec := "marksStyle", unfollowed := true, recurses := true, plainKeys := false, apart := false, narrowed := true }
def MarksStyleUptoSaid : Prop := marksStyleUptoRow.holds Try.pinned (OpenSpec.upto marksStyleSpec)

/-- 'stemmalaw17.MarksOrder', WHERE WHAT IT READS IS OF BULK AT MOST 1048576: true; the input reads as it did. -/
def marksOrderUptoRow : OpenClaim := { program := "ytlfmkoapddihcaa", sum := "e14b1e8ce0d9f44330a4465579dc5dcfe2722729d0448bd3352b0525600acc96", func := "stemma/stemmalaw17.MarksOrder", spec := "marksOrder", unfollowed := true, recurses := true, plainKeys := false, apart := false, narrowed := true }
def MarksOrderUptoSaid : Prop := marksOrderUptoRow.holds Try.pinned (OpenSpec.upto marksOrderSpec)

/-- 'stemmalaw17.MarksAnchors', WHERE WHAT IT READS IS OF BULK AT MOST 1048576: true; the input reads as it did. -/
def marksAnchorsUptoRow : OpenClaim := { program := "ytlfmkoapddihcaa", sum := "e14b1e8ce0d9f44330a4465579dc5dcfe2722729d0448bd3352b0525600acc96", func := "stemma/stemmalaw17.MarksAnchors", spec := "marksAnchors", unfollowed := true, recurses := true, plainKeys := false, apart := false, narrowed := true }
def MarksAnchorsUptoSaid : Prop := marksAnchorsUptoRow.holds Try.pinned (OpenSpec.upto marksAnchorsSpec)

/-- 'stemmalaw17.MarksJust', WHERE WHAT IT READS IS OF BULK AT MOST 1048576: true; the input reads as it did. -/
def marksJustUptoRow : OpenClaim := { program := "ytlfmkoapddihcaa", sum := "e14b1e8ce0d9f44330a4465579dc5dcfe2722729d0448bd3352b0525600acc96", func := "stemma/stemmalaw17.MarksJust", spec := "marksJust", unfollowed := true, recurses := true, plainKeys := false, apart := false, narrowed := true }
def MarksJustUptoSaid : Prop := marksJustUptoRow.holds Try.pinned (OpenSpec.upto marksJustSpec)

/-- 'stemmalaw17.MarksGrow', WHERE WHAT IT READS IS OF BULK AT MOST 1048576: true; the input reads as it did. -/
def marksGrowUptoRow : OpenClaim := { program := "ytlfmkoapddihcaa", sum := "e14b1e8ce0d9f44330a4465579dc5dcfe2722729d0448bd3352b0525600acc96", func := "stemma/stemmalaw17.MarksGrow", spec := "marksGrow", unfollowed := true, recurses := true, plainKeys := false, apart := false, narrowed := true }
def MarksGrowUptoSaid : Prop := marksGrowUptoRow.holds Try.pinned (OpenSpec.upto marksGrowSpec)

/-- 'stemmalaw17.MarksClear', WHERE WHAT IT READS IS OF BULK AT MOST 1048576: true; the input reads as it did. -/
def marksClearUptoRow : OpenClaim := { program := "ytlfmkoapddihcaa", sum := "e14b1e8ce0d9f44330a4465579dc5dcfe2722729d0448bd3352b0525600acc96", func := "stemma/stemmalaw17.MarksClear", spec := "marksClear", unfollowed := true, recurses := true, plainKeys := false, apart := false, narrowed := true }
def MarksClearUptoSaid : Prop := marksClearUptoRow.holds Try.pinned (OpenSpec.upto marksClearSpec)

/-- 'stemmalaw17.MarksPieces', WHERE WHAT IT READS IS OF BULK AT MOST 1048576: true; the input reads as it did. -/
def marksPiecesUptoRow : OpenClaim := { program := "ytlfmkoapddihcaa", sum := "e14b1e8ce0d9f44330a4465579dc5dcfe2722729d0448bd3352b0525600acc96", func := "stemma/stemmalaw17.MarksPieces", spec := "marksPieces", unfollowed := true, recurses := true, plainKeys := false, apart := false, narrowed := true }
def MarksPiecesUptoSaid : Prop := marksPiecesUptoRow.holds Try.pinned (OpenSpec.upto marksPiecesSpec)

/-- 'stemmalaw17.MarksText', WHERE WHAT IT READS IS OF BULK AT MOST 1048576: true; the input reads as it did. -/
def marksTextUptoRow : OpenClaim := { program := "ytlfmkoapddihcaa", sum := "e14b1e8ce0d9f44330a4465579dc5dcfe2722729d0448bd3352b0525600acc96", func := "stemma/stemmalaw17.MarksText", spec := "marksText", unfollowed := true, recurses := true, plainKeys := false, apart := false, narrowed := true }
def MarksTextUptoSaid : Prop := marksTextUptoRow.holds Try.pinned (OpenSpec.upto marksTextSpec)

end Rows
end Go.Proofs.Ytlfmkoapddihcaa
