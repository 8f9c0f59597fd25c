/-
  No cell of these rows narrows 'for every input' (looked for: loops, veiled, ifaces, maps, wideKeys, modest, calm, conditions, laid).
  DERIVED. THE GIVEN ROWS OF THIS SEAT. 5 by the template 'for every input the law returns true; each argument reads behind the call as it read before'; 0 by the template 'total and deterministic' (their statements: YtmlaojfhmaamcaaTotals.lean).
  GIVEN WITH THE SEED: the statements are not yours to turn. If you find one false, say at which input.
  Laid BY PROGRAM, IN A SANDBOX (cutbox-rows.mjs): the forced cells as the released guide's own fill.sh prints them over the translation 7f8fd50967356a66… (all of the seat's roots in one cut). By AI agents, Wed Nov 11 2026. No macro, syntax, notation, axiom, sorry.
-/
import Derived.Test.YtmlaojfhmaamcaaChecked
import GoSem.Claim
import GoSem.ClaimJoined
import GoSem.ClaimMapViews
import Derived.JoinedTies
import Derived.KernelRfl
namespace Go.Proofs.Ytmlaojfhmaamcaa
/- THE CELL 'sum', in the pinned program and in every row, IS THE sha256 OF THE DUMP (.gsa) THAT YtmlaojfhmaamcaaProg.lean LOADS. Nothing in Lean hashes anything: it is a label: what it is worth is what the hold of that sum in a sandbox is worth. -/
noncomputable def Try.pinned : Pinned := { name := "ytmlaojfhmaamcaa", sum := "7f8fd50967356a665dcc3c36495063b6f0596fb529ab0c5f06b18cd3eb84c8ae", checked := Try.checked }
namespace Rows
def none {H : Type} : Left H := { results := [], args := [] }

/-- 'stemmalaw06.FilesApart': WHATEVER THE INPUT: true; the input reads as it did. -/
def filesApartSpec : ChangeSpec := { name := "filesApart", fn := fun _ => fun
  | [d1, d2] => { results := [.lit (.bool true)], args := [d1, d2] }
  | _ => none }
def filesApartRow : OpenClaim := { program := "ytmlaojfhmaamcaa", sum := "7f8fd50967356a665dcc3c36495063b6f0596fb529ab0c5f06b18cd3eb84c8ae", func := "stemma/stemmalaw06.FilesApart", spec := "filesApart", unfollowed := true, recurses := true, apart := false }
def FilesApartSaid : Prop := filesApartRow.holds Try.pinned (OpenSpec.ofChange filesApartSpec)

/-- ITS FALSE NEIGHBOUR: 'it returns false'. Refute it at one input. -/
def filesApartWrong : ChangeSpec := { name := "filesApart", fn := fun _ => fun
  | [d1, d2] => { results := [.lit (.bool false)], args := [d1, d2] }
  | _ => none }
def FilesApartWrongFalsely : Prop := filesApartRow.holds Try.pinned (OpenSpec.ofChange filesApartWrong)

/-- 'stemmalaw06.FilesSafe': WHATEVER THE INPUT: true; the input reads as it did. -/
def filesSafeSpec : ChangeSpec := { name := "filesSafe", fn := fun _ => fun
  | [d1, d2, d3] => { results := [.lit (.bool true)], args := [d1, d2, d3] }
  | _ => none }
def filesSafeRow : OpenClaim := { program := "ytmlaojfhmaamcaa", sum := "7f8fd50967356a665dcc3c36495063b6f0596fb529ab0c5f06b18cd3eb84c8ae", func := "stemma/stemmalaw06.FilesSafe", spec := "filesSafe", inPlace := ["maps.clone"], unfollowed := true, recurses := true, apart := false }
def FilesSafeSaid : Prop := filesSafeRow.holds Try.pinned (OpenSpec.ofChange filesSafeSpec)

/-- ITS FALSE NEIGHBOUR: 'it returns false'. Refute it at one input. -/
def filesSafeWrong : ChangeSpec := { name := "filesSafe", fn := fun _ => fun
  | [d1, d2, d3] => { results := [.lit (.bool false)], args := [d1, d2, d3] }
  | _ => none }
def FilesSafeWrongFalsely : Prop := filesSafeRow.holds Try.pinned (OpenSpec.ofChange filesSafeWrong)

/-- 'stemmalaw06.FilesPlays': WHATEVER THE INPUT: true; the input reads as it did. -/
def filesPlaysSpec : ChangeSpec := { name := "filesPlays", fn := fun _ => fun
  | [d] => { results := [.lit (.bool true)], args := [d] }
  | _ => none }
def filesPlaysRow : OpenClaim := { program := "ytmlaojfhmaamcaa", sum := "7f8fd50967356a665dcc3c36495063b6f0596fb529ab0c5f06b18cd3eb84c8ae", func := "stemma/stemmalaw06.FilesPlays", spec := "filesPlays", inPlace := ["maps.clone"], unfollowed := true, recurses := true, apart := false }
def FilesPlaysSaid : Prop := filesPlaysRow.holds Try.pinned (OpenSpec.ofChange filesPlaysSpec)

/-- ITS FALSE NEIGHBOUR: 'it returns false'. Refute it at one input. -/
def filesPlaysWrong : ChangeSpec := { name := "filesPlays", fn := fun _ => fun
  | [d] => { results := [.lit (.bool false)], args := [d] }
  | _ => none }
def FilesPlaysWrongFalsely : Prop := filesPlaysRow.holds Try.pinned (OpenSpec.ofChange filesPlaysWrong)

/-- 'stemmalaw06.FilesLeft': WHATEVER THE INPUT: true; the input reads as it did. -/
def filesLeftSpec : ChangeSpec := { name := "filesLeft", fn := fun _ => fun
  | [d1, d2] => { results := [.lit (.bool true)], args := [d1, d2] }
  | _ => none }
def filesLeftRow : OpenClaim := { program := "ytmlaojfhmaamcaa", sum := "7f8fd50967356a665dcc3c36495063b6f0596fb529ab0c5f06b18cd3eb84c8ae", func := "stemma/stemmalaw06.FilesLeft", spec := "filesLeft", inPlace := ["maps.clone"], unfollowed := true, recurses := true, apart := false }
def FilesLeftSaid : Prop := filesLeftRow.holds Try.pinned (OpenSpec.ofChange filesLeftSpec)

/-- ITS FALSE NEIGHBOUR: 'it returns false'. Refute it at one input. -/
def filesLeftWrong : ChangeSpec := { name := "filesLeft", fn := fun _ => fun
  | [d1, d2] => { results := [.lit (.bool false)], args := [d1, d2] }
  | _ => none }
def FilesLeftWrongFalsely : Prop := filesLeftRow.holds Try.pinned (OpenSpec.ofChange filesLeftWrong)

/-- 'stemmalaw06.FilesCalm': WHATEVER THE INPUT: true; the input reads as it did. -/
def filesCalmSpec : ChangeSpec := { name := "filesCalm", fn := fun _ => fun
  | [d1, d2] => { results := [.lit (.bool true)], args := [d1, d2] }
  | _ => none }
def filesCalmRow : OpenClaim := { program := "ytmlaojfhmaamcaa", sum := "7f8fd50967356a665dcc3c36495063b6f0596fb529ab0c5f06b18cd3eb84c8ae", func := "stemma/stemmalaw06.FilesCalm", spec := "filesCalm", inPlace := ["maps.clone"], unfollowed := true, recurses := true, apart := false }
def FilesCalmSaid : Prop := filesCalmRow.holds Try.pinned (OpenSpec.ofChange filesCalmSpec)

/-- ITS FALSE NEIGHBOUR: 'it returns false'. Refute it at one input. -/
def filesCalmWrong : ChangeSpec := { name := "filesCalm", fn := fun _ => fun
  | [d1, d2] => { results := [.lit (.bool false)], args := [d1, d2] }
  | _ => none }
def FilesCalmWrongFalsely : Prop := filesCalmRow.holds Try.pinned (OpenSpec.ofChange filesCalmWrong)

/- THE SECOND FORM. 'bulk': how many values and letters a reading holds, each counted each time it is reached (what is shared counts as often as it is met; a slice's spare places count too). A statement '..UptoSaid' is the law's where the arguments, and the package variables that the reading takes, are together of bulk at most 1048576: NARROWER than '..Said'. Prove '..Said' where nothing that the law and all that it calls make is longer than what came in: it says more and counts as full. Else prove '..UptoSaid'. A law counts once. -/
mutual
def uptoBulk {H : Type} : DataW H → Nat
  | .lit (.string bytes) => bytes.length + 1
  | .lit _ => 1
  | .nil => 1
  | .ptr d => uptoBulk d + 1
  | .slice elems spare => uptoBulkAll elems + uptoBulkAll spare + 1
  | .agg parts => uptoBulkAll parts + 1
  | .iface _ d => uptoBulk d + 1
  | .map entries => uptoBulkEntries entries + 1
  | .held _ => 1
def uptoBulkAll {H : Type} : List (DataW H) → Nat
  | [] => 0
  | d :: r => uptoBulk d + uptoBulkAll r
def uptoBulkEntries {H : Type} : List (Lit × DataW H) → Nat
  | [] => 0
  | x :: r => uptoBulkEntry x + uptoBulkEntries r
def uptoBulkEntry {H : Type} : Lit × DataW H → Nat
  | (.string bytes, d) => bytes.length + uptoBulk d + 1
  | (_, d) => uptoBulk d + 1
 end
def uptoSmall : (H : Type) → List (DataW H) → Bool := fun _ ds => decide (uptoBulkAll ds ≤ 1048576)
def OpenSpec.upto (s : _root_.Go.ChangeSpec) : _root_.Go.OpenSpec := { _root_.Go.OpenSpec.ofChange s with cond := some uptoSmall }

/-- 'stemmalaw06.FilesApart', WHERE WHAT IT READS IS OF BULK AT MOST 1048576: true; the input reads as it did. -/
def filesApartUptoRow : OpenClaim := { program := "ytmlaojfhmaamcaa", sum := "7f8fd50967356a665dcc3c36495063b6f0596fb529ab0c5f06b18cd3eb84c8ae", func := "stemma/stemmalaw06.FilesApart", spec := "filesApart", unfollowed := true, recurses := true, apart := false, narrowed := true }
def FilesApartUptoSaid : Prop := filesApartUptoRow.holds Try.pinned (OpenSpec.upto filesApartSpec)

/-- 'stemmalaw06.FilesSafe', WHERE WHAT IT READS IS OF BULK AT MOST 1048576: true; the input reads as it did. -/
def filesSafeUptoRow : OpenClaim := { program := "ytmlaojfhmaamcaa", sum := "7f8fd50967356a665dcc3c36495063b6f0596fb529ab0c5f06b18cd3eb84c8ae", func := "stemma/stemmalaw06.FilesSafe", spec := "filesSafe", inPlace := ["maps.clone"], unfollowed := true, recurses := true, apart := false, narrowed := true }
def FilesSafeUptoSaid : Prop := filesSafeUptoRow.holds Try.pinned (OpenSpec.upto filesSafeSpec)

/-- 'stemmalaw06.FilesPlays', WHERE WHAT IT READS IS OF BULK AT MOST 1048576: true; the input reads as it did. -/
def filesPlaysUptoRow : OpenClaim := { program := "ytmlaojfhmaamcaa", sum := "7f8fd50967356a665dcc3c36495063b6f0596fb529ab0c5f06b18cd3eb84c8ae", func := "stemma/stemmalaw06.FilesPlays", spec := "filesPlays", inPlace := ["maps.clone"], unfollowed := true, recurses := true, apart := false, narrowed := true }
def FilesPlaysUptoSaid : Prop := filesPlaysUptoRow.holds Try.pinned (OpenSpec.upto filesPlaysSpec)

/-- 'stemmalaw06.FilesLeft', WHERE WHAT IT READS IS OF BULK AT MOST 1048576: true; the input reads as it did. -/
def filesLeftUptoRow : OpenClaim := { program := "ytmlaojfhmaamcaa", sum := "7f8fd50967356a665dcc3c36495063b6f0596fb529ab0c5f06b18cd3eb84c8ae", func := "stemma/stemmalaw06.FilesLeft", spec := "filesLeft", inPlace := ["maps.clone"], unfollowed := true, recurses := true, apart := false, narrowed := true }
def FilesLeftUptoSaid : Prop := filesLeftUptoRow.holds Try.pinned (OpenSpec.upto filesLeftSpec)

/-- 'stemmalaw06.FilesCalm', WHERE WHAT IT READS IS OF BULK AT MOST 1048576: true; the input reads as it did. -/
def filesCalmUptoRow : OpenClaim := { program := "ytmlaojfhmaamcaa", sum := "7f8fd50967356a665dcc3c36495063b6f0596fb529ab0c5f06b18cd3eb84c8ae", func := "stemma/stemmalaw06.FilesCalm", spec := "filesCalm", inPlace := ["maps.clone"], unfollowed := true, recurses := true, apart := false, narrowed := true }
def FilesCalmUptoSaid : Prop := filesCalmUptoRow.holds Try.pinned (OpenSpec.upto filesCalmSpec)

end Rows
end Go.Proofs.Ytmlaojfhmaamcaa
