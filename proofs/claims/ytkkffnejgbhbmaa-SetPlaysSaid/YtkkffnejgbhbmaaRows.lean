/-
  No cell of these rows narrows 'for every input' (looked for: loops, veiled, ifaces, maps, wideKeys, modest, calm, conditions, laid).
  DERIVED. THE GIVEN ROWS OF THIS SEAT. 4 by the template 'for every input the law returns true; each argument reads behind the call as it read before'; 0 by the template 'total and deterministic' (their statements: YtkkffnejgbhbmaaTotals.lean).
  GIVEN WITH THE SEED: the statements are not yours to turn. If you find one false, say at which input.
  Laid BY PROGRAM, IN A SANDBOX (cutbox-rows.mjs): the forced cells as the released guide's own fill.sh prints them over the translation a5e9dc0ab372f6fa… (all of the seat's roots in one cut). By AI agents, Wed Nov 11 2026. No macro, syntax, notation, axiom, sorry.
-/
import Derived.Test.YtkkffnejgbhbmaaChecked
import GoSem.Claim
import GoSem.ClaimJoined
import GoSem.ClaimMapViews
import Derived.JoinedTies
import Derived.KernelRfl
namespace Go.Proofs.Ytkkffnejgbhbmaa
/- THE CELL 'sum', in the pinned program and in every row, IS THE sha256 OF THE DUMP (.gsa) THAT YtkkffnejgbhbmaaProg.lean LOADS. Nothing in Lean hashes anything: it is a label: what it is worth is what the hold of that sum in a sandbox is worth. -/
noncomputable def Try.pinned : Pinned := { name := "ytkkffnejgbhbmaa", sum := "a5e9dc0ab372f6fa86f1805df9cc6f5a71533fd96964ac480a07bb10b43643ff", checked := Try.checked }
namespace Rows
def none {H : Type} : Left H := { results := [], args := [] }

/-- 'stemmalaw15.SetPlays': WHATEVER THE INPUT: true; the input reads as it did. -/
def setPlaysSpec : ChangeSpec := { name := "setPlays", fn := fun _ => fun
  | [d] => { results := [.lit (.bool true)], args := [d] }
  | _ => none }
def setPlaysRow : OpenClaim := { program := "ytkkffnejgbhbmaa", sum := "a5e9dc0ab372f6fa86f1805df9cc6f5a71533fd96964ac480a07bb10b43643ff", func := "stemma/stemmalaw15.SetPlays", spec := "setPlays", unfollowed := true, recurses := true, plainKeys := false, apart := false }
def SetPlaysSaid : Prop := setPlaysRow.holds Try.pinned (OpenSpec.ofChange setPlaysSpec)

/-- ITS FALSE NEIGHBOUR: 'it returns false'. Refute it at one input. -/
def setPlaysWrong : ChangeSpec := { name := "setPlays", fn := fun _ => fun
  | [d] => { results := [.lit (.bool false)], args := [d] }
  | _ => none }
def SetPlaysWrongFalsely : Prop := setPlaysRow.holds Try.pinned (OpenSpec.ofChange setPlaysWrong)

/-- 'stemmalaw15.SetLast': WHATEVER THE INPUT: true; the input reads as it did. -/
def setLastSpec : ChangeSpec := { name := "setLast", fn := fun _ => fun
  | [d1, d2] => { results := [.lit (.bool true)], args := [d1, d2] }
  | _ => none }
def setLastRow : OpenClaim := { program := "ytkkffnejgbhbmaa", sum := "a5e9dc0ab372f6fa86f1805df9cc6f5a71533fd96964ac480a07bb10b43643ff", func := "stemma/stemmalaw15.SetLast", spec := "setLast", unfollowed := true, recurses := true, plainKeys := false, apart := false }
def SetLastSaid : Prop := setLastRow.holds Try.pinned (OpenSpec.ofChange setLastSpec)

/-- ITS FALSE NEIGHBOUR: 'it returns false'. Refute it at one input. -/
def setLastWrong : ChangeSpec := { name := "setLast", fn := fun _ => fun
  | [d1, d2] => { results := [.lit (.bool false)], args := [d1, d2] }
  | _ => none }
def SetLastWrongFalsely : Prop := setLastRow.holds Try.pinned (OpenSpec.ofChange setLastWrong)

/-- 'stemmalaw15.SetNil': WHATEVER THE INPUT: true; the input reads as it did. -/
def setNilSpec : ChangeSpec := { name := "setNil", fn := fun _ => fun
  | [d] => { results := [.lit (.bool true)], args := [d] }
  | _ => none }
def setNilRow : OpenClaim := { program := "ytkkffnejgbhbmaa", sum := "a5e9dc0ab372f6fa86f1805df9cc6f5a71533fd96964ac480a07bb10b43643ff", func := "stemma/stemmalaw15.SetNil", spec := "setNil", unfollowed := true, recurses := true, plainKeys := false, apart := false }
def SetNilSaid : Prop := setNilRow.holds Try.pinned (OpenSpec.ofChange setNilSpec)

/-- ITS FALSE NEIGHBOUR: 'it returns false'. Refute it at one input. -/
def setNilWrong : ChangeSpec := { name := "setNil", fn := fun _ => fun
  | [d] => { results := [.lit (.bool false)], args := [d] }
  | _ => none }
def SetNilWrongFalsely : Prop := setNilRow.holds Try.pinned (OpenSpec.ofChange setNilWrong)

/-- 'stemmalaw15.SetApart': WHATEVER THE INPUT: true; the input reads as it did. -/
def setApartSpec : ChangeSpec := { name := "setApart", fn := fun _ => fun
  | [d1, d2] => { results := [.lit (.bool true)], args := [d1, d2] }
  | _ => none }
def setApartRow : OpenClaim := { program := "ytkkffnejgbhbmaa", sum := "a5e9dc0ab372f6fa86f1805df9cc6f5a71533fd96964ac480a07bb10b43643ff", func := "stemma/stemmalaw15.SetApart", spec := "setApart", unfollowed := true, recurses := true, plainKeys := false, apart := false }
def SetApartSaid : Prop := setApartRow.holds Try.pinned (OpenSpec.ofChange setApartSpec)

/-- ITS FALSE NEIGHBOUR: 'it returns false'. Refute it at one input. -/
def setApartWrong : ChangeSpec := { name := "setApart", fn := fun _ => fun
  | [d1, d2] => { results := [.lit (.bool false)], args := [d1, d2] }
  | _ => none }
def SetApartWrongFalsely : Prop := setApartRow.holds Try.pinned (OpenSpec.ofChange setApartWrong)

/- THE SECOND FORM. 'bulk': how many values and letters a reading holds, each counted each time it is reached (what is shared counts as often as it is met; a slice's spare places count too). A statement '..UptoSaid' is the law's where the arguments, and the package variables that the reading takes, are together of bulk at most 1048576: NARROWER than '..Said'. Prove '..Said' where nothing that the law and all that it calls make is longer than what came in: it says more and counts as full. Else prove '..UptoSaid'. A law counts once. -/
mutual
def uptoBulk {H : Type} : DataW H → Nat
  | .lit (.string bytes) => bytes.length + 1
  | .lit _ => 1
  | .nil => 1
  | .ptr d => uptoBulk d + 1
  | .slice elems spare => uptoBulkAll elems + uptoBulkAll spare + 1
  | .agg parts => uptoBulkAll parts + 1
  | .iface _ d => uptoBulk d + 1
  | .map entries => uptoBulkEntries entries + 1
  | .held _ => 1
def uptoBulkAll {H : Type} : List (DataW H) → Nat
  | [] => 0
  | d :: r => uptoBulk d + uptoBulkAll r
def uptoBulkEntries {H : Type} : List (Lit × DataW H) → Nat
  | [] => 0
  | x :: r => uptoBulkEntry x + uptoBulkEntries r
def uptoBulkEntry {H : Type} : Lit × DataW H → Nat
  | (.string bytes, d) => bytes.length + uptoBulk d + 1
  | (_, d) => uptoBulk d + 1
 end
def uptoSmall : (H : Type) → List (DataW H) → Bool := fun _ ds => decide (uptoBulkAll ds ≤ 1048576)
def OpenSpec.upto (s : _root_.Go.ChangeSpec) : _root_.Go.OpenSpec := { _root_.Go.OpenSpec.ofChange s with cond := some uptoSmall }

/-- 'stemmalaw15.SetPlays', WHERE WHAT IT READS IS OF BULK AT MOST 1048576: true; the input reads as it did. -/
def setPlaysUptoRow : OpenClaim := { program := "ytkkffnejgbhbmaa", sum := "a5e9dc0ab372f6fa86f1805df9cc6f5a71533fd96964ac480a07bb10b43643ff", func := "stemma/stemmalaw15.SetPlays", spec := "setPlays", unfollowed := true, recurses := true, plainKeys := false, apart := false, narrowed := true }
def SetPlaysUptoSaid : Prop := setPlaysUptoRow.holds Try.pinned (OpenSpec.upto setPlaysSpec)

/-- 'stemmalaw15.SetLast', WHERE WHAT IT READS IS OF BULK AT MOST 1048576: true; the input reads as it did. -/
def setLastUptoRow : OpenClaim := { program := "ytkkffnejgbhbmaa", sum := "a5e9dc0ab372f6fa86f1805df9cc6f5a71533fd96964ac480a07bb10b43643ff", func := "stemma/stemmalaw15.SetLast", spec := "setLast", unfollowed := true, recurses := true, plainKeys := false, apart := false, narrowed := true }
def SetLastUptoSaid : Prop := setLastUptoRow.holds Try.pinned (OpenSpec.upto setLastSpec)

/-- 'stemmalaw15.SetNil', WHERE WHAT IT READS IS OF BULK AT MOST 1048576: true; the input reads as it did. -/
def setNilUptoRow : OpenClaim := { program := "ytkkffnejgbhbmaa", sum := "a5e9dc0ab372f6fa86f1805df9cc6f5a71533fd96964ac480a07bb10b43643ff", func := "stemma/stemmalaw15.SetNil", spec := "setNil", unfollowed := true, recurses := true, plainKeys := false, apart := false, narrowed := true }
def SetNilUptoSaid : Prop := setNilUptoRow.holds Try.pinned (OpenSpec.upto setNilSpec)

/-- 'stemmalaw15.SetApart', WHERE WHAT IT READS IS OF BULK AT MOST 1048576: true; the input reads as it did. -/
def setApartUptoRow : OpenClaim := { program := "ytkkffnejgbhbmaa", sum := "a5e9dc0ab372f6fa86f1805df9cc6f5a71533fd96964ac480a07bb10b43643ff", func := "stemma/stemmalaw15.SetApart", spec := "setApart", unfollowed := true, recurses := true, plainKeys := false, apart := false, narrowed := true }
def SetApartUptoSaid : Prop := setApartUptoRow.holds Try.pinned (OpenSpec.upto setApartSpec)

end Rows
end Go.Proofs.Ytkkffnejgbhbmaa
