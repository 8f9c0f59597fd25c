/-
  NARROWER THAN 'FOR EVERY INPUT', by the rows' own cells (each row's printed sentence says how): BatchDecodes: laid · GossipHears: laid · GossipBack: laid · GossipOnly: laid · GossipSays: laid · OplogReads: laid · OplogNil: laid · OplogAnew: laid · OplogPlays: laid · OplogKeeps: laid.
  DERIVED. THE GIVEN ROWS OF THIS SEAT. 10 by the template 'for every input the law returns true; each argument reads behind the call as it read before'; 0 by the template 'total and deterministic' (their statements: YtgmdimbiipemhaaGreatDoorTotals.lean).
  GIVEN WITH THE SEED: the statements are not yours to turn. If you find one false, say at which input.
  Laid BY PROGRAM, IN A SANDBOX (cutbox-rows.mjs): the forced cells as the released guide's own fill.sh prints them over the translation 9cceefd601fc49e3… (all of the seat's roots in one cut). By AI agents, Wed Nov 11 2026. No macro, syntax, notation, axiom, sorry.
-/
import Derived.Test.YtgmdimbiipemhaaGreatDoorChecked
import GoSem.PinnedTables
import GoSem.Claim
import GoSem.ClaimJoined
import GoSem.ClaimMapViews
import Derived.JoinedTies
import Derived.KernelRfl
namespace Go.Proofs.YtgmdimbiipemhaaGreatDoor
/- THE CELL 'sum', in the pinned program and in every row, IS THE sha256 OF THE DUMP (.gsa) THAT YtgmdimbiipemhaaGreatDoorProg.lean LOADS. Nothing in Lean hashes anything: it is a label: what it is worth is what the hold of that sum in a sandbox is worth. -/
noncomputable def Tryz.pinned : Pinned := { name := "ytgmdimbiipemhaagreatdoor", sum := "9cceefd601fc49e3a5db12c899bae81fd88efb607d12f9d2a2c82b24bec1d59a", checked := Tryz.checked }
namespace Rows
def none {H : Type} : Left H := { results := [], args := [] }

/- WHAT THE LISTED PACKAGE-LEVEL VARIABLES READ AS WHEN THE CALL BEGINS. Each datum BY PROGRAM (the guide's laid-datum.mjs) off the statement by which the dump's own 'gosem.cut.vars' lays the variable. In a bare row this is a premise. The card (YtgmdimbiipemhaaGreatDoorCards.lean) ties it to the program's text. -/
def laid_unicode_utf8_acceptRanges {H : Type} : DataW H := .agg [.agg [.lit (.int .u8 128), .lit (.int .u8 191)], .agg [.lit (.int .u8 160), .lit (.int .u8 191)], .agg [.lit (.int .u8 128), .lit (.int .u8 159)], .agg [.lit (.int .u8 144), .lit (.int .u8 191)], .agg [.lit (.int .u8 128), .lit (.int .u8 143)], .agg [.lit (.int .u8 0), .lit (.int .u8 0)], .agg [.lit (.int .u8 0), .lit (.int .u8 0)], .agg [.lit (.int .u8 0), .lit (.int .u8 0)], .agg [.lit (.int .u8 0), .lit (.int .u8 0)], .agg [.lit (.int .u8 0), .lit (.int .u8 0)], .agg [.lit (.int .u8 0), .lit (.int .u8 0)], .agg [.lit (.int .u8 0), .lit (.int .u8 0)], .agg [.lit (.int .u8 0), .lit (.int .u8 0)], .agg [.lit (.int .u8 0), .lit (.int .u8 0)], .agg [.lit (.int .u8 0), .lit (.int .u8 0)], .agg [.lit (.int .u8 0), .lit (.int .u8 0)]]
def laid_errors_errorType {H : Type} : DataW H := .iface "internal/reflectlite.rtype" (.agg [.ptr (.lit (.string [101, 114, 114, 111, 114]))])
/-- One of Go's own tables, pinned by name: the form's constant. -/
def laid_unicode_utf8_first : DataW Unit := Go.Pinned.utf8First
def laid_bytes_ErrTooLarge {H : Type} : DataW H := .iface "*errors.errorString" (.ptr (.agg [.lit (.string [98, 121, 116, 101, 115, 46, 66, 117, 102, 102, 101, 114, 58, 32, 116, 111, 111, 32, 108, 97, 114, 103, 101])]))

/-- 'stemmalaw08.BatchDecodes': WHATEVER THE INPUT: true; the input reads as it did. -/
def batchDecodesSpec : ChangeSpec := { name := "batchDecodes", fn := fun _ => fun
  | [d] => { results := [.lit (.bool true)], args := [d] }
  | _ => none }
def batchDecodesRow : OpenClaim := { program := "ytgmdimbiipemhaagreatdoor", sum := "9cceefd601fc49e3a5db12c899bae81fd88efb607d12f9d2a2c82b24bec1d59a", func := "stemma/stemmalaw08.BatchDecodes", spec := "batchDecodes", inPlace := ["internal/bytealg.IndexByteString", "internal/bytealg.IndexString", "internal/reflectlite.ValueOf", "(internal/reflectlite.Value).Type", "(internal/reflectlite.Value).IsNil", "internal/reflectlite.TypeOf", "(internal/reflectlite.Value).Elem", "(internal/reflectlite.Value).Set"], unfollowed := true, recurses := true, named := ["unicode/utf8.first", "unicode/utf8.acceptRanges", "errors.errorType", "internal/bytealg.MaxLen"], apart := false, laid := [("unicode/utf8.acceptRanges", laid_unicode_utf8_acceptRanges), ("errors.errorType", laid_errors_errorType), ("unicode/utf8.first", laid_unicode_utf8_first)] }
def BatchDecodesSaid : Prop := batchDecodesRow.holds Tryz.pinned (OpenSpec.ofChange batchDecodesSpec)

/-- ITS FALSE NEIGHBOUR: 'it returns false'. Refute it at one input. -/
def batchDecodesWrong : ChangeSpec := { name := "batchDecodes", fn := fun _ => fun
  | [d] => { results := [.lit (.bool false)], args := [d] }
  | _ => none }
def BatchDecodesWrongFalsely : Prop := batchDecodesRow.holds Tryz.pinned (OpenSpec.ofChange batchDecodesWrong)

/-- 'stemmalaw21.GossipHears': WHATEVER THE INPUT: true; the input reads as it did. -/
def gossipHearsSpec : ChangeSpec := { name := "gossipHears", fn := fun _ => fun
  | [d] => { results := [.lit (.bool true)], args := [d] }
  | _ => none }
def gossipHearsRow : OpenClaim := { program := "ytgmdimbiipemhaagreatdoor", sum := "9cceefd601fc49e3a5db12c899bae81fd88efb607d12f9d2a2c82b24bec1d59a", func := "stemma/stemmalaw21.GossipHears", spec := "gossipHears", inPlace := ["internal/bytealg.IndexByteString", "internal/bytealg.IndexString", "internal/reflectlite.ValueOf", "(internal/reflectlite.Value).Type", "(internal/reflectlite.Value).IsNil", "internal/reflectlite.TypeOf", "(internal/reflectlite.Value).Elem", "(internal/reflectlite.Value).Set"], unfollowed := true, recurses := true, named := ["unicode/utf8.first", "unicode/utf8.acceptRanges", "errors.errorType", "internal/bytealg.MaxLen"], apart := false, laid := [("unicode/utf8.acceptRanges", laid_unicode_utf8_acceptRanges), ("errors.errorType", laid_errors_errorType), ("unicode/utf8.first", laid_unicode_utf8_first)] }
def GossipHearsSaid : Prop := gossipHearsRow.holds Tryz.pinned (OpenSpec.ofChange gossipHearsSpec)

/-- ITS FALSE NEIGHBOUR: 'it returns false'. Refute it at one input. -/
def gossipHearsWrong : ChangeSpec := { name := "gossipHears", fn := fun _ => fun
  | [d] => { results := [.lit (.bool false)], args := [d] }
  | _ => none }
def GossipHearsWrongFalsely : Prop := gossipHearsRow.holds Tryz.pinned (OpenSpec.ofChange gossipHearsWrong)

/-- 'stemmalaw21.GossipBack': WHATEVER THE INPUT: true; the input reads as it did. -/
def gossipBackSpec : ChangeSpec := { name := "gossipBack", fn := fun _ => fun
  | [d1, d2, d3] => { results := [.lit (.bool true)], args := [d1, d2, d3] }
  | _ => none }
def gossipBackRow : OpenClaim := { program := "ytgmdimbiipemhaagreatdoor", sum := "9cceefd601fc49e3a5db12c899bae81fd88efb607d12f9d2a2c82b24bec1d59a", func := "stemma/stemmalaw21.GossipBack", spec := "gossipBack", inPlace := ["internal/bytealg.IndexByteString", "internal/bytealg.IndexString", "internal/reflectlite.ValueOf", "(internal/reflectlite.Value).Type", "(internal/reflectlite.Value).IsNil", "internal/reflectlite.TypeOf", "(internal/reflectlite.Value).Elem", "(internal/reflectlite.Value).Set"], unfollowed := true, recurses := true, named := ["unicode/utf8.first", "unicode/utf8.acceptRanges", "errors.errorType", "internal/bytealg.MaxLen"], apart := false, laid := [("unicode/utf8.acceptRanges", laid_unicode_utf8_acceptRanges), ("errors.errorType", laid_errors_errorType), ("unicode/utf8.first", laid_unicode_utf8_first)] }
def GossipBackSaid : Prop := gossipBackRow.holds Tryz.pinned (OpenSpec.ofChange gossipBackSpec)

/-- ITS FALSE NEIGHBOUR: 'it returns false'. Refute it at one input. -/
def gossipBackWrong : ChangeSpec := { name := "gossipBack", fn := fun _ => fun
  | [d1, d2, d3] => { results := [.lit (.bool false)], args := [d1, d2, d3] }
  | _ => none }
def GossipBackWrongFalsely : Prop := gossipBackRow.holds Tryz.pinned (OpenSpec.ofChange gossipBackWrong)

/-- 'stemmalaw21.GossipOnly': WHATEVER THE INPUT: true; the input reads as it did. -/
def gossipOnlySpec : ChangeSpec := { name := "gossipOnly", fn := fun _ => fun
  | [d] => { results := [.lit (.bool true)], args := [d] }
  | _ => none }
def gossipOnlyRow : OpenClaim := { program := "ytgmdimbiipemhaagreatdoor", sum := "9cceefd601fc49e3a5db12c899bae81fd88efb607d12f9d2a2c82b24bec1d59a", func := "stemma/stemmalaw21.GossipOnly", spec := "gossipOnly", inPlace := ["internal/bytealg.IndexByteString", "internal/bytealg.IndexString", "internal/reflectlite.ValueOf", "(internal/reflectlite.Value).Type", "(internal/reflectlite.Value).IsNil", "internal/reflectlite.TypeOf", "(internal/reflectlite.Value).Elem", "(internal/reflectlite.Value).Set"], unfollowed := true, recurses := true, named := ["unicode/utf8.first", "unicode/utf8.acceptRanges", "errors.errorType", "internal/bytealg.MaxLen"], apart := false, laid := [("unicode/utf8.acceptRanges", laid_unicode_utf8_acceptRanges), ("errors.errorType", laid_errors_errorType), ("unicode/utf8.first", laid_unicode_utf8_first)] }
def GossipOnlySaid : Prop := gossipOnlyRow.holds Tryz.pinned (OpenSpec.ofChange gossipOnlySpec)

/-- ITS FALSE NEIGHBOUR: 'it returns false'. Refute it at one input. -/
def gossipOnlyWrong : ChangeSpec := { name := "gossipOnly", fn := fun _ => fun
  | [d] => { results := [.lit (.bool false)], args := [d] }
  | _ => none }
def GossipOnlyWrongFalsely : Prop := gossipOnlyRow.holds Tryz.pinned (OpenSpec.ofChange gossipOnlyWrong)

/-- 'stemmalaw21.GossipSays': WHATEVER THE INPUT: true; the input reads as it did. -/
def gossipSaysSpec : ChangeSpec := { name := "gossipSays", fn := fun _ => fun
  | [d1, d2, d3] => { results := [.lit (.bool true)], args := [d1, d2, d3] }
  | _ => none }
def gossipSaysRow : OpenClaim := { program := "ytgmdimbiipemhaagreatdoor", sum := "9cceefd601fc49e3a5db12c899bae81fd88efb607d12f9d2a2c82b24bec1d59a", func := "stemma/stemmalaw21.GossipSays", spec := "gossipSays", inPlace := ["internal/bytealg.IndexByteString", "internal/bytealg.IndexString", "internal/reflectlite.ValueOf", "(internal/reflectlite.Value).Type", "(internal/reflectlite.Value).IsNil", "internal/reflectlite.TypeOf", "(internal/reflectlite.Value).Elem", "(internal/reflectlite.Value).Set"], unfollowed := true, recurses := true, named := ["unicode/utf8.first", "unicode/utf8.acceptRanges", "errors.errorType", "internal/bytealg.MaxLen"], apart := false, laid := [("unicode/utf8.acceptRanges", laid_unicode_utf8_acceptRanges), ("errors.errorType", laid_errors_errorType), ("unicode/utf8.first", laid_unicode_utf8_first)] }
def GossipSaysSaid : Prop := gossipSaysRow.holds Tryz.pinned (OpenSpec.ofChange gossipSaysSpec)

/-- ITS FALSE NEIGHBOUR: 'it returns false'. Refute it at one input. -/
def gossipSaysWrong : ChangeSpec := { name := "gossipSays", fn := fun _ => fun
  | [d1, d2, d3] => { results := [.lit (.bool false)], args := [d1, d2, d3] }
  | _ => none }
def GossipSaysWrongFalsely : Prop := gossipSaysRow.holds Tryz.pinned (OpenSpec.ofChange gossipSaysWrong)

/-- 'stemmalaw09.OplogReads': WHATEVER THE INPUT: true; the input reads as it did. -/
def oplogReadsSpec : ChangeSpec := { name := "oplogReads", fn := fun _ => fun
  | [d1, d2] => { results := [.lit (.bool true)], args := [d1, d2] }
  | _ => none }
def oplogReadsRow : OpenClaim := { program := "ytgmdimbiipemhaagreatdoor", sum := "9cceefd601fc49e3a5db12c899bae81fd88efb607d12f9d2a2c82b24bec1d59a", func := "stemma/stemmalaw09.OplogReads", spec := "oplogReads", inPlace := ["internal/reflectlite.TypeOf", "internal/bytealg.IndexByteString", "internal/bytealg.IndexString", "internal/reflectlite.ValueOf", "(internal/reflectlite.Value).Type", "(internal/reflectlite.Value).IsNil", "(internal/reflectlite.Value).Elem", "(internal/reflectlite.Value).Set", "maps.clone"], unfollowed := true, recurses := true, named := ["unicode/utf8.first", "unicode/utf8.acceptRanges", "errors.errorType", "internal/bytealg.MaxLen"], apart := false, laid := [("unicode/utf8.acceptRanges", laid_unicode_utf8_acceptRanges), ("errors.errorType", laid_errors_errorType), ("unicode/utf8.first", laid_unicode_utf8_first)] }
def OplogReadsSaid : Prop := oplogReadsRow.holds Tryz.pinned (OpenSpec.ofChange oplogReadsSpec)

/-- ITS FALSE NEIGHBOUR: 'it returns false'. Refute it at one input. -/
def oplogReadsWrong : ChangeSpec := { name := "oplogReads", fn := fun _ => fun
  | [d1, d2] => { results := [.lit (.bool false)], args := [d1, d2] }
  | _ => none }
def OplogReadsWrongFalsely : Prop := oplogReadsRow.holds Tryz.pinned (OpenSpec.ofChange oplogReadsWrong)

/-- 'stemmalaw09.OplogNil': WHATEVER THE INPUT: true; the input reads as it did. -/
def oplogNilSpec : ChangeSpec := { name := "oplogNil", fn := fun _ => fun
  | [d] => { results := [.lit (.bool true)], args := [d] }
  | _ => none }
def oplogNilRow : OpenClaim := { program := "ytgmdimbiipemhaagreatdoor", sum := "9cceefd601fc49e3a5db12c899bae81fd88efb607d12f9d2a2c82b24bec1d59a", func := "stemma/stemmalaw09.OplogNil", spec := "oplogNil", inPlace := ["internal/reflectlite.TypeOf", "internal/bytealg.IndexByteString", "internal/bytealg.IndexString", "internal/reflectlite.ValueOf", "(internal/reflectlite.Value).Type", "(internal/reflectlite.Value).IsNil", "(internal/reflectlite.Value).Elem", "(internal/reflectlite.Value).Set"], unfollowed := true, recurses := true, named := ["unicode/utf8.first", "unicode/utf8.acceptRanges", "errors.errorType", "bytes.ErrTooLarge", "internal/bytealg.MaxLen"], apart := false, laid := [("unicode/utf8.acceptRanges", laid_unicode_utf8_acceptRanges), ("errors.errorType", laid_errors_errorType), ("bytes.ErrTooLarge", laid_bytes_ErrTooLarge), ("unicode/utf8.first", laid_unicode_utf8_first)] }
def OplogNilSaid : Prop := oplogNilRow.holds Tryz.pinned (OpenSpec.ofChange oplogNilSpec)

/-- ITS FALSE NEIGHBOUR: 'it returns false'. Refute it at one input. -/
def oplogNilWrong : ChangeSpec := { name := "oplogNil", fn := fun _ => fun
  | [d] => { results := [.lit (.bool false)], args := [d] }
  | _ => none }
def OplogNilWrongFalsely : Prop := oplogNilRow.holds Tryz.pinned (OpenSpec.ofChange oplogNilWrong)

/-- 'stemmalaw09.OplogAnew': WHATEVER THE INPUT: true; the input reads as it did. -/
def oplogAnewSpec : ChangeSpec := { name := "oplogAnew", fn := fun _ => fun
  | [d] => { results := [.lit (.bool true)], args := [d] }
  | _ => none }
def oplogAnewRow : OpenClaim := { program := "ytgmdimbiipemhaagreatdoor", sum := "9cceefd601fc49e3a5db12c899bae81fd88efb607d12f9d2a2c82b24bec1d59a", func := "stemma/stemmalaw09.OplogAnew", spec := "oplogAnew", inPlace := ["internal/reflectlite.TypeOf", "internal/bytealg.IndexByteString", "internal/bytealg.IndexString", "internal/reflectlite.ValueOf", "(internal/reflectlite.Value).Type", "(internal/reflectlite.Value).IsNil", "(internal/reflectlite.Value).Elem", "(internal/reflectlite.Value).Set"], unfollowed := true, recurses := true, named := ["unicode/utf8.first", "unicode/utf8.acceptRanges", "errors.errorType", "bytes.ErrTooLarge", "internal/bytealg.MaxLen"], apart := false, laid := [("unicode/utf8.acceptRanges", laid_unicode_utf8_acceptRanges), ("errors.errorType", laid_errors_errorType), ("bytes.ErrTooLarge", laid_bytes_ErrTooLarge), ("unicode/utf8.first", laid_unicode_utf8_first)] }
def OplogAnewSaid : Prop := oplogAnewRow.holds Tryz.pinned (OpenSpec.ofChange oplogAnewSpec)

/-- ITS FALSE NEIGHBOUR: 'it returns false'. Refute it at one input. -/
def oplogAnewWrong : ChangeSpec := { name := "oplogAnew", fn := fun _ => fun
  | [d] => { results := [.lit (.bool false)], args := [d] }
  | _ => none }
def OplogAnewWrongFalsely : Prop := oplogAnewRow.holds Tryz.pinned (OpenSpec.ofChange oplogAnewWrong)

/-- 'stemmalaw09.OplogPlays': WHATEVER THE INPUT: true; the input reads as it did. -/
def oplogPlaysSpec : ChangeSpec := { name := "oplogPlays", fn := fun _ => fun
  | [d] => { results := [.lit (.bool true)], args := [d] }
  | _ => none }
def oplogPlaysRow : OpenClaim := { program := "ytgmdimbiipemhaagreatdoor", sum := "9cceefd601fc49e3a5db12c899bae81fd88efb607d12f9d2a2c82b24bec1d59a", func := "stemma/stemmalaw09.OplogPlays", spec := "oplogPlays", inPlace := ["internal/reflectlite.TypeOf", "internal/bytealg.IndexByteString", "internal/bytealg.IndexString", "internal/reflectlite.ValueOf", "(internal/reflectlite.Value).Type", "(internal/reflectlite.Value).IsNil", "(internal/reflectlite.Value).Elem", "(internal/reflectlite.Value).Set", "maps.clone"], unfollowed := true, recurses := true, named := ["unicode/utf8.first", "unicode/utf8.acceptRanges", "errors.errorType", "bytes.ErrTooLarge", "internal/bytealg.MaxLen"], apart := false, laid := [("unicode/utf8.acceptRanges", laid_unicode_utf8_acceptRanges), ("errors.errorType", laid_errors_errorType), ("bytes.ErrTooLarge", laid_bytes_ErrTooLarge), ("unicode/utf8.first", laid_unicode_utf8_first)] }
def OplogPlaysSaid : Prop := oplogPlaysRow.holds Tryz.pinned (OpenSpec.ofChange oplogPlaysSpec)

/-- ITS FALSE NEIGHBOUR: 'it returns false'. Refute it at one input. -/
def oplogPlaysWrong : ChangeSpec := { name := "oplogPlays", fn := fun _ => fun
  | [d] => { results := [.lit (.bool false)], args := [d] }
  | _ => none }
def OplogPlaysWrongFalsely : Prop := oplogPlaysRow.holds Tryz.pinned (OpenSpec.ofChange oplogPlaysWrong)

/-- 'stemmalaw09.OplogKeeps': WHATEVER THE INPUT: true; the input reads as it did. -/
def oplogKeepsSpec : ChangeSpec := { name := "oplogKeeps", fn := fun _ => fun
  | [d1, d2] => { results := [.lit (.bool true)], args := [d1, d2] }
  | _ => none }
def oplogKeepsRow : OpenClaim := { program := "ytgmdimbiipemhaagreatdoor", sum := "9cceefd601fc49e3a5db12c899bae81fd88efb607d12f9d2a2c82b24bec1d59a", func := "stemma/stemmalaw09.OplogKeeps", spec := "oplogKeeps", inPlace := ["internal/reflectlite.TypeOf", "internal/bytealg.IndexByteString", "internal/bytealg.IndexString", "internal/reflectlite.ValueOf", "(internal/reflectlite.Value).Type", "(internal/reflectlite.Value).IsNil", "(internal/reflectlite.Value).Elem", "(internal/reflectlite.Value).Set", "maps.clone"], unfollowed := true, recurses := true, named := ["unicode/utf8.first", "unicode/utf8.acceptRanges", "errors.errorType", "bytes.ErrTooLarge", "internal/bytealg.MaxLen"], apart := false, laid := [("unicode/utf8.acceptRanges", laid_unicode_utf8_acceptRanges), ("errors.errorType", laid_errors_errorType), ("bytes.ErrTooLarge", laid_bytes_ErrTooLarge), ("unicode/utf8.first", laid_unicode_utf8_first)] }
def OplogKeepsSaid : Prop := oplogKeepsRow.holds Tryz.pinned (OpenSpec.ofChange oplogKeepsSpec)

/-- ITS FALSE NEIGHBOUR: 'it returns false'. Refute it at one input. -/
def oplogKeepsWrong : ChangeSpec := { name := "oplogKeeps", fn := fun _ => fun
  | [d1, d2] => { results := [.lit (.bool false)], args := [d1, d2] }
  | _ => none }
def OplogKeepsWrongFalsely : Prop := oplogKeepsRow.holds Tryz.pinned (OpenSpec.ofChange oplogKeepsWrong)

/- THE SECOND FORM. 'bulk': how many values and letters a reading holds, each counted each time it is reached (what is shared counts as often as it is met; a slice's spare places count too). A statement '..UptoSaid' is the law's where the arguments, and the package variables that the reading takes, are together of bulk at most 1048576: NARROWER than '..Said'. Prove '..Said' where nothing that the law and all that it calls make is longer than what came in: it says more and counts as full. Else prove '..UptoSaid'. A law counts once. -/
mutual
def uptoBulk {H : Type} : DataW H → Nat
  | .lit (.string bytes) => bytes.length + 1
  | .lit _ => 1
  | .nil => 1
  | .ptr d => uptoBulk d + 1
  | .slice elems spare => uptoBulkAll elems + uptoBulkAll spare + 1
  | .agg parts => uptoBulkAll parts + 1
  | .iface _ d => uptoBulk d + 1
  | .map entries => uptoBulkEntries entries + 1
  | .held _ => 1
def uptoBulkAll {H : Type} : List (DataW H) → Nat
  | [] => 0
  | d :: r => uptoBulk d + uptoBulkAll r
def uptoBulkEntries {H : Type} : List (Lit × DataW H) → Nat
  | [] => 0
  | x :: r => uptoBulkEntry x + uptoBulkEntries r
def uptoBulkEntry {H : Type} : Lit × DataW H → Nat
  | (.string bytes, d) => bytes.length + uptoBulk d + 1
  | (_, d) => uptoBulk d + 1
 end
def uptoSmall : (H : Type) → List (DataW H) → Bool := fun _ ds => decide (uptoBulkAll ds ≤ 1048576)
def OpenSpec.upto (s : _root_.Go.ChangeSpec) : _root_.Go.OpenSpec := { _root_.Go.OpenSpec.ofChange s with cond := some uptoSmall }

/-- 'stemmalaw08.BatchDecodes', WHERE WHAT IT READS IS OF BULK AT MOST 1048576: true; the input reads as it did. -/
def batchDecodesUptoRow : OpenClaim := { program := "ytgmdimbiipemhaagreatdoor", sum := "9cceefd601fc49e3a5db12c899bae81fd88efb607d12f9d2a2c82b24bec1d59a", func := "stemma/stemmalaw08.BatchDecodes", spec := "batchDecodes", inPlace := ["internal/bytealg.IndexByteString", "internal/bytealg.IndexString", "internal/reflectlite.ValueOf", "(internal/reflectlite.Value).Type", "(internal/reflectlite.Value).IsNil", "internal/reflectlite.TypeOf", "(internal/reflectlite.Value).Elem", "(internal/reflectlite.Value).Set"], unfollowed := true, recurses := true, named := ["unicode/utf8.first", "unicode/utf8.acceptRanges", "errors.errorType", "internal/bytealg.MaxLen"], apart := false, laid := [("unicode/utf8.acceptRanges", laid_unicode_utf8_acceptRanges), ("errors.errorType", laid_errors_errorType), ("unicode/utf8.first", laid_unicode_utf8_first)], narrowed := true }
def BatchDecodesUptoSaid : Prop := batchDecodesUptoRow.holds Tryz.pinned (OpenSpec.upto batchDecodesSpec)

/-- 'stemmalaw21.GossipHears', WHERE WHAT IT READS IS OF BULK AT MOST 1048576: true; the input reads as it did. -/
def gossipHearsUptoRow : OpenClaim := { program := "ytgmdimbiipemhaagreatdoor", sum := "9cceefd601fc49e3a5db12c899bae81fd88efb607d12f9d2a2c82b24bec1d59a", func := "stemma/stemmalaw21.GossipHears", spec := "gossipHears", inPlace := ["internal/bytealg.IndexByteString", "internal/bytealg.IndexString", "internal/reflectlite.ValueOf", "(internal/reflectlite.Value).Type", "(internal/reflectlite.Value).IsNil", "internal/reflectlite.TypeOf", "(internal/reflectlite.Value).Elem", "(internal/reflectlite.Value).Set"], unfollowed := true, recurses := true, named := ["unicode/utf8.first", "unicode/utf8.acceptRanges", "errors.errorType", "internal/bytealg.MaxLen"], apart := false, laid := [("unicode/utf8.acceptRanges", laid_unicode_utf8_acceptRanges), ("errors.errorType", laid_errors_errorType), ("unicode/utf8.first", laid_unicode_utf8_first)], narrowed := true }
def GossipHearsUptoSaid : Prop := gossipHearsUptoRow.holds Tryz.pinned (OpenSpec.upto gossipHearsSpec)

/-- 'stemmalaw21.GossipBack', WHERE WHAT IT READS IS OF BULK AT MOST 1048576: true; the input reads as it did. -/
def gossipBackUptoRow : OpenClaim := { program := "ytgmdimbiipemhaagreatdoor", sum := "9cceefd601fc49e3a5db12c899bae81fd88efb607d12f9d2a2c82b24bec1d59a", func := "stemma/stemmalaw21.GossipBack", spec := "gossipBack", inPlace := ["internal/bytealg.IndexByteString", "internal/bytealg.IndexString", "internal/reflectlite.ValueOf", "(internal/reflectlite.Value).Type", "(internal/reflectlite.Value).IsNil", "internal/reflectlite.TypeOf", "(internal/reflectlite.Value).Elem", "(internal/reflectlite.Value).Set"], unfollowed := true, recurses := true, named := ["unicode/utf8.first", "unicode/utf8.acceptRanges", "errors.errorType", "internal/bytealg.MaxLen"], apart := false, laid := [("unicode/utf8.acceptRanges", laid_unicode_utf8_acceptRanges), ("errors.errorType", laid_errors_errorType), ("unicode/utf8.first", laid_unicode_utf8_first)], narrowed := true }
def GossipBackUptoSaid : Prop := gossipBackUptoRow.holds Tryz.pinned (OpenSpec.upto gossipBackSpec)

/-- 'stemmalaw21.GossipOnly', WHERE WHAT IT READS IS OF BULK AT MOST 1048576: true; the input reads as it did. -/
def gossipOnlyUptoRow : OpenClaim := { program := "ytgmdimbiipemhaagreatdoor", sum := "9cceefd601fc49e3a5db12c899bae81fd88efb607d12f9d2a2c82b24bec1d59a", func := "stemma/stemmalaw21.GossipOnly", spec := "gossipOnly", inPlace := ["internal/bytealg.IndexByteString", "internal/bytealg.IndexString", "internal/reflectlite.ValueOf", "(internal/reflectlite.Value).Type", "(internal/reflectlite.Value).IsNil", "internal/reflectlite.TypeOf", "(internal/reflectlite.Value).Elem", "(internal/reflectlite.Value).Set"], unfollowed := true, recurses := true, named := ["unicode/utf8.first", "unicode/utf8.acceptRanges", "errors.errorType", "internal/bytealg.MaxLen"], apart := false, laid := [("unicode/utf8.acceptRanges", laid_unicode_utf8_acceptRanges), ("errors.errorType", laid_errors_errorType), ("unicode/utf8.first", laid_unicode_utf8_first)], narrowed := true }
def GossipOnlyUptoSaid : Prop := gossipOnlyUptoRow.holds Tryz.pinned (OpenSpec.upto gossipOnlySpec)

/-- 'stemmalaw21.GossipSays', WHERE WHAT IT READS IS OF BULK AT MOST 1048576: true; the input reads as it did. -/
def gossipSaysUptoRow : OpenClaim := { program := "ytgmdimbiipemhaagreatdoor", sum := "9cceefd601fc49e3a5db12c899bae81fd88efb607d12f9d2a2c82b24bec1d59a", func := "stemma/stemmalaw21.GossipSays", spec := "gossipSays", inPlace := ["internal/bytealg.IndexByteString", "internal/bytealg.IndexString", "internal/reflectlite.ValueOf", "(internal/reflectlite.Value).Type", "(internal/reflectlite.Value).IsNil", "internal/reflectlite.TypeOf", "(internal/reflectlite.Value).Elem", "(internal/reflectlite.Value).Set"], unfollowed := true, recurses := true, named := ["unicode/utf8.first", "unicode/utf8.acceptRanges", "errors.errorType", "internal/bytealg.MaxLen"], apart := false, laid := [("unicode/utf8.acceptRanges", laid_unicode_utf8_acceptRanges), ("errors.errorType", laid_errors_errorType), ("unicode/utf8.first", laid_unicode_utf8_first)], narrowed := true }
def GossipSaysUptoSaid : Prop := gossipSaysUptoRow.holds Tryz.pinned (OpenSpec.upto gossipSaysSpec)

/-- 'stemmalaw09.OplogReads', WHERE WHAT IT READS IS OF BULK AT MOST 1048576: true; the input reads as it did. -/
def oplogReadsUptoRow : OpenClaim := { program := "ytgmdimbiipemhaagreatdoor", sum := "9cceefd601fc49e3a5db12c899bae81fd88efb607d12f9d2a2c82b24bec1d59a", func := "stemma/stemmalaw09.OplogReads", spec := "oplogReads", inPlace := ["internal/reflectlite.TypeOf", "internal/bytealg.IndexByteString", "internal/bytealg.IndexString", "internal/reflectlite.ValueOf", "(internal/reflectlite.Value).Type", "(internal/reflectlite.Value).IsNil", "(internal/reflectlite.Value).Elem", "(internal/reflectlite.Value).Set", "maps.clone"], unfollowed := true, recurses := true, named := ["unicode/utf8.first", "unicode/utf8.acceptRanges", "errors.errorType", "internal/bytealg.MaxLen"], apart := false, laid := [("unicode/utf8.acceptRanges", laid_unicode_utf8_acceptRanges), ("errors.errorType", laid_errors_errorType), ("unicode/utf8.first", laid_unicode_utf8_first)], narrowed := true }
def OplogReadsUptoSaid : Prop := oplogReadsUptoRow.holds Tryz.pinned (OpenSpec.upto oplogReadsSpec)

/-- 'stemmalaw09.OplogNil', WHERE WHAT IT READS IS OF BULK AT MOST 1048576: true; the input reads as it did. -/
def oplogNilUptoRow : OpenClaim := { program := "ytgmdimbiipemhaagreatdoor", sum := "9cceefd601fc49e3a5db12c899bae81fd88efb607d12f9d2a2c82b24bec1d59a", func := "stemma/stemmalaw09.OplogNil", spec := "oplogNil", inPlace := ["internal/reflectlite.TypeOf", "internal/bytealg.IndexByteString", "internal/bytealg.IndexString", "internal/reflectlite.ValueOf", "(internal/reflectlite.Value).Type", "(internal/reflectlite.Value).IsNil", "(internal/reflectlite.Value).Elem", "(internal/reflectlite.Value).Set"], unfollowed := true, recurses := true, named := ["unicode/utf8.first", "unicode/utf8.acceptRanges", "errors.errorType", "bytes.ErrTooLarge", "internal/bytealg.MaxLen"], apart := false, laid := [("unicode/utf8.acceptRanges", laid_unicode_utf8_acceptRanges), ("errors.errorType", laid_errors_errorType), ("bytes.ErrTooLarge", laid_bytes_ErrTooLarge), ("unicode/utf8.first", laid_unicode_utf8_first)], narrowed := true }
def OplogNilUptoSaid : Prop := oplogNilUptoRow.holds Tryz.pinned (OpenSpec.upto oplogNilSpec)

/-- 'stemmalaw09.OplogAnew', WHERE WHAT IT READS IS OF BULK AT MOST 1048576: true; the input reads as it did. -/
def oplogAnewUptoRow : OpenClaim := { program := "ytgmdimbiipemhaagreatdoor", sum := "9cceefd601fc49e3a5db12c899bae81fd88efb607d12f9d2a2c82b24bec1d59a", func := "stemma/stemmalaw09.OplogAnew", spec := "oplogAnew", inPlace := ["internal/reflectlite.TypeOf", "internal/bytealg.IndexByteString", "internal/bytealg.IndexString", "internal/reflectlite.ValueOf", "(internal/reflectlite.Value).Type", "(internal/reflectlite.Value).IsNil", "(internal/reflectlite.Value).Elem", "(internal/reflectlite.Value).Set"], unfollowed := true, recurses := true, named := ["unicode/utf8.first", "unicode/utf8.acceptRanges", "errors.errorType", "bytes.ErrTooLarge", "internal/bytealg.MaxLen"], apart := false, laid := [("unicode/utf8.acceptRanges", laid_unicode_utf8_acceptRanges), ("errors.errorType", laid_errors_errorType), ("bytes.ErrTooLarge", laid_bytes_ErrTooLarge), ("unicode/utf8.first", laid_unicode_utf8_first)], narrowed := true }
def OplogAnewUptoSaid : Prop := oplogAnewUptoRow.holds Tryz.pinned (OpenSpec.upto oplogAnewSpec)

/-- 'stemmalaw09.OplogPlays', WHERE WHAT IT READS IS OF BULK AT MOST 1048576: true; the input reads as it did. -/
def oplogPlaysUptoRow : OpenClaim := { program := "ytgmdimbiipemhaagreatdoor", sum := "9cceefd601fc49e3a5db12c899bae81fd88efb607d12f9d2a2c82b24bec1d59a", func := "stemma/stemmalaw09.OplogPlays", spec := "oplogPlays", inPlace := ["internal/reflectlite.TypeOf", "internal/bytealg.IndexByteString", "internal/bytealg.IndexString", "internal/reflectlite.ValueOf", "(internal/reflectlite.Value).Type", "(internal/reflectlite.Value).IsNil", "(internal/reflectlite.Value).Elem", "(internal/reflectlite.Value).Set", "maps.clone"], unfollowed := true, recurses := true, named := ["unicode/utf8.first", "unicode/utf8.acceptRanges", "errors.errorType", "bytes.ErrTooLarge", "internal/bytealg.MaxLen"], apart := false, laid := [("unicode/utf8.acceptRanges", laid_unicode_utf8_acceptRanges), ("errors.errorType", laid_errors_errorType), ("bytes.ErrTooLarge", laid_bytes_ErrTooLarge), ("unicode/utf8.first", laid_unicode_utf8_first)], narrowed := true }
def OplogPlaysUptoSaid : Prop := oplogPlaysUptoRow.holds Tryz.pinned (OpenSpec.upto oplogPlaysSpec)

/-- 'stemmalaw09.OplogKeeps', WHERE WHAT IT READS IS OF BULK AT MOST 1048576: true; the input reads as it did. -/
def oplogKeepsUptoRow : OpenClaim := { program := "ytgmdimbiipemhaagreatdoor", sum := "9cceefd601fc49e3a5db12c899bae81fd88efb607d12f9d2a2c82b24bec1d59a", func := "stemma/stemmalaw09.OplogKeeps", spec := "oplogKeeps", inPlace := ["internal/reflectlite.TypeOf", "internal/bytealg.IndexByteString", "internal/bytealg.IndexString", "internal/reflectlite.ValueOf", "(internal/reflectlite.Value).Type", "(internal/reflectlite.Value).IsNil", "(internal/reflectlite.Value).Elem", "(internal/reflectlite.Value).Set", "maps.clone"], unfollowed := true, recurses := true, named := ["unicode/utf8.first", "unicode/utf8.acceptRanges", "errors.errorType", "bytes.ErrTooLarge", "internal/bytealg.MaxLen"], apart := false, laid := [("unicode/utf8.acceptRanges", laid_unicode_utf8_acceptRanges), ("errors.errorType", laid_errors_errorType), ("bytes.ErrTooLarge", laid_bytes_ErrTooLarge), ("unicode/utf8.first", laid_unicode_utf8_first)], narrowed := true }
def OplogKeepsUptoSaid : Prop := oplogKeepsUptoRow.holds Tryz.pinned (OpenSpec.upto oplogKeepsSpec)

end Rows
end Go.Proofs.YtgmdimbiipemhaaGreatDoor
