/- Layer 17: elements, operations, marks; the comparison of marks. -/
import Derived.Test.YtlfmkoapddihcaaStamp
import Derived.Test.YtlfmkoapddihcaaOrd
import Derived.Test.YtlfmkoapddihcaaRow
namespace Go.Proofs.Ytlfmkoapddihcaa
open Go.RowKit
set_option linter.unusedSimpArgs false
set_option linter.unusedVariables false

/-- An element of a text. -/
structure El where
  id : St
  ch : Int
  gone : Bool
def El.cells (x : El) : List Value := [.int .i64 x.id.n, .int .i64 x.id.r, .int .i64 x.ch, .bool x.gone]
/-- An operation. -/
structure OpD where
  id : St
  d0 : Int
  d1 : Int
  d2 : Int
  d3 : Int
  d4 : Int
  d5 : Int
  d6 : Int
  d7 : Int
  kind : Int
  ref : St
  side : Int
  ch : Int
  under : St
  key : ByteArray
  name : ByteArray
  value : ByteArray
  fr : St
  fa : Bool
  tr : St
  ta : Bool
def OpD.cells (x : OpD) : List Value := [.int .i64 x.id.n, .int .i64 x.id.r, .int .i64 x.d0, .int .i64 x.d1, .int .i64 x.d2, .int .i64 x.d3, .int .i64 x.d4, .int .i64 x.d5, .int .i64 x.d6, .int .i64 x.d7, .int .i64 x.kind, .int .i64 x.ref.n, .int .i64 x.ref.r, .int .i64 x.side, .int .i64 x.ch, .int .i64 x.under.n, .int .i64 x.under.r, .string x.key, .string x.name, .string x.value, .int .i64 x.fr.n, .int .i64 x.fr.r, .bool x.fa, .int .i64 x.tr.n, .int .i64 x.tr.r, .bool x.ta]
/-- A mark, and which elements it covers. -/
structure Mark where
  op : OpD
  lo : Int
  hi : Int
def Mark.cells (x : Mark) : List Value := [.int .i64 x.op.id.n, .int .i64 x.op.id.r, .int .i64 x.op.d0, .int .i64 x.op.d1, .int .i64 x.op.d2, .int .i64 x.op.d3, .int .i64 x.op.d4, .int .i64 x.op.d5, .int .i64 x.op.d6, .int .i64 x.op.d7, .int .i64 x.op.kind, .int .i64 x.op.ref.n, .int .i64 x.op.ref.r, .int .i64 x.op.side, .int .i64 x.op.ch, .int .i64 x.op.under.n, .int .i64 x.op.under.r, .string x.op.key, .string x.op.name, .string x.op.value, .int .i64 x.op.fr.n, .int .i64 x.op.fr.r, .bool x.op.fa, .int .i64 x.op.tr.n, .int .i64 x.op.tr.r, .bool x.op.ta, .int .i64 x.lo, .int .i64 x.hi]
theorem Mark.len (x : Mark) : x.cells.length = 28 := rfl
theorem OpD.len (x : OpD) : x.cells.length = 26 := rfl
theorem El.len (x : El) : x.cells.length = 4 := rfl
theorem OpD.one (x : OpD) : ∀ u ∈ x.cells, u.oneCell' = true := by
  intro u hu
  simp only [OpD.cells, List.mem_cons, List.not_mem_nil, or_false] at hu
  rcases hu with rfl | rfl | rfl | rfl | rfl | rfl | rfl | rfl | rfl | rfl | rfl | rfl | rfl | rfl | rfl | rfl | rfl | rfl | rfl | rfl | rfl | rfl | rfl | rfl | rfl | rfl <;> rfl
theorem Mark.one (x : Mark) : ∀ u ∈ x.cells, u.oneCell' = true := by
  intro u hu
  simp only [Mark.cells, List.mem_cons, List.not_mem_nil, or_false] at hu
  rcases hu with rfl | rfl | rfl | rfl | rfl | rfl | rfl | rfl | rfl | rfl | rfl | rfl | rfl | rfl | rfl | rfl | rfl | rfl | rfl | rfl | rfl | rfl | rfl | rfl | rfl | rfl | rfl | rfl <;> rfl

def cfMark (x y : Mark) : Int := cmpS x.op.id y.op.id

set_option maxHeartbeats 1000000 in
theorem found2_any (x y : Mark) (w : World) :
    Calls Try.prog 32 #[.agg x.cells.toArray, .agg y.cells.toArray] w
      fun e w' => e = .returned (.int .i64 (cfMark x y)) ∧ Below w.heap.size w w' := by
  unfold Mark.cells
  go_enter Try.func32, Try.ntmps32
  go_wp2_with fail
  refine (compare_any _ _ _ _ _).mono ?_
  rintro e w1 ⟨rfl, b1⟩
  go_wp2_with fail
  go_ret
  exact ⟨rfl, (((Below.refl _ _).alloc (Nat.le_refl _) _).alloc (by simp) _).trans (b1.mono (by simp <;> omega))⟩

end Go.Proofs.Ytlfmkoapddihcaa
