/- Operations as data. -/
import Derived.Test.YtgmdimbiipemhaaGreatDoorStamp
import Derived.Test.YtgmdimbiipemhaaGreatDoorRow
namespace Go.Proofs.YtgmdimbiipemhaaGreatDoor
open Go.RowKit Go.Deep
set_option linter.unusedSimpArgs false
set_option linter.unusedVariables false

/-- An operation. -/
structure OpD where
  id : St
  d0 : Int
  d1 : Int
  d2 : Int
  d3 : Int
  d4 : Int
  d5 : Int
  d6 : Int
  d7 : Int
  kind : Int
  ref : St
  side : Int
  ch : Int
  under : St
  key : ByteArray
  name : ByteArray
  value : ByteArray
  fr : St
  fa : Bool
  tr : St
  ta : Bool
  deriving DecidableEq
def OpD.cells (x : OpD) : List Value := [.int .i64 x.id.n, .int .i64 x.id.r, .int .i64 x.d0, .int .i64 x.d1, .int .i64 x.d2, .int .i64 x.d3, .int .i64 x.d4, .int .i64 x.d5, .int .i64 x.d6, .int .i64 x.d7, .int .i64 x.kind, .int .i64 x.ref.n, .int .i64 x.ref.r, .int .i64 x.side, .int .i64 x.ch, .int .i64 x.under.n, .int .i64 x.under.r, .string x.key, .string x.name, .string x.value, .int .i64 x.fr.n, .int .i64 x.fr.r, .bool x.fa, .int .i64 x.tr.n, .int .i64 x.tr.r, .bool x.ta]
theorem OpD.len (x : OpD) : x.cells.length = 26 := rfl
theorem OpD.one (x : OpD) : ∀ u ∈ x.cells, u.oneCell' = true := by
  intro u hu
  simp only [OpD.cells, List.mem_cons, List.not_mem_nil, or_false] at hu
  rcases hu with rfl | rfl | rfl | rfl | rfl | rfl | rfl | rfl | rfl | rfl | rfl | rfl | rfl | rfl | rfl | rfl | rfl | rfl | rfl | rfl | rfl | rfl | rfl | rfl | rfl | rfl <;> rfl
def OpD.val (x : OpD) : Value := .agg x.cells.toArray
def OpD.deps (x : OpD) : List Int := [x.d0, x.d1, x.d2, x.d3, x.d4, x.d5, x.d6, x.d7]
def hasV (ds : List Int) (s : St) : Bool := decide (0 ≤ s.r ∧ s.r < 8) && decide (s.n ≤ ds.getD s.r.toNat 0)
/-- May it name this one? -/
def OpD.may (x : OpD) (s : St) : Bool := rightB s && hasV x.deps s
theorem cells_new (w : World) (cs : List Value) (T : TypeId) (j : Nat) (u : Value) (h : cs[j]? = some u) : (w.alloc (.cells cs.toArray T)).cell? ⟨w.heap.size, j, none⟩ = some u := by
  rw [World.cell?_alloc_at _ _ _ _ rfl, ← h]
  simp

end Go.Proofs.YtgmdimbiipemhaaGreatDoor
