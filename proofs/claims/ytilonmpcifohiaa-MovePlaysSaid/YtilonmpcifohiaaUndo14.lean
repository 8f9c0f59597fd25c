/- Layer 14: New, undo. -/
import Derived.Test.YtilonmpcifohiaaFind14
import Derived.Test.YtilonmpcifohiaaPlay14
import Derived.Test.YtilonmpcifohiaaKeySt
namespace Go.Proofs.Ytilonmpcifohiaa
open Go.RowKit
set_option linter.unusedSimpArgs false
set_option linter.unusedVariables false

theorem und_hang : Try.prog.underlying 55 = some (.map 24 36) := by kernel_rfl
theorem zero_child (w : World) : (zeroValue 36).run Try.prog w = .ok (.agg #[.int .i64 0, .int .i64 0, .int .i64 0, .int .i64 0, .string ⟨#[]⟩]) w := by kernel_rfl

attribute [local go_sem] MapIs.alloc MapIs.drew MapIs.setCell

/-- The cells of a move at an address. -/
structure MvAt (w : World) (g o : Nat) (m : Mv) : Prop where
  c0 : w.cell? ⟨g, o, none⟩ = some (.int .i64 m.at_.n)
  c1 : w.cell? ⟨g, o + 1, none⟩ = some (.int .i64 m.at_.r)
  c2 : w.cell? ⟨g, o + 2, none⟩ = some (.int .i64 m.child.block.n)
  c3 : w.cell? ⟨g, o + 3, none⟩ = some (.int .i64 m.child.block.r)
  c4 : w.cell? ⟨g, o + 4, none⟩ = some (.int .i64 m.child.under.n)
  c5 : w.cell? ⟨g, o + 5, none⟩ = some (.int .i64 m.child.under.r)
  c6 : w.cell? ⟨g, o + 6, none⟩ = some (.string m.child.key)
  c7 : w.cell? ⟨g, o + 7, none⟩ = some (.bool m.took)
  c8 : w.cell? ⟨g, o + 8, none⟩ = some (ptr m.was)

/-- A boxed Child. -/
def BoxC (w : World) (b : Nat) (c : Ch) : Prop := w.heap[b]? = some (.cells c.cells.toArray 36 (0, 0))

theorem undo_not (t g o : Nat) (m : Mv) (w : World) (hm : MvAt w g o m) (ht : m.took = false) :
    Calls Try.prog 29 #[.pointer (some ⟨t, 0, none⟩), .pointer (some ⟨g, o, none⟩)] w
      fun e w' => (∃ v, e = .returned v) ∧ Below w.heap.size w w' := by
  have c7 := hm.c7
  rw [ht] at c7
  clear hm
  go_enter Try.func29, Try.ntmps29
  go_wp2_with fail
  go_end0
  exact ⟨⟨_, rfl⟩, Below.refl _ _⟩

set_option maxHeartbeats 1000000 in
theorem undo_del (t mh g o : Nat) (m : Mv) (hl : List (St × Ch)) (w : World) (hc : w.cell? ⟨t, 1, none⟩ = some (.map (some mh))) (hh : MapIs St.val Ch.val w mh hl) (hm : MvAt w g o m) (ht : m.took = true) (hw : m.was = none) :
    Calls Try.prog 29 #[.pointer (some ⟨t, 0, none⟩), .pointer (some ⟨g, o, none⟩)] w
      fun e w' => (∃ v, e = .returned v) ∧ MapIs St.val Ch.val w' mh (adel hl m.child.block) ∧ Ext (· = mh) w w' := by
  obtain ⟨-, -, c2, c3, -, -, -, c7, c8⟩ := hm
  rw [ht] at c7
  rw [hw] at c8
  have c8' : w.cell? ⟨g, o + 8, none⟩ = some (.pointer none) := c8
  have hdel : ∀ W, MapIs St.val Ch.val W mh hl → (Builtin.delete_ #[55, 24] 0 #[.map (some mh), .agg #[.int .i64 m.child.block.n, .int .i64 m.child.block.r]]).run Try.prog W = .ok (.tuple #[]) (mapDel W mh (aidx hl m.child.block)) :=
    fun W hW => hW.delete key_stamp und_hang m.child.block
  clear c8
  go_enter Try.func29, Try.ntmps29
  go_wp2_with fail
  go_region_held3 (fun W => W.cell? ⟨t, 1, none⟩ = some (.map (some mh)) ∧ W.cell? ⟨g, o + 2, none⟩ = some (.int .i64 m.child.block.n) ∧ W.cell? ⟨g, o + 3, none⟩ = some (.int .i64 m.child.block.r)) (first | exact ⟨hc, c2, c3⟩ | exact ⟨(mapDel_cell _ _ _ _).trans hc, (mapDel_cell _ _ _ _).trans c2, (mapDel_cell _ _ _ _).trans c3⟩) (fail)
  go_wp2_with fail
  go_end0
  exact ⟨⟨_, rfl⟩, hh.drew.del _, (((Ext.refl (· = mh) w).drew).mapDel (.inl rfl) _)⟩

set_option maxHeartbeats 1000000 in
theorem undo_put (t mh g o b : Nat) (m : Mv) (c : Ch) (hl : List (St × Ch)) (w : World) (hc : w.cell? ⟨t, 1, none⟩ = some (.map (some mh))) (hh : MapIs St.val Ch.val w mh hl) (hm : MvAt w g o m) (ht : m.took = true) (hw : m.was = some b) (hbx : BoxC w b c) :
    Calls Try.prog 29 #[.pointer (some ⟨t, 0, none⟩), .pointer (some ⟨g, o, none⟩)] w
      fun e w' => (∃ v, e = .returned v) ∧ MapIs St.val Ch.val w' mh (aset hl m.child.block c) ∧ Ext (· = mh) w w' := by
  obtain ⟨-, -, c2, c3, -, -, -, c7, c8⟩ := hm
  rw [ht] at c7
  rw [hw] at c8
  have c8' : w.cell? ⟨g, o + 8, none⟩ = some (.pointer (some ⟨b, 0, none⟩)) := c8
  have b0 : w.cell? ⟨b, 0, none⟩ = some (.int .i64 c.block.n) := by simp [World.cell?, show w.heap[b]? = _ from hbx, Ch.cells]
  have b1 : w.cell? ⟨b, 1, none⟩ = some (.int .i64 c.block.r) := by simp [World.cell?, show w.heap[b]? = _ from hbx, Ch.cells]
  have b2 : w.cell? ⟨b, 2, none⟩ = some (.int .i64 c.under.n) := by simp [World.cell?, show w.heap[b]? = _ from hbx, Ch.cells]
  have b3 : w.cell? ⟨b, 3, none⟩ = some (.int .i64 c.under.r) := by simp [World.cell?, show w.heap[b]? = _ from hbx, Ch.cells]
  have b4 : w.cell? ⟨b, 4, none⟩ = some (.string c.key) := by simp [World.cell?, show w.heap[b]? = _ from hbx, Ch.cells]
  have hup : ∀ W, MapIs St.val Ch.val W mh hl → (Instr.mapUpdate 55 (.map (some mh)) (.agg #[.int .i64 m.child.block.n, .int .i64 m.child.block.r]) (.agg #[.int .i64 c.block.n, .int .i64 c.block.r, .int .i64 c.under.n, .int .i64 c.under.r, .string c.key])).run Try.prog W = .ok () (mapPut W mh (aidx hl m.child.block) (.agg #[.int .i64 m.child.block.n, .int .i64 m.child.block.r]) (.agg #[.int .i64 c.block.n, .int .i64 c.block.r, .int .i64 c.under.n, .int .i64 c.under.r, .string c.key])) :=
    fun W hW => hW.update key_stamp und_hang m.child.block _
  clear c8 hbx
  go_enter Try.func29, Try.ntmps29
  go_wp2_with fail
  go_region_held3 (fun W => W.cell? ⟨t, 1, none⟩ = some (.map (some mh)) ∧ W.cell? ⟨g, o + 2, none⟩ = some (.int .i64 m.child.block.n) ∧ W.cell? ⟨g, o + 3, none⟩ = some (.int .i64 m.child.block.r) ∧ W.cell? ⟨g, o + 8, none⟩ = some (.pointer (some ⟨b, 0, none⟩)) ∧ W.cell? ⟨b, 0, none⟩ = some (.int .i64 c.block.n) ∧ W.cell? ⟨b, 1, none⟩ = some (.int .i64 c.block.r) ∧ W.cell? ⟨b, 2, none⟩ = some (.int .i64 c.under.n) ∧ W.cell? ⟨b, 3, none⟩ = some (.int .i64 c.under.r) ∧ W.cell? ⟨b, 4, none⟩ = some (.string c.key)) (first | exact ⟨hc, c2, c3, c8', b0, b1, b2, b3, b4⟩ | exact ⟨(mapPut_cell _ _ _ _ _ _).trans hc, (mapPut_cell _ _ _ _ _ _).trans c2, (mapPut_cell _ _ _ _ _ _).trans c3, (mapPut_cell _ _ _ _ _ _).trans c8', (mapPut_cell _ _ _ _ _ _).trans b0, (mapPut_cell _ _ _ _ _ _).trans b1, (mapPut_cell _ _ _ _ _ _).trans b2, (mapPut_cell _ _ _ _ _ _).trans b3, (mapPut_cell _ _ _ _ _ _).trans b4⟩) (fail)
  go_wp2_with fail
  go_end0
  exact ⟨⟨_, rfl⟩, hh.drew.put m.child.block c, (((Ext.refl (· = mh) w).drew).mapPut (.inl rfl) _ _ _)⟩

end Go.Proofs.Ytilonmpcifohiaa
