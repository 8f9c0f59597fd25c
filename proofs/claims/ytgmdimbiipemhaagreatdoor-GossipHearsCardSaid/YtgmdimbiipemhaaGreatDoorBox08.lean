/- An operation in a block of its own. -/
import Derived.Test.YtgmdimbiipemhaaGreatDoorOp08
import Derived.Test.YtgmdimbiipemhaaGreatDoorStepIn
import Derived.Test.YtgmdimbiipemhaaGreatDoorRep08
namespace Go.Proofs.YtgmdimbiipemhaaGreatDoor
open Go.RowKit Go.Deep
set_option linter.unusedSimpArgs false
set_option linter.unusedVariables false

theorem op_ty : StructTy Tryz.prog 68 26 := ⟨fun w => by kernel_rfl, fun w => by kernel_rfl⟩
theorem stamp_ty : StructTy Tryz.prog 62 2 := ⟨fun w => by kernel_rfl, fun w => by kernel_rfl⟩
theorem vec_ty : StructTy Tryz.prog 32 8 := ⟨fun w => by kernel_rfl, fun w => by kernel_rfl⟩
theorem anch_ty : StructTy Tryz.prog 66 3 := ⟨fun w => by kernel_rfl, fun w => by kernel_rfl⟩
/-- Block B holds this operation. -/
def OB (B : Nat) (o : OpD) (W : World) : Prop := W.heap[B]? = some (.cells o.cells.toArray 68 (0, 0))
section
variable {B : Nat} {o : OpD} {W : World}
theorem OB.new (w : World) (o : OpD) : OB w.heap.size o (w.alloc (.cells o.cells.toArray 68)) := heap_new8 w _
theorem OB.lt (h : OB B o W) : B < W.heap.size := (Array.getElem?_eq_some_iff.1 h).1
theorem OB.cell (h : OB B o W) {j : Nat} {u : Value} (hj : o.cells[j]? = some u) : W.cell? ⟨B, j, none⟩ = some u := by
  unfold World.cell?
  rw [h]
  simpa using hj
theorem OB.free (h : OB B o W) (j : Nat) : W.frozen? ⟨B, j, none⟩ = false := by
  unfold World.frozen?
  rw [h]
  simp
theorem OB.below {k : Nat} {W' : World} (h : OB B o W) (hb : Below k W W') (hk : B < k) : OB B o W' := (hb.block B hk).trans h
theorem OB.ext {S : Nat → Prop} {W' : World} (h : OB B o W) (hx : Ext S W W') (hn : ¬ S B) : OB B o W' := (hx.block B h.lt hn).trans h
theorem OB.alloc (h : OB B o W) (x : Obj) : OB B o (W.alloc x) := (Below.heap_alloc W x B h.lt).trans h
theorem OB.part (h : OB B o W) {T : TypeId} {k : Nat} (ht : StructTy Tryz.prog T k) (off : Nat) (vs : List Value) (hk : vs.length = k) (hv : (o.cells.drop off).take k = vs) : (Instr.loadAt T (.pointer (some ⟨B, off, none⟩))).run Tryz.prog W = .ok (.agg vs.toArray) W :=
  load_of_cells ht hk (fun j u hj => h.cell (by
    rw [← hv, List.getElem?_take] at hj
    split at hj
    · rw [List.getElem?_drop] at hj; exact hj
    · cases hj))
theorem OB.whole (h : OB B o W) : (Instr.loadAt 68 (.pointer (some ⟨B, 0, none⟩))).run Tryz.prog W = .ok (.agg o.cells.toArray) W :=
  h.part op_ty 0 _ rfl rfl
theorem OB.store (h : OB B o W) {T : TypeId} {k off : Nat} (hsz : ∀ w, (sizeOf T).run Tryz.prog w = .ok k w) {v : Value} {vs : List Value} (hc : v.cells = vs.toArray) (hk : vs.length = k) (h1 : ∀ u ∈ vs, u.oneCell' = true) (hf : off + k ≤ 26) (o' : OpD) (ho : o'.cells = o.cells.take off ++ vs ++ o.cells.drop (off + k)) :
    ∃ W', (Instr.storeAt T (.pointer (some ⟨B, off, none⟩)) v).run Tryz.prog W = .ok () W' ∧ OB B o' W' ∧ Ext (· = B) W W' := by
  have hst := run_storeCells_at Tryz.prog B off 68 vs 0 o.cells.toArray W h (by rw [hk, List.size_toArray, OpD.len]; omega) h1
  rw [hk, Nat.add_zero] at hst
  refine ⟨W.setRow B o'.cells.toArray, ?_, setRow_heap W B _ _ _ _ h, ⟨rfl, rfl, rfl, by simp [World.setRow], fun q hq hn => by simp [World.setRow, Array.getElem?_modify]; intro e; exact absurd e.symm hn⟩⟩
  rw [ho]
  simp [Instr.storeAt, Instr.sureAddr, storeVar, hsz, hc, hk, hst]
end
theorem size_t25 : ∀ w, (sizeOf 62).run Tryz.prog w = .ok 2 w := stamp_ty.size
theorem size_t31 : ∀ w, (sizeOf 66).run Tryz.prog w = .ok 3 w := anch_ty.size
theorem size_t3 : ∀ w, (sizeOf 3).run Tryz.prog w = .ok 1 w := fun w => by kernel_rfl
theorem size_t29 : ∀ w, (sizeOf 64).run Tryz.prog w = .ok 1 w := fun w => by kernel_rfl
theorem size_t28 : ∀ w, (sizeOf 63).run Tryz.prog w = .ok 1 w := fun w => by kernel_rfl
theorem size_t9 : ∀ w, (sizeOf 9).run Tryz.prog w = .ok 1 w := fun w => by kernel_rfl
theorem size_t4 : ∀ w, (sizeOf 4).run Tryz.prog w = .ok 1 w := fun w => by kernel_rfl

end Go.Proofs.YtgmdimbiipemhaaGreatDoor
