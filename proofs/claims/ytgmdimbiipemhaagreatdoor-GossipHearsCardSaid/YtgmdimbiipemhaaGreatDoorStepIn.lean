/- Arms for operations on whole structs, however many cells: build, buildSlice, store into what was just made; in a fence and outside. -/
import Derived.Test.YtgmdimbiipemhaaGreatDoorSlab2
namespace Go.Proofs.YtgmdimbiipemhaaGreatDoor
open Go.RowKit
set_option linter.unusedSimpArgs false
set_option linter.unusedVariables false

section
variable {P : Program}
theorem load_of_cells {T : TypeId} {k b o : Nat} {w : World} {cs : List Value} (ht : StructTy P T k) (hk : cs.length = k) (hc : ∀ j u, cs[j]? = some u → w.cell? ⟨b, o + j, none⟩ = some u) :
    (Instr.loadAt T (.pointer (some ⟨b, o, none⟩))).run P w = .ok (.agg cs.toArray) w := by
  have hl := run_loadCells_list (P := P) w ⟨b, o, none⟩ cs (fun j v hj => by rw [addr_add]; exact hc j v hj)
  rw [hk] at hl
  simp [Instr.loadAt, Instr.sureAddr, loadVar, ht.agg, ht.size, hl]
theorem heap_new (w : World) (o : Obj) : (w.alloc o).heap[w.heap.size]? = some o := by
  show (w.heap.push o)[w.heap.size]? = _
  simp
theorem allocd_cells {w : World} {cs : List Value} {T : TypeId} (j : Nat) (u : Value) (h : cs[j]? = some u) : (w.alloc (.cells cs.toArray T)).cell? ⟨w.heap.size, j, none⟩ = some u := by
  unfold World.cell?
  simp only [heap_new]
  simpa using h

theorem run_store_fresh {T : TypeId} {k : Nat} (ht : StructTy P T k) {W : World} {z : Array Value} {cs : List Value} (hz : z.size = cs.length) (hk : cs.length = k) (h1 : ∀ u ∈ cs, u.oneCell' = true) :
    (Instr.storeAt T (.pointer (some ⟨W.heap.size, 0, none⟩)) (.agg cs.toArray)).run P (W.alloc (.cells z T)) = .ok () (W.alloc (.cells cs.toArray T)) := by
  have hst := run_storeCells_at P W.heap.size 0 T cs 0 z (W.alloc (.cells z T)) (heap_new W _) (by omega) h1
  simp [Instr.storeAt, Instr.sureAddr, storeVar, ht.size, Value.cells, hk, hst]
  have e : z.toList.drop k = [] := List.drop_eq_nil_of_le (by simp; omega)
  rw [e, List.append_nil]
  have e2 : ((W.alloc (.cells z T)).setRow W.heap.size cs.toArray).heap = (W.alloc (.cells cs.toArray T)).heap := by
    refine Array.ext_getElem? fun i => ?_
    by_cases hi : W.heap.size = i
    · subst hi
      rw [setRow_heap _ _ z _ T (0, 0) (heap_new W _), heap_new]
    · simp only [World.setRow, Array.getElem?_modify, if_neg hi]
      show (W.heap.push _)[i]? = (W.heap.push _)[i]?
      rw [Array.getElem?_push, Array.getElem?_push, if_neg (fun e => hi (Eq.symm e)), if_neg (fun e => hi (Eq.symm e))]
  have e3 : ∀ A B : World, A.heap = B.heap → A.tape = B.tape → A.drawn = B.drawn → A.os = B.os → A.output = B.output → A = B := by
    rintro ⟨⟩ ⟨⟩ rfl rfl rfl rfl rfl
    rfl
  exact e3 _ _ e2 rfl rfl rfl rfl
end

section
variable {P : Program} {F : Fence} {m : Nat} {ops : Array Oper} {rest : List Oper} {o : Oper} {a : Act} {Q : Exit → Act → World → Prop} {W W' : World}
theorem wpListIn_build_run (hg : o.guard = none) {T : TypeId} {ps : Array (Nat × Operand)} {vs : Array (Nat × Value)} {v : Value} (ho : o.op = .build T ps) (hx : (ps.map fun p => (p.1, a.eval p.2)) = vs)
    (hr : (Instr.build T vs).run P W = .ok v W) (h : wpListIn F m P ops Q rest (a.put o.dst v) W) : wpListIn F m P ops Q (o :: rest) a W := by
  subst hx
  refine wpListIn_plain hg fun K hK' => ?_
  unfold Oper.wpIn
  refine ⟨by simp [Oper.about, ho], ?_⟩
  rw [Oper.semAt_plain F _ _ (by rw [ho]; intro c hc'; cases hc')]
  simp [execOp, ho, hr, Result.andThen]
  exact hK' _ _ h
theorem wpListIn_buildSlice_run (hg : o.guard = none) {T : TypeId} {n : Nat} {ps : Array (Nat × Operand)} {vs : Array (Nat × Value)} {v : Value} (ho : o.op = .buildSlice T n ps) (hx : (ps.map fun p => (p.1, a.eval p.2)) = vs)
    (hr : (Instr.buildSlice T n vs).run P W = .ok v W') (h : wpListIn F m P ops Q rest (a.put o.dst v) W') : wpListIn F m P ops Q (o :: rest) a W := by
  subst hx
  refine wpListIn_plain hg fun K hK' => ?_
  unfold Oper.wpIn
  refine ⟨by simp [Oper.about, ho], ?_⟩
  rw [Oper.semAt_plain F _ _ (by rw [ho]; intro c hc'; cases hc')]
  simp [execOp, ho, hr, Result.andThen]
  exact hK' _ _ h
theorem wpListIn_store_run (hg : o.guard = none) {T : TypeId} {p x : Operand} {q v : Value} (ho : o.op = .store T p x) (hp : a.eval p = q) (hx : a.eval x = v)
    (hr : (Instr.storeAt T q v).run P W = .ok () W') (h : wpListIn F m P ops Q rest (a.put o.dst undef) W') : wpListIn F m P ops Q (o :: rest) a W := by
  refine wpListIn_plain hg fun K hK' => ?_
  unfold Oper.wpIn
  refine ⟨by simp [Oper.about, ho], ?_⟩
  rw [Oper.semAt_plain F _ _ (by rw [ho]; intro c hc'; cases hc')]
  simp [execOp, ho, hp, hx, hr, Result.andThen]
  exact hK' _ _ h
theorem wpList_build_run (hg : o.guard = none) {T : TypeId} {ps : Array (Nat × Operand)} {vs : Array (Nat × Value)} {v : Value} (ho : o.op = .build T ps) (hx : (ps.map fun p => (p.1, a.eval p.2)) = vs)
    (hr : (Instr.build T vs).run P W = .ok v W) (h : wpList P ops Q rest (a.put o.dst v) W) : wpList P ops Q (o :: rest) a W :=
  wpList_plain hg fun _ hK => by
    subst hx
    rw [Oper.wp, show (execOp a.eval o).run P W = .ok (.value v) W from by simp [execOp, ho, hr, Result.andThen]]
    exact hK _ _ h
theorem wpList_buildSlice_run (hg : o.guard = none) {T : TypeId} {n : Nat} {ps : Array (Nat × Operand)} {vs : Array (Nat × Value)} {v : Value} (ho : o.op = .buildSlice T n ps) (hx : (ps.map fun p => (p.1, a.eval p.2)) = vs)
    (hr : (Instr.buildSlice T n vs).run P W = .ok v W') (h : wpList P ops Q rest (a.put o.dst v) W') : wpList P ops Q (o :: rest) a W :=
  wpList_plain hg fun _ hK => by
    subst hx
    rw [Oper.wp, show (execOp a.eval o).run P W = .ok (.value v) W' from by simp [execOp, ho, hr, Result.andThen]]
    exact hK _ _ h
theorem wpList_store_run (hg : o.guard = none) {T : TypeId} {p x : Operand} {q v : Value} (ho : o.op = .store T p x) (hp : a.eval p = q) (hx : a.eval x = v)
    (hr : (Instr.storeAt T q v).run P W = .ok () W') (h : wpList P ops Q rest (a.put o.dst undef) W') : wpList P ops Q (o :: rest) a W :=
  wpList_plain hg fun _ hK => by
    rw [Oper.wp, exec_store ho hp hx hr]
    exact hK _ _ h
theorem wpListIn_build3_run (hg : o.guard = none) {T : TypeId} {x0 x1 x2 : Operand} {v0 v1 v2 v : Value} (ho : o.op = .build T #[(0, x0), (1, x1), (2, x2)]) (h0 : a.eval x0 = v0) (h1 : a.eval x1 = v1) (h2 : a.eval x2 = v2)
    (hr : (Instr.build T #[(0, v0), (1, v1), (2, v2)]).run P W = .ok v W) (h : wpListIn F m P ops Q rest (a.put o.dst v) W) : wpListIn F m P ops Q (o :: rest) a W :=
  wpListIn_build_run hg ho (by simp [h0, h1, h2]) hr h
theorem wpListIn_slice1_run (hg : o.guard = none) {T : TypeId} {n : Nat} {x0 : Operand} {v0 v : Value} (ho : o.op = .buildSlice T n #[(0, x0)]) (h0 : a.eval x0 = v0)
    (hr : (Instr.buildSlice T n #[(0, v0)]).run P W = .ok v W') (h : wpListIn F m P ops Q rest (a.put o.dst v) W') : wpListIn F m P ops Q (o :: rest) a W :=
  wpListIn_buildSlice_run hg ho (by simp [h0]) hr h
theorem wpList_slice1_run (hg : o.guard = none) {T : TypeId} {n : Nat} {x0 : Operand} {v0 v : Value} (ho : o.op = .buildSlice T n #[(0, x0)]) (h0 : a.eval x0 = v0)
    (hr : (Instr.buildSlice T n #[(0, v0)]).run P W = .ok v W') (h : wpList P ops Q rest (a.put o.dst v) W') : wpList P ops Q (o :: rest) a W :=
  wpList_buildSlice_run hg ho (by simp [h0]) hr h
end

end Go.Proofs.YtgmdimbiipemhaaGreatDoor
