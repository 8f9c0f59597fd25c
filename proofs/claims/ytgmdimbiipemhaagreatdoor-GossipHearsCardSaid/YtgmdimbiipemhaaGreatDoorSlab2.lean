/- A row of structs in one block: a struct loaded and stored whole. -/
import Derived.Test.YtgmdimbiipemhaaGreatDoorSlab
import Derived.Laws.CopyRow
import Derived.Laws.Append
import Derived.OwnWalkIn
namespace Go.Proofs.YtgmdimbiipemhaaGreatDoor
open Go.RowKit
set_option linter.unusedSimpArgs false
set_option linter.unusedVariables false

section
variable {P : Program} {α : Type} {ea : α → List Value} {k sz blk n : Nat} {T : TypeId} {w : World} {f : Nat → α}

theorem addr_add (b o j : Nat) : (⟨b, o, none⟩ : Addr).add j = ⟨b, o + j, none⟩ := by unfold Addr.add; split <;> simp_all

/-- What the program says of the element type. -/
structure StructTy (P : Program) (T : TypeId) (k : Nat) : Prop where
  agg : ∀ w, (isAgg T).run P w = .ok true w
  size : ∀ w, (sizeOf T).run P w = .ok k w

theorem Slab.load (h : Slab ea k T sz w blk n f) (hk : ∀ x, (ea x).length = k) (ht : StructTy P T k) {i : Nat} (hi : i < n) :
    (Instr.loadAt T (.pointer (some ⟨blk, i * k, none⟩))).run P w = .ok (.agg (ea (f i)).toArray) w := by
  have hl := run_loadCells_list (P := P) w ⟨blk, i * k, none⟩ (ea (f i)) (fun j v hj => by rw [addr_add]; exact h.cell hi hj)
  rw [hk] at hl
  simp [Instr.loadAt, Instr.sureAddr, loadVar, ht.agg, ht.size, hl]

theorem Slab.store (h : Slab ea k T sz w blk n f) (hk : ∀ x, (ea x).length = k) (h1 : ∀ x, ∀ u ∈ ea x, u.oneCell' = true) (ht : StructTy P T k) {i : Nat} (hi : i < n) (x : α) :
    ∃ w', (Instr.storeAt T (.pointer (some ⟨blk, i * k, none⟩)) (.agg (ea x).toArray)).run P w = .ok () w' ∧ Slab ea k T sz w' blk n (upd f i x) ∧ Ext (· = blk) w w' := by
  obtain ⟨cur, hg, hs, hn, hf⟩ := h
  have hik : i * k + k ≤ n * k := by
    have := Nat.mul_le_mul_right k (show i + 1 ≤ n from hi)
    rwa [Nat.add_mul, Nat.one_mul] at this
  have hst := run_storeCells_at P blk (i * k) T (ea x) 0 cur w hg (by rw [hk]; omega) (h1 x)
  rw [hk, Nat.add_zero] at hst
  refine ⟨w.setRow blk (cur.toList.take (i * k) ++ ea x ++ cur.toList.drop (i * k + k)).toArray, ?_, ⟨_, setRow_heap w blk _ _ _ _ hg, ?_, hn, fun p hp j u hj => ?_⟩, ⟨rfl, rfl, rfl, by simp [World.setRow], fun q hq hn => by simp [World.setRow, Array.getElem?_modify]; intro e; exact absurd e.symm hn⟩⟩
  · simp [Instr.storeAt, Instr.sureAddr, storeVar, ht.size, Value.cells, hk, hst]
  · rw [List.size_toArray, List.length_append, List.length_append, List.length_take, List.length_drop, hk, Array.length_toList]
    omega
  · have hjk : ∀ y, (ea y)[j]? = some u → j < k := fun y hy => by rw [← hk y]; exact (List.getElem?_eq_some_iff.1 hy).1
    rw [List.getElem?_toArray, List.append_assoc]
    by_cases hpi : p = i
    · subst hpi
      rw [upd_same] at hj
      have := hjk x hj
      rw [List.getElem?_append_right (by rw [List.length_take, Array.length_toList]; omega), List.length_take, Array.length_toList, Nat.min_eq_left (by omega), show p * k + j - p * k = j by omega, List.getElem?_append_left (by rw [hk]; exact this)]
      exact hj
    · rw [upd_other _ _ hpi] at hj
      have hjl := hjk (f p) hj
      have h0 := hf p hp j u hj
      rcases Nat.lt_or_gt_of_ne hpi with hlt | hgt
      · have := Nat.mul_le_mul_right k (show p + 1 ≤ i from hlt)
        rw [Nat.add_mul, Nat.one_mul] at this
        rw [List.getElem?_append_left (by rw [List.length_take, Array.length_toList]; omega), List.getElem?_take, if_pos (by omega), Array.getElem?_toList]
        exact h0
      · have := Nat.mul_le_mul_right k (show i + 1 ≤ p from hgt)
        rw [Nat.add_mul, Nat.one_mul] at this
        rw [List.getElem?_append_right (by rw [List.length_take, Array.length_toList]; omega), List.length_take, Array.length_toList, Nat.min_eq_left (by omega), List.getElem?_append_right (by rw [hk]; omega), hk, List.getElem?_drop, show i * k + k + (p * k + j - i * k - k) = p * k + j by omega, Array.getElem?_toList]
        exact h0
theorem swapF_upd {α : Type} (f : Nat → α) (p q : Nat) : swapF f p q = upd (upd f p (f q)) q (f p) := by
  funext t
  unfold swapF upd
  by_cases h1 : t = p <;> by_cases h2 : t = q <;> simp_all
theorem exec_load {o : Oper} {ρ : Operand → Value} {T : TypeId} {x : Operand} {q v : Value} {W : World} (ho : o.op = .load T x) (hx : ρ x = q) (h : (Instr.loadAt T q).run P W = .ok v W) : (execOp ρ o).run P W = .ok (.value v) W := by
  unfold execOp; simp [ho, hx, h, Result.andThen]
theorem exec_store {o : Oper} {ρ : Operand → Value} {T : TypeId} {p x : Operand} {q v : Value} {W W' : World} (ho : o.op = .store T p x) (hp : ρ p = q) (hx : ρ x = v) (h : (Instr.storeAt T q v).run P W = .ok () W') : (execOp ρ o).run P W = .ok .skip W' := by
  unfold execOp; simp [ho, hp, hx, h, Result.andThen]
/-- A load by an equation of its run, in a fence and outside. -/
theorem wpListIn_load_run {F : Fence} {m : Nat} {ops : Array Oper} {rest : List Oper} {o : Oper} {a : Act} {Q : Exit → Act → World → Prop} {W : World} (hg : o.guard = none) {x : Operand} {q v : Value} (ho : o.op = .load T x) (hx : a.eval x = q)
    (hr : (Instr.loadAt T q).run P W = .ok v W) (h : wpListIn F m P ops Q rest (a.put o.dst v) W) : wpListIn F m P ops Q (o :: rest) a W := by
  refine wpListIn_plain hg fun K hK' => ?_
  unfold Oper.wpIn
  refine ⟨?_, ?_⟩
  · simp [Oper.about, ho]
  · rw [Oper.semAt_plain F _ _ (by rw [ho]; intro c hc'; cases hc')]
    simp [execOp, ho, hx, hr, Result.andThen]
    exact hK' _ _ h
theorem wpList_load_run {ops : Array Oper} {rest : List Oper} {o : Oper} {a : Act} {Q : Exit → Act → World → Prop} {W : World} (hg : o.guard = none) {x : Operand} {q v : Value} (ho : o.op = .load T x) (hx : a.eval x = q)
    (hr : (Instr.loadAt T q).run P W = .ok v W) (h : wpList P ops Q rest (a.put o.dst v) W) : wpList P ops Q (o :: rest) a W :=
  wpList_plain hg fun _ hK => by
    rw [Oper.wp, exec_load ho hx hr]
    exact hK _ _ h
end

end Go.Proofs.YtgmdimbiipemhaaGreatDoor
