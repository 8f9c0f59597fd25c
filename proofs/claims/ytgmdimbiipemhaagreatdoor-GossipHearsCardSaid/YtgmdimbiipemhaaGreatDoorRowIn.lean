/- Append of one struct to the call's own slice, inside a fence. -/
import Derived.Test.YtgmdimbiipemhaaGreatDoorRow
import Derived.OwnWalkIn
namespace Go.Proofs.YtgmdimbiipemhaaGreatDoor
open Go.RowKit
set_option linter.unusedSimpArgs false
set_option linter.unusedVariables false

section
variable {α : Type} {ea : α → List Value} {k : Nat} {e : TypeId} {base : Nat} {w : World} {v : Value} {l : List α}
theorem wpListIn_append_struct {F : Fence} {n : Nat} {P : Program} {ops : Array Oper} {rest : List Oper} {o : Oper} {a : Act} {Q : Exit → Act → World → Prop} (hgd : o.guard = none) (s x : Operand) (t : TypeId)
    (ho : o.op = .call { callee := .builtin .append, args := #[s, x], argTypes := #[t, t] })
    (i : TypeInfo) (z : Value) (bytes : Nat) (ht : P.underlying t = some (.slice e)) (hi : P.info? e = some i) (hz : i.zero = some z)
    (hsize : i.size = k) (hby : i.bytes = bytes) (hzs : z.cells.size = k) (hk0 : 0 < k) (hk : ∀ x, (ea x).length = k) (h1 : ∀ x, ∀ u ∈ ea x, u.oneCell' = true)
    (hs : a.eval s = v) (hown : Own ea k e base w v l) (y : α) (nb c : Nat) (hx : a.eval x = .slice (some ⟨nb, 0, none⟩) 1 c) (hnews : ∀ j u, (ea y)[j]? = some u → w.cell? ⟨nb, j, none⟩ = some u)
    (h63 : l.length + 1 ≤ maxLen) (hbytes : (l.length + 1) * bytes ≤ 140737488355328) (hbase : base ≤ w.heap.size)
    (h : ∀ v' w', Own ea k e base w' v' (l ++ [y]) → Ext (fun b => v.ownBlock = some b) w w' → wpListIn F n P ops Q rest (a.put o.dst v') w') : wpListIn F n P ops Q (o :: rest) a w := by
  refine wpListIn_append_own w hgd s x t ho base e i z k bytes ht hi hz hsize hby hzs hk0 v l.length (l.flatMap ea) hs hown ⟨nb, 0, none⟩ 1 c (ea y) hx (by rw [hk, Nat.one_mul]) (fun j u hj => ?_) (h1 y) h63 hbytes hbase (fun v' w' h2 h3 _ => h v' w' ?_ (Ext.of_grown h3))
  · have := hnews j u hj
    rw [show (Addr.add ⟨nb, 0, none⟩ j) = ⟨nb, j, none⟩ from by unfold Addr.add; split <;> simp_all]
    exact this
  · unfold Own
    rw [List.length_append, List.flatMap_append]
    simpa using h2
end

end Go.Proofs.YtgmdimbiipemhaaGreatDoor
