/- The document's Deltas: a contract. -/
import Derived.Test.YtgmdimbiipemhaaGreatDoorRRuns08
import Derived.Deep.LoopGhost
import Derived.Deep.QuietTactic
import Derived.Deep.CutBlock
import Derived.Deep.DeepCutAuto
import Derived.IntWalk
import Derived.Lib.AppendZeros
namespace Go.Proofs.YtgmdimbiipemhaaGreatDoor
open Go.RowKit Go.Deep
set_option linter.unusedSimpArgs false
set_option linter.unusedVariables false

theorem diffsF_snoc : ∀ (l : List Int) (p x : Int), diffsF p (l ++ [x]) = diffsF p l ++ [wrapI (x - (l.getLast?.getD p))]
  | [], p, x => by simp [diffsF]
  | y :: l, p, x => by
    rw [List.cons_append, diffsF, diffsF_snoc l y x, diffsF, List.cons_append]
    congr 4
    cases l with
    | nil => rfl
    | cons z l => simp only [List.getLast?_cons, Option.getD_some]
theorem diffsB_take {l : List Int} {i : Nat} {x y : Int} (hx : l[i + 1]? = some x) (hy : l[i]? = some y) : diffsB (l.take (i + 2)) = diffsB (l.take (i + 1)) ++ [wrapI (x - y)] := by
  have e1 : l.take (i + 2) = l.take (i + 1) ++ [x] := by rw [List.take_add_one, hx, Option.toList_some]
  have e2 : l.take (i + 1) = l.take i ++ [y] := by rw [List.take_add_one, hy, Option.toList_some]
  rw [e1]
  cases l with
  | nil => simp at hx
  | cons z l =>
    rw [List.take_succ_cons] at e2 ⊢
    rw [List.cons_append, diffsB, diffsF_snoc, diffsB, List.cons_append]
    have h := congrArg List.getLast? e2
    rw [List.getLast?_concat] at h
    have : (l.take i).getLast?.getD z = y := by
      cases hl : l.take i with
      | nil => rw [hl] at h; simpa using h
      | cons a b => rw [hl] at h; rw [List.getLast?_cons_cons] at h; rw [h]; rfl
    rw [this]
theorem diffsB_in {l : List Int} (h : ∀ x ∈ l, -9223372036854775808 ≤ x ∧ x ≤ 9223372036854775807) : ∀ x ∈ diffsB l, -9223372036854775808 ≤ x ∧ x ≤ 9223372036854775807 := by
  have key : ∀ (l : List Int) (p : Int), ∀ x ∈ diffsF p l, -9223372036854775808 ≤ x ∧ x ≤ 9223372036854775807 := by
    intro l
    induction l with
    | nil => intro p x hx; simp [diffsF] at hx
    | cons y l ih =>
      intro p x hx
      rw [diffsF] at hx
      rcases List.mem_cons.1 hx with rfl | hx
      · exact wrapI_in _
      · exact ih y x hx
  intro x hx
  cases l with
  | nil => simp [diffsB] at hx
  | cons y l =>
    rw [diffsB] at hx
    rcases List.mem_cons.1 hx with rfl | hx
    · exact h _ (by simp)
    · exact key _ _ _ hx
theorem diffsB_length : ∀ l : List Int, (diffsB l).length = l.length := by
  have key : ∀ (l : List Int) (p : Int), (diffsF p l).length = l.length := by
    intro l
    induction l with
    | nil => intro p; rfl
    | cons y l ih => intro p; rw [diffsF, List.length_cons, ih, List.length_cons]
  intro l
  cases l with
  | nil => rfl
  | cons y l => rw [diffsB, List.length_cons, key, List.length_cons]


end Go.Proofs.YtgmdimbiipemhaaGreatDoor
