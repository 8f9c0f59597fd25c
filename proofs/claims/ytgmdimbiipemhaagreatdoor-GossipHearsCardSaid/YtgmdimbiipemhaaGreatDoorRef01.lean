/- Contracts of the reference's stamps: stemmaref01.Right and Compare. -/
import Derived.Test.YtgmdimbiipemhaaGreatDoorStamp
namespace Go.Proofs.YtgmdimbiipemhaaGreatDoor
open Go.RowKit
set_option linter.unusedSimpArgs false
set_option linter.unusedVariables false

set_option maxHeartbeats 400000 in
theorem rright_any (a b : Int) (w : World) :
    Calls Tryz.prog 132 #[.agg #[.int .i64 a, .int .i64 b]] w
      fun e w' => e = .returned (.bool (rightB ⟨a, b⟩)) ∧ Below w.heap.size w w' := by
  by_cases h1 : 1 ≤ a
  · by_cases h2 : a ≤ 1048576
    · by_cases h3 : 0 ≤ b
      · by_cases h4 : b < 8
        · have hr : rightB ⟨a, b⟩ = true := by simp only [rightB, decide_eq_true_eq]; exact ⟨h1, h2, h3, h4⟩
          rw [hr]; clear hr
          go_enter Tryz.func132, Tryz.ntmps132
          go_wp2
          go_ret
          exact ⟨rfl, (Below.refl _ _).alloc (Nat.le_refl _) _⟩
        · have hr : rightB ⟨a, b⟩ = false := by simp only [rightB, decide_eq_false_iff_not]; omega
          rw [hr]; clear hr
          go_enter Tryz.func132, Tryz.ntmps132
          go_wp2
          go_ret
          exact ⟨rfl, (Below.refl _ _).alloc (Nat.le_refl _) _⟩
      · have hr : rightB ⟨a, b⟩ = false := by simp only [rightB, decide_eq_false_iff_not]; omega
        rw [hr]; clear hr
        go_enter Tryz.func132, Tryz.ntmps132
        go_wp2
        go_ret
        exact ⟨rfl, (Below.refl _ _).alloc (Nat.le_refl _) _⟩
    · have hr : rightB ⟨a, b⟩ = false := by simp only [rightB, decide_eq_false_iff_not]; omega
      rw [hr]; clear hr
      go_enter Tryz.func132, Tryz.ntmps132
      go_wp2
      go_ret
      exact ⟨rfl, (Below.refl _ _).alloc (Nat.le_refl _) _⟩
  · have hr : rightB ⟨a, b⟩ = false := by simp only [rightB, decide_eq_false_iff_not]; omega
    rw [hr]; clear hr
    go_enter Tryz.func132, Tryz.ntmps132
    go_wp2
    go_ret
    exact ⟨rfl, (Below.refl _ _).alloc (Nat.le_refl _) _⟩

end Go.Proofs.YtgmdimbiipemhaaGreatDoor
