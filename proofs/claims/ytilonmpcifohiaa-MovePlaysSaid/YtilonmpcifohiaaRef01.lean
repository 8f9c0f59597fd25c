/- Contracts of the reference's stamps: stemmaref01.Right and Compare. -/
import Derived.Test.YtilonmpcifohiaaStamp
namespace Go.Proofs.Ytilonmpcifohiaa
open Go.RowKit
set_option linter.unusedSimpArgs false
set_option linter.unusedVariables false

set_option maxHeartbeats 400000 in
theorem rright_any (a b : Int) (w : World) :
    Calls Try.prog 32 #[.agg #[.int .i64 a, .int .i64 b]] w
      fun e w' => e = .returned (.bool (rightB ⟨a, b⟩)) ∧ Below w.heap.size w w' := by
  by_cases h1 : 1 ≤ a
  · by_cases h2 : a ≤ 1048576
    · by_cases h3 : 0 ≤ b
      · by_cases h4 : b < 8
        · have hr : rightB ⟨a, b⟩ = true := by simp only [rightB, decide_eq_true_eq]; exact ⟨h1, h2, h3, h4⟩
          rw [hr]; clear hr
          go_enter Try.func32, Try.ntmps32
          go_wp2
          go_ret
          exact ⟨rfl, (Below.refl _ _).alloc (Nat.le_refl _) _⟩
        · have hr : rightB ⟨a, b⟩ = false := by simp only [rightB, decide_eq_false_iff_not]; omega
          rw [hr]; clear hr
          go_enter Try.func32, Try.ntmps32
          go_wp2
          go_ret
          exact ⟨rfl, (Below.refl _ _).alloc (Nat.le_refl _) _⟩
      · have hr : rightB ⟨a, b⟩ = false := by simp only [rightB, decide_eq_false_iff_not]; omega
        rw [hr]; clear hr
        go_enter Try.func32, Try.ntmps32
        go_wp2
        go_ret
        exact ⟨rfl, (Below.refl _ _).alloc (Nat.le_refl _) _⟩
    · have hr : rightB ⟨a, b⟩ = false := by simp only [rightB, decide_eq_false_iff_not]; omega
      rw [hr]; clear hr
      go_enter Try.func32, Try.ntmps32
      go_wp2
      go_ret
      exact ⟨rfl, (Below.refl _ _).alloc (Nat.le_refl _) _⟩
  · have hr : rightB ⟨a, b⟩ = false := by simp only [rightB, decide_eq_false_iff_not]; omega
    rw [hr]; clear hr
    go_enter Try.func32, Try.ntmps32
    go_wp2
    go_ret
    exact ⟨rfl, (Below.refl _ _).alloc (Nat.le_refl _) _⟩

theorem cmpS_val (a b c d : Int) : cmpS ⟨a, b⟩ ⟨c, d⟩ = if a < c then -1 else if c < a then 1 else if b < d then -1 else if d < b then 1 else 0 := by
  unfold cmpS cmpI
  by_cases h1 : a < c
  · simp [h1]
  · by_cases h2 : c < a
    · simp [h1, h2]
    · simp [h1, h2]

set_option maxHeartbeats 800000 in
theorem rcompare_any (a b c d : Int) (w : World) :
    Calls Try.prog 33 #[.agg #[.int .i64 a, .int .i64 b], .agg #[.int .i64 c, .int .i64 d]] w
      fun e w' => e = .returned (.int .i64 (cmpS ⟨a, b⟩ ⟨c, d⟩)) ∧ Below w.heap.size w w' := by
  rw [cmpS_val]
  by_cases h1 : a < c
  · rw [if_pos h1]
    go_enter Try.func33, Try.ntmps33
    go_wp2
    go_ret
    exact ⟨rfl, ((Below.refl _ _).alloc (Nat.le_refl _) _).alloc (by simp) _⟩
  · by_cases h2 : c < a
    · rw [if_neg h1, if_pos h2]
      go_enter Try.func33, Try.ntmps33
      go_wp2
      go_ret
      exact ⟨rfl, ((Below.refl _ _).alloc (Nat.le_refl _) _).alloc (by simp) _⟩
    · by_cases h3 : b < d
      · rw [if_neg h1, if_neg h2, if_pos h3]
        go_enter Try.func33, Try.ntmps33
        go_wp2
        go_ret
        exact ⟨rfl, ((Below.refl _ _).alloc (Nat.le_refl _) _).alloc (by simp) _⟩
      · by_cases h4 : d < b
        · rw [if_neg h1, if_neg h2, if_neg h3, if_pos h4]
          go_enter Try.func33, Try.ntmps33
          go_wp2
          go_ret
          exact ⟨rfl, ((Below.refl _ _).alloc (Nat.le_refl _) _).alloc (by simp) _⟩
        · rw [if_neg h1, if_neg h2, if_neg h3, if_neg h4]
          go_enter Try.func33, Try.ntmps33
          go_wp2
          go_ret
          exact ⟨rfl, ((Below.refl _ _).alloc (Nat.le_refl _) _).alloc (by simp) _⟩

end Go.Proofs.Ytilonmpcifohiaa
