/- Contracts of the stamps: cmp.Compare at int, stamp.Compare, stamp.Right, and the reference's. -/
import Derived.Test.YtilonmpcifohiaaRows
import Derived.WalkKit
import Derived.WalkSpells
import Derived.WalkLawsBesides
import Derived.Lib.Hide
namespace Go.Proofs.Ytilonmpcifohiaa
open Go.RowKit
set_option linter.unusedSimpArgs false
set_option linter.unusedVariables false

def cmpI (a b : Int) : Int := if a < b then -1 else if b < a then 1 else 0

structure St where
  n : Int
  r : Int
  deriving DecidableEq

def St.val (s : St) : Value := .agg #[.int .i64 s.n, .int .i64 s.r]

def rightB (s : St) : Bool := decide (1 ≤ s.n ∧ s.n ≤ 1048576 ∧ 0 ≤ s.r ∧ s.r < 8)

def cmpS (a b : St) : Int := if cmpI a.n b.n != 0 then cmpI a.n b.n else cmpI a.r b.r

set_option maxHeartbeats 400000 in
theorem cmpInt_any (a b : Int) (w : World) :
    Calls Try.prog 26 #[.int .i64 a, .int .i64 b] w fun e w' => e = .returned (.int .i64 (cmpI a b)) ∧ w = w' := by
  by_cases h1 : a < b
  · go_enter Try.func26, Try.ntmps26
    go_wp2
    go_ret
    exact ⟨by simp [cmpI, h1], rfl⟩
  · by_cases h2 : b < a
    · go_enter Try.func26, Try.ntmps26
      go_wp2
      go_ret
      exact ⟨by simp [cmpI, h1, h2], rfl⟩
    · go_enter Try.func26, Try.ntmps26
      go_wp2
      go_ret
      exact ⟨by rw [cmpI, if_neg (by omega), if_neg (by omega)]; rfl, rfl⟩

set_option maxHeartbeats 400000 in
theorem compare_any (a b c d : Int) (w : World) :
    Calls Try.prog 13 #[.agg #[.int .i64 a, .int .i64 b], .agg #[.int .i64 c, .int .i64 d]] w
      fun e w' => e = .returned (.int .i64 (cmpS ⟨a, b⟩ ⟨c, d⟩)) ∧ Below w.heap.size w w' := by
  by_cases h1 : (cmpI a c != 0) = true
  · go_enter Try.func13, Try.ntmps13
    go_wp2_with (go_at_call 26; refine (cmpInt_any _ _ _).mono ?_; rintro e w' ⟨rfl, rfl⟩)
    go_ret
    exact ⟨by simp [cmpS, h1], ((Below.refl _ _).alloc (Nat.le_refl _) _).alloc (by simp) _⟩
  · have h1 : (cmpI a c != 0) = false := by simpa using h1
    go_enter Try.func13, Try.ntmps13
    go_wp2_with (go_at_call 26; refine (cmpInt_any _ _ _).mono ?_; rintro e w' ⟨rfl, rfl⟩)
    go_ret
    exact ⟨by simp [cmpS, h1], ((Below.refl _ _).alloc (Nat.le_refl _) _).alloc (by simp) _⟩

set_option maxHeartbeats 400000 in
theorem right_any (a b : Int) (w : World) :
    Calls Try.prog 27 #[.agg #[.int .i64 a, .int .i64 b]] w
      fun e w' => e = .returned (.bool (rightB ⟨a, b⟩)) ∧ Below w.heap.size w w' := by
  by_cases h1 : 1 ≤ a
  · by_cases h2 : a ≤ 1048576
    · by_cases h3 : 0 ≤ b
      · by_cases h4 : b < 8
        · have hr : rightB ⟨a, b⟩ = true := by simp only [rightB, decide_eq_true_eq]; exact ⟨h1, h2, h3, h4⟩
          rw [hr]; clear hr
          go_enter Try.func27, Try.ntmps27
          go_wp2
          go_ret
          exact ⟨rfl, (Below.refl _ _).alloc (Nat.le_refl _) _⟩
        · have hr : rightB ⟨a, b⟩ = false := by simp only [rightB, decide_eq_false_iff_not]; omega
          rw [hr]; clear hr
          go_enter Try.func27, Try.ntmps27
          go_wp2
          go_ret
          exact ⟨rfl, (Below.refl _ _).alloc (Nat.le_refl _) _⟩
      · have hr : rightB ⟨a, b⟩ = false := by simp only [rightB, decide_eq_false_iff_not]; omega
        rw [hr]; clear hr
        go_enter Try.func27, Try.ntmps27
        go_wp2
        go_ret
        exact ⟨rfl, (Below.refl _ _).alloc (Nat.le_refl _) _⟩
    · have hr : rightB ⟨a, b⟩ = false := by simp only [rightB, decide_eq_false_iff_not]; omega
      rw [hr]; clear hr
      go_enter Try.func27, Try.ntmps27
      go_wp2
      go_ret
      exact ⟨rfl, (Below.refl _ _).alloc (Nat.le_refl _) _⟩
  · have hr : rightB ⟨a, b⟩ = false := by simp only [rightB, decide_eq_false_iff_not]; omega
    rw [hr]; clear hr
    go_enter Try.func27, Try.ntmps27
    go_wp2
    go_ret
    exact ⟨rfl, (Below.refl _ _).alloc (Nat.le_refl _) _⟩

end Go.Proofs.Ytilonmpcifohiaa
