/- Contracts of the stamps: cmp.Compare at int, stamp.Compare, stamp.Right, and the reference's. -/
import Derived.Test.YtgmdimbiipemhaaGreatDoorRows
import Derived.WalkKit
import Derived.WalkSpells
import Derived.WalkLawsBesides
import Derived.Lib.Hide
namespace Go.Proofs.YtgmdimbiipemhaaGreatDoor
open Go.RowKit
set_option linter.unusedSimpArgs false
set_option linter.unusedVariables false

def cmpI (a b : Int) : Int := if a < b then -1 else if b < a then 1 else 0

structure St where
  n : Int
  r : Int
  deriving DecidableEq

def St.val (s : St) : Value := .agg #[.int .i64 s.n, .int .i64 s.r]

def rightB (s : St) : Bool := decide (1 ≤ s.n ∧ s.n ≤ 1048576 ∧ 0 ≤ s.r ∧ s.r < 8)

def cmpS (a b : St) : Int := if cmpI a.n b.n != 0 then cmpI a.n b.n else cmpI a.r b.r

set_option maxHeartbeats 400000 in
theorem right_any (a b : Int) (w : World) :
    Calls Tryz.prog 138 #[.agg #[.int .i64 a, .int .i64 b]] w
      fun e w' => e = .returned (.bool (rightB ⟨a, b⟩)) ∧ Below w.heap.size w w' := by
  by_cases h1 : 1 ≤ a
  · by_cases h2 : a ≤ 1048576
    · by_cases h3 : 0 ≤ b
      · by_cases h4 : b < 8
        · have hr : rightB ⟨a, b⟩ = true := by simp only [rightB, decide_eq_true_eq]; exact ⟨h1, h2, h3, h4⟩
          rw [hr]; clear hr
          go_enter Tryz.func138, Tryz.ntmps138
          go_wp2
          go_ret
          exact ⟨rfl, (Below.refl _ _).alloc (Nat.le_refl _) _⟩
        · have hr : rightB ⟨a, b⟩ = false := by simp only [rightB, decide_eq_false_iff_not]; omega
          rw [hr]; clear hr
          go_enter Tryz.func138, Tryz.ntmps138
          go_wp2
          go_ret
          exact ⟨rfl, (Below.refl _ _).alloc (Nat.le_refl _) _⟩
      · have hr : rightB ⟨a, b⟩ = false := by simp only [rightB, decide_eq_false_iff_not]; omega
        rw [hr]; clear hr
        go_enter Tryz.func138, Tryz.ntmps138
        go_wp2
        go_ret
        exact ⟨rfl, (Below.refl _ _).alloc (Nat.le_refl _) _⟩
    · have hr : rightB ⟨a, b⟩ = false := by simp only [rightB, decide_eq_false_iff_not]; omega
      rw [hr]; clear hr
      go_enter Tryz.func138, Tryz.ntmps138
      go_wp2
      go_ret
      exact ⟨rfl, (Below.refl _ _).alloc (Nat.le_refl _) _⟩
  · have hr : rightB ⟨a, b⟩ = false := by simp only [rightB, decide_eq_false_iff_not]; omega
    rw [hr]; clear hr
    go_enter Tryz.func138, Tryz.ntmps138
    go_wp2
    go_ret
    exact ⟨rfl, (Below.refl _ _).alloc (Nat.le_refl _) _⟩

end Go.Proofs.YtgmdimbiipemhaaGreatDoor
