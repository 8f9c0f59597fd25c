/- The order of stamps. -/
import Derived.Test.YtilonmpcifohiaaStamp
import Derived.Test.YtilonmpcifohiaaRef01
namespace Go.Proofs.Ytilonmpcifohiaa
open Go.RowKit
set_option linter.unusedSimpArgs false
set_option linter.unusedVariables false

theorem cmpS_lt (a b : St) : cmpS a b < 0 ↔ a.n < b.n ∨ (a.n = b.n ∧ a.r < b.r) := by
  unfold cmpS cmpI
  by_cases h1 : a.n < b.n
  · simp [h1]
  · by_cases h2 : b.n < a.n
    · simp [h1, h2]; omega
    · have : a.n = b.n := by omega
      by_cases h3 : a.r < b.r
      · simp [h1, h2, h3, this]
      · by_cases h4 : b.r < a.r <;> simp [h1, h2, h3, h4, this]

/-- a stands ahead of b. -/
def stLt (a b : St) : Prop := a.n < b.n ∨ (a.n = b.n ∧ a.r < b.r)
theorem stLt_irrefl (a : St) : ¬ stLt a a := by unfold stLt; omega
theorem stLt_trans {a b c : St} (h : stLt a b) (k : stLt b c) : stLt a c := by unfold stLt at *; omega
theorem stLt_total (a b : St) : stLt a b ∨ a = b ∨ stLt b a := by
  unfold stLt
  by_cases h : a = b
  · exact .inr (.inl h)
  · have : ¬ (a.n = b.n ∧ a.r = b.r) := fun e => h (by cases a; cases b; simp_all)
    omega
theorem right_pos {a : St} (h : rightB a = true) : stLt ⟨0, 0⟩ a := by
  simp only [rightB, decide_eq_true_eq] at h
  exact .inl (by show (0 : Int) < a.n; omega)


theorem cmpS_gt (a b : St) : 0 < cmpS a b ↔ stLt b a := by
  rw [show a = ⟨a.n, a.r⟩ from rfl, show b = ⟨b.n, b.r⟩ from rfl, cmpS_val]
  unfold stLt
  simp only
  split
  · constructor <;> intro h <;> omega
  · split
    · constructor <;> intro h <;> omega
    · split
      · constructor <;> intro h <;> omega
      · split
        · constructor <;> intro h <;> omega
        · constructor <;> intro h <;> omega
theorem cmpS_eq (a b : St) : cmpS a b = 0 ↔ a = b := by
  have h1 := cmpS_gt a b
  have h2 := cmpS_lt a b
  have h3 := stLt_total a b
  constructor
  · intro h
    rcases h3 with t | t | t
    · have := (cmpS_lt a b).2 t; omega
    · exact t
    · have := h1.2 t; omega
  · rintro rfl
    have := stLt_irrefl a
    have n1 : ¬ 0 < cmpS a a := fun h => this (h1.1 h)
    have n2 : ¬ cmpS a a < 0 := fun h => this (h2.1 h)
    omega

end Go.Proofs.Ytilonmpcifohiaa
