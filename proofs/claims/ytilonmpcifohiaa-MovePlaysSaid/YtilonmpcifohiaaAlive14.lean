/- Layer 14: the live question. -/
import Derived.Test.YtilonmpcifohiaaOpen14
namespace Go.Proofs.Ytilonmpcifohiaa
open Go.RowKit
set_option linter.unusedSimpArgs false
set_option linter.unusedVariables false

theorem insC_nil (x : St × Ch) : insC [] x = [x] := by simp [insC]
theorem hang_nil : hang [] = fun _ => none := rfl
theorem hang_one (x : St × Ch) : hang [x] = stepH (fun _ => none) x.2 := rfl
theorem hang_two (x y : St × Ch) : hang [x, y] = stepH (stepH (fun _ => none) x.2) y.2 := rfl
theorem moveCode_ok {c : List (St × Ch)} {a b u : St} (hg : goodB a b u = true) (hn : ∀ x ∈ c, x.1 ≠ a) : moveCode c a b u = 0 := by
  unfold moveCode
  rw [if_pos hg, if_neg (fun ⟨x, h1, h2⟩ => hn x h1 h2)]
theorem addC_ok {c : List (St × Ch)} {a : St} {x : Ch} (h : moveCode c a x.block x.under = 0) : addC c a x = insC c (a, x) := if_pos h

section
variable (ka kb : ByteArray)
theorem al1 : moveCode [] ⟨5, 0⟩ ⟨1, 0⟩ ⟨2, 0⟩ = 0 := moveCode_ok (by decide) (fun x h => by simp at h)
theorem al2 : addC [] ⟨5, 0⟩ ⟨⟨1, 0⟩, ⟨2, 0⟩, kb⟩ = [(⟨5, 0⟩, ⟨⟨1, 0⟩, ⟨2, 0⟩, kb⟩)] := by rw [addC_ok al1, insC_nil]
theorem al3 : moveCode [(⟨5, 0⟩, ⟨⟨1, 0⟩, ⟨2, 0⟩, kb⟩)] ⟨4, 0⟩ ⟨2, 0⟩ ⟨1, 0⟩ = 0 := moveCode_ok (by decide) (fun x h => by simp at h; subst h; simp)
theorem al4 : addC [(⟨5, 0⟩, ⟨⟨1, 0⟩, ⟨2, 0⟩, kb⟩)] ⟨4, 0⟩ ⟨⟨2, 0⟩, ⟨1, 0⟩, ka⟩ = [(⟨4, 0⟩, ⟨⟨2, 0⟩, ⟨1, 0⟩, ka⟩), (⟨5, 0⟩, ⟨⟨1, 0⟩, ⟨2, 0⟩, kb⟩)] := by
  rw [addC_ok (al3 kb)]
  unfold insC
  rw [if_neg (by simp [stLt])]
theorem al5 : tookH (fun _ => none) ⟨⟨2, 0⟩, ⟨1, 0⟩, ka⟩ = true := tookH_of_not (up_none rfl (by simp))
theorem al6 : stepH (fun _ => none) ⟨⟨2, 0⟩, ⟨1, 0⟩, ka⟩ = setH (fun _ => none) ⟨2, 0⟩ ⟨⟨2, 0⟩, ⟨1, 0⟩, ka⟩ := stepH_took (al5 ka)
theorem al7 : tookH (setH (fun _ => none) ⟨2, 0⟩ ⟨⟨2, 0⟩, ⟨1, 0⟩, ka⟩) ⟨⟨1, 0⟩, ⟨2, 0⟩, kb⟩ = false :=
  tookH_of (.step (c := ⟨⟨2, 0⟩, ⟨1, 0⟩, ka⟩) (setH_same _ _ _) (.refl _))
theorem al8 : hang [(⟨4, 0⟩, ⟨⟨2, 0⟩, ⟨1, 0⟩, ka⟩), (⟨5, 0⟩, ⟨⟨1, 0⟩, ⟨2, 0⟩, kb⟩)] ⟨2, 0⟩ = some ⟨⟨2, 0⟩, ⟨1, 0⟩, ka⟩ := by
  rw [hang_two, al6, stepH_not (al7 ka kb)]
  exact setH_same _ _ _
theorem al9 : tookC [(⟨4, 0⟩, ⟨⟨2, 0⟩, ⟨1, 0⟩, ka⟩), (⟨5, 0⟩, ⟨⟨1, 0⟩, ⟨2, 0⟩, kb⟩)] ⟨4, 0⟩ = true := by
  unfold tookC tookAt
  rw [if_pos rfl]
  exact al5 ka
theorem al10 : tookC [(⟨4, 0⟩, ⟨⟨2, 0⟩, ⟨1, 0⟩, ka⟩), (⟨5, 0⟩, ⟨⟨1, 0⟩, ⟨2, 0⟩, kb⟩)] ⟨5, 0⟩ = false := by
  unfold tookC tookAt tookAt
  rw [if_neg (by simp), if_pos rfl, al6]
  exact al7 ka kb
end

set_option maxRecDepth 100000 in
set_option maxHeartbeats 1000000 in
theorem alive_any (w : World) : Calls Try.prog 11 #[] w fun e w' => e = .returned (.bool true) ∧ Below w.heap.size w w' := by
  go_enter Try.func11, Try.ntmps11
  go_wp2_with fail
  refine (new_tree _).mono ?_
  rintro e w1 ⟨rfl, r1, b1, z1⟩
  have H1 := Lib.hid z1
  clear z1
  go_wp2_with fail
  have hz : w.heap.size ≤ w1.heap.size := b1.size
  refine (move_any _ ⟨5, 0⟩ ⟨1, 0⟩ ⟨2, 0⟩ _ _ r1 hz (by simp)).mono ?_
  rintro e w2 ⟨rfl, r2, x2⟩
  rw [al1]
  rw [al2] at r2
  have b2 := touch_below b1 r1 x2 (Nat.le_refl _)
  clear x2 r1 b1
  go_wp2_with fail
  refine (move_any _ ⟨4, 0⟩ ⟨2, 0⟩ ⟨1, 0⟩ _ _ r2 b2.size (by simp)).mono ?_
  rintro e w3 ⟨rfl, r3, x3⟩
  rw [al3]
  rw [al4] at r3
  have b3 := touch_below b2 r2 x3 (Nat.le_refl _)
  clear x3 r2 b2
  go_wp2_with fail
  refine (parent_any _ 2 0 _ r3).mono ?_
  rintro e w4 ⟨x, is, rfl, hx, b4⟩
  rw [al8] at hx
  obtain ⟨rfl, rfl⟩ : is = true ∧ x = ⟨⟨2, 0⟩, ⟨1, 0⟩, _⟩ := by
    rcases hx with ⟨h1, h2⟩ | ⟨_, h2, _⟩
    · exact ⟨h1, (Option.some.inj h2).symm⟩
    · cases h2
  replace r3 := r3.below b4
  replace b4 := b3.trans (b4.mono b3.size)
  clear b3 hx hz
  go_wp2_with fail
  replace r3 := r3.alloc (.cells #[.int .i64 2, .int .i64 0, .int .i64 1, .int .i64 0, .string ⟨#[97]⟩] 36)
  replace b4 := b4.alloc b4.size (.cells #[.int .i64 2, .int .i64 0, .int .i64 1, .int .i64 0, .string ⟨#[97]⟩] 36)
  refine (took_any _ 5 0 _ r3 (by simp)).mono ?_
  rintro e w5 ⟨rfl, b5⟩
  rw [al10]
  replace r3 := r3.below b5
  replace b5 := b4.trans (b5.mono b4.size)
  clear b4
  go_wp2_with fail
  refine (took_any _ 4 0 _ r3 (by simp)).mono ?_
  rintro e w6 ⟨rfl, b6⟩
  rw [al9]
  replace b6 := b5.trans (b6.mono b5.size)
  clear b5
  go_wp2_with fail
  go_ret
  exact ⟨rfl, b6⟩

end Go.Proofs.Ytilonmpcifohiaa
