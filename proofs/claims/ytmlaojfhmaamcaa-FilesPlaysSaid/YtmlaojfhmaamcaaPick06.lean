/- Contracts of files.pick, maps.Clone, Disk.namesAt. -/
import Derived.Test.YtmlaojfhmaamcaaNames06
import Derived.Test.YtmlaojfhmaamcaaSynN06
import Derived.Test.YtmlaojfhmaamcaaInv06
namespace Go.Proofs.Ytmlaojfhmaamcaa
open Go.RowKit Go.Deep
set_option linter.unusedSimpArgs false
set_option linter.unusedVariables false

/-- Which of n a raw number speaks of. -/
def pickN (c : Int) (n : Nat) : Nat := ((if c < 0 then -(c + 1) else c) % (n : Int)).toNat
theorem pickN_lt (c : Int) {n : Nat} (hn : 0 < n) : pickN c n < n := by
  unfold pickN
  have h1 := Int.emod_lt_of_pos (if c < 0 then -(c + 1) else c) (show (0 : Int) < n by omega)
  have h2 := Int.emod_nonneg (if c < 0 then -(c + 1) else c) (show (n : Int) ≠ 0 by omega)
  omega

set_option maxRecDepth 20000 in
set_option maxHeartbeats 1000000 in
theorem pick_any (c : Int) (n : Nat) (hc1 : -9223372036854775808 ≤ c) (hc2 : c ≤ 9223372036854775807) (hn : 0 < n) (hn2 : n ≤ 70368744177664) (w : World) :
    Calls Try.prog 34 #[.int .i64 c, .int .i64 n] w fun e w' => e = .returned (.int .i64 (pickN c n)) ∧ w' = w := by
  have hn0 : ¬ (n : Int) = 0 := by omega
  have hlt := pickN_lt c hn
  by_cases h0 : c < 0
  · have hp : (-(c + 1)).tmod (n : Int) = (pickN c n : Int) := by
      unfold pickN
      rw [if_pos h0, Int.tmod_eq_emod_of_nonneg (by omega)]
      have h2 := Int.emod_nonneg (-(c + 1)) (show (n : Int) ≠ 0 by omega)
      omega
    have hw1 : IntKind.i64.wrap (c + 1) = c + 1 := IntWalk.i64_in _ (by omega)
    have hw2 : IntKind.i64.wrap (-(c + 1)) = -(c + 1) := IntWalk.i64_in _ (by omega)
    go_enter Try.func34, Try.ntmps34
    go_wp2
    go_ret
    exact ⟨by first | (rw [hp]; rfl) | simp [hp] | (simp; omega), rfl⟩
  · have hp : c.tmod (n : Int) = (pickN c n : Int) := by
      unfold pickN
      rw [if_neg h0, Int.tmod_eq_emod_of_nonneg (by omega)]
      have h2 := Int.emod_nonneg c (show (n : Int) ≠ 0 by omega)
      omega
    go_enter Try.func34, Try.ntmps34
    go_wp2
    go_ret
    exact ⟨by first | (rw [hp]; rfl) | simp [hp] | (simp; omega), rfl⟩

theorem cloneM_any {V : Type} {ev : V → Value} {b : Nat} {l : List (ByteArray × V)} {w : World} (h : MapIs Value.string ev w b l) :
    Calls Try.prog 37 #[.map (some b)] w fun e w' => e = .returned (.map (some w.heap.size)) ∧ MapIs Value.string ev w' w.heap.size l ∧ Below w.heap.size w w' := by
  obtain ⟨hn, es, clock, h1, h2⟩ := h
  refine (AnyW.maps_Clone Try.cloneF b es clock w h1).mono ?_
  rintro e w' ⟨rfl, rfl⟩
  exact ⟨rfl, ⟨hn, es, clock, (MapKept.heap_alloc w _).1, h2⟩, (Below.refl _ _).alloc (Nat.le_refl _) _⟩

end Go.Proofs.Ytmlaojfhmaamcaa
