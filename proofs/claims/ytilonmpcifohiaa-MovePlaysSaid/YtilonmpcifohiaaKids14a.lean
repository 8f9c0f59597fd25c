/- Layer 14: the comparison of Kids. -/
import Derived.Test.YtilonmpcifohiaaCmpStr
import Derived.Test.YtilonmpcifohiaaEq14
namespace Go.Proofs.Ytilonmpcifohiaa
open Go.RowKit
set_option linter.unusedSimpArgs false
set_option linter.unusedVariables false

def cfKey (x y : Ch) : Int := cmpB x.key y.key

set_option maxHeartbeats 400000 in
theorem kids2_any (x y : Ch) (w : World) :
    Calls Try.prog 41 #[.agg #[.int .i64 x.block.n, .int .i64 x.block.r, .int .i64 x.under.n, .int .i64 x.under.r, .string x.key], .agg #[.int .i64 y.block.n, .int .i64 y.block.r, .int .i64 y.under.n, .int .i64 y.under.r, .string y.key]] w
      fun e w' => e = .returned (.int .i64 (cfKey x y)) ∧ Below w.heap.size w w' := by
  go_enter Try.func41, Try.ntmps41
  go_wp2_with (go_at_call 42; refine (cmpStr_any _ _ _).mono ?_; rintro e w' ⟨rfl, rfl⟩)
  go_ret
  exact ⟨rfl, ((Below.refl _ _).alloc (Nat.le_refl _) _).alloc (by simp) _⟩

end Go.Proofs.Ytilonmpcifohiaa
