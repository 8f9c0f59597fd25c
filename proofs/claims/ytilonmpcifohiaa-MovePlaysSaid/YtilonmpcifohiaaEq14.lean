/- Layer 14: equal moves, equal children; a comparison of structs in a region. -/
import Derived.Test.YtilonmpcifohiaaOpen14
namespace Go.Proofs.Ytilonmpcifohiaa
open Go.RowKit
set_option linter.unusedSimpArgs false
set_option linter.unusedVariables false

theorem op_eql {P : Program} {o : Oper} {ρ : Operand → Value} {T T' : TypeId} {x y : Operand} {A B : Array Value} {q : Bool} {W : World} (ho : o.op = .binOp .eql T x y T') (hx : ρ x = .agg A) (hy : ρ y = .agg B)
    (hg : P.eqGuardType P.depth T = false) (h : (Op.equal T (.agg A) (.agg B)).run P W = .ok q W) : (execOp ρ o).run P W = .ok (.value (.bool q)) W := by
  unfold execOp
  simp only [ho, hx, hy, eqGuard, binOp, Sem.run_bind, Sem.run_pure, Result.andThen_ok]
  simp [hg, h, Result.andThen]

set_option maxHeartbeats 2000000 in
theorem eq_rmove (x y : RMv) (w : World) : (Op.equal 26 (.agg #[.int .i64 x.at_.n, .int .i64 x.at_.r, .int .i64 x.block.n, .int .i64 x.block.r, .int .i64 x.under.n, .int .i64 x.under.r, .string x.key]) (.agg #[.int .i64 y.at_.n, .int .i64 y.at_.r, .int .i64 y.block.n, .int .i64 y.block.r, .int .i64 y.under.n, .int .i64 y.under.r, .string y.key])).run Try.prog w = .ok (decide (x = y)) w := by
  obtain ⟨⟨a1, a2⟩, ⟨a3, a4⟩, ⟨a5, a6⟩, a7⟩ := x
  obtain ⟨⟨b1, b2⟩, ⟨b3, b4⟩, ⟨b5, b6⟩, b7⟩ := y
  unfold Op.equal Op.maxDepth
  go_simp
  by_cases h1 : a1 = b1 <;> by_cases h2 : a2 = b2 <;> by_cases h3 : a3 = b3 <;> by_cases h4 : a4 = b4 <;> by_cases h5 : a5 = b5 <;> by_cases h6 : a6 = b6 <;> by_cases h7 : a7 = b7 <;> simp [h1, h2, h3, h4, h5, h6, h7, eq_bytes]

set_option maxHeartbeats 2000000 in
theorem eq_child (x y : Ch) (w : World) : (Op.equal 36 (.agg #[.int .i64 x.block.n, .int .i64 x.block.r, .int .i64 x.under.n, .int .i64 x.under.r, .string x.key]) (.agg #[.int .i64 y.block.n, .int .i64 y.block.r, .int .i64 y.under.n, .int .i64 y.under.r, .string y.key])).run Try.prog w = .ok (decide (x = y)) w := by
  obtain ⟨⟨a3, a4⟩, ⟨a5, a6⟩, a7⟩ := x
  obtain ⟨⟨b3, b4⟩, ⟨b5, b6⟩, b7⟩ := y
  unfold Op.equal Op.maxDepth
  go_simp
  by_cases h3 : a3 = b3 <;> by_cases h4 : a4 = b4 <;> by_cases h5 : a5 = b5 <;> by_cases h6 : a6 = b6 <;> by_cases h7 : a7 = b7 <;> simp [h3, h4, h5, h6, h7, eq_bytes]
theorem guard_rmove : Try.prog.eqGuardType Try.prog.depth 26 = false := by kernel_rfl
theorem guard_child : Try.prog.eqGuardType Try.prog.depth 36 = false := by kernel_rfl
theorem guard_stamp : Try.prog.eqGuardType Try.prog.depth 24 = false := by kernel_rfl

end Go.Proofs.Ytilonmpcifohiaa
