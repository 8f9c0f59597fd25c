/- Are two operations one? -/
import Derived.Test.YtgmdimbiipemhaaGreatDoorOp08
import Derived.Test.YtgmdimbiipemhaaGreatDoorCnv08
import Derived.ChangeKeysEq
import Derived.Laws.StructEq
namespace Go.Proofs.YtgmdimbiipemhaaGreatDoor
open Go.RowKit
set_option linter.unusedSimpArgs false
set_option linter.unusedVariables false

theorem op_eql {P : Program} {o : Oper} {ρ : Operand → Value} {T T' : TypeId} {x y : Operand} {A B : Array Value} {q : Bool} {W : World} (ho : o.op = .binOp .eql T x y T') (hx : ρ x = .agg A) (hy : ρ y = .agg B)
    (hg : P.eqGuardType P.depth T = false) (h : (Op.equal T (.agg A) (.agg B)).run P W = .ok q W) : (execOp ρ o).run P W = .ok (.value (.bool q)) W := by
  unfold execOp
  simp only [ho, hx, hy, eqGuard, binOp, Sem.run_bind, Sem.run_pure, Result.andThen_ok]
  simp [hg, h, Result.andThen]
theorem guard_op : Tryz.prog.eqGuardType Tryz.prog.depth 68 = false := by kernel_rfl
theorem info_int8 : ∃ i, Tryz.prog.info? 3 = some i := by
  cases h : Tryz.prog.info? 3 with
  | none => exact absurd h (by decide +kernel)
  | some i => exact ⟨i, rfl⟩
theorem cells_int8 : Tryz.prog.cellsOf 3 = 1 := by kernel_rfl
set_option maxHeartbeats 2000000 in
theorem eq_vec (a0 a1 a2 a3 a4 a5 a6 a7 b0 b1 b2 b3 b4 b5 b6 b7 : Int) (w : World) : (Op.equalIn 9999 32 (.agg #[.int .i64 a0, .int .i64 a1, .int .i64 a2, .int .i64 a3, .int .i64 a4, .int .i64 a5, .int .i64 a6, .int .i64 a7]) (.agg #[.int .i64 b0, .int .i64 b1, .int .i64 b2, .int .i64 b3, .int .i64 b4, .int .i64 b5, .int .i64 b6, .int .i64 b7])).run Tryz.prog w = .ok (decide (([a0, a1, a2, a3, a4, a5, a6, a7] : List Int) = [b0, b1, b2, b3, b4, b5, b6, b7])) w := by
  obtain ⟨i, hi⟩ := info_int8
  rw [show (9999 : Nat) = 9998 + 1 from rfl, run_equalIn_array w 9998 _ _ Tryz.underlying32 hi, cells_int8, show List.range 8 = [0, 1, 2, 3, 4, 5, 6, 7] from rfl]
  simp only [Op.eqItems]
  go_simp
  by_cases h0 : a0 = b0
  case neg => simp [h0]
  subst h0
  by_cases h1 : a1 = b1
  case neg => simp [h1]
  subst h1
  by_cases h2 : a2 = b2
  case neg => simp [h2]
  subst h2
  by_cases h3 : a3 = b3
  case neg => simp [h3]
  subst h3
  by_cases h4 : a4 = b4
  case neg => simp [h4]
  subst h4
  by_cases h5 : a5 = b5
  case neg => simp [h5]
  subst h5
  by_cases h6 : a6 = b6
  case neg => simp [h6]
  subst h6
  by_cases h7 : a7 = b7
  case neg => simp [h7]
  subst h7
  simp
set_option maxRecDepth 100000 in
set_option maxHeartbeats 4000000 in
theorem eq_op (x y : OpD) (w : World) : (Op.equal 68 x.val y.val).run Tryz.prog w = .ok (decide (x = y)) w := by
  obtain ⟨⟨i1, i2⟩, p0, p1, p2, p3, p4, p5, p6, p7, kind, ⟨r1, r2⟩, side, ch, ⟨u1, u2⟩, key, name, value, ⟨f1, f2⟩, fa, ⟨t1, t2⟩, ta⟩ := x
  obtain ⟨⟨j1, j2⟩, q0, q1, q2, q3, q4, q5, q6, q7, kind', ⟨s1, s2⟩, side', ch', ⟨v1, v2⟩, key', name', value', ⟨g1, g2⟩, fa', ⟨z1, z2⟩, ta'⟩ := y
  have hv := eq_vec p0 p1 p2 p3 p4 p5 p6 p7 q0 q1 q2 q3 q4 q5 q6 q7
  unfold Op.equal Op.maxDepth OpD.val OpD.cells
  dsimp only
  go_simp
  simp only [eq_bytes]
  by_cases h : i1 = j1
  case neg => simp [h]
  subst h
  by_cases h : i2 = j2
  case neg => simp [h]
  subst h
  by_cases h : p0 = q0
  case neg => simp [h]
  subst h
  by_cases h : p1 = q1
  case neg => simp [h]
  subst h
  by_cases h : p2 = q2
  case neg => simp [h]
  subst h
  by_cases h : p3 = q3
  case neg => simp [h]
  subst h
  by_cases h : p4 = q4
  case neg => simp [h]
  subst h
  by_cases h : p5 = q5
  case neg => simp [h]
  subst h
  by_cases h : p6 = q6
  case neg => simp [h]
  subst h
  by_cases h : p7 = q7
  case neg => simp [h]
  subst h
  by_cases h : kind = kind'
  case neg => simp [h]
  subst h
  by_cases h : r1 = s1
  case neg => simp [h]
  subst h
  by_cases h : r2 = s2
  case neg => simp [h]
  subst h
  by_cases h : side = side'
  case neg => simp [h]
  subst h
  by_cases h : ch = ch'
  case neg => simp [h]
  subst h
  by_cases h : u1 = v1
  case neg => simp [h]
  subst h
  by_cases h : u2 = v2
  case neg => simp [h]
  subst h
  by_cases h : key = key'
  case neg => simp [h]
  subst h
  by_cases h : name = name'
  case neg => simp [h]
  subst h
  by_cases h : value = value'
  case neg => simp [h]
  subst h
  by_cases h : f1 = g1
  case neg => simp [h]
  subst h
  by_cases h : f2 = g2
  case neg => simp [h]
  subst h
  by_cases h : fa = fa'
  case neg => simp [h]
  subst h
  by_cases h : t1 = z1
  case neg => simp [h]
  subst h
  by_cases h : t2 = z2
  case neg => simp [h]
  subst h
  by_cases h : ta = ta'
  case neg => simp [h]
  subst h
  simp
theorem run_eql_op (x y : OpD) (w : World) : (binOp .eql 68 x.val y.val).run Tryz.prog w = .ok (.bool (decide (x = y))) w := by
  have h := eq_op x y w
  unfold OpD.val at h ⊢
  simp only [binOp, Sem.run_bind, h, Result.andThen_ok, Sem.run_pure]
theorem run_neq_op (x y : OpD) (w : World) : (binOp .neq 68 x.val y.val).run Tryz.prog w = .ok (.bool (!decide (x = y))) w := by
  have h := eq_op x y w
  unfold OpD.val at h ⊢
  simp only [binOp, Sem.run_bind, h, Result.andThen_ok, Sem.run_pure]

end Go.Proofs.YtgmdimbiipemhaaGreatDoor
