/- The law MoveNil: no tree: the error, and nothing; for every input. -/
import Derived.Test.YtilonmpcifohiaaNil14
import Derived.Test.YtilonmpcifohiaaRows
import Derived.Test.YtilonmpcifohiaaHand
import Derived.ProofKit
import Derived.OpenShut
import Derived.ShutString
import Derived.ChangeOld
import Derived.Below
namespace Go.Proofs.Ytilonmpcifohiaa
open Go.ChangeShapes Go.WideShapes Go.ChangeAt Go.RowKit
set_option linter.unusedSimpArgs false
set_option linter.unusedVariables false

set_option maxRecDepth 100000 in
set_option maxHeartbeats 2000000 in
theorem moveNil_walk (x : RMv) (w : World) :
    Calls Try.prog 8 #[.agg #[.int .i64 x.at_.n, .int .i64 x.at_.r, .int .i64 x.block.n, .int .i64 x.block.r, .int .i64 x.under.n, .int .i64 x.under.r, .string x.key]] w fun e w' => e = .returned (.bool true) ∧ Below w.heap.size w w' := by
  have x0 : (w.alloc (.cells #[.int .i64 x.at_.n, .int .i64 x.at_.r, .int .i64 x.block.n, .int .i64 x.block.r, .int .i64 x.under.n, .int .i64 x.under.r, .string x.key] 26)).cell? ⟨w.heap.size, 0, none⟩ = some (.int .i64 x.at_.n) := by go_simp
  have x1 : (w.alloc (.cells #[.int .i64 x.at_.n, .int .i64 x.at_.r, .int .i64 x.block.n, .int .i64 x.block.r, .int .i64 x.under.n, .int .i64 x.under.r, .string x.key] 26)).cell? ⟨w.heap.size, 1, none⟩ = some (.int .i64 x.at_.r) := by go_simp
  have x2 : (w.alloc (.cells #[.int .i64 x.at_.n, .int .i64 x.at_.r, .int .i64 x.block.n, .int .i64 x.block.r, .int .i64 x.under.n, .int .i64 x.under.r, .string x.key] 26)).cell? ⟨w.heap.size, 2, none⟩ = some (.int .i64 x.block.n) := by go_simp
  have x3 : (w.alloc (.cells #[.int .i64 x.at_.n, .int .i64 x.at_.r, .int .i64 x.block.n, .int .i64 x.block.r, .int .i64 x.under.n, .int .i64 x.under.r, .string x.key] 26)).cell? ⟨w.heap.size, 3, none⟩ = some (.int .i64 x.block.r) := by go_simp
  have x4 : (w.alloc (.cells #[.int .i64 x.at_.n, .int .i64 x.at_.r, .int .i64 x.block.n, .int .i64 x.block.r, .int .i64 x.under.n, .int .i64 x.under.r, .string x.key] 26)).cell? ⟨w.heap.size, 4, none⟩ = some (.int .i64 x.under.n) := by go_simp
  have x5 : (w.alloc (.cells #[.int .i64 x.at_.n, .int .i64 x.at_.r, .int .i64 x.block.n, .int .i64 x.block.r, .int .i64 x.under.n, .int .i64 x.under.r, .string x.key] 26)).cell? ⟨w.heap.size, 5, none⟩ = some (.int .i64 x.under.r) := by go_simp
  have x6 : (w.alloc (.cells #[.int .i64 x.at_.n, .int .i64 x.at_.r, .int .i64 x.block.n, .int .i64 x.block.r, .int .i64 x.under.n, .int .i64 x.under.r, .string x.key] 26)).cell? ⟨w.heap.size, 6, none⟩ = some (.string x.key) := by go_simp
  have hB : Below w.heap.size w (w.alloc (.cells #[.int .i64 x.at_.n, .int .i64 x.at_.r, .int .i64 x.block.n, .int .i64 x.block.r, .int .i64 x.under.n, .int .i64 x.under.r, .string x.key] 26)) := (Below.refl _ _).alloc (Nat.le_refl _) _
  go_enter Try.func8, Try.ntmps8
  go_wp2_with fail
  generalize w.alloc (.cells #[.int .i64 x.at_.n, .int .i64 x.at_.r, .int .i64 x.block.n, .int .i64 x.block.r, .int .i64 x.under.n, .int .i64 x.under.r, .string x.key] 26) = w0 at *
  refine (parent_nil _ _ _).mono ?_
  rintro e w1 ⟨rfl, b1⟩
  replace hB := hB.trans (b1.mono hB.size)
  replace x0 := keepB b1 x0
  replace x1 := keepB b1 x1
  replace x2 := keepB b1 x2
  replace x3 := keepB b1 x3
  replace x4 := keepB b1 x4
  replace x5 := keepB b1 x5
  replace x6 := keepB b1 x6
  clear b1
  have hl := cell_lt x0
  go_wp2_with fail
  replace x0 := cell_alloc x0 (.cells #[.int .i64 0, .int .i64 0, .int .i64 0, .int .i64 0, .string ⟨#[]⟩] 36)
  replace x1 := cell_alloc x1 (.cells #[.int .i64 0, .int .i64 0, .int .i64 0, .int .i64 0, .string ⟨#[]⟩] 36)
  replace x2 := cell_alloc x2 (.cells #[.int .i64 0, .int .i64 0, .int .i64 0, .int .i64 0, .string ⟨#[]⟩] 36)
  replace x3 := cell_alloc x3 (.cells #[.int .i64 0, .int .i64 0, .int .i64 0, .int .i64 0, .string ⟨#[]⟩] 36)
  replace x4 := cell_alloc x4 (.cells #[.int .i64 0, .int .i64 0, .int .i64 0, .int .i64 0, .string ⟨#[]⟩] 36)
  replace x5 := cell_alloc x5 (.cells #[.int .i64 0, .int .i64 0, .int .i64 0, .int .i64 0, .string ⟨#[]⟩] 36)
  replace x6 := cell_alloc x6 (.cells #[.int .i64 0, .int .i64 0, .int .i64 0, .int .i64 0, .string ⟨#[]⟩] 36)
  have k0 : (w1.alloc (.cells #[.int .i64 0, .int .i64 0, .int .i64 0, .int .i64 0, .string ⟨#[]⟩] 36)).cell? ⟨w1.heap.size, 0, none⟩ = some (.int .i64 0) := by go_simp
  have k1 : (w1.alloc (.cells #[.int .i64 0, .int .i64 0, .int .i64 0, .int .i64 0, .string ⟨#[]⟩] 36)).cell? ⟨w1.heap.size, 1, none⟩ = some (.int .i64 0) := by go_simp
  have k2 : (w1.alloc (.cells #[.int .i64 0, .int .i64 0, .int .i64 0, .int .i64 0, .string ⟨#[]⟩] 36)).cell? ⟨w1.heap.size, 2, none⟩ = some (.int .i64 0) := by go_simp
  have k3 : (w1.alloc (.cells #[.int .i64 0, .int .i64 0, .int .i64 0, .int .i64 0, .string ⟨#[]⟩] 36)).cell? ⟨w1.heap.size, 3, none⟩ = some (.int .i64 0) := by go_simp
  have k4 : (w1.alloc (.cells #[.int .i64 0, .int .i64 0, .int .i64 0, .int .i64 0, .string ⟨#[]⟩] 36)).cell? ⟨w1.heap.size, 4, none⟩ = some (.string ⟨#[]⟩) := by go_simp
  replace hB := hB.alloc hB.size (.cells #[.int .i64 0, .int .i64 0, .int .i64 0, .int .i64 0, .string ⟨#[]⟩] 36)
  generalize w1.alloc (.cells #[.int .i64 0, .int .i64 0, .int .i64 0, .int .i64 0, .string ⟨#[]⟩] 36) = w2 at *
  generalize w1.heap.size = z1 at *
  refine (alive_any _).mono ?_
  rintro e w3 ⟨rfl, b3⟩
  replace hB := hB.trans (b3.mono hB.size)
  replace x0 := keepB b3 x0
  replace x1 := keepB b3 x1
  replace x2 := keepB b3 x2
  replace x3 := keepB b3 x3
  replace x4 := keepB b3 x4
  replace x5 := keepB b3 x5
  replace x6 := keepB b3 x6
  replace k0 := keepB b3 k0
  replace k1 := keepB b3 k1
  replace k2 := keepB b3 k2
  replace k3 := keepB b3 k3
  replace k4 := keepB b3 k4
  clear b3
  go_wp2_with fail
  refine (move_nil _ _ _ _ _ _ _ _).mono ?_
  rintro e w4 ⟨rfl, b4⟩
  replace hB := hB.trans (b4.mono hB.size)
  replace x0 := keepB b4 x0
  replace x1 := keepB b4 x1
  replace x2 := keepB b4 x2
  replace x3 := keepB b4 x3
  replace x4 := keepB b4 x4
  replace x5 := keepB b4 x5
  replace x6 := keepB b4 x6
  replace k0 := keepB b4 k0
  replace k1 := keepB b4 k1
  replace k2 := keepB b4 k2
  replace k3 := keepB b4 k3
  replace k4 := keepB b4 k4
  clear b4
  go_wp2_with fail
  refine (kids_nil _ _ _).mono ?_
  rintro e w5 ⟨rfl, b5⟩
  replace hB := hB.trans (b5.mono hB.size)
  replace x0 := keepB b5 x0
  replace x1 := keepB b5 x1
  replace x2 := keepB b5 x2
  replace x3 := keepB b5 x3
  replace x4 := keepB b5 x4
  replace x5 := keepB b5 x5
  replace x6 := keepB b5 x6
  replace k0 := keepB b5 k0
  replace k1 := keepB b5 k1
  replace k2 := keepB b5 k2
  replace k3 := keepB b5 k3
  replace k4 := keepB b5 k4
  clear b5
  go_wp2_with fail
  refine (took_nil _ _ _).mono ?_
  rintro e w6 ⟨rfl, b6⟩
  replace hB := hB.trans (b6.mono hB.size)
  replace x0 := keepB b6 x0
  replace x1 := keepB b6 x1
  replace x2 := keepB b6 x2
  replace x3 := keepB b6 x3
  replace x4 := keepB b6 x4
  replace x5 := keepB b6 x5
  replace x6 := keepB b6 x6
  replace k0 := keepB b6 k0
  replace k1 := keepB b6 k1
  replace k2 := keepB b6 k2
  replace k3 := keepB b6 k3
  replace k4 := keepB b6 k4
  clear b6
  go_wp2_with fail
  refine (all_nil _).mono ?_
  rintro e w7 ⟨rfl, rfl⟩
  go_wp2_with fail
  go_ret
  exact ⟨rfl, hB⟩

set_option maxRecDepth 100000 in
theorem moveNil_lifted (os : Os) (started : os.Started) (H : Type) (enc : TypeId × Value → H) :
    ReturnsInHanded {} Try.checked os 8 .any (Rows.moveNilSpec.pre6 enc Try.prog Try.f8 Rows.moveNilRow.domain false) (Rows.moveNilSpec.post enc Try.prog Try.f8 false true false false) := by
  refine returnsInHanded_of_change (C := Try.checked) Try.own started (by kernel_rfl) Try.func8
    (ChangeSpec.witness6 (enc := enc) (C := Try.checked) false ⟨#[], #[.agg #[.int .i64 0, .int .i64 0, .int .i64 0, .int .i64 0, .int .i64 0, .int .i64 0, .string ⟨#[]⟩]], []⟩ 8 (by kernel_rfl) (by kernel_rfl) (by kernel_rfl) (by kernel_rfl)) ?_
  intro W base args ds gs before hval0 hW hcnd _
  have hval : ∀ (j : Nat) t v, Try.f8.params[j]? = some t → args[j]? = some v → Value.okWide Try.prog W .any base t v := hval0
  have hW' := hW
  obtain ⟨p, q, hA0, hV, rfl, hfz, hnd⟩ := hW
  have hA : DataW.TrodAll enc Try.prog W 0 (fun _ => true) true Try.f8.params.toList args.toList ds p := hA0
  rw [Try.params8] at hA hval
  obtain ⟨v0, vs0, d0, ds0, p0, q0, hargs, rfl, rfl, h0, r0⟩ := trodAll_cons hA
  obtain ⟨rfl, rfl, rfl⟩ := trodAll_nil r0
  obtain rfl : args = #[v0] := by cases args; simp_all
  obtain ⟨rfl, rfl⟩ := trodVars_none hV
  have k0 := h0
  have lt0 : ∀ x ∈ p0, x.block < W.heap.size := by obtain ⟨m, hm⟩ := k0; exact DataW.trod_lt m _ _ _ hm
  obtain ⟨x, rfl⟩ := open_rmove (hval 0 26 v0 rfl rfl) h0
  clear hA0 hval0
  refine (moveNil_walk x W).mono fun e W' ⟨he, bel⟩ => ?_
  subst he
  exact ⟨_, rfl, _, _, _, [], _, [], hW', trodAll_mk1 (shut_bool Try.underlying4 _), (trodAll_cons_mk (Below.trod Try.laidOut (by kernel_rfl) (of_decide_eq_true (by kernel_rfl)) k0 bel lt0) trodAll_mk0), rfl, bel.frame _, fun h => by cases h⟩

theorem moveNil_holds : Rows.MoveNilSaid :=
  OpenClaim.holds_of_wide 8 Try.f8 rfl rfl rfl rfl rfl rfl rfl ⟨rfl, rfl, rfl, rfl, rfl⟩ rfl rfl rfl rfl rfl (by kernel_rfl) Try.func8 (by kernel_rfl)
    (of_decide_eq_true (by kernel_rfl)) (by unfold Func.isWrapper; first | (rw [if_pos (by decide +kernel)]; kernel_rfl) | (rw [if_neg (by decide +kernel)]; exact ⟨rfl, rfl⟩))
    (fun os started H enc _ => moveNil_lifted os started H enc)

#print axioms moveNil_holds

end Go.Proofs.Ytilonmpcifohiaa
