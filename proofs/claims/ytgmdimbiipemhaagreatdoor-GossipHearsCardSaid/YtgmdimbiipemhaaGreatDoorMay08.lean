/- ops.has: a contract. -/
import Derived.Test.YtgmdimbiipemhaaGreatDoorVec08
namespace Go.Proofs.YtgmdimbiipemhaaGreatDoor
open Go.RowKit Go.Deep
set_option linter.unusedSimpArgs false
set_option linter.unusedVariables false

set_option maxRecDepth 20000 in
set_option maxHeartbeats 1000000 in
theorem may_any (x : OpD) (n r : Int) (w : World) : Calls Tryz.prog 141 #[x.val, .agg #[.int .i64 n, .int .i64 r]] w fun e w' => e = .returned (.bool (x.may ⟨n, r⟩)) ∧ Below w.heap.size w w' := by
  obtain ⟨id, d0, d1, d2, d3, d4, d5, d6, d7, kind, ref, side, ch, under, key, name, value, fr, fa, tr, ta⟩ := x
  unfold OpD.val OpD.cells OpD.may OpD.deps
  dsimp only
  go_enter Tryz.func141, Tryz.ntmps141
  go_wp2_with fail
  refine (right_any n r _).mono ?_
  rintro e w1 ⟨rfl, b1⟩
  have hb0 : Below w.heap.size w w1 := (((Below.refl _ _).alloc (Nat.le_refl _) _).alloc (by simp) _).trans (b1.mono (by simp <;> omega))
  have k2 : w1.cell? ⟨w.heap.size, 2, none⟩ = some (.int .i64 d0) := keepB b1 (by go_simp)
  have k3 : w1.cell? ⟨w.heap.size, 3, none⟩ = some (.int .i64 d1) := keepB b1 (by go_simp)
  have k4 : w1.cell? ⟨w.heap.size, 4, none⟩ = some (.int .i64 d2) := keepB b1 (by go_simp)
  have k5 : w1.cell? ⟨w.heap.size, 5, none⟩ = some (.int .i64 d3) := keepB b1 (by go_simp)
  have k6 : w1.cell? ⟨w.heap.size, 6, none⟩ = some (.int .i64 d4) := keepB b1 (by go_simp)
  have k7 : w1.cell? ⟨w.heap.size, 7, none⟩ = some (.int .i64 d5) := keepB b1 (by go_simp)
  have k8 : w1.cell? ⟨w.heap.size, 8, none⟩ = some (.int .i64 d6) := keepB b1 (by go_simp)
  have k9 : w1.cell? ⟨w.heap.size, 9, none⟩ = some (.int .i64 d7) := keepB b1 (by go_simp)
  have s0 : w1.cell? ⟨w.heap.size + 1, 0, none⟩ = some (.int .i64 n) := keepB b1 (by go_simp)
  have s1 : w1.cell? ⟨w.heap.size + 1, 1, none⟩ = some (.int .i64 r) := keepB b1 (by go_simp)
  have HB := Lib.hid hb0
  clear hb0 b1
  cases hr : rightB ⟨n, r⟩ with
  | false =>
    have HR := Lib.hid hr
    clear hr
    go_wp2_with fail
    go_ret
    exact ⟨by rw [HR.out]; rfl, HB.out⟩
  | true =>
    have HR := Lib.hid hr
    clear hr
    go_wp2_with fail
    refine (has_any d0 d1 d2 d3 d4 d5 d6 d7 n r _).mono ?_
    rintro e w2 ⟨rfl, b2⟩
    go_wp2_with fail
    go_ret
    exact ⟨by rw [HR.out]; rfl, HB.out.trans (b2.mono HB.out.size)⟩

end Go.Proofs.YtgmdimbiipemhaaGreatDoor
