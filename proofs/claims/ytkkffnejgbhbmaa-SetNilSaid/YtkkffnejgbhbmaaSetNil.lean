/- The law SetNil: for every write, the calls on no registers answer as rule 8 says, and the law returns true; no condition. -/
import Derived.Test.YtkkffnejgbhbmaaAlive15
import Derived.ProofKit
import Derived.OpenShut
import Derived.ShutString
import Derived.ChangeOld
import Derived.Below
import Derived.Test.YtkkffnejgbhbmaaOpen15
namespace Go.Proofs.Ytkkffnejgbhbmaa
open Go.ChangeShapes Go.WideShapes Go.ChangeAt Go.RowKit
open Go.ChangeMaps (open_string shut_string)
set_option linter.unusedSimpArgs false
set_option linter.unusedVariables false

set_option maxHeartbeats 1000000 in
theorem setNil_walk (an ar bn br : Int) (nm vl : ByteArray) (w : World) :
    Calls Try.prog 5 #[.agg #[.int .i64 an, .int .i64 ar, .int .i64 bn, .int .i64 br, .string nm, .string vl]] w fun e w' => e = .returned (.bool true) ∧ Below w.heap.size w w' := by
  go_enter Try.func5, Try.ntmps5
  go_wp2_with fail
  refine (get_nil _ _ _ _).mono ?_
  rintro e w1 ⟨rfl, b1⟩
  have i0 : w1.cell? ⟨w.heap.size, 0, none⟩ = some (.int .i64 an) := keepB b1 (by go_simp)
  have i1 : w1.cell? ⟨w.heap.size, 1, none⟩ = some (.int .i64 ar) := keepB b1 (by go_simp)
  have i2 : w1.cell? ⟨w.heap.size, 2, none⟩ = some (.int .i64 bn) := keepB b1 (by go_simp)
  have i3 : w1.cell? ⟨w.heap.size, 3, none⟩ = some (.int .i64 br) := keepB b1 (by go_simp)
  have i4 : w1.cell? ⟨w.heap.size, 4, none⟩ = some (.string nm) := keepB b1 (by go_simp)
  have i5 : w1.cell? ⟨w.heap.size, 5, none⟩ = some (.string vl) := keepB b1 (by go_simp)
  have x1 : Below w.heap.size w w1 := ((Below.refl _ _).alloc (Nat.le_refl _) _).trans (b1.mono (by simp <;> omega))
  clear b1
  go_wp2_with fail
  refine (alive_any _).mono ?_
  rintro e w2 ⟨rfl, b2⟩
  replace i0 := keepB b2 i0
  replace i1 := keepB b2 i1
  replace i2 := keepB b2 i2
  replace i3 := keepB b2 i3
  replace i4 := keepB b2 i4
  replace i5 := keepB b2 i5
  have x2 := x1.trans (b2.mono x1.size)
  clear b2
  go_wp2_with fail
  refine (set_nil _ _ _ _ _ _ _).mono ?_
  rintro e w3 ⟨rfl, b3⟩
  replace i2 := keepB b3 i2
  replace i3 := keepB b3 i3
  have x3 := x2.trans (b3.mono x2.size)
  clear b3
  go_wp2_with fail
  refine (all_nil _ _ _).mono ?_
  rintro e w4 ⟨rfl, b4⟩
  have x4 := x3.trans (b4.mono x3.size)
  clear b4
  go_wp2_with fail
  go_ret
  exact ⟨rfl, x4⟩

theorem Try.own : ownKnob Try.prog.godebug = none := by kernel_rfl
theorem Try.laidOut : laidOutB Try.prog = true := by kernel_rfl

set_option maxRecDepth 100000 in
theorem setNil_lifted (os : Os) (started : os.Started) (H : Type) (enc : TypeId × Value → H) :
    ReturnsInHanded {} Try.checked os 5 .any (Rows.setNilSpec.pre6 enc Try.prog Try.f5 Rows.setNilRow.domain false) (Rows.setNilSpec.post enc Try.prog Try.f5 false true false false) := by
  refine returnsInHanded_of_change (C := Try.checked) Try.own started (by kernel_rfl) Try.func5
    (ChangeSpec.witness6 (enc := enc) (C := Try.checked) false ⟨#[], #[.agg #[.int .i64 0, .int .i64 0, .int .i64 0, .int .i64 0, .string ⟨#[]⟩, .string ⟨#[]⟩]], []⟩ 8 (by kernel_rfl) (by kernel_rfl) (by kernel_rfl) (by kernel_rfl)) ?_
  intro W base args ds gs before hval0 hW hcnd _
  have hval : ∀ (j : Nat) t v, Try.f5.params[j]? = some t → args[j]? = some v → Value.okWide Try.prog W .any base t v := hval0
  have hW' := hW
  obtain ⟨p, q, hA0, hV, rfl, hfz, hnd⟩ := hW
  have hA : DataW.TrodAll enc Try.prog W 0 (fun _ => true) true Try.f5.params.toList args.toList ds p := hA0
  rw [Try.params5] at hA hval
  obtain ⟨v0, vs0, d0, ds0, p0, q0, hargs, rfl, rfl, h0, r0⟩ := trodAll_cons hA
  obtain ⟨rfl, rfl, rfl⟩ := trodAll_nil r0
  obtain rfl : args = #[v0] := by cases args; simp_all
  obtain ⟨rfl, rfl⟩ := trodVars_none hV
  have k0 := h0
  have lt0 : ∀ x ∈ p0, x.block < W.heap.size := by obtain ⟨m, hm⟩ := k0; exact DataW.trod_lt m _ _ _ hm
  obtain ⟨y, rfl⟩ := open_write (hval 0 32 v0 rfl rfl) h0
  clear hA0 hval0
  refine (setNil_walk y.at_.n y.at_.r y.blk.n y.blk.r y.name y.value W).mono fun e W' ⟨he, bel⟩ => ?_
  subst he
  exact ⟨_, rfl, _, _, _, [], _, [], hW', trodAll_mk1 (shut_bool Try.underlying4 _), (trodAll_cons_mk (Below.trod Try.laidOut (by kernel_rfl) (of_decide_eq_true (by kernel_rfl)) k0 bel lt0) trodAll_mk0), rfl, bel.frame _, fun h => by cases h⟩

theorem setNil_holds : Rows.SetNilSaid :=
  OpenClaim.holds_of_wide 5 Try.f5 rfl rfl rfl rfl rfl rfl rfl ⟨rfl, rfl, rfl, rfl, rfl⟩ rfl rfl rfl rfl rfl (by kernel_rfl) Try.func5 (by kernel_rfl)
    (of_decide_eq_true (by kernel_rfl)) (by unfold Func.isWrapper; first | (rw [if_pos (by decide +kernel)]; kernel_rfl) | (rw [if_neg (by decide +kernel)]; exact ⟨rfl, rfl⟩))
    (fun os started H enc _ => setNil_lifted os started H enc)

#print axioms setNil_holds
end Go.Proofs.Ytkkffnejgbhbmaa
