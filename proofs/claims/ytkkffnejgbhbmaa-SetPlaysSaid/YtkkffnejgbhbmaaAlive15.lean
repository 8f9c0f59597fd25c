/- Contract of stemmalaw15.alive. -/
import Derived.Test.YtkkffnejgbhbmaaRegs
namespace Go.Proofs.Ytkkffnejgbhbmaa
open Go.RowKit
set_option linter.unusedSimpArgs false
set_option linter.unusedVariables false

theorem new_is (w : World) : RegIs (((w.alloc (.map #[] 0)).alloc (.map #[] 0)).alloc (.cells #[.map (some w.heap.size), .map (some (w.heap.size + 1))] 50)) (w.heap.size + 2) w.heap.size (w.heap.size + 1) [] [] := by
  refine ⟨?_, ?_, ?_, ?_, by omega⟩
  · go_simp
  · go_simp
  · exact ((MapIs.made w).alloc _).alloc _
  · have := (MapIs.made (ek := St.val) (ev := Value.bool) (w.alloc (.map #[] 0))).alloc (.cells #[.map (some w.heap.size), .map (some (w.heap.size + 1))] 50)
    simpa using this

theorem new_reg (w : World) : Calls Try.prog 7 #[] w fun e w' =>
    e = .returned (.pointer (some ⟨w.heap.size + 2, 0, none⟩)) ∧ RegIs w' (w.heap.size + 2) w.heap.size (w.heap.size + 1) [] [] ∧ Below w.heap.size w w' ∧ w'.heap.size = w.heap.size + 3 :=
  (new_any w).mono fun e w' ⟨he, hw⟩ => by
    subst hw
    exact ⟨he, new_is w, (((Below.refl _ _).alloc (Nat.le_refl _) _).alloc (by simp) _).alloc (by simp <;> omega) _, by simp⟩

set_option maxHeartbeats 1000000 in
theorem alive_any (w : World) : Calls Try.prog 8 #[] w fun e w' => e = .returned (.bool true) ∧ Below w.heap.size w w' := by
  have e1 : setCode [] ⟨5, 0⟩ = 0 := by decide
  have e2 : setAts [] ⟨5, 0⟩ = [(⟨5, 0⟩, true)] := by decide
  have e3 : ∀ n v, setVals [] [] ⟨5, 0⟩ ⟨⟨1, 0⟩, n⟩ v = [(⟨⟨1, 0⟩, n⟩, ⟨⟨5, 0⟩, v⟩)] := fun n v => by
    have : cmpS (atOf (aget [] (⟨⟨1, 0⟩, n⟩ : Pl))) ⟨5, 0⟩ < 0 := by simp [aget, atOf]; decide
    simp [setVals, e1, this, aset]
  have e4 : setCode [(⟨5, 0⟩, true)] ⟨4, 0⟩ = 0 := by decide
  have e5 : ∀ n v u, setVals [(⟨⟨1, 0⟩, n⟩, ⟨⟨5, 0⟩, v⟩)] [(⟨5, 0⟩, true)] ⟨4, 0⟩ ⟨⟨1, 0⟩, n⟩ u = [(⟨⟨1, 0⟩, n⟩, ⟨⟨5, 0⟩, v⟩)] := fun n v u => by
    have : ¬ cmpS (atOf (aget [((⟨⟨1, 0⟩, n⟩ : Pl), (⟨⟨5, 0⟩, v⟩ : Wr))] (⟨⟨1, 0⟩, n⟩ : Pl))) ⟨4, 0⟩ < 0 := by simp [aget, atOf]; decide
    simp [setVals, e4, this]
  go_enter Try.func8, Try.ntmps8
  go_wp2_with fail
  refine (new_reg _).mono ?_
  rintro e w1 ⟨rfl, r1, b1, z1⟩
  have H1 := Lib.hid z1
  clear z1
  go_wp2_with fail
  refine (set_any _ _ _ _ _ _ _ _ _ _ _ _ r1).mono ?_
  rintro e w2 ⟨rfl, r2, x2⟩
  rw [e1]
  rw [e2, e3] at r2
  go_wp2_with fail
  refine (set_any _ _ _ _ _ _ _ _ _ _ _ _ r2).mono ?_
  rintro e w3 ⟨rfl, r3, x3⟩
  rw [e4]
  rw [e5] at r3
  go_wp2_with fail
  refine (get_any _ _ _ _ _ _ _ _ _ r3).mono ?_
  rintro e w4 ⟨rfl, b4⟩
  simp only [aget, if_true, valOf, Option.isSome]
  go_wp2_with fail
  go_ret
  refine ⟨rfl, ?_⟩
  have b2 := Ext.new b1 x2 (fun i hi _ => by omega) b1.size
  have b3 := Ext.new b2 x3 (fun i hi _ => by omega) b2.size
  exact b3.trans (b4.mono b3.size)

end Go.Proofs.Ytkkffnejgbhbmaa
