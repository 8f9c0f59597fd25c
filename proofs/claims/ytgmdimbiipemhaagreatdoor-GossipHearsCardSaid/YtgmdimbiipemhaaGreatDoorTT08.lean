/- batch.truths, batch.texts: contracts. -/
import Derived.Test.YtgmdimbiipemhaaGreatDoorIntsP08
import Derived.Test.YtgmdimbiipemhaaGreatDoorHeldT
import Derived.Deep.LoopGhost
import Derived.Deep.QuietTactic
import Derived.Deep.CutBlock
import Derived.Deep.DeepCutAuto
namespace Go.Proofs.YtgmdimbiipemhaaGreatDoor
open Go.RowKit Go.Deep
set_option linter.unusedSimpArgs false
set_option linter.unusedVariables false
theorem results_cell8 {fn : Func} {p : Tmp} {ty : TypeId} (h : fn.results = #[.cell p ty]) (tmps : Array Value) (P : Program) (w : World) :
    (results fn tmps).run P w = ((asAddr (tmps.getD p undef)).run P w).andThen fun a w₁ => (loadVar ty a).run P w₁ := by
  simp only [results, h]
  simp [Sem.run_bind, Result.andThen]

set_option maxRecDepth 20000 in
set_option maxHeartbeats 1000000 in
theorem truths_any (b off : Nat) (w : World) : Calls Tryz.prog 96 #[.pointer (some ⟨b, off, none⟩)] w fun e w' => e = .returned (.agg #[.pointer (some ⟨b, off + 22, none⟩), .pointer (some ⟨b, off + 25, none⟩)]) ∧ Below w.heap.size w w' := by
  go_enter Tryz.func96, Tryz.ntmps96
  go_upto_region 1 with fail
  have hb0 : Below w.heap.size w (w.alloc (.cells #[.pointer none, .pointer none] 168)).drew := ((Below.refl _ _).alloc (Nat.le_refl _) _).drew
  have ho0 : (w.alloc (.cells #[.pointer none, .pointer none] 168)).drew.heap[w.heap.size]? = some (.cells #[.pointer none, .pointer none] 168 (0, 0)) := heap_new8 w _
  have hS0 : (fun _ : World => True) (w.alloc (.cells #[.pointer none, .pointer none] 168)).drew := trivial
  refine wp_region_s (fun _ => True) (fun _ => false) (by kernel_rfl) ?_
  generalize (w.alloc (.cells #[.pointer none, .pointer none] 168)).drew = W1 at hS0 hb0 ho0 ⊢
  refine wpAnyS_take (i := 0) (d := some 3) rfl rfl rfl (by kernel_rfl) (by kernel_rfl) (by kernel_rfl) (by kernel_rfl) (fun _ _ _ h => h) (.inl ⟨by rfl, fun W hW => by go_simp; try rfl⟩) hS0 ?_
  try simp only [Act.put, List.setIfInBounds_toArray, List.set_cons_zero, List.set_cons_succ]
  refine wpAnyS_take (i := 1) (d := some 4) (v := .pointer (some ⟨b, off, none⟩)) rfl rfl rfl (by kernel_rfl) (by kernel_rfl) (by kernel_rfl) (by kernel_rfl) (fun _ _ _ h => h) (.inl ⟨by rfl, fun W hW => by go_simp; try rfl⟩) hS0 ?_
  try simp only [Act.put, List.setIfInBounds_toArray, List.set_cons_zero, List.set_cons_succ]
  refine wpAnyS_take (i := 2) (d := some 5) (v := .pointer (some ⟨b, off + 20, none⟩)) rfl rfl rfl (by kernel_rfl) (by kernel_rfl) (by kernel_rfl) (by kernel_rfl) (fun _ _ _ h => h) (.inl ⟨by rfl, fun W hW => by go_simp; try rfl⟩) hS0 ?_
  try simp only [Act.put, List.setIfInBounds_toArray, List.set_cons_zero, List.set_cons_succ]
  refine wpAnyS_take (i := 3) (d := some 6) (v := .pointer (some ⟨b, off + 22, none⟩)) rfl rfl rfl (by kernel_rfl) (by kernel_rfl) (by kernel_rfl) (by kernel_rfl) (fun _ _ _ h => h) (.inl ⟨by rfl, fun W hW => by go_simp; try rfl⟩) hS0 ?_
  try simp only [Act.put, List.setIfInBounds_toArray, List.set_cons_zero, List.set_cons_succ]
  refine wpAnyS_take (i := 4) (d := some 7) rfl rfl rfl (by kernel_rfl) (by kernel_rfl) (by kernel_rfl) (by kernel_rfl) (fun _ _ _ h => h) (.inl ⟨by rfl, fun W hW => by go_simp; try rfl⟩) hS0 ?_
  try simp only [Act.put, List.setIfInBounds_toArray, List.set_cons_zero, List.set_cons_succ]
  refine wpAnyS_take (i := 5) (d := some 8) (v := .pointer (some ⟨b, off, none⟩)) rfl rfl rfl (by kernel_rfl) (by kernel_rfl) (by kernel_rfl) (by kernel_rfl) (fun _ _ _ h => h) (.inl ⟨by rfl, fun W hW => by go_simp; try rfl⟩) hS0 ?_
  try simp only [Act.put, List.setIfInBounds_toArray, List.set_cons_zero, List.set_cons_succ]
  refine wpAnyS_take (i := 6) (d := some 9) (v := .pointer (some ⟨b, off + 23, none⟩)) rfl rfl rfl (by kernel_rfl) (by kernel_rfl) (by kernel_rfl) (by kernel_rfl) (fun _ _ _ h => h) (.inl ⟨by rfl, fun W hW => by go_simp; try rfl⟩) hS0 ?_
  try simp only [Act.put, List.setIfInBounds_toArray, List.set_cons_zero, List.set_cons_succ]
  refine wpAnyS_take (i := 7) (d := some 10) (v := .pointer (some ⟨b, off + 25, none⟩)) rfl rfl rfl (by kernel_rfl) (by kernel_rfl) (by kernel_rfl) (by kernel_rfl) (fun _ _ _ h => h) (.inl ⟨by rfl, fun W hW => by go_simp; try rfl⟩) hS0 ?_
  try simp only [Act.put, List.setIfInBounds_toArray, List.set_cons_zero, List.set_cons_succ]
  refine wpAnyS_take (i := 8) (d := some 11) (v := .agg #[.pointer (some ⟨b, off + 22, none⟩), .pointer (some ⟨b, off + 25, none⟩)]) rfl rfl rfl (by kernel_rfl) (by kernel_rfl) (by kernel_rfl) (by kernel_rfl) (fun _ _ _ h => h) (.inl ⟨by rfl, fun W hW => by go_simp; try rfl⟩) hS0 ?_
  try simp only [Act.put, List.setIfInBounds_toArray, List.set_cons_zero, List.set_cons_succ]
  have c0 : W1.cell? ⟨w.heap.size, 0, none⟩ = some (.pointer none) := by simp [World.cell?, ho0]
  have c1 : W1.cell? ⟨w.heap.size, 1, none⟩ = some (.pointer none) := by simp [World.cell?, ho0]
  have f0 : W1.frozen? ⟨w.heap.size, 0, none⟩ = false := by simp [World.frozen?, ho0]
  have f1 : W1.frozen? ⟨w.heap.size, 1, none⟩ = false := by simp [World.frozen?, ho0]
  refine wpAnyS_mute (i := 9) (d := none) (w' := ((W1.setCell ⟨w.heap.size, 0, none⟩ (.pointer (some ⟨b, off + 22, none⟩))).setCell ⟨w.heap.size, 1, none⟩ (.pointer (some ⟨b, off + 25, none⟩)))) (by kernel_rfl) rfl rfl (by rfl) (by go_simp; try rfl) (fun _ => trivial) ?_
  try simp only [Act.put, List.setIfInBounds_toArray, List.set_cons_zero, List.set_cons_succ]
  refine wpAnyS_done (by kernel_rfl) ?_ _
  have HB : Hid (Below w.heap.size w ((W1.setCell ⟨w.heap.size, 0, none⟩ (.pointer (some ⟨b, off + 22, none⟩))).setCell ⟨w.heap.size, 1, none⟩ (.pointer (some ⟨b, off + 25, none⟩)))) := Lib.hid ((hb0.setCell (p := ⟨w.heap.size, 0, none⟩) (Nat.le_refl _) (.pointer (some ⟨b, off + 22, none⟩))).setCell (p := ⟨w.heap.size, 1, none⟩) (Nat.le_refl _) (.pointer (some ⟨b, off + 25, none⟩)))
  clear hb0 hS0
  go_wp2_with fail
  refine bodyPost_ret (v := .agg #[.pointer (some ⟨b, off + 22, none⟩), .pointer (some ⟨b, off + 25, none⟩)]) (by rw [results_cell8 rfl]; go_simp) rfl ?_
  exact ⟨rfl, HB.out⟩
  
set_option maxRecDepth 20000 in
set_option maxHeartbeats 1000000 in
theorem texts_any (b off : Nat) (w : World) : Calls Tryz.prog 98 #[.pointer (some ⟨b, off, none⟩)] w fun e w' => e = .returned (.agg #[.pointer (some ⟨b, off + 17, none⟩), .pointer (some ⟨b, off + 18, none⟩), .pointer (some ⟨b, off + 19, none⟩)]) ∧ Below w.heap.size w w' := by
  go_enter Tryz.func98, Tryz.ntmps98
  go_upto_region 1 with fail
  have hb0 : Below w.heap.size w (w.alloc (.cells #[.pointer none, .pointer none, .pointer none] 172)).drew := ((Below.refl _ _).alloc (Nat.le_refl _) _).drew
  have ho0 : (w.alloc (.cells #[.pointer none, .pointer none, .pointer none] 172)).drew.heap[w.heap.size]? = some (.cells #[.pointer none, .pointer none, .pointer none] 172 (0, 0)) := heap_new8 w _
  have hS0 : (fun _ : World => True) (w.alloc (.cells #[.pointer none, .pointer none, .pointer none] 172)).drew := trivial
  refine wp_region_s (fun _ => True) (fun _ => false) (by kernel_rfl) ?_
  generalize (w.alloc (.cells #[.pointer none, .pointer none, .pointer none] 172)).drew = W1 at hS0 hb0 ho0 ⊢
  refine wpAnyS_take (i := 0) (d := some 3) rfl rfl rfl (by kernel_rfl) (by kernel_rfl) (by kernel_rfl) (by kernel_rfl) (fun _ _ _ h => h) (.inl ⟨by rfl, fun W hW => by go_simp; try rfl⟩) hS0 ?_
  try simp only [Act.put, List.setIfInBounds_toArray, List.set_cons_zero, List.set_cons_succ]
  refine wpAnyS_take (i := 1) (d := some 4) (v := .pointer (some ⟨b, off, none⟩)) rfl rfl rfl (by kernel_rfl) (by kernel_rfl) (by kernel_rfl) (by kernel_rfl) (fun _ _ _ h => h) (.inl ⟨by rfl, fun W hW => by go_simp; try rfl⟩) hS0 ?_
  try simp only [Act.put, List.setIfInBounds_toArray, List.set_cons_zero, List.set_cons_succ]
  refine wpAnyS_take (i := 2) (d := some 5) (v := .pointer (some ⟨b, off + 17, none⟩)) rfl rfl rfl (by kernel_rfl) (by kernel_rfl) (by kernel_rfl) (by kernel_rfl) (fun _ _ _ h => h) (.inl ⟨by rfl, fun W hW => by go_simp; try rfl⟩) hS0 ?_
  try simp only [Act.put, List.setIfInBounds_toArray, List.set_cons_zero, List.set_cons_succ]
  refine wpAnyS_take (i := 3) (d := some 6) rfl rfl rfl (by kernel_rfl) (by kernel_rfl) (by kernel_rfl) (by kernel_rfl) (fun _ _ _ h => h) (.inl ⟨by rfl, fun W hW => by go_simp; try rfl⟩) hS0 ?_
  try simp only [Act.put, List.setIfInBounds_toArray, List.set_cons_zero, List.set_cons_succ]
  refine wpAnyS_take (i := 4) (d := some 7) (v := .pointer (some ⟨b, off, none⟩)) rfl rfl rfl (by kernel_rfl) (by kernel_rfl) (by kernel_rfl) (by kernel_rfl) (fun _ _ _ h => h) (.inl ⟨by rfl, fun W hW => by go_simp; try rfl⟩) hS0 ?_
  try simp only [Act.put, List.setIfInBounds_toArray, List.set_cons_zero, List.set_cons_succ]
  refine wpAnyS_take (i := 5) (d := some 8) (v := .pointer (some ⟨b, off + 18, none⟩)) rfl rfl rfl (by kernel_rfl) (by kernel_rfl) (by kernel_rfl) (by kernel_rfl) (fun _ _ _ h => h) (.inl ⟨by rfl, fun W hW => by go_simp; try rfl⟩) hS0 ?_
  try simp only [Act.put, List.setIfInBounds_toArray, List.set_cons_zero, List.set_cons_succ]
  refine wpAnyS_take (i := 6) (d := some 9) rfl rfl rfl (by kernel_rfl) (by kernel_rfl) (by kernel_rfl) (by kernel_rfl) (fun _ _ _ h => h) (.inl ⟨by rfl, fun W hW => by go_simp; try rfl⟩) hS0 ?_
  try simp only [Act.put, List.setIfInBounds_toArray, List.set_cons_zero, List.set_cons_succ]
  refine wpAnyS_take (i := 7) (d := some 10) (v := .pointer (some ⟨b, off, none⟩)) rfl rfl rfl (by kernel_rfl) (by kernel_rfl) (by kernel_rfl) (by kernel_rfl) (fun _ _ _ h => h) (.inl ⟨by rfl, fun W hW => by go_simp; try rfl⟩) hS0 ?_
  try simp only [Act.put, List.setIfInBounds_toArray, List.set_cons_zero, List.set_cons_succ]
  refine wpAnyS_take (i := 8) (d := some 11) (v := .pointer (some ⟨b, off + 19, none⟩)) rfl rfl rfl (by kernel_rfl) (by kernel_rfl) (by kernel_rfl) (by kernel_rfl) (fun _ _ _ h => h) (.inl ⟨by rfl, fun W hW => by go_simp; try rfl⟩) hS0 ?_
  try simp only [Act.put, List.setIfInBounds_toArray, List.set_cons_zero, List.set_cons_succ]
  refine wpAnyS_take (i := 9) (d := some 12) (v := .agg #[.pointer (some ⟨b, off + 17, none⟩), .pointer (some ⟨b, off + 18, none⟩), .pointer (some ⟨b, off + 19, none⟩)]) rfl rfl rfl (by kernel_rfl) (by kernel_rfl) (by kernel_rfl) (by kernel_rfl) (fun _ _ _ h => h) (.inl ⟨by rfl, fun W hW => by go_simp; try rfl⟩) hS0 ?_
  try simp only [Act.put, List.setIfInBounds_toArray, List.set_cons_zero, List.set_cons_succ]
  have c0 : W1.cell? ⟨w.heap.size, 0, none⟩ = some (.pointer none) := by simp [World.cell?, ho0]
  have c1 : W1.cell? ⟨w.heap.size, 1, none⟩ = some (.pointer none) := by simp [World.cell?, ho0]
  have c2 : W1.cell? ⟨w.heap.size, 2, none⟩ = some (.pointer none) := by simp [World.cell?, ho0]
  have f0 : W1.frozen? ⟨w.heap.size, 0, none⟩ = false := by simp [World.frozen?, ho0]
  have f1 : W1.frozen? ⟨w.heap.size, 1, none⟩ = false := by simp [World.frozen?, ho0]
  have f2 : W1.frozen? ⟨w.heap.size, 2, none⟩ = false := by simp [World.frozen?, ho0]
  refine wpAnyS_mute (i := 10) (d := none) (w' := (((W1.setCell ⟨w.heap.size, 0, none⟩ (.pointer (some ⟨b, off + 17, none⟩))).setCell ⟨w.heap.size, 1, none⟩ (.pointer (some ⟨b, off + 18, none⟩))).setCell ⟨w.heap.size, 2, none⟩ (.pointer (some ⟨b, off + 19, none⟩)))) (by kernel_rfl) rfl rfl (by rfl) (by go_simp; try rfl) (fun _ => trivial) ?_
  try simp only [Act.put, List.setIfInBounds_toArray, List.set_cons_zero, List.set_cons_succ]
  refine wpAnyS_done (by kernel_rfl) ?_ _
  have HB : Hid (Below w.heap.size w (((W1.setCell ⟨w.heap.size, 0, none⟩ (.pointer (some ⟨b, off + 17, none⟩))).setCell ⟨w.heap.size, 1, none⟩ (.pointer (some ⟨b, off + 18, none⟩))).setCell ⟨w.heap.size, 2, none⟩ (.pointer (some ⟨b, off + 19, none⟩)))) := Lib.hid (((hb0.setCell (p := ⟨w.heap.size, 0, none⟩) (Nat.le_refl _) (.pointer (some ⟨b, off + 17, none⟩))).setCell (p := ⟨w.heap.size, 1, none⟩) (Nat.le_refl _) (.pointer (some ⟨b, off + 18, none⟩))).setCell (p := ⟨w.heap.size, 2, none⟩) (Nat.le_refl _) (.pointer (some ⟨b, off + 19, none⟩)))
  clear hb0 hS0
  go_wp2_with fail
  refine bodyPost_ret (v := .agg #[.pointer (some ⟨b, off + 17, none⟩), .pointer (some ⟨b, off + 18, none⟩), .pointer (some ⟨b, off + 19, none⟩)]) (by rw [results_cell8 rfl]; go_simp) rfl ?_
  exact ⟨rfl, HB.out⟩
  
end Go.Proofs.YtgmdimbiipemhaaGreatDoor
