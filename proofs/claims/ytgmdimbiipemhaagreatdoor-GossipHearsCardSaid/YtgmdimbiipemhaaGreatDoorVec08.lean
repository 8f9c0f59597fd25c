/- Vectors: contracts. -/
import Derived.Test.YtgmdimbiipemhaaGreatDoorOp08
import Derived.Test.YtgmdimbiipemhaaGreatDoorHeldT
import Derived.Test.YtgmdimbiipemhaaGreatDoorLaid
import Derived.Deep.QuietTactic
import Derived.Deep.CutBlock
import Derived.Deep.DeepCutAuto
import Derived.Deep.LoopGhost
namespace Go.Proofs.YtgmdimbiipemhaaGreatDoor
open Go.RowKit Go.Deep
set_option linter.unusedSimpArgs false
set_option linter.unusedVariables false

open Go.Shelf
theorem known_any (n r : Int) (w : World) : Calls Tryz.prog 195 #[.agg #[.int .i64 n, .int .i64 r]] w fun e w' => e = .returned (.bool (decide (0 ≤ r ∧ r < 8))) ∧ Below w.heap.size w w' := by
  by_cases h3 : 0 ≤ r
  · by_cases h4 : r < 8
    · rw [decide_eq_true ⟨h3, h4⟩]
      go_enter Tryz.func195, Tryz.ntmps195
      go_wp2
      go_ret
      exact ⟨rfl, (Below.refl _ _).alloc (Nat.le_refl _) _⟩
    · rw [decide_eq_false (fun h => h4 h.2)]
      go_enter Tryz.func195, Tryz.ntmps195
      go_wp2
      go_ret
      exact ⟨rfl, (Below.refl _ _).alloc (Nat.le_refl _) _⟩
  · rw [decide_eq_false (fun h => h3 h.1)]
    go_enter Tryz.func195, Tryz.ntmps195
    go_wp2
    go_ret
    exact ⟨rfl, (Below.refl _ _).alloc (Nat.le_refl _) _⟩

set_option maxRecDepth 20000 in
set_option maxHeartbeats 1000000 in
theorem has_any (d0 d1 d2 d3 d4 d5 d6 d7 n r : Int) (w : World) : Calls Tryz.prog 175 #[.agg #[.int .i64 d0, .int .i64 d1, .int .i64 d2, .int .i64 d3, .int .i64 d4, .int .i64 d5, .int .i64 d6, .int .i64 d7], .agg #[.int .i64 n, .int .i64 r]] w fun e w' => e = .returned (.bool (hasV [d0, d1, d2, d3, d4, d5, d6, d7] ⟨n, r⟩)) ∧ Below w.heap.size w w' := by
  have HDS : ∀ k : Nat, k < 8 → ([.int .i64 d0, .int .i64 d1, .int .i64 d2, .int .i64 d3, .int .i64 d4, .int .i64 d5, .int .i64 d6, .int .i64 d7] : List Value)[k]? = some (.int .i64 (([d0, d1, d2, d3, d4, d5, d6, d7] : List Int).getD k 0)) := fun k hk => by
    match k, hk with
    | 0, _ => rfl
    | 1, _ => rfl
    | 2, _ => rfl
    | 3, _ => rfl
    | 4, _ => rfl
    | 5, _ => rfl
    | 6, _ => rfl
    | 7, _ => rfl
  obtain ⟨W0, hW0⟩ : ∃ W0, (w.alloc (.cells #[.int .i64 d0, .int .i64 d1, .int .i64 d2, .int .i64 d3, .int .i64 d4, .int .i64 d5, .int .i64 d6, .int .i64 d7] 32)).alloc (.cells #[.int .i64 n, .int .i64 r] 62) = W0 := ⟨_, rfl⟩
  have HB : Hid (Below w.heap.size w W0.drew) := Lib.hid (by rw [← hW0]; exact (((Below.refl _ _).alloc (Nat.le_refl _) _).alloc (by simp) _).drew)
  have hc0 : W0.cell? ⟨w.heap.size + 1, 0, none⟩ = some (.int .i64 n) := by rw [← hW0]; clear hW0; go_simp
  have hc1 : W0.cell? ⟨w.heap.size + 1, 1, none⟩ = some (.int .i64 r) := by rw [← hW0]; clear hW0; go_simp
  have hcd : ∀ k : Nat, k < 8 → W0.cell? ⟨w.heap.size, k, none⟩ = some (.int .i64 (([d0, d1, d2, d3, d4, d5, d6, d7] : List Int).getD k 0)) := fun k hk => by
    rw [← hW0]
    exact cell_alloc (cells_new w [.int .i64 d0, .int .i64 d1, .int .i64 d2, .int .i64 d3, .int .i64 d4, .int .i64 d5, .int .i64 d6, .int .i64 d7] _ k _ (HDS k hk)) _
  have HCD := Lib.hid hcd
  have HW := Lib.hid hW0
  clear hcd HDS hW0
  by_cases hr : 0 ≤ r ∧ r < 8
  · obtain ⟨k, rfl⟩ : ∃ k : Nat, r = (k : Int) := ⟨r.toNat, by omega⟩
    have hk : k < 8 := by omega
    have hck := HCD.out k hk
    obtain ⟨dk, hdk⟩ : ∃ dk, ([d0, d1, d2, d3, d4, d5, d6, d7] : List Int).getD k 0 = dk := ⟨_, rfl⟩
    rw [hdk] at hck
    have hR : hasV [d0, d1, d2, d3, d4, d5, d6, d7] ⟨n, k⟩ = decide (n ≤ dk) := by unfold hasV; rw [decide_eq_true hr, Bool.true_and, ← hdk]; rfl
    have hK : decide ((0 : Int) ≤ (k : Int) ∧ (k : Int) < 8) = true := decide_eq_true hr
    rw [hR]
    have hk8 : (k : Int) < 8 := by omega
    have hk0 : ¬ (k : Int) < 0 := by omega
    have hk1 : (0 : Int) ≤ (k : Int) := by omega
    obtain ⟨db, hdb⟩ : ∃ db, decide (n ≤ dk) = db := ⟨_, rfl⟩
    rw [hdb]
    have HDB := Lib.hid hdb
    clear hdb hR hdk hr hk
    go_enter Tryz.func175, Tryz.ntmps175
    go_upto_region 1 with fail
    rw [HW.out]
    have hS0 : (fun W : World => W.cell? ⟨w.heap.size + 1, 0, none⟩ = some (.int .i64 n) ∧ W.cell? ⟨w.heap.size + 1, 1, none⟩ = some (.int .i64 k) ∧ W.cell? ⟨w.heap.size, k, none⟩ = some (.int .i64 dk)) W0.drew := ⟨hc0, hc1, hck⟩
    clear hc0 hc1 hck HCD HW
    refine wp_region_s (fun W : World => W.cell? ⟨w.heap.size + 1, 0, none⟩ = some (.int .i64 n) ∧ W.cell? ⟨w.heap.size + 1, 1, none⟩ = some (.int .i64 k) ∧ W.cell? ⟨w.heap.size, k, none⟩ = some (.int .i64 dk)) (fun _ => false) (by kernel_rfl) ?_
    generalize W0.drew = W1 at hS0 HB ⊢
    refine wpAnyS_take (i := 0) (d := some 5) (v := .agg #[.int .i64 n, .int .i64 k]) rfl rfl rfl (by kernel_rfl) (by kernel_rfl) (by kernel_rfl) (by kernel_rfl) (fun _ _ _ h => h) (.inl ⟨by rfl, fun W hW => by obtain ⟨q0, q1, q2⟩ := hW; go_simp; try rfl⟩) hS0 ?_
    try simp only [Act.put, List.setIfInBounds_toArray, List.set_cons_zero, List.set_cons_succ]
    refine wpAnyS_call (i := 1) (d := some 6) (f := 195) (args := #[.agg #[.int .i64 n, .int .i64 k]]) (w' := W1) (by kernel_rfl) rfl rfl (by rfl) (by go_simp; try rfl) ?_
    refine (known_any n k W1).mono ?_
    rintro e w5 ⟨rfl, b5⟩
    rw [hK]
    have hS5 : (fun W : World => W.cell? ⟨w.heap.size + 1, 0, none⟩ = some (.int .i64 n) ∧ W.cell? ⟨w.heap.size + 1, 1, none⟩ = some (.int .i64 k) ∧ W.cell? ⟨w.heap.size, k, none⟩ = some (.int .i64 dk)) w5 := ⟨keepB b5 hS0.1, keepB b5 hS0.2.1, keepB b5 hS0.2.2⟩
    refine ⟨_, rfl, fun _ => hS5, ?_⟩
    try simp only [Act.put, List.setIfInBounds_toArray, List.set_cons_zero, List.set_cons_succ]
    refine wpAnyS_take (i := 2) (d := some 7) rfl rfl rfl (by kernel_rfl) (by kernel_rfl) (by kernel_rfl) (by kernel_rfl) (fun _ _ _ h => h) (.inl ⟨by rfl, fun W hW => by obtain ⟨q0, q1, q2⟩ := hW; go_simp; try rfl⟩) hS5 ?_
    try simp only [Act.put, List.setIfInBounds_toArray, List.set_cons_zero, List.set_cons_succ]
    refine wpAnyS_take (i := 3) (d := some 8) rfl rfl rfl (by kernel_rfl) (by kernel_rfl) (by kernel_rfl) (by kernel_rfl) (fun _ _ _ h => h) (.inl ⟨by rfl, fun W hW => by obtain ⟨q0, q1, q2⟩ := hW; go_simp; try rfl⟩) hS5 ?_
    try simp only [Act.put, List.setIfInBounds_toArray, List.set_cons_zero, List.set_cons_succ]
    refine wpAnyS_take (i := 4) (d := some 9) (v := .int .i64 k) rfl rfl rfl (by kernel_rfl) (by kernel_rfl) (by kernel_rfl) (by kernel_rfl) (fun _ _ _ h => h) (.inl ⟨by rfl, fun W hW => by obtain ⟨q0, q1, q2⟩ := hW; go_simp; try rfl⟩) hS5 ?_
    try simp only [Act.put, List.setIfInBounds_toArray, List.set_cons_zero, List.set_cons_succ]
    refine wpAnyS_take (i := 5) (d := some 10) (v := .pointer (some ⟨w.heap.size, k, none⟩)) rfl rfl rfl (by kernel_rfl) (by kernel_rfl) (by kernel_rfl) (by kernel_rfl) (fun _ _ _ h => h) (.inl ⟨by rfl, fun W hW => by obtain ⟨q0, q1, q2⟩ := hW; go_simp; try rfl⟩) hS5 ?_
    try simp only [Act.put, List.setIfInBounds_toArray, List.set_cons_zero, List.set_cons_succ]
    refine wpAnyS_take (i := 6) (d := some 11) (v := .int .i64 dk) rfl rfl rfl (by kernel_rfl) (by kernel_rfl) (by kernel_rfl) (by kernel_rfl) (fun _ _ _ h => h) (.inl ⟨by rfl, fun W hW => by obtain ⟨q0, q1, q2⟩ := hW; go_simp; try rfl⟩) hS5 ?_
    try simp only [Act.put, List.setIfInBounds_toArray, List.set_cons_zero, List.set_cons_succ]
    refine wpAnyS_take (i := 7) (d := some 12) rfl rfl rfl (by kernel_rfl) (by kernel_rfl) (by kernel_rfl) (by kernel_rfl) (fun _ _ _ h => h) (.inl ⟨by rfl, fun W hW => by obtain ⟨q0, q1, q2⟩ := hW; go_simp; try rfl⟩) hS5 ?_
    try simp only [Act.put, List.setIfInBounds_toArray, List.set_cons_zero, List.set_cons_succ]
    refine wpAnyS_take (i := 8) (d := some 13) (v := .int .i64 n) rfl rfl rfl (by kernel_rfl) (by kernel_rfl) (by kernel_rfl) (by kernel_rfl) (fun _ _ _ h => h) (.inl ⟨by rfl, fun W hW => by obtain ⟨q0, q1, q2⟩ := hW; go_simp; try rfl⟩) hS5 ?_
    try simp only [Act.put, List.setIfInBounds_toArray, List.set_cons_zero, List.set_cons_succ]
    refine wpAnyS_take (i := 9) (d := some 14) (v := .bool db) rfl rfl rfl (by kernel_rfl) (by kernel_rfl) (by kernel_rfl) (by kernel_rfl) (fun _ _ _ h => h) (.inl ⟨by rfl, fun W hW => by obtain ⟨q0, q1, q2⟩ := hW; have hdb := HDB.out; go_simp; try rfl⟩) hS5 ?_
    try simp only [Act.put, List.setIfInBounds_toArray, List.set_cons_zero, List.set_cons_succ]
    refine wpAnyS_take (i := 10) (d := some 15) (v := .bool db) rfl rfl rfl (by kernel_rfl) (by kernel_rfl) (by kernel_rfl) (by kernel_rfl) (fun _ _ _ h => h) (.inl ⟨by rfl, fun W hW => by obtain ⟨q0, q1, q2⟩ := hW; go_simp; try rfl⟩) hS5 ?_
    try simp only [Act.put, List.setIfInBounds_toArray, List.set_cons_zero, List.set_cons_succ]
    refine wpAnyS_take (i := 11) (d := some 4) (v := .bool db) rfl rfl rfl (by kernel_rfl) (by kernel_rfl) (by kernel_rfl) (by kernel_rfl) (fun _ _ _ h => h) (.inl ⟨by rfl, fun W hW => by obtain ⟨q0, q1, q2⟩ := hW; go_simp; try rfl⟩) hS5 ?_
    try simp only [Act.put, List.setIfInBounds_toArray, List.set_cons_zero, List.set_cons_succ]
    refine wpAnyS_done (by kernel_rfl) ?_ _
    go_wp2_with fail
    go_ret
    exact ⟨rfl, HB.out.trans (b5.mono HB.out.size)⟩
  · have hK : decide (0 ≤ r ∧ r < 8) = false := decide_eq_false hr
    have hR : hasV [d0, d1, d2, d3, d4, d5, d6, d7] ⟨n, r⟩ = false := by unfold hasV; rw [decide_eq_false hr]; rfl
    rw [hR]
    clear hR hr
    go_enter Tryz.func175, Tryz.ntmps175
    go_upto_region 1 with fail
    rw [HW.out]
    have hS0 : (fun W : World => W.cell? ⟨w.heap.size + 1, 0, none⟩ = some (.int .i64 n) ∧ W.cell? ⟨w.heap.size + 1, 1, none⟩ = some (.int .i64 r) ∧ True) W0.drew := ⟨hc0, hc1, trivial⟩
    clear hc0 hc1 HCD HW
    refine wp_region_s (fun W : World => W.cell? ⟨w.heap.size + 1, 0, none⟩ = some (.int .i64 n) ∧ W.cell? ⟨w.heap.size + 1, 1, none⟩ = some (.int .i64 r) ∧ True) (fun _ => false) (by kernel_rfl) ?_
    generalize W0.drew = W1 at hS0 HB ⊢
    refine wpAnyS_take (i := 0) (d := some 5) (v := .agg #[.int .i64 n, .int .i64 r]) rfl rfl rfl (by kernel_rfl) (by kernel_rfl) (by kernel_rfl) (by kernel_rfl) (fun _ _ _ h => h) (.inl ⟨by rfl, fun W hW => by obtain ⟨q0, q1, q2⟩ := hW; go_simp; try rfl⟩) hS0 ?_
    try simp only [Act.put, List.setIfInBounds_toArray, List.set_cons_zero, List.set_cons_succ]
    refine wpAnyS_call (i := 1) (d := some 6) (f := 195) (args := #[.agg #[.int .i64 n, .int .i64 r]]) (w' := W1) (by kernel_rfl) rfl rfl (by rfl) (by go_simp; try rfl) ?_
    refine (known_any n r W1).mono ?_
    rintro e w5 ⟨rfl, b5⟩
    rw [hK]
    have hS5 : (fun W : World => W.cell? ⟨w.heap.size + 1, 0, none⟩ = some (.int .i64 n) ∧ W.cell? ⟨w.heap.size + 1, 1, none⟩ = some (.int .i64 r) ∧ True) w5 := ⟨keepB b5 hS0.1, keepB b5 hS0.2.1, trivial⟩
    refine ⟨_, rfl, fun _ => hS5, ?_⟩
    try simp only [Act.put, List.setIfInBounds_toArray, List.set_cons_zero, List.set_cons_succ]
    refine wpAnyS_take (i := 2) (d := some 7) rfl rfl rfl (by kernel_rfl) (by kernel_rfl) (by kernel_rfl) (by kernel_rfl) (fun _ _ _ h => h) (.inl ⟨by rfl, fun W hW => by obtain ⟨q0, q1, q2⟩ := hW; go_simp; try rfl⟩) hS5 ?_
    try simp only [Act.put, List.setIfInBounds_toArray, List.set_cons_zero, List.set_cons_succ]
    refine wpAnyS_take (i := 3) (d := some 8) (v := undef) rfl rfl rfl (by kernel_rfl) (by kernel_rfl) (by kernel_rfl) (by kernel_rfl) (fun _ _ _ h => h) (.inr ⟨by rfl, rfl⟩) hS5 ?_
    try simp only [Act.put, List.setIfInBounds_toArray, List.set_cons_zero, List.set_cons_succ]
    refine wpAnyS_take (i := 4) (d := some 9) (v := undef) rfl rfl rfl (by kernel_rfl) (by kernel_rfl) (by kernel_rfl) (by kernel_rfl) (fun _ _ _ h => h) (.inr ⟨by rfl, rfl⟩) hS5 ?_
    try simp only [Act.put, List.setIfInBounds_toArray, List.set_cons_zero, List.set_cons_succ]
    refine wpAnyS_take (i := 5) (d := some 10) (v := undef) rfl rfl rfl (by kernel_rfl) (by kernel_rfl) (by kernel_rfl) (by kernel_rfl) (fun _ _ _ h => h) (.inr ⟨by rfl, rfl⟩) hS5 ?_
    try simp only [Act.put, List.setIfInBounds_toArray, List.set_cons_zero, List.set_cons_succ]
    refine wpAnyS_take (i := 6) (d := some 11) (v := undef) rfl rfl rfl (by kernel_rfl) (by kernel_rfl) (by kernel_rfl) (by kernel_rfl) (fun _ _ _ h => h) (.inr ⟨by rfl, rfl⟩) hS5 ?_
    try simp only [Act.put, List.setIfInBounds_toArray, List.set_cons_zero, List.set_cons_succ]
    refine wpAnyS_take (i := 7) (d := some 12) (v := undef) rfl rfl rfl (by kernel_rfl) (by kernel_rfl) (by kernel_rfl) (by kernel_rfl) (fun _ _ _ h => h) (.inr ⟨by rfl, rfl⟩) hS5 ?_
    try simp only [Act.put, List.setIfInBounds_toArray, List.set_cons_zero, List.set_cons_succ]
    refine wpAnyS_take (i := 8) (d := some 13) (v := undef) rfl rfl rfl (by kernel_rfl) (by kernel_rfl) (by kernel_rfl) (by kernel_rfl) (fun _ _ _ h => h) (.inr ⟨by rfl, rfl⟩) hS5 ?_
    try simp only [Act.put, List.setIfInBounds_toArray, List.set_cons_zero, List.set_cons_succ]
    refine wpAnyS_take (i := 9) (d := some 14) (v := undef) rfl rfl rfl (by kernel_rfl) (by kernel_rfl) (by kernel_rfl) (by kernel_rfl) (fun _ _ _ h => h) (.inr ⟨by rfl, rfl⟩) hS5 ?_
    try simp only [Act.put, List.setIfInBounds_toArray, List.set_cons_zero, List.set_cons_succ]
    refine wpAnyS_take (i := 10) (d := some 15) (v := .bool false) rfl rfl rfl (by kernel_rfl) (by kernel_rfl) (by kernel_rfl) (by kernel_rfl) (fun _ _ _ h => h) (.inl ⟨by rfl, fun W hW => by obtain ⟨q0, q1, q2⟩ := hW; go_simp; try rfl⟩) hS5 ?_
    try simp only [Act.put, List.setIfInBounds_toArray, List.set_cons_zero, List.set_cons_succ]
    refine wpAnyS_take (i := 11) (d := some 4) (v := .bool false) rfl rfl rfl (by kernel_rfl) (by kernel_rfl) (by kernel_rfl) (by kernel_rfl) (fun _ _ _ h => h) (.inl ⟨by rfl, fun W hW => by obtain ⟨q0, q1, q2⟩ := hW; go_simp; try rfl⟩) hS5 ?_
    try simp only [Act.put, List.setIfInBounds_toArray, List.set_cons_zero, List.set_cons_succ]
    refine wpAnyS_done (by kernel_rfl) ?_ _
    go_wp2_with fail
    go_ret
    exact ⟨rfl, HB.out.trans (b5.mono HB.out.size)⟩

def mostV (ds : List Int) : Int := Lib.maxOf ds
set_option maxRecDepth 20000 in
set_option maxHeartbeats 1000000 in
theorem most_any (d0 d1 d2 d3 d4 d5 d6 d7 : Int) (w : World) : Calls Tryz.prog 140 #[.agg #[.int .i64 d0, .int .i64 d1, .int .i64 d2, .int .i64 d3, .int .i64 d4, .int .i64 d5, .int .i64 d6, .int .i64 d7]] w fun e w' => e = .returned (.int .i64 (mostV [d0, d1, d2, d3, d4, d5, d6, d7])) ∧ Below w.heap.size w w' := by
  obtain ⟨W0, hW0⟩ : ∃ W0, w.alloc (.cells #[.int .i64 d0, .int .i64 d1, .int .i64 d2, .int .i64 d3, .int .i64 d4, .int .i64 d5, .int .i64 d6, .int .i64 d7] 32) = W0 := ⟨_, rfl⟩
  have HB : Hid (Below w.heap.size w W0) := Lib.hid (by rw [← hW0]; exact ((Below.refl _ _).alloc (Nat.le_refl _) _))
  have hcon := Any.slices_Max_int Tryz.maxF w.heap.size 0 8 8 [d0, d1, d2, d3, d4, d5, d6, d7] W0 (by omega) (by simp) (by omega) (fun j hj => by
    rw [← hW0, Nat.zero_add]
    refine cells_new w [.int .i64 d0, .int .i64 d1, .int .i64 d2, .int .i64 d3, .int .i64 d4, .int .i64 d5, .int .i64 d6, .int .i64 d7] _ j _ ?_
    match j, hj with
    | 0, _ => rfl
    | 1, _ => rfl
    | 2, _ => rfl
    | 3, _ => rfl
    | 4, _ => rfl
    | 5, _ => rfl
    | 6, _ => rfl
    | 7, _ => rfl)
  have HC := Lib.hid (show Calls Tryz.prog 174 #[.slice (some ⟨w.heap.size, 0, none⟩) 8 8] W0 fun e w' => e = .returned (.int .i64 (mostV [d0, d1, d2, d3, d4, d5, d6, d7])) ∧ w' = W0 from hcon)
  have HW := Lib.hid hW0
  clear hcon hW0
  go_enter Tryz.func140, Tryz.ntmps140
  go_wp2_with fail
  rw [HW.out]
  refine HC.out.mono ?_
  rintro e w5 ⟨rfl, e5⟩
  rw [e5]
  go_wp2_with fail
  go_ret
  exact ⟨rfl, HB.out⟩


end Go.Proofs.YtgmdimbiipemhaaGreatDoor
