/- column.Deltas: a contract. -/
import Derived.Test.YtdlnokbeadkdfaaGreatDoorSumP08
import Derived.Test.YtdlnokbeadkdfaaGreatDoorCRuns08
import Derived.Test.YtdlnokbeadkdfaaGreatDoorOwnSet
import Derived.Deep.LoopGhost
import Derived.Deep.QuietTactic
import Derived.Deep.CutBlock
import Derived.Deep.DeepCutAuto
namespace Go.Proofs.YtdlnokbeadkdfaaGreatDoor
open Go.RowKit Go.Deep
set_option linter.unusedSimpArgs false
set_option linter.unusedVariables false

open Go.Shelf
theorem flatMap_intc (l : List Int) : l.flatMap intc = l.map (Value.int .i64) := by
  induction l with
  | nil => rfl
  | cons x l ih => rw [List.flatMap_cons, ih]; rfl
theorem clone_any (v : Value) (l : List Int) (w : World) (h : SliceIs intc 1 w v l) (hn : l.length ≤ 1000000000000) : Calls Tryz.prog 48 #[v] w fun e w' => ∃ v', e = .returned v' ∧ Own intc 1 3 w.heap.size w' v' l ∧ Below w.heap.size w w' := by
  obtain ⟨a, cap, rfl, hcap, hmax, hcs⟩ := h
  cases a with
  | none =>
    have hl : l = [] := Classical.byContradiction fun hne => by obtain ⟨_, _, e, _⟩ := hcs hne; cases e
    subst hl
    refine Calls.mono (show Calls Tryz.prog 48 _ _ _ from Any.slices_Clone_int_nil Tryz.cloneF 0 cap w) ?_
    rintro e w' ⟨rfl, rfl⟩
    exact ⟨_, rfl, Own.nil, Below.refl _ _⟩
  | some ad =>
    by_cases hl : l = []
    · subst hl
      refine Calls.mono (show Calls Tryz.prog 48 _ _ _ from Any.slices_Clone_int_zero Tryz.cloneF ad cap w) ?_
      rintro e w' ⟨v', rfl, hown, -, hb⟩
      exact ⟨_, rfl, hown, hb⟩
    · obtain ⟨b, o, e, hc⟩ := hcs hl
      cases e
      refine Calls.mono (show Calls Tryz.prog 48 _ _ _ from Any.slices_Clone_int Tryz.cloneF b o l.length cap l w (Nat.le_refl _) (by omega) (fun j hj => by
        have := hc j _ (List.getElem?_eq_getElem hj) 0 _ rfl
        rw [Nat.mul_one, Nat.add_zero] at this
        rw [this, List.getD_eq_getElem?_getD, List.getElem?_eq_getElem hj]
        rfl)) ?_
      rintro e w' ⟨v', rfl, hown, -, hb⟩
      refine ⟨_, rfl, ?_, hb⟩
      unfold Own
      rw [flatMap_intc]
      rw [List.take_of_length_le (Nat.le_refl _)] at hown
      exact hown

set_option maxRecDepth 20000 in
set_option maxHeartbeats 1000000 in
theorem cdeltas_any (v : Value) (l : List Int) (w : World) (h : SliceIs intc 1 w v l) (hn : l.length ≤ 1000000000000) (hin : ∀ x ∈ l, -9223372036854775808 ≤ x ∧ x ≤ 9223372036854775807) : Calls Tryz.prog 19 #[v] w fun e w' => BytesPost w (runsB (diffsB l)) e w' := by
  have HCL := Lib.hid (clone_any v l w h hn)
  obtain ⟨a, cap, rfl, hcap, hmax, -⟩ := id h
  unfold maxLen at hmax
  have HH := Lib.hid h
  have HIN := Lib.hid hin
  have HN := Lib.hid hn
  have hdl := diffsB_length l
  have HDL := Lib.hid hdl
  clear h hin hdl
  go_enter Tryz.func19, Tryz.ntmps19
  go_wp2_with fail
  refine HCL.out.mono ?_
  rintro e w5 ⟨v5, rfl, hown, hb⟩
  obtain ⟨⟨sa, sn, sc⟩, e5⟩ := hown.sl
  dsimp only at e5
  subst e5
  obtain rfl := (hown.nlen intc_len).1
  have HU := Lib.hid (And.intro hown hb)
  clear hown hb HCL hn
  go_wp2_with fail
  go_loopg [9, 4] l.length (fun g kv iv wr => ∃ i : Nat, g = l.length - i ∧ kv = .int .i64 i ∧ i ≤ l.length ∧ Hid (Own intc 1 3 w.heap.size wr (.slice sa l.length sc) (mixP (diffsB l) l i) ∧ Below w.heap.size w wr))
  case atStart => exact ⟨0, rfl, rfl, Nat.zero_le _, by rw [mixP_zero]; exact HU⟩
  case round =>
    clear HU
    obtain ⟨i, hg, rfl, hil, HU⟩ := hrel
    have HG := Lib.hid hg
    clear hg
    by_cases hlt : i < l.length
    · have hi1 : (i : Int) < (l.length : Int) := by omega
      obtain ⟨x, hx⟩ : ∃ x, l[i]? = some x := ⟨_, List.getElem?_eq_getElem hlt⟩
      cases i with
      | zero =>
        have HN2 : Hid (Own intc 1 3 w.heap.size wr (.slice sa l.length sc) (mixP (diffsB l) l 1) ∧ Below w.heap.size w wr) := Lib.hid (by rw [← mixP_same HDL.out (diffsB_head hx) hx]; exact HU.out)
        clear hx HU
        go_wp2_with fail
        go_roundg (l.length - 1)
        case measure => rw [HG.out]; omega
        case rel => exact ⟨1, rfl, by simp, by omega, HN2⟩
      | succ j =>
        obtain ⟨y, hy⟩ : ∃ y, l[j]? = some y := ⟨_, List.getElem?_eq_getElem (by omega)⟩
        have hs := diffsB_get hx hy
        obtain ⟨z, hz⟩ : ∃ z, z = wrapI (x - y) := ⟨_, rfl⟩
        rw [← hz] at hs
        have hml := mixP_len HDL.out (show j + 1 ≤ l.length by omega)
        have HO := HU.out.1
        rw [← hml] at HO
        obtain ⟨bb, hsa⟩ : ∃ bb, sa = some ⟨bb, 0, none⟩ := by
          rcases HO.eq_slice with ⟨e, h⟩ | ⟨g, c, e, _⟩
          · rw [h] at hml; simp at hml; omega
          · cases e; exact ⟨g, rfl⟩
        subst hsa
        have hbk := (HU.out.1.blk bb rfl).1
        obtain ⟨b0, o0, rfl, c1⟩ := (HH.out.below HU.out.2).at1 hx rfl
        obtain ⟨_, _, e2, c0⟩ := (HH.out.below HU.out.2).at1 hy rfl
        cases e2
        have hb0 : b0 < w.heap.size := by
          obtain ⟨_, _, e3, c3⟩ := HH.out.at1 hy rfl
          cases e3
          exact cell_lt c3
        have c4 : ∃ u, wr.cell? ⟨bb, j + 1, none⟩ = some u := ⟨_, by have := HO.cellAt intc_len (mixP_at HDL.out hx) (j := 0) rfl; rwa [Nat.mul_one, Nat.add_zero] at this⟩
        obtain ⟨u4, c4⟩ := c4
        have f1 := HO.free (j + 1)
        have HN2 : Hid (Own intc 1 3 w.heap.size (wr.drew.setCell ⟨bb, j + 1, none⟩ (.int .i64 z)) (.slice (some ⟨bb, 0, none⟩) l.length sc) (mixP (diffsB l) l (j + 2)) ∧ Below w.heap.size w (wr.drew.setCell ⟨bb, j + 1, none⟩ (.int .i64 z))) := Lib.hid ⟨by
          have h1 := Own.setAt (show Own intc 1 3 w.heap.size wr.drew (.slice (some ⟨bb, 0, none⟩) (mixP (diffsB l) l (j + 1)).length sc) (mixP (diffsB l) l (j + 1)) from HO) intc_len (i := j + 1) (j := 0) (y := z) (mixP_at HDL.out hx) (by omega) rfl
          rw [hml, Nat.mul_one, Nat.add_zero, mixP_step HDL.out hs] at h1
          exact h1, (HU.out.2.drew).setCell hbk _⟩
        have hzz : IntKind.i64.wrap (x - y) = z := by rw [hz, i64_wrap]
        have hj0 : IntKind.i64.wrap (j : Int) = (j : Int) := IntWalk.i64_in _ (by omega)
        have hj3 : ¬ ((j : Int) + 1 < 0) := by omega
        have hj4 : (0 : Int) ≤ (j : Int) + 1 := by omega
        have hj1 : IntKind.i64.wrap (((j + 1 : Nat) : Int) - 1) = (j : Int) := by rw [IntWalk.i64_in _ (by omega)]; omega
        have hj2 : (j : Int) < (l.length : Int) := by omega
        clear hx hy hs hz hml HO HU
        go_upto_region 6 with fail
        have hS0 : (fun W : World => W.cell? ⟨b0, o0 + (j + 1), none⟩ = some (.int .i64 x) ∧ W.cell? ⟨b0, o0 + j, none⟩ = some (.int .i64 y)) wr.drew := ⟨c1, c0⟩
        have f2 : wr.drew.frozen? ⟨bb, j + 1, none⟩ = false := f1
        have c2 : wr.drew.cell? ⟨bb, j + 1, none⟩ = some u4 := c4
        clear c1 c0 f1 c4
        refine wp_region_s (fun W : World => W.cell? ⟨b0, o0 + (j + 1), none⟩ = some (.int .i64 x) ∧ W.cell? ⟨b0, o0 + j, none⟩ = some (.int .i64 y)) (fun i => i == 13) (by kernel_rfl) ?_
        generalize wr.drew = W1 at hS0 HN2 f2 c2 ⊢
        refine wpAnyS_take (i := 0) (d := some 14) rfl rfl rfl (by kernel_rfl) (by kernel_rfl) (by kernel_rfl) (by kernel_rfl) (fun _ _ _ h => h) (.inl ⟨by rfl, fun W hW => by obtain ⟨q0, q1⟩ := hW; go_simp; try rfl⟩) hS0 ?_
        try simp only [Act.put, List.setIfInBounds_toArray, List.set_cons_zero, List.set_cons_succ]
        refine wpAnyS_take (i := 1) (d := some 15) rfl rfl rfl (by kernel_rfl) (by kernel_rfl) (by kernel_rfl) (by kernel_rfl) (fun _ _ _ h => h) (.inl ⟨by rfl, fun W hW => by obtain ⟨q0, q1⟩ := hW; go_simp; try rfl⟩) hS0 ?_
        try simp only [Act.put, List.setIfInBounds_toArray, List.set_cons_zero, List.set_cons_succ]
        refine wpAnyS_take (i := 2) (d := some 16) rfl rfl rfl (by kernel_rfl) (by kernel_rfl) (by kernel_rfl) (by kernel_rfl) (fun _ _ _ h => h) (.inl ⟨by rfl, fun W hW => by obtain ⟨q0, q1⟩ := hW; go_simp; try rfl⟩) hS0 ?_
        try simp only [Act.put, List.setIfInBounds_toArray, List.set_cons_zero, List.set_cons_succ]
        refine wpAnyS_take (i := 3) (d := some 17) rfl rfl rfl (by kernel_rfl) (by kernel_rfl) (by kernel_rfl) (by kernel_rfl) (fun _ _ _ h => h) (.inl ⟨by rfl, fun W hW => by obtain ⟨q0, q1⟩ := hW; go_simp; try rfl⟩) hS0 ?_
        try simp only [Act.put, List.setIfInBounds_toArray, List.set_cons_zero, List.set_cons_succ]
        refine wpAnyS_take (i := 4) (d := some 18) (v := .pointer (some ⟨b0, o0 + (j + 1), none⟩)) rfl rfl rfl (by kernel_rfl) (by kernel_rfl) (by kernel_rfl) (by kernel_rfl) (fun _ _ _ h => h) (.inl ⟨by rfl, fun W hW => by obtain ⟨q0, q1⟩ := hW; go_simp; try rfl⟩) hS0 ?_
        try simp only [Act.put, List.setIfInBounds_toArray, List.set_cons_zero, List.set_cons_succ]
        refine wpAnyS_take (i := 5) (d := some 19) (v := .int .i64 x) rfl rfl rfl (by kernel_rfl) (by kernel_rfl) (by kernel_rfl) (by kernel_rfl) (fun _ _ _ h => h) (.inl ⟨by rfl, fun W hW => by obtain ⟨q0, q1⟩ := hW; go_simp; try rfl⟩) hS0 ?_
        try simp only [Act.put, List.setIfInBounds_toArray, List.set_cons_zero, List.set_cons_succ]
        refine wpAnyS_take (i := 6) (d := some 20) rfl rfl rfl (by kernel_rfl) (by kernel_rfl) (by kernel_rfl) (by kernel_rfl) (fun _ _ _ h => h) (.inl ⟨by rfl, fun W hW => by obtain ⟨q0, q1⟩ := hW; go_simp; try rfl⟩) hS0 ?_
        try simp only [Act.put, List.setIfInBounds_toArray, List.set_cons_zero, List.set_cons_succ]
        refine wpAnyS_take (i := 7) (d := some 21) rfl rfl rfl (by kernel_rfl) (by kernel_rfl) (by kernel_rfl) (by kernel_rfl) (fun _ _ _ h => h) (.inl ⟨by rfl, fun W hW => by obtain ⟨q0, q1⟩ := hW; go_simp; try rfl⟩) hS0 ?_
        try simp only [Act.put, List.setIfInBounds_toArray, List.set_cons_zero, List.set_cons_succ]
        refine wpAnyS_take (i := 8) (d := some 22) (v := .int .i64 j) rfl rfl rfl (by kernel_rfl) (by kernel_rfl) (by kernel_rfl) (by kernel_rfl) (fun _ _ _ h => h) (.inl ⟨by rfl, fun W hW => by obtain ⟨q0, q1⟩ := hW; go_simp; try rfl⟩) hS0 ?_
        try simp only [Act.put, List.setIfInBounds_toArray, List.set_cons_zero, List.set_cons_succ]
        refine wpAnyS_take (i := 9) (d := some 23) (v := .pointer (some ⟨b0, o0 + j, none⟩)) rfl rfl rfl (by kernel_rfl) (by kernel_rfl) (by kernel_rfl) (by kernel_rfl) (fun _ _ _ h => h) (.inl ⟨by rfl, fun W hW => by obtain ⟨q0, q1⟩ := hW; go_simp; try rfl⟩) hS0 ?_
        try simp only [Act.put, List.setIfInBounds_toArray, List.set_cons_zero, List.set_cons_succ]
        refine wpAnyS_take (i := 10) (d := some 24) (v := .int .i64 y) rfl rfl rfl (by kernel_rfl) (by kernel_rfl) (by kernel_rfl) (by kernel_rfl) (fun _ _ _ h => h) (.inl ⟨by rfl, fun W hW => by obtain ⟨q0, q1⟩ := hW; go_simp; try rfl⟩) hS0 ?_
        try simp only [Act.put, List.setIfInBounds_toArray, List.set_cons_zero, List.set_cons_succ]
        refine wpAnyS_take (i := 11) (d := some 25) (v := .int .i64 z) rfl rfl rfl (by kernel_rfl) (by kernel_rfl) (by kernel_rfl) (by kernel_rfl) (fun _ _ _ h => h) (.inl ⟨by rfl, fun W hW => by obtain ⟨q0, q1⟩ := hW; go_simp; try rfl⟩) hS0 ?_
        try simp only [Act.put, List.setIfInBounds_toArray, List.set_cons_zero, List.set_cons_succ]
        refine wpAnyS_take (i := 12) (d := some 26) (v := .pointer (some ⟨bb, j + 1, none⟩)) rfl rfl rfl (by kernel_rfl) (by kernel_rfl) (by kernel_rfl) (by kernel_rfl) (fun _ _ _ h => h) (.inl ⟨by rfl, fun W hW => by obtain ⟨q0, q1⟩ := hW; go_simp; try rfl⟩) hS0 ?_
        try simp only [Act.put, List.setIfInBounds_toArray, List.set_cons_zero, List.set_cons_succ]
        refine wpAnyS_mute (i := 13) (d := none) (w' := W1.setCell ⟨bb, j + 1, none⟩ (.int .i64 z)) (by kernel_rfl) rfl rfl (by rfl) (by go_simp; try rfl) (fun h => by cases h) ?_
        try simp only [Act.put, List.setIfInBounds_toArray, List.set_cons_zero, List.set_cons_succ]
        refine wpAnyS_done (by kernel_rfl) ?_ _
        clear hS0 f2 c2
        generalize W1.setCell ⟨bb, j + 1, none⟩ (.int .i64 z) = W2 at HN2 ⊢
        go_wp2_with fail
        go_roundg (l.length - (j + 2))
        case measure => rw [HG.out]; omega
        case rel => exact ⟨j + 2, rfl, by simp; omega, by omega, HN2⟩
    · obtain rfl : i = l.length := by omega
      have hi1 : ¬ (l.length : Int) < (l.length : Int) := by omega
      have HO : Hid (Own intc 1 3 w.heap.size wr (.slice sa l.length sc) (diffsB l) ∧ Below w.heap.size w wr) := Lib.hid (by have h := HU.out; rw [mixP_all HDL.out] at h; exact h)
      clear hlt HU
      go_wp2_with fail
      refine (cruns_any _ (diffsB l) _ (HO.out.1.slice intc_len) (by rw [HDL.out]; exact HN.out) (diffsB_in HIN.out)).mono ?_
      rintro e w6 ⟨v6, rfl, hown6, b6⟩
      have HN5 := Lib.hid (And.intro (hown6.mono HO.out.2.size) (HO.out.2.trans (b6.mono HO.out.2.size)))
      clear hown6 b6
      go_wp2_with fail
      go_ret
      exact ⟨_, rfl, HN5.out.1, HN5.out.2⟩

end Go.Proofs.YtdlnokbeadkdfaaGreatDoor
