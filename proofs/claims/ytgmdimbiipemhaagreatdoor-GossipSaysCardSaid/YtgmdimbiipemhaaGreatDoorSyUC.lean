/- column.Deltas: a contract. column.runs at bool: the iterator. column.Bools: a contract. batch.Encode: a contract. batch.taker.all: a contract. -/
import Derived.Test.YtgmdimbiipemhaaGreatDoorSyUA
import Derived.Test.YtgmdimbiipemhaaGreatDoorSyUB
import Derived.Deep.LoopGhost
import Derived.Deep.QuietTactic
import Derived.Deep.CutBlock
import Derived.Deep.DeepCutAuto
import Derived.Test.YtgmdimbiipemhaaGreatDoorTkP08
import Derived.Shelf.Abstract
import Derived.Shelf.RegionOpen
import Derived.WalkKit
import Derived.OwnWalkIn
import Derived.TacticsInMore
import Derived.LoopNIn
import Derived.LoopIn
import Derived.OneCell
import Derived.Test.YtgmdimbiipemhaaGreatDoorRowIn
import Derived.Sort.CutIn
import Derived.Test.YtgmdimbiipemhaaGreatDoorBits08
import Derived.Test.YtgmdimbiipemhaaGreatDoorVar08
import Derived.Laws.EntriesVeiled
import Derived.Outline
import Derived.Test.YtgmdimbiipemhaaGreatDoorEncP08
import Derived.Test.YtgmdimbiipemhaaGreatDoorCols08
import Derived.Test.YtgmdimbiipemhaaGreatDoorTT08
import Derived.Test.YtgmdimbiipemhaaGreatDoorORight08
import Derived.Lib.AppendStr
import Derived.Laws.MakeOwn
import Derived.RegionTactic
import Derived.BigRegion
namespace Go.Proofs.YtgmdimbiipemhaaGreatDoor
open Go.RowKit Go.Deep
set_option linter.unusedSimpArgs false
set_option linter.unusedVariables false
open Go.Shelf
theorem flatMap_intc (l : List Int) : l.flatMap intc = l.map (Value.int .i64) := by
  induction l with
  | nil => rfl
  | cons x l ih => rw [List.flatMap_cons, ih]; rfl
theorem clone_any (v : Value) (l : List Int) (w : World) (h : SliceIs intc 1 w v l) (hn : l.length ≤ 1000000000000) : Calls Tryz.prog 146 #[v] w fun e w' => ∃ v', e = .returned v' ∧ Own intc 1 3 w.heap.size w' v' l ∧ Below w.heap.size w w' := by
  obtain ⟨a, cap, rfl, hcap, hmax, hcs⟩ := h
  cases a with
  | none =>
    have hl : l = [] := Classical.byContradiction fun hne => by obtain ⟨_, _, e, _⟩ := hcs hne; cases e
    subst hl
    refine Calls.mono (show Calls Tryz.prog 146 _ _ _ from Any.slices_Clone_int_nil Tryz.cloneF 0 cap w) ?_
    rintro e w' ⟨rfl, rfl⟩
    exact ⟨_, rfl, Own.nil, Below.refl _ _⟩
  | some ad =>
    by_cases hl : l = []
    · subst hl
      refine Calls.mono (show Calls Tryz.prog 146 _ _ _ from Any.slices_Clone_int_zero Tryz.cloneF ad cap w) ?_
      rintro e w' ⟨v', rfl, hown, -, hb⟩
      exact ⟨_, rfl, hown, hb⟩
    · obtain ⟨b, o, e, hc⟩ := hcs hl
      cases e
      refine Calls.mono (show Calls Tryz.prog 146 _ _ _ from Any.slices_Clone_int Tryz.cloneF b o l.length cap l w (Nat.le_refl _) (by omega) (fun j hj => by
        have := hc j _ (List.getElem?_eq_getElem hj) 0 _ rfl
        rw [Nat.mul_one, Nat.add_zero] at this
        rw [this, List.getD_eq_getElem?_getD, List.getElem?_eq_getElem hj]
        rfl)) ?_
      rintro e w' ⟨v', rfl, hown, -, hb⟩
      refine ⟨_, rfl, ?_, hb⟩
      unfold Own
      rw [flatMap_intc]
      rw [List.take_of_length_le (Nat.le_refl _)] at hown
      exact hown
set_option maxRecDepth 20000 in
set_option maxHeartbeats 1000000 in
theorem cdeltas_any (v : Value) (l : List Int) (w : World) (h : SliceIs intc 1 w v l) (hn : l.length ≤ 1000000000000) (hin : ∀ x ∈ l, -9223372036854775808 ≤ x ∧ x ≤ 9223372036854775807) : Calls Tryz.prog 94 #[v] w fun e w' => BytesPost w (runsB (diffsB l)) e w' := by
  have HCL := Lib.hid (clone_any v l w h hn)
  obtain ⟨a, cap, rfl, hcap, hmax, -⟩ := id h
  unfold maxLen at hmax
  have HH := Lib.hid h
  have HIN := Lib.hid hin
  have HN := Lib.hid hn
  have hdl := diffsB_length l
  have HDL := Lib.hid hdl
  clear h hin hdl
  go_enter Tryz.func94, Tryz.ntmps94
  go_wp2_with fail
  refine HCL.out.mono ?_
  rintro e w5 ⟨v5, rfl, hown, hb⟩
  obtain ⟨⟨sa, sn, sc⟩, e5⟩ := hown.sl
  dsimp only at e5
  subst e5
  obtain rfl := (hown.nlen intc_len).1
  have HU := Lib.hid (And.intro hown hb)
  clear hown hb HCL hn
  go_wp2_with fail
  go_loopg [9, 4] l.length (fun g kv iv wr => ∃ i : Nat, g = l.length - i ∧ kv = .int .i64 i ∧ i ≤ l.length ∧ Hid (Own intc 1 3 w.heap.size wr (.slice sa l.length sc) (mixP (diffsB l) l i) ∧ Below w.heap.size w wr))
  case atStart => exact ⟨0, rfl, rfl, Nat.zero_le _, by rw [mixP_zero]; exact HU⟩
  case round =>
    clear HU
    obtain ⟨i, hg, rfl, hil, HU⟩ := hrel
    have HG := Lib.hid hg
    clear hg
    by_cases hlt : i < l.length
    · have hi1 : (i : Int) < (l.length : Int) := by omega
      obtain ⟨x, hx⟩ : ∃ x, l[i]? = some x := ⟨_, List.getElem?_eq_getElem hlt⟩
      cases i with
      | zero =>
        have HN2 : Hid (Own intc 1 3 w.heap.size wr (.slice sa l.length sc) (mixP (diffsB l) l 1) ∧ Below w.heap.size w wr) := Lib.hid (by rw [← mixP_same HDL.out (diffsB_head hx) hx]; exact HU.out)
        clear hx HU
        go_wp2_with fail
        go_roundg (l.length - 1)
        case measure => rw [HG.out]; omega
        case rel => exact ⟨1, rfl, by simp, by omega, HN2⟩
      | succ j =>
        obtain ⟨y, hy⟩ : ∃ y, l[j]? = some y := ⟨_, List.getElem?_eq_getElem (by omega)⟩
        have hs := diffsB_get hx hy
        obtain ⟨z, hz⟩ : ∃ z, z = wrapI (x - y) := ⟨_, rfl⟩
        rw [← hz] at hs
        have hml := mixP_len HDL.out (show j + 1 ≤ l.length by omega)
        have HO := HU.out.1
        rw [← hml] at HO
        obtain ⟨bb, hsa⟩ : ∃ bb, sa = some ⟨bb, 0, none⟩ := by
          rcases HO.eq_slice with ⟨e, h⟩ | ⟨g, c, e, _⟩
          · rw [h] at hml; simp at hml; omega
          · cases e; exact ⟨g, rfl⟩
        subst hsa
        have hbk := (HU.out.1.blk bb rfl).1
        obtain ⟨b0, o0, rfl, c1⟩ := (HH.out.below HU.out.2).at1 hx rfl
        obtain ⟨_, _, e2, c0⟩ := (HH.out.below HU.out.2).at1 hy rfl
        cases e2
        have hb0 : b0 < w.heap.size := by
          obtain ⟨_, _, e3, c3⟩ := HH.out.at1 hy rfl
          cases e3
          exact cell_lt c3
        have c4 : ∃ u, wr.cell? ⟨bb, j + 1, none⟩ = some u := ⟨_, by have := HO.cellAt intc_len (mixP_at HDL.out hx) (j := 0) rfl; rwa [Nat.mul_one, Nat.add_zero] at this⟩
        obtain ⟨u4, c4⟩ := c4
        have f1 := HO.free (j + 1)
        have HN2 : Hid (Own intc 1 3 w.heap.size (wr.drew.setCell ⟨bb, j + 1, none⟩ (.int .i64 z)) (.slice (some ⟨bb, 0, none⟩) l.length sc) (mixP (diffsB l) l (j + 2)) ∧ Below w.heap.size w (wr.drew.setCell ⟨bb, j + 1, none⟩ (.int .i64 z))) := Lib.hid ⟨by
          have h1 := Own.setAt (show Own intc 1 3 w.heap.size wr.drew (.slice (some ⟨bb, 0, none⟩) (mixP (diffsB l) l (j + 1)).length sc) (mixP (diffsB l) l (j + 1)) from HO) intc_len (i := j + 1) (j := 0) (y := z) (mixP_at HDL.out hx) (by omega) rfl
          rw [hml, Nat.mul_one, Nat.add_zero, mixP_step HDL.out hs] at h1
          exact h1, (HU.out.2.drew).setCell hbk _⟩
        have hzz : IntKind.i64.wrap (x - y) = z := by rw [hz, i64_wrap]
        have hj0 : IntKind.i64.wrap (j : Int) = (j : Int) := IntWalk.i64_in _ (by omega)
        have hj3 : ¬ ((j : Int) + 1 < 0) := by omega
        have hj4 : (0 : Int) ≤ (j : Int) + 1 := by omega
        have hj1 : IntKind.i64.wrap (((j + 1 : Nat) : Int) - 1) = (j : Int) := by rw [IntWalk.i64_in _ (by omega)]; omega
        have hj2 : (j : Int) < (l.length : Int) := by omega
        clear hx hy hs hz hml HO HU
        go_upto_region 6 with fail
        have hS0 : (fun W : World => W.cell? ⟨b0, o0 + (j + 1), none⟩ = some (.int .i64 x) ∧ W.cell? ⟨b0, o0 + j, none⟩ = some (.int .i64 y)) wr.drew := ⟨c1, c0⟩
        have f2 : wr.drew.frozen? ⟨bb, j + 1, none⟩ = false := f1
        have c2 : wr.drew.cell? ⟨bb, j + 1, none⟩ = some u4 := c4
        clear c1 c0 f1 c4
        refine wp_region_s (fun W : World => W.cell? ⟨b0, o0 + (j + 1), none⟩ = some (.int .i64 x) ∧ W.cell? ⟨b0, o0 + j, none⟩ = some (.int .i64 y)) (fun i => i == 13) (by kernel_rfl) ?_
        generalize wr.drew = W1 at hS0 HN2 f2 c2 ⊢
        refine wpAnyS_take (i := 0) (d := some 14) rfl rfl rfl (by kernel_rfl) (by kernel_rfl) (by kernel_rfl) (by kernel_rfl) (fun _ _ _ h => h) (.inl ⟨by rfl, fun W hW => by obtain ⟨q0, q1⟩ := hW; go_simp; try rfl⟩) hS0 ?_
        try simp only [Act.put, List.setIfInBounds_toArray, List.set_cons_zero, List.set_cons_succ]
        refine wpAnyS_take (i := 1) (d := some 15) rfl rfl rfl (by kernel_rfl) (by kernel_rfl) (by kernel_rfl) (by kernel_rfl) (fun _ _ _ h => h) (.inl ⟨by rfl, fun W hW => by obtain ⟨q0, q1⟩ := hW; go_simp; try rfl⟩) hS0 ?_
        try simp only [Act.put, List.setIfInBounds_toArray, List.set_cons_zero, List.set_cons_succ]
        refine wpAnyS_take (i := 2) (d := some 16) rfl rfl rfl (by kernel_rfl) (by kernel_rfl) (by kernel_rfl) (by kernel_rfl) (fun _ _ _ h => h) (.inl ⟨by rfl, fun W hW => by obtain ⟨q0, q1⟩ := hW; go_simp; try rfl⟩) hS0 ?_
        try simp only [Act.put, List.setIfInBounds_toArray, List.set_cons_zero, List.set_cons_succ]
        refine wpAnyS_take (i := 3) (d := some 17) rfl rfl rfl (by kernel_rfl) (by kernel_rfl) (by kernel_rfl) (by kernel_rfl) (fun _ _ _ h => h) (.inl ⟨by rfl, fun W hW => by obtain ⟨q0, q1⟩ := hW; go_simp; try rfl⟩) hS0 ?_
        try simp only [Act.put, List.setIfInBounds_toArray, List.set_cons_zero, List.set_cons_succ]
        refine wpAnyS_take (i := 4) (d := some 18) (v := .pointer (some ⟨b0, o0 + (j + 1), none⟩)) rfl rfl rfl (by kernel_rfl) (by kernel_rfl) (by kernel_rfl) (by kernel_rfl) (fun _ _ _ h => h) (.inl ⟨by rfl, fun W hW => by obtain ⟨q0, q1⟩ := hW; go_simp; try rfl⟩) hS0 ?_
        try simp only [Act.put, List.setIfInBounds_toArray, List.set_cons_zero, List.set_cons_succ]
        refine wpAnyS_take (i := 5) (d := some 19) (v := .int .i64 x) rfl rfl rfl (by kernel_rfl) (by kernel_rfl) (by kernel_rfl) (by kernel_rfl) (fun _ _ _ h => h) (.inl ⟨by rfl, fun W hW => by obtain ⟨q0, q1⟩ := hW; go_simp; try rfl⟩) hS0 ?_
        try simp only [Act.put, List.setIfInBounds_toArray, List.set_cons_zero, List.set_cons_succ]
        refine wpAnyS_take (i := 6) (d := some 20) rfl rfl rfl (by kernel_rfl) (by kernel_rfl) (by kernel_rfl) (by kernel_rfl) (fun _ _ _ h => h) (.inl ⟨by rfl, fun W hW => by obtain ⟨q0, q1⟩ := hW; go_simp; try rfl⟩) hS0 ?_
        try simp only [Act.put, List.setIfInBounds_toArray, List.set_cons_zero, List.set_cons_succ]
        refine wpAnyS_take (i := 7) (d := some 21) rfl rfl rfl (by kernel_rfl) (by kernel_rfl) (by kernel_rfl) (by kernel_rfl) (fun _ _ _ h => h) (.inl ⟨by rfl, fun W hW => by obtain ⟨q0, q1⟩ := hW; go_simp; try rfl⟩) hS0 ?_
        try simp only [Act.put, List.setIfInBounds_toArray, List.set_cons_zero, List.set_cons_succ]
        refine wpAnyS_take (i := 8) (d := some 22) (v := .int .i64 j) rfl rfl rfl (by kernel_rfl) (by kernel_rfl) (by kernel_rfl) (by kernel_rfl) (fun _ _ _ h => h) (.inl ⟨by rfl, fun W hW => by obtain ⟨q0, q1⟩ := hW; go_simp; try rfl⟩) hS0 ?_
        try simp only [Act.put, List.setIfInBounds_toArray, List.set_cons_zero, List.set_cons_succ]
        refine wpAnyS_take (i := 9) (d := some 23) (v := .pointer (some ⟨b0, o0 + j, none⟩)) rfl rfl rfl (by kernel_rfl) (by kernel_rfl) (by kernel_rfl) (by kernel_rfl) (fun _ _ _ h => h) (.inl ⟨by rfl, fun W hW => by obtain ⟨q0, q1⟩ := hW; go_simp; try rfl⟩) hS0 ?_
        try simp only [Act.put, List.setIfInBounds_toArray, List.set_cons_zero, List.set_cons_succ]
        refine wpAnyS_take (i := 10) (d := some 24) (v := .int .i64 y) rfl rfl rfl (by kernel_rfl) (by kernel_rfl) (by kernel_rfl) (by kernel_rfl) (fun _ _ _ h => h) (.inl ⟨by rfl, fun W hW => by obtain ⟨q0, q1⟩ := hW; go_simp; try rfl⟩) hS0 ?_
        try simp only [Act.put, List.setIfInBounds_toArray, List.set_cons_zero, List.set_cons_succ]
        refine wpAnyS_take (i := 11) (d := some 25) (v := .int .i64 z) rfl rfl rfl (by kernel_rfl) (by kernel_rfl) (by kernel_rfl) (by kernel_rfl) (fun _ _ _ h => h) (.inl ⟨by rfl, fun W hW => by obtain ⟨q0, q1⟩ := hW; go_simp; try rfl⟩) hS0 ?_
        try simp only [Act.put, List.setIfInBounds_toArray, List.set_cons_zero, List.set_cons_succ]
        refine wpAnyS_take (i := 12) (d := some 26) (v := .pointer (some ⟨bb, j + 1, none⟩)) rfl rfl rfl (by kernel_rfl) (by kernel_rfl) (by kernel_rfl) (by kernel_rfl) (fun _ _ _ h => h) (.inl ⟨by rfl, fun W hW => by obtain ⟨q0, q1⟩ := hW; go_simp; try rfl⟩) hS0 ?_
        try simp only [Act.put, List.setIfInBounds_toArray, List.set_cons_zero, List.set_cons_succ]
        refine wpAnyS_mute (i := 13) (d := none) (w' := W1.setCell ⟨bb, j + 1, none⟩ (.int .i64 z)) (by kernel_rfl) rfl rfl (by rfl) (by go_simp; try rfl) (fun h => by cases h) ?_
        try simp only [Act.put, List.setIfInBounds_toArray, List.set_cons_zero, List.set_cons_succ]
        refine wpAnyS_done (by kernel_rfl) ?_ _
        clear hS0 f2 c2
        generalize W1.setCell ⟨bb, j + 1, none⟩ (.int .i64 z) = W2 at HN2 ⊢
        go_wp2_with fail
        go_roundg (l.length - (j + 2))
        case measure => rw [HG.out]; omega
        case rel => exact ⟨j + 2, rfl, by simp; omega, by omega, HN2⟩
    · obtain rfl : i = l.length := by omega
      have hi1 : ¬ (l.length : Int) < (l.length : Int) := by omega
      have HO : Hid (Own intc 1 3 w.heap.size wr (.slice sa l.length sc) (diffsB l) ∧ Below w.heap.size w wr) := Lib.hid (by have h := HU.out; rw [mixP_all HDL.out] at h; exact h)
      clear hlt HU
      go_wp2_with fail
      refine (cruns_any _ (diffsB l) _ (HO.out.1.slice intc_len) (by rw [HDL.out]; exact HN.out) (diffsB_in HIN.out)).mono ?_
      rintro e w6 ⟨v6, rfl, hown6, b6⟩
      have HN5 := Lib.hid (And.intro (hown6.mono HO.out.2.size) (HO.out.2.trans (b6.mono HO.out.2.size)))
      clear hown6 b6
      go_wp2_with fail
      go_ret
      exact ⟨_, rfl, HN5.out.1, HN5.out.2⟩
end Go.Proofs.YtgmdimbiipemhaaGreatDoor
namespace Go.Proofs.YtgmdimbiipemhaaGreatDoor
open Go.RowKit Go.Deep
set_option linter.unusedSimpArgs false
set_option linter.unusedVariables false
attribute [local go_sem] Oper.semAt_some
theorem runs_bool_any (va : Option Addr) (m vc : Nat) (w : World) : Calls Tryz.prog 149 #[.slice va m vc] w
    fun e w' => e = .returned (.func (.func 179) #[] #[.pointer (some ⟨w.heap.size, 0, none⟩)]) ∧ w' = w.alloc (.cells #[.slice va m vc] 75) := by
  go_enter Tryz.func149, Tryz.ntmps149
  go_wp2_with fail
  go_ret
  exact ⟨rfl, rfl⟩
set_option maxRecDepth 100000 in
set_option maxHeartbeats 2000000 in
theorem runs_bool_gives (n : Nat) (hn : 1 ≤ n) (Bs : Nat) (v : Value) (l : List Bool) (R : Nat → Prop) (w : World) (hv : SliceIs btc 1 w v l) (hB : w.heap[Bs]? = some (.cells #[v] 75 (0, 0))) (hRB : ¬ R Bs) (hRv : l ≠ [] → ∀ b o m c, v = .slice (some ⟨b, o, none⟩) m c → ¬ R b ∧ b < w.heap.size ∧ b ≠ Bs) :
    IterGivesS Tryz.prog n 179 #[.pointer (some ⟨Bs, 0, none⟩)] (fun x : Nat × Bool => #[.int .i64 x.1, .bool x.2]) R (· = Bs) (runsL l) w := by
  intro lb I W hl hb hI hY h0
  obtain ⟨va, vc, rfl, hcap, hmax, hcs⟩ := id hv
  unfold maxLen at hmax
  have hBl := (Array.getElem?_eq_some_iff.1 hB).1
  have HI := Lib.hid hI
  have HY := Lib.hid hY
  have HB0 : W.heap[Bs]? = some (.cells #[.slice va l.length vc] 75 (0, 0)) := (hb.block _ hBl).trans hB
  have hS0 : SliceIs btc 1 W (.slice va l.length vc) l := hv.below hb
  have HV : Hid (l ≠ [] → ∀ ad, va = some ad → ¬ R ad.block ∧ ad.block < w.heap.size ∧ ad.block ≠ Bs) := Lib.hid (fun hne ad e => by
    obtain ⟨b, o, e2, _⟩ := hcs hne
    rw [e] at e2
    cases e2
    exact hRv hne b o _ _ (by rw [e]))
  have HF : Hid (W.heap[Bs]? = some (.cells #[.slice va l.length vc] 75 (0, 0)) ∧ SliceIs btc 1 W (.slice va l.length vc) l ∧ I [] W) := Lib.hid ⟨HB0, hS0, h0⟩
  clear hv hcs hI hY hRv hB hS0 HB0 h0 hb
  refine callsIn_of_wp Tryz.func179 rfl trivial ?_ rfl
  simp only [Tryz.ntmps179, List.size_toArray, List.length_cons, List.length_nil, Nat.reduceAdd, Nat.reduceSub, Array.replicate_succ, Array.replicate_zero, List.push_toArray, List.append_toArray, List.nil_append, List.cons_append]
  refine wpIn_wide.2 ?_
  go_wp2_with fail
  go_loopg [3] l.length (fun g nv wr => ∃ (r : List Bool) (pre : List (Nat × Bool)) (ra : Option Addr) (rc : Nat), g = r.length ∧ r.length ≤ l.length ∧ r.length ≤ rc ∧ rc ≤ 2 ^ 63 - 1 ∧ Hid (runsL l = pre ++ runsL r) ∧ Hid (r ≠ [] → ∀ ad, ra = some ad → ¬ R ad.block ∧ ad.block < w.heap.size ∧ ad.block ≠ Bs) ∧ Hid (wr.heap[Bs]? = some (.cells #[.slice ra r.length rc] 75 (0, 0)) ∧ SliceIs btc 1 wr (.slice ra r.length rc) r ∧ I pre wr))
  case atStart => exact ⟨l, [], va, vc, rfl, Nat.le_refl _, hcap, hmax, Lib.hid rfl, HV, HF⟩
  case round =>
    clear HV HF hcap hmax
    obtain ⟨r, pre, ra, rc, hg, hrl, hcap, hmax, HP, HV, HF⟩ := hrel
    have HG := Lib.hid hg
    clear hg
    have b0 := cell_of_one HF.out.1
    by_cases hr0 : r.length = 0
    · obtain rfl : r = [] := List.eq_nil_of_length_eq_zero hr0
      have hr1 : ¬ (0 : Int) < 0 := by omega
      have HE : Hid (runsL l = pre) := Lib.hid (by rw [HP.out, runsL_nil, List.append_nil])
      go_wp2_with fail
      go_end0
      rw [HE.out]
      exact ⟨⟨_, rfl⟩, HF.out.2.2⟩
    · have hr1 : (0 : Int) < (r.length : Int) := by omega
      obtain ⟨x0, hx0⟩ : ∃ x, r[0]? = some x := ⟨_, List.getElem?_eq_getElem (by omega)⟩
      have HX0 := Lib.hid hx0
      have hrne : r ≠ [] := fun e => hr0 (by rw [e]; rfl)
      obtain ⟨bb, oo, rfl, -⟩ := HF.out.2.1.at1 hx0 rfl
      have HVB := Lib.hid (HV.out hrne _ rfl)
      have HRN := Lib.hid hrne
      clear hx0 hrne hr0
      go_wp2_with fail
      clear b0
      go_loopg [3] (r.length - 1) (fun g nv wx => ∃ k : Nat, g = r.length - k ∧ nv = .int .i64 k ∧ 1 ≤ k ∧ k ≤ r.length ∧ Hid (k ≤ leadN x0 r) ∧ Hid (wx.heap[Bs]? = some (.cells #[.slice (some ⟨bb, oo, none⟩) r.length rc] 75 (0, 0)) ∧ SliceIs btc 1 wx (.slice (some ⟨bb, oo, none⟩) r.length rc) r ∧ I pre wx))
      case atStart => exact ⟨1, rfl, rfl, Nat.le_refl _, by omega, Lib.hid (lead_head HX0.out), HF⟩
      case round =>
        clear HF
        obtain ⟨k, hg2, rfl, hk1, hkr, HC, HF⟩ := hrel
        have HG2 := Lib.hid hg2
        clear hg2
        have hB := HF.out.1
        have c1 : wr.cell? ⟨bb, oo, none⟩ = some (.bool x0) := by
          obtain ⟨_, _, e, c⟩ := HF.out.2.1.at1 HX0.out rfl
          cases e
          exact c
        have HF1 : Hid (wr.drew.heap[Bs]? = some (.cells #[.slice (some ⟨bb, oo, none⟩) r.length rc] 75 (0, 0)) ∧ SliceIs btc 1 wr.drew (.slice (some ⟨bb, oo, none⟩) r.length rc) r ∧ I pre wr.drew) := Lib.hid ⟨HF.out.1, HF.out.2.1, HI.out _ _ _ HF.out.2.2 (Ext.refl _ _).drew⟩
        have b0 := cell_of_one hB
        by_cases hk : k < r.length
        · have hki : (k : Int) < (r.length : Int) := by omega
          obtain ⟨x, hx⟩ : ∃ x, r[k]? = some x := ⟨_, List.getElem?_eq_getElem hk⟩
          have c0 : wr.cell? ⟨bb, oo + k, none⟩ = some (.bool x) := by
            obtain ⟨_, _, e, c⟩ := HF.out.2.1.at1 hx rfl
            cases e
            exact c
          have HX := Lib.hid (lead_go (x := x0) (l := r) (i := 0) (Nat.zero_le k) (by simpa using HC.out) hx)
          simp only [List.drop_zero, Nat.sub_zero] at HX
          go_upto_region 2 with fail
          have hS0 : (fun W : World => W.cell? ⟨Bs, 0, none⟩ = some (.slice (some ⟨bb, oo, none⟩) r.length rc) ∧ W.cell? ⟨bb, oo + k, none⟩ = some (.bool x) ∧ W.cell? ⟨bb, oo, none⟩ = some (.bool x0)) wr.drew := ⟨b0, c0, c1⟩
          clear b0 c0 c1 hB HF hx
          refine wp_region_s (fun W : World => W.cell? ⟨Bs, 0, none⟩ = some (.slice (some ⟨bb, oo, none⟩) r.length rc) ∧ W.cell? ⟨bb, oo + k, none⟩ = some (.bool x) ∧ W.cell? ⟨bb, oo, none⟩ = some (.bool x0)) (fun _ => false) (by kernel_rfl) ?_
          generalize wr.drew = W1 at hS0 HF1 ⊢
          refine wpAnyS_take (i := 0) (d := some 7) rfl rfl rfl (by kernel_rfl) (by kernel_rfl) (by kernel_rfl) (by kernel_rfl) (fun _ _ _ h => h) (.inl ⟨by rfl, fun W hW => by obtain ⟨q0, q1, q2⟩ := hW; go_simp; try rfl⟩) hS0 ?_
          try simp only [Act.put, List.setIfInBounds_toArray, List.set_cons_zero, List.set_cons_succ]
          refine wpAnyS_take (i := 1) (d := some 8) (v := .slice (some ⟨bb, oo, none⟩) r.length rc) rfl rfl rfl (by kernel_rfl) (by kernel_rfl) (by kernel_rfl) (by kernel_rfl) (fun _ _ _ h => h) (.inl ⟨by rfl, fun W hW => by obtain ⟨q0, q1, q2⟩ := hW; go_simp; try rfl⟩) hS0 ?_
          try simp only [Act.put, List.setIfInBounds_toArray, List.set_cons_zero, List.set_cons_succ]
          refine wpAnyS_take (i := 2) (d := some 9) (v := .int .i64 r.length) rfl rfl rfl (by kernel_rfl) (by kernel_rfl) (by kernel_rfl) (by kernel_rfl) (fun _ _ _ h => h) (.inl ⟨by rfl, fun W hW => by obtain ⟨q0, q1, q2⟩ := hW; go_simp; try rfl⟩) hS0 ?_
          try simp only [Act.put, List.setIfInBounds_toArray, List.set_cons_zero, List.set_cons_succ]
          refine wpAnyS_take (i := 3) (d := some 10) (v := .bool true) rfl rfl rfl (by kernel_rfl) (by kernel_rfl) (by kernel_rfl) (by kernel_rfl) (fun _ _ _ h => h) (.inl ⟨by rfl, fun W hW => by obtain ⟨q0, q1, q2⟩ := hW; go_simp; try rfl⟩) hS0 ?_
          try simp only [Act.put, List.setIfInBounds_toArray, List.set_cons_zero, List.set_cons_succ]
          refine wpAnyS_take (i := 4) (d := some 11) (v := .bool true) rfl rfl rfl (by kernel_rfl) (by kernel_rfl) (by kernel_rfl) (by kernel_rfl) (fun _ _ _ h => h) (.inl ⟨by rfl, fun W hW => by obtain ⟨q0, q1, q2⟩ := hW; go_simp; try rfl⟩) hS0 ?_
          try simp only [Act.put, List.setIfInBounds_toArray, List.set_cons_zero, List.set_cons_succ]
          refine wpAnyS_take (i := 5) (d := some 12) (v := .slice (some ⟨bb, oo, none⟩) r.length rc) rfl rfl rfl (by kernel_rfl) (by kernel_rfl) (by kernel_rfl) (by kernel_rfl) (fun _ _ _ h => h) (.inl ⟨by rfl, fun W hW => by obtain ⟨q0, q1, q2⟩ := hW; go_simp; try rfl⟩) hS0 ?_
          try simp only [Act.put, List.setIfInBounds_toArray, List.set_cons_zero, List.set_cons_succ]
          refine wpAnyS_take (i := 6) (d := some 13) rfl rfl rfl (by kernel_rfl) (by kernel_rfl) (by kernel_rfl) (by kernel_rfl) (fun _ _ _ h => h) (.inl ⟨by rfl, fun W hW => by obtain ⟨q0, q1, q2⟩ := hW; go_simp; try rfl⟩) hS0 ?_
          try simp only [Act.put, List.setIfInBounds_toArray, List.set_cons_zero, List.set_cons_succ]
          refine wpAnyS_take (i := 7) (d := some 14) (v := .pointer (some ⟨bb, oo + k, none⟩)) rfl rfl rfl (by kernel_rfl) (by kernel_rfl) (by kernel_rfl) (by kernel_rfl) (fun _ _ _ h => h) (.inl ⟨by rfl, fun W hW => by obtain ⟨q0, q1, q2⟩ := hW; go_simp; try rfl⟩) hS0 ?_
          try simp only [Act.put, List.setIfInBounds_toArray, List.set_cons_zero, List.set_cons_succ]
          refine wpAnyS_take (i := 8) (d := some 15) (v := .bool x) rfl rfl rfl (by kernel_rfl) (by kernel_rfl) (by kernel_rfl) (by kernel_rfl) (fun _ _ _ h => h) (.inl ⟨by rfl, fun W hW => by obtain ⟨q0, q1, q2⟩ := hW; go_simp; try rfl⟩) hS0 ?_
          try simp only [Act.put, List.setIfInBounds_toArray, List.set_cons_zero, List.set_cons_succ]
          refine wpAnyS_take (i := 9) (d := some 16) (v := .slice (some ⟨bb, oo, none⟩) r.length rc) rfl rfl rfl (by kernel_rfl) (by kernel_rfl) (by kernel_rfl) (by kernel_rfl) (fun _ _ _ h => h) (.inl ⟨by rfl, fun W hW => by obtain ⟨q0, q1, q2⟩ := hW; go_simp; try rfl⟩) hS0 ?_
          try simp only [Act.put, List.setIfInBounds_toArray, List.set_cons_zero, List.set_cons_succ]
          refine wpAnyS_take (i := 10) (d := some 17) (v := .pointer (some ⟨bb, oo, none⟩)) rfl rfl rfl (by kernel_rfl) (by kernel_rfl) (by kernel_rfl) (by kernel_rfl) (fun _ _ _ h => h) (.inl ⟨by rfl, fun W hW => by obtain ⟨q0, q1, q2⟩ := hW; go_simp; try rfl⟩) hS0 ?_
          try simp only [Act.put, List.setIfInBounds_toArray, List.set_cons_zero, List.set_cons_succ]
          refine wpAnyS_take (i := 11) (d := some 18) (v := .bool x0) rfl rfl rfl (by kernel_rfl) (by kernel_rfl) (by kernel_rfl) (by kernel_rfl) (fun _ _ _ h => h) (.inl ⟨by rfl, fun W hW => by obtain ⟨q0, q1, q2⟩ := hW; go_simp; try rfl⟩) hS0 ?_
          try simp only [Act.put, List.setIfInBounds_toArray, List.set_cons_zero, List.set_cons_succ]
          by_cases hxx : x = x0
          · have hC2 := HX.out.1 hxx
            have hs1 : (x == x0) = true := by simpa using hxx
            have HC2 := Lib.hid hC2
            clear HX hC2 HC hxx
            refine wpAnyS_take (i := 12) (d := some 19) (v := .bool true) rfl rfl rfl (by kernel_rfl) (by kernel_rfl) (by kernel_rfl) (by kernel_rfl) (fun _ _ _ h => h) (.inl ⟨by rfl, fun W hW => by obtain ⟨q0, q1, q2⟩ := hW; go_simp; try rfl⟩) hS0 ?_
            try simp only [Act.put, List.setIfInBounds_toArray, List.set_cons_zero, List.set_cons_succ]
            refine wpAnyS_take (i := 13) (d := some 20) (v := .bool true) rfl rfl rfl (by kernel_rfl) (by kernel_rfl) (by kernel_rfl) (by kernel_rfl) (fun _ _ _ h => h) (.inl ⟨by rfl, fun W hW => by obtain ⟨q0, q1, q2⟩ := hW; go_simp; try rfl⟩) hS0 ?_
            try simp only [Act.put, List.setIfInBounds_toArray, List.set_cons_zero, List.set_cons_succ]
            refine wpAnyS_done (by kernel_rfl) ?_ _
            clear hS0
            go_wp2_with fail
            go_roundg (r.length - (k + 1))
            case measure => rw [HG2.out]; omega
            case rel => exact ⟨k + 1, rfl, by simp, by omega, by omega, HC2, HF1⟩
          · have HM := Lib.hid (HX.out.2 hxx)
            have hs1 : (x == x0) = false := by simpa using hxx
            clear HX HC hxx
            refine wpAnyS_take (i := 12) (d := some 19) (v := .bool false) rfl rfl rfl (by kernel_rfl) (by kernel_rfl) (by kernel_rfl) (by kernel_rfl) (fun _ _ _ h => h) (.inl ⟨by rfl, fun W hW => by obtain ⟨q0, q1, q2⟩ := hW; go_simp; try rfl⟩) hS0 ?_
            try simp only [Act.put, List.setIfInBounds_toArray, List.set_cons_zero, List.set_cons_succ]
            refine wpAnyS_take (i := 13) (d := some 20) (v := .bool false) rfl rfl rfl (by kernel_rfl) (by kernel_rfl) (by kernel_rfl) (by kernel_rfl) (fun _ _ _ h => h) (.inl ⟨by rfl, fun W hW => by obtain ⟨q0, q1, q2⟩ := hW; go_simp; try rfl⟩) hS0 ?_
            try simp only [Act.put, List.setIfInBounds_toArray, List.set_cons_zero, List.set_cons_succ]
            refine wpAnyS_done (by kernel_rfl) ?_ _
            clear hS0
            have HRL := runsL_step HX0.out
            rw [← HM.out] at HRL
            have HP2 : Hid (runsL l = (pre ++ [(k, x0)]) ++ runsL (r.drop k)) := Lib.hid (by rw [HP.out, HRL]; simp)
            have hpx : pre ++ [(k, x0)] <+: runsL l := ⟨_, HP2.out.symm⟩
            obtain ⟨fn, tmps, assign, body, hy, hR⟩ := HY.out pre (k, x0) W1 HF1.out.2.2 hpx
            dsimp only at hy
            have b1 := cell_of_one HF1.out.1
            have c1 : W1.cell? ⟨bb, oo, none⟩ = some (.bool x0) := by
              obtain ⟨_, _, e, c⟩ := HF1.out.2.1.at1 HX0.out rfl
              cases e
              exact c
            obtain ⟨a2, c2, hsl, hS2, hA2⟩ := slice_from (P := Tryz.prog) (ea := btc) Tryz.underlying75 size_bool (some ⟨bb, oo, none⟩) r.length rc k hcap hkr
            have HSL := Lib.hid hsl
            have HS2 := Lib.hid hS2
            have HA2 := Lib.hid hA2
            have HCP : Hid (r.length - k ≤ c2 ∧ c2 ≤ 2 ^ 63 - 1) := Lib.hid (by
              obtain ⟨a3, c3, e3, h3, h4, -⟩ := hS2 W1 r rfl HF1.out.2.1
              have e6 : c2 = c3 := by injection e3
              rw [e6]
              rw [List.length_drop] at h3
              unfold maxLen at h4
              exact ⟨h3, h4⟩)
            clear hsl hS2 hA2 HRL hpx
            go_upto_region 4 with fail
            refine (wpIn_wide (n := n)).1 ?_
            gi_wp2
            refine hR.mono ?_
            rintro e W3 ⟨rfl, hI3, hx3⟩
            have hBs : ¬ (Bs = lb ∨ R Bs) := fun h => by
              rcases h with h | h
              · omega
              · exact hRB h
            have hbb : ¬ (bb = lb ∨ R bb) := fun h => by
              have h5 := HVB.out
              rcases h with h | h
              · omega
              · exact h5.1 h
            have hB3 : W3.heap[Bs]? = some (.cells #[.slice (some ⟨bb, oo, none⟩) r.length rc] 75 (0, 0)) := (hx3.block _ (Array.getElem?_eq_some_iff.1 HF1.out.1).1 hBs).trans HF1.out.1
            have hS3 : SliceIs btc 1 W3 (.slice (some ⟨bb, oo, none⟩) r.length rc) r := HF1.out.2.1.of1 (fun o u h => hx3.keep h hbb)
            have HF4 : Hid ((W3.setCell ⟨Bs, 0, none⟩ (.slice a2 (r.length - k) c2)).heap[Bs]? = some (.cells #[.slice a2 (r.drop k).length c2] 75 (0, 0)) ∧ SliceIs btc 1 (W3.setCell ⟨Bs, 0, none⟩ (.slice a2 (r.length - k) c2)) (.slice a2 (r.drop k).length c2) (r.drop k) ∧ I (pre ++ [(k, x0)]) (W3.setCell ⟨Bs, 0, none⟩ (.slice a2 (r.length - k) c2))) := Lib.hid (by
              have hBsz := (Array.getElem?_eq_some_iff.1 hB3).1
              have hXS := (Ext.refl (· = Bs) W3).setCell (p := ⟨Bs, 0, none⟩) (.inr rfl) (.slice a2 (r.length - k) c2)
              have hS4 := hS3.of1 (fun o u h => hXS.keep h (fun e => HVB.out.2.2 e))
              rw [List.length_drop]
              refine ⟨?_, HS2.out _ r rfl hS4, HI.out _ _ _ hI3 hXS⟩
              rw [one_setCell hB3])
            have b3 := cell_of_one hB3
            have f3 := free_of_one hB3
            have HV4 : Hid (r.drop k ≠ [] → ∀ ad, a2 = some ad → ¬ R ad.block ∧ ad.block < w.heap.size ∧ ad.block ≠ Bs) := Lib.hid (fun _ ad e => by
              obtain ⟨ad0, e0, e1⟩ := HA2.out ad e
              cases e0
              rw [e1]
              exact HVB.out)
            have hsl3 := HSL.out
            clear hB3 hS3 hI3 hx3 hBs hbb HF1 b1 c1 hy hR HS2 HA2 HSL
            gi_wp2
            go_wp2_with fail
            generalize W3.setCell ⟨Bs, 0, none⟩ (.slice a2 (r.length - k) c2) = W4 at HF4 ⊢
            go_roundg (r.drop k).length
            case measure => rw [HG.out, List.length_drop]; omega
            case rel => exact ⟨r.drop k, pre ++ [(k, x0)], a2, c2, rfl, by rw [List.length_drop]; omega, by rw [List.length_drop]; exact HCP.out.1, HCP.out.2, HP2, HV4, HF4⟩
        · have hkk : k = r.length := by omega
          have hki : ¬ (k : Int) < (r.length : Int) := by omega
          have HM : Hid (k = leadN x0 r) := Lib.hid (by have h1 := lead_end (x := x0) (l := r) (i := 0) (Nat.zero_le _) (by simpa [hkk] using HC.out); rw [hkk]; simpa using h1)
          clear HC hkk hk
          go_upto_region 2 with fail
          have hS0 : (fun W : World => W.cell? ⟨Bs, 0, none⟩ = some (.slice (some ⟨bb, oo, none⟩) r.length rc) ∧ True ∧ True) wr.drew := ⟨b0, trivial, trivial⟩
          clear b0 c1 hB HF
          refine wp_region_s (fun W : World => W.cell? ⟨Bs, 0, none⟩ = some (.slice (some ⟨bb, oo, none⟩) r.length rc) ∧ True ∧ True) (fun _ => false) (by kernel_rfl) ?_
          generalize wr.drew = W1 at hS0 HF1 ⊢
          refine wpAnyS_take (i := 0) (d := some 7) rfl rfl rfl (by kernel_rfl) (by kernel_rfl) (by kernel_rfl) (by kernel_rfl) (fun _ _ _ h => h) (.inl ⟨by rfl, fun W hW => by obtain ⟨q0, q1, q2⟩ := hW; go_simp; try rfl⟩) hS0 ?_
          try simp only [Act.put, List.setIfInBounds_toArray, List.set_cons_zero, List.set_cons_succ]
          refine wpAnyS_take (i := 1) (d := some 8) (v := .slice (some ⟨bb, oo, none⟩) r.length rc) rfl rfl rfl (by kernel_rfl) (by kernel_rfl) (by kernel_rfl) (by kernel_rfl) (fun _ _ _ h => h) (.inl ⟨by rfl, fun W hW => by obtain ⟨q0, q1, q2⟩ := hW; go_simp; try rfl⟩) hS0 ?_
          try simp only [Act.put, List.setIfInBounds_toArray, List.set_cons_zero, List.set_cons_succ]
          refine wpAnyS_take (i := 2) (d := some 9) (v := .int .i64 r.length) rfl rfl rfl (by kernel_rfl) (by kernel_rfl) (by kernel_rfl) (by kernel_rfl) (fun _ _ _ h => h) (.inl ⟨by rfl, fun W hW => by obtain ⟨q0, q1, q2⟩ := hW; go_simp; try rfl⟩) hS0 ?_
          try simp only [Act.put, List.setIfInBounds_toArray, List.set_cons_zero, List.set_cons_succ]
          refine wpAnyS_take (i := 3) (d := some 10) (v := .bool false) rfl rfl rfl (by kernel_rfl) (by kernel_rfl) (by kernel_rfl) (by kernel_rfl) (fun _ _ _ h => h) (.inl ⟨by rfl, fun W hW => by obtain ⟨q0, q1, q2⟩ := hW; go_simp; try rfl⟩) hS0 ?_
          try simp only [Act.put, List.setIfInBounds_toArray, List.set_cons_zero, List.set_cons_succ]
          refine wpAnyS_take (i := 4) (d := some 11) (v := .bool false) rfl rfl rfl (by kernel_rfl) (by kernel_rfl) (by kernel_rfl) (by kernel_rfl) (fun _ _ _ h => h) (.inl ⟨by rfl, fun W hW => by obtain ⟨q0, q1, q2⟩ := hW; go_simp; try rfl⟩) hS0 ?_
          try simp only [Act.put, List.setIfInBounds_toArray, List.set_cons_zero, List.set_cons_succ]
          refine wpAnyS_take (i := 5) (d := some 12) (v := undef) rfl rfl rfl (by kernel_rfl) (by kernel_rfl) (by kernel_rfl) (by kernel_rfl) (fun _ _ _ h => h) (.inr ⟨by rfl, rfl⟩) hS0 ?_
          try simp only [Act.put, List.setIfInBounds_toArray, List.set_cons_zero, List.set_cons_succ]
          refine wpAnyS_take (i := 6) (d := some 13) (v := undef) rfl rfl rfl (by kernel_rfl) (by kernel_rfl) (by kernel_rfl) (by kernel_rfl) (fun _ _ _ h => h) (.inr ⟨by rfl, rfl⟩) hS0 ?_
          try simp only [Act.put, List.setIfInBounds_toArray, List.set_cons_zero, List.set_cons_succ]
          refine wpAnyS_take (i := 7) (d := some 14) (v := undef) rfl rfl rfl (by kernel_rfl) (by kernel_rfl) (by kernel_rfl) (by kernel_rfl) (fun _ _ _ h => h) (.inr ⟨by rfl, rfl⟩) hS0 ?_
          try simp only [Act.put, List.setIfInBounds_toArray, List.set_cons_zero, List.set_cons_succ]
          refine wpAnyS_take (i := 8) (d := some 15) (v := undef) rfl rfl rfl (by kernel_rfl) (by kernel_rfl) (by kernel_rfl) (by kernel_rfl) (fun _ _ _ h => h) (.inr ⟨by rfl, rfl⟩) hS0 ?_
          try simp only [Act.put, List.setIfInBounds_toArray, List.set_cons_zero, List.set_cons_succ]
          refine wpAnyS_take (i := 9) (d := some 16) (v := undef) rfl rfl rfl (by kernel_rfl) (by kernel_rfl) (by kernel_rfl) (by kernel_rfl) (fun _ _ _ h => h) (.inr ⟨by rfl, rfl⟩) hS0 ?_
          try simp only [Act.put, List.setIfInBounds_toArray, List.set_cons_zero, List.set_cons_succ]
          refine wpAnyS_take (i := 10) (d := some 17) (v := undef) rfl rfl rfl (by kernel_rfl) (by kernel_rfl) (by kernel_rfl) (by kernel_rfl) (fun _ _ _ h => h) (.inr ⟨by rfl, rfl⟩) hS0 ?_
          try simp only [Act.put, List.setIfInBounds_toArray, List.set_cons_zero, List.set_cons_succ]
          refine wpAnyS_take (i := 11) (d := some 18) (v := undef) rfl rfl rfl (by kernel_rfl) (by kernel_rfl) (by kernel_rfl) (by kernel_rfl) (fun _ _ _ h => h) (.inr ⟨by rfl, rfl⟩) hS0 ?_
          try simp only [Act.put, List.setIfInBounds_toArray, List.set_cons_zero, List.set_cons_succ]
          refine wpAnyS_take (i := 12) (d := some 19) (v := undef) rfl rfl rfl (by kernel_rfl) (by kernel_rfl) (by kernel_rfl) (by kernel_rfl) (fun _ _ _ h => h) (.inr ⟨by rfl, rfl⟩) hS0 ?_
          try simp only [Act.put, List.setIfInBounds_toArray, List.set_cons_zero, List.set_cons_succ]
          refine wpAnyS_take (i := 13) (d := some 20) (v := .bool false) rfl rfl rfl (by kernel_rfl) (by kernel_rfl) (by kernel_rfl) (by kernel_rfl) (fun _ _ _ h => h) (.inl ⟨by rfl, fun W hW => by obtain ⟨q0, q1, q2⟩ := hW; go_simp; try rfl⟩) hS0 ?_
          try simp only [Act.put, List.setIfInBounds_toArray, List.set_cons_zero, List.set_cons_succ]
          refine wpAnyS_done (by kernel_rfl) ?_ _
          clear hS0
          have HRL := runsL_step HX0.out
          rw [← HM.out] at HRL
          have HP2 : Hid (runsL l = (pre ++ [(k, x0)]) ++ runsL (r.drop k)) := Lib.hid (by rw [HP.out, HRL]; simp)
          have hpx : pre ++ [(k, x0)] <+: runsL l := ⟨_, HP2.out.symm⟩
          obtain ⟨fn, tmps, assign, body, hy, hR⟩ := HY.out pre (k, x0) W1 HF1.out.2.2 hpx
          dsimp only at hy
          have b1 := cell_of_one HF1.out.1
          have c1 : W1.cell? ⟨bb, oo, none⟩ = some (.bool x0) := by
            obtain ⟨_, _, e, c⟩ := HF1.out.2.1.at1 HX0.out rfl
            cases e
            exact c
          obtain ⟨a2, c2, hsl, hS2, hA2⟩ := slice_from (P := Tryz.prog) (ea := btc) Tryz.underlying75 size_bool (some ⟨bb, oo, none⟩) r.length rc k hcap hkr
          have HSL := Lib.hid hsl
          have HS2 := Lib.hid hS2
          have HA2 := Lib.hid hA2
          have HCP : Hid (r.length - k ≤ c2 ∧ c2 ≤ 2 ^ 63 - 1) := Lib.hid (by
            obtain ⟨a3, c3, e3, h3, h4, -⟩ := hS2 W1 r rfl HF1.out.2.1
            have e6 : c2 = c3 := by injection e3
            rw [e6]
            rw [List.length_drop] at h3
            unfold maxLen at h4
            exact ⟨h3, h4⟩)
          clear hsl hS2 hA2 HRL hpx
          go_upto_region 4 with fail
          refine (wpIn_wide (n := n)).1 ?_
          gi_wp2
          refine hR.mono ?_
          rintro e W3 ⟨rfl, hI3, hx3⟩
          have hBs : ¬ (Bs = lb ∨ R Bs) := fun h => by
            rcases h with h | h
            · omega
            · exact hRB h
          have hbb : ¬ (bb = lb ∨ R bb) := fun h => by
            have h5 := HVB.out
            rcases h with h | h
            · omega
            · exact h5.1 h
          have hB3 : W3.heap[Bs]? = some (.cells #[.slice (some ⟨bb, oo, none⟩) r.length rc] 75 (0, 0)) := (hx3.block _ (Array.getElem?_eq_some_iff.1 HF1.out.1).1 hBs).trans HF1.out.1
          have hS3 : SliceIs btc 1 W3 (.slice (some ⟨bb, oo, none⟩) r.length rc) r := HF1.out.2.1.of1 (fun o u h => hx3.keep h hbb)
          have HF4 : Hid ((W3.setCell ⟨Bs, 0, none⟩ (.slice a2 (r.length - k) c2)).heap[Bs]? = some (.cells #[.slice a2 (r.drop k).length c2] 75 (0, 0)) ∧ SliceIs btc 1 (W3.setCell ⟨Bs, 0, none⟩ (.slice a2 (r.length - k) c2)) (.slice a2 (r.drop k).length c2) (r.drop k) ∧ I (pre ++ [(k, x0)]) (W3.setCell ⟨Bs, 0, none⟩ (.slice a2 (r.length - k) c2))) := Lib.hid (by
            have hBsz := (Array.getElem?_eq_some_iff.1 hB3).1
            have hXS := (Ext.refl (· = Bs) W3).setCell (p := ⟨Bs, 0, none⟩) (.inr rfl) (.slice a2 (r.length - k) c2)
            have hS4 := hS3.of1 (fun o u h => hXS.keep h (fun e => HVB.out.2.2 e))
            rw [List.length_drop]
            refine ⟨?_, HS2.out _ r rfl hS4, HI.out _ _ _ hI3 hXS⟩
            rw [one_setCell hB3])
          have b3 := cell_of_one hB3
          have f3 := free_of_one hB3
          have HV4 : Hid (r.drop k ≠ [] → ∀ ad, a2 = some ad → ¬ R ad.block ∧ ad.block < w.heap.size ∧ ad.block ≠ Bs) := Lib.hid (fun _ ad e => by
            obtain ⟨ad0, e0, e1⟩ := HA2.out ad e
            cases e0
            rw [e1]
            exact HVB.out)
          have hsl3 := HSL.out
          clear hB3 hS3 hI3 hx3 hBs hbb HF1 b1 c1 hy hR HS2 HA2 HSL
          gi_wp2
          go_wp2_with fail
          generalize W3.setCell ⟨Bs, 0, none⟩ (.slice a2 (r.length - k) c2) = W4 at HF4 ⊢
          go_roundg (r.drop k).length
          case measure => rw [HG.out, List.length_drop]; omega
          case rel => exact ⟨r.drop k, pre ++ [(k, x0)], a2, c2, rfl, by rw [List.length_drop]; omega, by rw [List.length_drop]; exact HCP.out.1, HCP.out.2, HP2, HV4, HF4⟩
end Go.Proofs.YtgmdimbiipemhaaGreatDoor
namespace Go.Proofs.YtgmdimbiipemhaaGreatDoor
open Go.RowKit
set_option linter.unusedSimpArgs false
set_option linter.unusedVariables false
attribute [local go_sem] Oper.semAt_some
set_option maxRecDepth 100000 in
set_option maxHeartbeats 4000000 in
theorem cbools_any (v : Value) (l : List Bool) (w : World) (h : SliceIs btc 1 w v l) (hn : l.length ≤ 1000000000000) : Calls Tryz.prog 97 #[v] w fun e w' => BytesPost w (boolsB l) e w' := by
  obtain ⟨va, vc, rfl, hcap, hmax, hcs⟩ := id h
  unfold maxLen at hmax
  have HL := Lib.hid (boolsB_len (l := l) (by omega))
  refine (callsIn_wide (n := 5)).1 ?_
  refine callsIn_of_wp_marks Tryz.func97 rfl trivial ?_ rfl
  simp only [Tryz.ntmps97, List.size_toArray, List.length_cons, List.length_nil, Nat.reduceAdd, Nat.reduceSub, Array.replicate_succ, Array.replicate_zero, List.push_toArray, List.append_toArray, List.nil_append, List.cons_append]
  gi_wp2
  refine ⟨trivial, ?_⟩
  refine (callsIn_wide.2 (runs_bool_any va l.length vc _)).mono ?_
  rintro e w' ⟨rfl, rfl⟩
  gi_wp2
  have hB0 : Below w.heap.size w ((w.alloc (.cells #[.slice none 0 0] 22)).alloc (.cells #[.slice va l.length vc] 75)) := ((Below.refl _ _).alloc (Nat.le_refl _) _).alloc (by simp) _
  have z0 : ((w.alloc (.cells #[.slice none 0 0] 22)).alloc (.cells #[.slice va l.length vc] 75)).heap.size = w.heap.size + 2 := by simp
  have o0 : ((w.alloc (.cells #[.slice none 0 0] 22)).alloc (.cells #[.slice va l.length vc] 75)).heap[w.heap.size]? = some (.cells #[.slice none 0 0] 22 (0, 0)) := by
    rw [Below.heap_alloc _ _ _ (by simp)]
    exact World.alloc_heap_new w _
  have s0 : ((w.alloc (.cells #[.slice none 0 0] 22)).alloc (.cells #[.slice va l.length vc] 75)).heap[w.heap.size + 1]? = some (.cells #[.slice va l.length vc] 75 (0, 0)) := by
    have := World.alloc_heap_new (w.alloc (.cells #[.slice none 0 0] 22)) (.cells #[.slice va l.length vc] 75)
    rwa [World.size_alloc] at this
  generalize ((w.alloc (.cells #[.slice none 0 0] 22)).alloc (.cells #[.slice va l.length vc] 75)) = W0 at *
  have hl0 := h.below hB0
  refine range_preS (U := Nat × Bool) (by omega) (gf := 179) (lb := #[.pointer (some ⟨w.heap.size + 1, 0, none⟩)]) rfl (enters_of Tryz.func179 (by kernel_rfl) rfl)
    (fun x : Nat × Bool => #[.int .i64 x.1, .bool x.2]) (fun _ => rfl) (fun k => k = w.heap.size ∨ W0.heap.size + 1 < k) (· = w.heap.size + 1) (fun k e => by omega) (fun k e => by omega) (runsL l)
    (fun pre A => ∃ v, A.heap[w.heap.size]? = some (.cells #[v] 22 (0, 0)) ∧ Own u8c 1 5 (w.heap.size + 4) A v (putT pre) ∧ Ext (fun k => k = w.heap.size ∨ k = w.heap.size + 1) W0 A)
    (fun pre A A' hh hx => ?_)
    (runs_bool_gives 4 (by omega) (w.heap.size + 1) _ l (fun k => k = w.heap.size ∨ W0.heap.size + 1 < k) W0 hl0 s0 (by omega) (fun hne b o m c e => ?_)) ⟨_, o0, Own.nil, Ext.refl _ _⟩ ?_ ?_
  · obtain ⟨v, h1, h2, h3⟩ := hh
    have hlt := (Array.getElem?_eq_some_iff.1 h1).1
    exact ⟨v, (hx.block _ hlt (by omega)).trans h1, h2.ext hx (fun b hb e => by have := (h2.blk b hb).1; omega), h3.andThen hx (fun i hi e => by omega)⟩
  · cases e
    obtain ⟨b', o', e2, h5⟩ := hcs hne
    cases e2
    obtain ⟨x, hx⟩ : ∃ x, l[0]? = some x := by
      cases l with
      | nil => exact absurd rfl hne
      | cons x r => exact ⟨x, rfl⟩
    have := cell_lt (h5 0 x hx 0 _ rfl)
    refine ⟨?_, ?_, ?_⟩ <;> omega
  · rintro lb pre x A ⟨v, ho, hown, hx⟩ hpx hlt
    have HLE := Lib.hid (putT_le hpx)
    obtain ⟨hx1, hx2, hx3⟩ := runsL_pos _ l rfl x (hpx.mem (List.mem_append_right pre (List.mem_singleton.2 rfl)))
    obtain ⟨k, y⟩ := x
    dsimp only at hx1 hx2 hx3 ⊢
    gi_wp2
    refine ⟨Ext.refl _ _, ⟨v, ho, hown, hx⟩, fun W2 ⟨v2, ho2, hown2, hxW2⟩ hxx => ?_⟩
    obtain ⟨⟨va2, vn2, vc2⟩, e2⟩ := hown2.sl
    dsimp only at e2
    subst e2
    have hk64 : k < 18446744073709551616 := by omega
    have hsz2 := hxW2.size
    have hsz3 := hxx.size
    have hvn : vn2 = (putT pre).length := (hown2.nlen u8c_len).1
    have hkw : IntKind.u64.wrap (k : Int) = (k : Int) := by rw [u64_wrap]; omega
    have hxA : Ext (fun k => k = w.heap.size ∨ W0.heap.size + 1 < k) W2 W2 := Ext.refl _ _
    have hb2 := cell_of_one ho2
    cases y with
    | false =>
      have HOUT : Hid (putT (pre ++ [(k, false)]) = putT pre ++ putB k) := Lib.hid (by rw [putT_snoc]; simp)
      clear ho hown hx hxx hvn
      have HF : Hid (W2.drew.heap[w.heap.size]? = some (.cells #[.slice va2 vn2 vc2] 22 (0, 0)) ∧ Own u8c 1 5 (w.heap.size + 4) W2.drew (.slice va2 vn2 vc2) (putT pre) ∧ Ext (fun k => k = w.heap.size ∨ k = w.heap.size + 1) W0 W2.drew ∧ Ext (fun k => k = w.heap.size ∨ W0.heap.size + 1 < k) W2 W2.drew) := Lib.hid ⟨ho2, hown2, (hxW2).drew, (hxA).drew⟩
      have hS0 : (fun W : World => W.cell? ⟨w.heap.size, 0, none⟩ = some (.slice va2 vn2 vc2)) W2.drew := cell_of_one ho2
      have hszd : W2.heap.size ≤ W2.drew.heap.size := (hxA).size
      gi_upto_region 7 with fail
      refine wpIn_region_s (fun W : World => W.cell? ⟨w.heap.size, 0, none⟩ = some (.slice va2 vn2 vc2)) (fun i => i == 5) (by kernel_rfl) (by kernel_rfl) ?_ ?_
      · rintro ⟨_, _, h⟩; exact h
      generalize W2.drew = W3 at hS0 HF hszd ⊢
      refine wpAnyS_take (i := 0) (d := some 19) (v := (.slice va2 vn2 vc2)) rfl rfl rfl (by kernel_rfl) (by kernel_rfl) (by kernel_rfl) (by kernel_rfl) (fun _ _ _ h => h) (.inl ⟨by rfl, fun W hW => by go_simp; try rfl⟩) hS0 ?_
      try simp only [Act.put, List.setIfInBounds_toArray, List.set_cons_zero, List.set_cons_succ]
      refine wpAnyS_take (i := 1) (d := some 20) (v := .int .i64 k) rfl rfl rfl (by kernel_rfl) (by kernel_rfl) (by kernel_rfl) (by kernel_rfl) (fun _ _ _ h => h) (.inl ⟨by rfl, fun W hW => by go_simp; try rfl⟩) hS0 ?_
      try simp only [Act.put, List.setIfInBounds_toArray, List.set_cons_zero, List.set_cons_succ]
      refine wpAnyS_take (i := 2) (d := some 21) (v := .int .u64 k) rfl rfl rfl (by kernel_rfl) (by kernel_rfl) (by kernel_rfl) (by kernel_rfl) (fun _ _ _ h => h) (.inl ⟨by rfl, fun W hW => by go_simp; try rfl⟩) hS0 ?_
      try simp only [Act.put, List.setIfInBounds_toArray, List.set_cons_zero, List.set_cons_succ]
      refine wpAnyS_call (i := 3) (d := some 22) (f := 64) (args := #[.int .u64 k]) (w' := W3) (by kernel_rfl) rfl rfl (by rfl) (by go_simp; try rfl) ?_
      refine (put_any k _ hk64).mono ?_
      rintro e w5 ⟨v5, rfl, hown5, b5⟩
      have hS5 : w5.cell? ⟨w.heap.size, 0, none⟩ = some (.slice va2 vn2 vc2) := keepB b5 hS0
      refine ⟨_, rfl, fun _ => hS5, ?_⟩
      try simp only [Act.put, List.setIfInBounds_toArray, List.set_cons_zero, List.set_cons_succ]
      have hlen : (putT pre).length + (putB k).length ≤ 140737488355328 := by
        have h1 := HLE.out
        rw [HOUT.out, ← boolsB_runsL l] at h1
        have h2 := HL.out
        simp only [List.length_append] at h1 ⊢
        omega
      have hb35 : Below (w.heap.size + 4) W3 w5 := b5.mono (by omega)
      obtain ⟨⟨ua, un, uc⟩, w9, hr9, own9, b9, hsz9⟩ := bytes_append (HF.out.2.1.below1 b5) hb35 (hown5.slice u8c_len) (by have := b5.size; omega) hlen
      have hS9 : w9.cell? ⟨w.heap.size, 0, none⟩ = some (.slice va2 vn2 vc2) := below_keep1 b9 hS0 (by omega)
      refine wpAnyS_ran (i := 4) (d := some 23) (v := .slice ua un uc) (w' := w9) (by kernel_rfl) rfl rfl (by rfl) (exec_append rfl rfl rfl hr9) (fun _ => hS9) ?_
      try simp only [Act.put, List.setIfInBounds_toArray, List.set_cons_zero, List.set_cons_succ]
      have ho9 : w9.heap[w.heap.size]? = some (.cells #[.slice va2 vn2 vc2] 22 (0, 0)) := (b9.block _ (by omega)).trans HF.out.1
      have f9 := free_of_one ho9
      refine wpAnyS_mute (i := 5) (d := none) (w' := w9.setCell ⟨w.heap.size, 0, none⟩ (.slice ua un uc)) (by kernel_rfl) rfl rfl (by rfl) (by go_simp; try rfl) (fun h => by cases h) ?_
      try simp only [Act.put, List.setIfInBounds_toArray, List.set_cons_zero, List.set_cons_succ]
      refine wpAnyS_done (by kernel_rfl) ?_ _
      have hx10 : Ext (· = w.heap.size) w9 (w9.setCell ⟨w.heap.size, 0, none⟩ (.slice ua un uc)) := (Ext.refl (· = w.heap.size) w9).setCell (p := ⟨w.heap.size, 0, none⟩) (.inr rfl) (.slice ua un uc)
      have hE9 : Ext (fun k => w.heap.size + 4 ≤ k) W3 w9 := ext_of_below9 b9
      refine ⟨⟨_, one_setCell ho9, ?_, ?_⟩, ?_⟩
      · rw [HOUT.out]
        exact own9.ext hx10 (fun b hb e => by have := (own9.blk b hb).1; omega)
      · exact (HF.out.2.2.1.andThen hE9 (fun i hi e => by omega)).andThen hx10 (fun i hi e => .inl e)
      · exact (HF.out.2.2.2.andThen (S := fun k => k = w.heap.size ∨ W0.heap.size + 1 < k) hE9 (fun i hi e => .inr (by omega))).andThen hx10 (fun i hi e => .inl e)
    | true =>
      by_cases hp : pre = []
      · subst hp
        have hv0 : vn2 = 0 := by rw [hvn]; rfl
        have hv1 : ((vn2 : Int) == 0) = true := by rw [hv0]; rfl
        have HOUT : Hid (putT ([] ++ [(k, true)]) = [0] ++ putB k) := Lib.hid (by rw [putT_snoc]; simp [putT])
        obtain ⟨i0, hi, hz0, hz1, hz2⟩ := info_parts info_u8
        have f2 := free_of_one ho2
        have hnw : ∀ j u, (u8c 0)[j]? = some u → (W2.alloc (.cells #[.int .u8 0] 5)).cell? ⟨W2.heap.size, j, none⟩ = some u := u8_new W2 0
        clear ho hown hx hxx hvn hv0
        gi_wp2_with (gi_at_builtin; refine wpListIn_append_struct rfl _ _ _ rfl i0 _ 1 Tryz.underlying22 hi hz0 hz1 hz2 rfl (by omega) u8c_len u8c_one rfl (hown2.alloc _) (0 : UInt8) W2.heap.size 1 rfl hnw (by simp [putT]; unfold maxLen; omega) (by simp [putT]) (by simp; omega) ?_)
        intro v' w4 hown4 hx4
        obtain ⟨⟨va3, vn3, vc3⟩, e4⟩ := hown4.sl
        dsimp only at e4
        subst e4
        have hne4 : ∀ b, (Value.slice va2 vn2 vc2).ownBlock = some b → w.heap.size + 4 ≤ b := fun b hb => (hown2.blk b hb).1
        have hlt2 := (Array.getElem?_eq_some_iff.1 ho2).1
        have ho4 : w4.heap[w.heap.size]? = some (.cells #[.slice va2 vn2 vc2] 22 (0, 0)) := (hx4.block _ (by simp; omega) (fun e => by have := hne4 _ e; omega)).trans ((Below.heap_alloc _ _ _ hlt2).trans ho2)
        have c4 := cell_of_one ho4
        have f4 := free_of_one ho4
        have hx5 : Ext (· = w.heap.size) w4 (w4.setCell ⟨w.heap.size, 0, none⟩ (.slice va3 vn3 vc3)) := (Ext.refl (· = w.heap.size) w4).setCell (p := ⟨w.heap.size, 0, none⟩) (.inr rfl) (.slice va3 vn3 vc3)
        have r1 := one_setCell (u := .slice va3 vn3 vc3) ho4
        have r2 : Own u8c 1 5 (w.heap.size + 4) (w4.setCell ⟨w.heap.size, 0, none⟩ (.slice va3 vn3 vc3)) (.slice va3 vn3 vc3) [0] := hown4.ext hx5 (fun b hb e => by have := (hown4.blk b hb).1; omega)
        have r3 : Ext (fun k => k = w.heap.size ∨ k = w.heap.size + 1) W0 (w4.setCell ⟨w.heap.size, 0, none⟩ (.slice va3 vn3 vc3)) := ((hxW2.alloc _).andThen hx4 (fun i hi e => by have := hne4 _ e; omega)).andThen hx5 (fun i hi e => .inl e)
        have r4 : Ext (fun k => k = w.heap.size ∨ W0.heap.size + 1 < k) W2 (w4.setCell ⟨w.heap.size, 0, none⟩ (.slice va3 vn3 vc3)) := ((hxA.alloc _).andThen (S := fun k => k = w.heap.size ∨ W0.heap.size + 1 < k) hx4 (fun i hi e => by have := hne4 _ e; omega)).andThen hx5 (fun i hi e => .inl e)
        have R := Lib.hid (And.intro r1 (And.intro r2 (And.intro r3 r4)))
        clear r1 r2 r3 r4 hx5 hx4 hown4 hown2 ho2 hxW2 hb2 f2 hnw hne4 hv1
        gi_wp2
        generalize w4.setCell ⟨w.heap.size, 0, none⟩ (.slice va3 vn3 vc3) = W5 at R ⊢
        obtain ⟨r1, r2, r3, r4⟩ := R.out
        clear R ho4 c4 f4
        have HF : Hid (W5.drew.heap[w.heap.size]? = some (.cells #[.slice va3 vn3 vc3] 22 (0, 0)) ∧ Own u8c 1 5 (w.heap.size + 4) W5.drew (.slice va3 vn3 vc3) ([0]) ∧ Ext (fun k => k = w.heap.size ∨ k = w.heap.size + 1) W0 W5.drew ∧ Ext (fun k => k = w.heap.size ∨ W0.heap.size + 1 < k) W2 W5.drew) := Lib.hid ⟨r1, r2, (r3).drew, (r4).drew⟩
        have hS0 : (fun W : World => W.cell? ⟨w.heap.size, 0, none⟩ = some (.slice va3 vn3 vc3)) W5.drew := cell_of_one r1
        have hszd : W2.heap.size ≤ W5.drew.heap.size := (r4).size
        gi_upto_region 7 with fail
        refine wpIn_region_s (fun W : World => W.cell? ⟨w.heap.size, 0, none⟩ = some (.slice va3 vn3 vc3)) (fun i => i == 5) (by kernel_rfl) (by kernel_rfl) ?_ ?_
        · rintro ⟨_, _, h⟩; exact h
        generalize W5.drew = W3 at hS0 HF hszd ⊢
        refine wpAnyS_take (i := 0) (d := some 19) (v := (.slice va3 vn3 vc3)) rfl rfl rfl (by kernel_rfl) (by kernel_rfl) (by kernel_rfl) (by kernel_rfl) (fun _ _ _ h => h) (.inl ⟨by rfl, fun W hW => by go_simp; try rfl⟩) hS0 ?_
        try simp only [Act.put, List.setIfInBounds_toArray, List.set_cons_zero, List.set_cons_succ]
        refine wpAnyS_take (i := 1) (d := some 20) (v := .int .i64 k) rfl rfl rfl (by kernel_rfl) (by kernel_rfl) (by kernel_rfl) (by kernel_rfl) (fun _ _ _ h => h) (.inl ⟨by rfl, fun W hW => by go_simp; try rfl⟩) hS0 ?_
        try simp only [Act.put, List.setIfInBounds_toArray, List.set_cons_zero, List.set_cons_succ]
        refine wpAnyS_take (i := 2) (d := some 21) (v := .int .u64 k) rfl rfl rfl (by kernel_rfl) (by kernel_rfl) (by kernel_rfl) (by kernel_rfl) (fun _ _ _ h => h) (.inl ⟨by rfl, fun W hW => by go_simp; try rfl⟩) hS0 ?_
        try simp only [Act.put, List.setIfInBounds_toArray, List.set_cons_zero, List.set_cons_succ]
        refine wpAnyS_call (i := 3) (d := some 22) (f := 64) (args := #[.int .u64 k]) (w' := W3) (by kernel_rfl) rfl rfl (by rfl) (by go_simp; try rfl) ?_
        refine (put_any k _ hk64).mono ?_
        rintro e w5 ⟨v5, rfl, hown5, b5⟩
        have hS5 : w5.cell? ⟨w.heap.size, 0, none⟩ = some (.slice va3 vn3 vc3) := keepB b5 hS0
        refine ⟨_, rfl, fun _ => hS5, ?_⟩
        try simp only [Act.put, List.setIfInBounds_toArray, List.set_cons_zero, List.set_cons_succ]
        have hlen : ([0]).length + (putB k).length ≤ 140737488355328 := by
          have h1 := HLE.out
          rw [HOUT.out, ← boolsB_runsL l] at h1
          have h2 := HL.out
          simp only [List.length_append] at h1 ⊢
          omega
        have hb35 : Below (w.heap.size + 4) W3 w5 := b5.mono (by omega)
        obtain ⟨⟨ua, un, uc⟩, w9, hr9, own9, b9, hsz9⟩ := bytes_append (HF.out.2.1.below1 b5) hb35 (hown5.slice u8c_len) (by have := b5.size; omega) hlen
        have hS9 : w9.cell? ⟨w.heap.size, 0, none⟩ = some (.slice va3 vn3 vc3) := below_keep1 b9 hS0 (by omega)
        refine wpAnyS_ran (i := 4) (d := some 23) (v := .slice ua un uc) (w' := w9) (by kernel_rfl) rfl rfl (by rfl) (exec_append rfl rfl rfl hr9) (fun _ => hS9) ?_
        try simp only [Act.put, List.setIfInBounds_toArray, List.set_cons_zero, List.set_cons_succ]
        have ho9 : w9.heap[w.heap.size]? = some (.cells #[.slice va3 vn3 vc3] 22 (0, 0)) := (b9.block _ (by omega)).trans HF.out.1
        have f9 := free_of_one ho9
        refine wpAnyS_mute (i := 5) (d := none) (w' := w9.setCell ⟨w.heap.size, 0, none⟩ (.slice ua un uc)) (by kernel_rfl) rfl rfl (by rfl) (by go_simp; try rfl) (fun h => by cases h) ?_
        try simp only [Act.put, List.setIfInBounds_toArray, List.set_cons_zero, List.set_cons_succ]
        refine wpAnyS_done (by kernel_rfl) ?_ _
        have hx10 : Ext (· = w.heap.size) w9 (w9.setCell ⟨w.heap.size, 0, none⟩ (.slice ua un uc)) := (Ext.refl (· = w.heap.size) w9).setCell (p := ⟨w.heap.size, 0, none⟩) (.inr rfl) (.slice ua un uc)
        have hE9 : Ext (fun k => w.heap.size + 4 ≤ k) W3 w9 := ext_of_below9 b9
        refine ⟨⟨_, one_setCell ho9, ?_, ?_⟩, ?_⟩
        · rw [HOUT.out]
          exact own9.ext hx10 (fun b hb e => by have := (own9.blk b hb).1; omega)
        · exact (HF.out.2.2.1.andThen hE9 (fun i hi e => by omega)).andThen hx10 (fun i hi e => .inl e)
        · exact (HF.out.2.2.2.andThen (S := fun k => k = w.heap.size ∨ W0.heap.size + 1 < k) hE9 (fun i hi e => .inr (by omega))).andThen hx10 (fun i hi e => .inl e)
      · have hv0 : ¬ vn2 = 0 := by rw [hvn]; exact fun e => putT_ne hp (List.eq_nil_of_length_eq_zero e)
        have hv1 : ((vn2 : Int) == 0) = false := by simpa using hv0
        have HOUT : Hid (putT (pre ++ [(k, true)]) = putT pre ++ putB k) := Lib.hid (by rw [putT_snoc, if_neg (fun e => hp e.2)])
        clear ho hown hx hxx hvn hv0
        have HF : Hid (W2.drew.heap[w.heap.size]? = some (.cells #[.slice va2 vn2 vc2] 22 (0, 0)) ∧ Own u8c 1 5 (w.heap.size + 4) W2.drew (.slice va2 vn2 vc2) (putT pre) ∧ Ext (fun k => k = w.heap.size ∨ k = w.heap.size + 1) W0 W2.drew ∧ Ext (fun k => k = w.heap.size ∨ W0.heap.size + 1 < k) W2 W2.drew) := Lib.hid ⟨ho2, hown2, (hxW2).drew, (hxA).drew⟩
        have hS0 : (fun W : World => W.cell? ⟨w.heap.size, 0, none⟩ = some (.slice va2 vn2 vc2)) W2.drew := cell_of_one ho2
        have hszd : W2.heap.size ≤ W2.drew.heap.size := (hxA).size
        gi_upto_region 7 with fail
        refine wpIn_region_s (fun W : World => W.cell? ⟨w.heap.size, 0, none⟩ = some (.slice va2 vn2 vc2)) (fun i => i == 5) (by kernel_rfl) (by kernel_rfl) ?_ ?_
        · rintro ⟨_, _, h⟩; exact h
        generalize W2.drew = W3 at hS0 HF hszd ⊢
        refine wpAnyS_take (i := 0) (d := some 19) (v := (.slice va2 vn2 vc2)) rfl rfl rfl (by kernel_rfl) (by kernel_rfl) (by kernel_rfl) (by kernel_rfl) (fun _ _ _ h => h) (.inl ⟨by rfl, fun W hW => by go_simp; try rfl⟩) hS0 ?_
        try simp only [Act.put, List.setIfInBounds_toArray, List.set_cons_zero, List.set_cons_succ]
        refine wpAnyS_take (i := 1) (d := some 20) (v := .int .i64 k) rfl rfl rfl (by kernel_rfl) (by kernel_rfl) (by kernel_rfl) (by kernel_rfl) (fun _ _ _ h => h) (.inl ⟨by rfl, fun W hW => by go_simp; try rfl⟩) hS0 ?_
        try simp only [Act.put, List.setIfInBounds_toArray, List.set_cons_zero, List.set_cons_succ]
        refine wpAnyS_take (i := 2) (d := some 21) (v := .int .u64 k) rfl rfl rfl (by kernel_rfl) (by kernel_rfl) (by kernel_rfl) (by kernel_rfl) (fun _ _ _ h => h) (.inl ⟨by rfl, fun W hW => by go_simp; try rfl⟩) hS0 ?_
        try simp only [Act.put, List.setIfInBounds_toArray, List.set_cons_zero, List.set_cons_succ]
        refine wpAnyS_call (i := 3) (d := some 22) (f := 64) (args := #[.int .u64 k]) (w' := W3) (by kernel_rfl) rfl rfl (by rfl) (by go_simp; try rfl) ?_
        refine (put_any k _ hk64).mono ?_
        rintro e w5 ⟨v5, rfl, hown5, b5⟩
        have hS5 : w5.cell? ⟨w.heap.size, 0, none⟩ = some (.slice va2 vn2 vc2) := keepB b5 hS0
        refine ⟨_, rfl, fun _ => hS5, ?_⟩
        try simp only [Act.put, List.setIfInBounds_toArray, List.set_cons_zero, List.set_cons_succ]
        have hlen : (putT pre).length + (putB k).length ≤ 140737488355328 := by
          have h1 := HLE.out
          rw [HOUT.out, ← boolsB_runsL l] at h1
          have h2 := HL.out
          simp only [List.length_append] at h1 ⊢
          omega
        have hb35 : Below (w.heap.size + 4) W3 w5 := b5.mono (by omega)
        obtain ⟨⟨ua, un, uc⟩, w9, hr9, own9, b9, hsz9⟩ := bytes_append (HF.out.2.1.below1 b5) hb35 (hown5.slice u8c_len) (by have := b5.size; omega) hlen
        have hS9 : w9.cell? ⟨w.heap.size, 0, none⟩ = some (.slice va2 vn2 vc2) := below_keep1 b9 hS0 (by omega)
        refine wpAnyS_ran (i := 4) (d := some 23) (v := .slice ua un uc) (w' := w9) (by kernel_rfl) rfl rfl (by rfl) (exec_append rfl rfl rfl hr9) (fun _ => hS9) ?_
        try simp only [Act.put, List.setIfInBounds_toArray, List.set_cons_zero, List.set_cons_succ]
        have ho9 : w9.heap[w.heap.size]? = some (.cells #[.slice va2 vn2 vc2] 22 (0, 0)) := (b9.block _ (by omega)).trans HF.out.1
        have f9 := free_of_one ho9
        refine wpAnyS_mute (i := 5) (d := none) (w' := w9.setCell ⟨w.heap.size, 0, none⟩ (.slice ua un uc)) (by kernel_rfl) rfl rfl (by rfl) (by go_simp; try rfl) (fun h => by cases h) ?_
        try simp only [Act.put, List.setIfInBounds_toArray, List.set_cons_zero, List.set_cons_succ]
        refine wpAnyS_done (by kernel_rfl) ?_ _
        have hx10 : Ext (· = w.heap.size) w9 (w9.setCell ⟨w.heap.size, 0, none⟩ (.slice ua un uc)) := (Ext.refl (· = w.heap.size) w9).setCell (p := ⟨w.heap.size, 0, none⟩) (.inr rfl) (.slice ua un uc)
        have hE9 : Ext (fun k => w.heap.size + 4 ≤ k) W3 w9 := ext_of_below9 b9
        refine ⟨⟨_, one_setCell ho9, ?_, ?_⟩, ?_⟩
        · rw [HOUT.out]
          exact own9.ext hx10 (fun b hb e => by have := (own9.blk b hb).1; omega)
        · exact (HF.out.2.2.1.andThen hE9 (fun i hi e => by omega)).andThen hx10 (fun i hi e => .inl e)
        · exact (HF.out.2.2.2.andThen (S := fun k => k = w.heap.size ∨ W0.heap.size + 1 < k) hE9 (fun i hi e => .inr (by omega))).andThen hx10 (fun i hi e => .inl e)
  · rintro A ⟨v, ho, hown, hx⟩ hK
    have hc : A.cell? ⟨w.heap.size, 0, none⟩ = some v := by simp [World.cell?, ho]
    have HX := Lib.hid hx
    have HW := Lib.hid (hx.size)
    have HK := Lib.hid hK
    have HOWN := Lib.hid hown
    have HB0 := Lib.hid hB0
    have HE := Lib.hid (boolsB_runsL l)
    clear ho hx hK hown hB0 hl0 o0 s0 h
    gi_wp2
    have hx7 : Ext (· = W0.heap.size) A (A.putObj W0.heap.size (.deferred none)) := ext_putObjP _ _ _
    have hsz := HW.out
    refine ⟨by simp, .inl ⟨_, _, rfl, run_takeDeferred HK.out, ?_⟩⟩
    refine ⟨_, results_tmp rfl _ _ _, v, rfl, ?_, ?_⟩
    · rw [HE.out]
      exact (HOWN.out.ext hx7 (fun b hb e => by have := (HOWN.out.blk b hb).1; omega)).mono (by omega)
    · exact Ext.new (Ext.new HB0.out HX.out (fun i hi _ e => by omega) (by omega)) hx7 (fun i hi _ e => by omega) (by omega)
end Go.Proofs.YtgmdimbiipemhaaGreatDoor
namespace Go.Proofs.YtgmdimbiipemhaaGreatDoor
open Go.RowKit Go.Deep
set_option linter.unusedSimpArgs false
set_option linter.unusedVariables false
theorem sl_load {W : World} {b off n cap : Nat} {l : List OpD} (h : SliceIs OpD.cells 26 W (.slice (some ⟨b, off, none⟩) n cap) l) {k : Nat} {x : OpD} (hx : l[k]? = some x) :
    (Instr.loadAt 68 (.pointer (some ⟨b, off + k * 26, none⟩))).run Tryz.prog W = .ok (.agg x.cells.toArray) W :=
  load_of_cells op_ty rfl (fun j u hj => by
    obtain ⟨_, _, e, _, _, h4⟩ := h
    cases e
    obtain ⟨b2, o2, e2, h5⟩ := h4 (by rintro rfl; simp at hx)
    cases e2
    exact h5 k x hx j u hj)
theorem SliceIs.some8 {α : Type} {ea : α → List Value} {q : Nat} {W : World} {a : Option Addr} {n cap : Nat} {l : List α} (h : SliceIs ea q W (.slice a n cap) l) (hl : l ≠ []) : ∃ b o, a = some ⟨b, o, none⟩ := by
  obtain ⟨_, _, e, _, _, h4⟩ := h
  cases e
  obtain ⟨b, o, e, _⟩ := h4 hl
  exact ⟨b, o, e⟩
theorem store_fresh8 (W : World) (x : OpD) : (Instr.storeAt 68 (.pointer (some ⟨W.heap.size, 0, none⟩)) (.agg x.cells.toArray)).run Tryz.prog (W.alloc (.cells #[.int .i64 0, .int .i64 0, .int .i64 0, .int .i64 0, .int .i64 0, .int .i64 0, .int .i64 0, .int .i64 0, .int .i64 0, .int .i64 0, .int .i64 0, .int .i64 0, .int .i64 0, .int .i64 0, .int .i64 0, .int .i64 0, .int .i64 0, .string { data := #[] }, .string { data := #[] }, .string { data := #[] }, .int .i64 0, .int .i64 0, .bool false, .int .i64 0, .int .i64 0, .bool false] 68)) = .ok () (W.alloc (.cells x.cells.toArray 68)) :=
  run_store_fresh op_ty rfl (OpD.len x) (OpD.one x)
theorem RowsIn.ne {R base : Nat} {Ls : Nat → List Int} {A : Nat → Prop} {W W' : World} {S : Nat → Prop} (h : RowsIn R base Ls A W) (hx : Ext S W W') (hR : ¬ S R) {k : Nat} (hk : W.heap.size ≤ k) : ∀ cs, W'.heap[R]? = some (.cells cs 100 (0, 0)) → ∀ q, q < 21 → ¬ (cs.getD q undef).ownBlock = some k := by
  intro cs hcs q hq hb
  obtain ⟨cs2, h1, h2, h3, _⟩ := h.ex
  have h4 := (hx.block _ (Array.getElem?_eq_some_iff.1 h2).1 hR).trans h2
  rw [h4] at hcs
  cases hcs
  have := ((h3 q hq).blk k hb).2
  omega
theorem RowsIn.congr {R base : Nat} {Ls Ls' : Nat → List Int} {A A' : Nat → Prop} {W : World} (h : RowsIn R base Ls A W) (he : ∀ q, q < 21 → Ls q = Ls' q) (hA : ∀ k, A' k → A k) : RowsIn R base Ls' A' W := by
  obtain ⟨cs, h1, h2, h3, h4, h5⟩ := h.ex
  exact ⟨cs, h1, h2, fun q hq => by rw [← he q hq]; exact h3 q hq, h4, fun q hq k hk ha => h5 q hq k hk (hA k ha)⟩
theorem rowAt_zero (Ls : Nat → List Int) (o : OpD) : rowAt Ls o 0 = Ls := by funext q; unfold rowAt; rw [if_neg (by omega)]
theorem rowAt_all {l : List OpD} {k : Nat} {x : OpD} (hx : l[k]? = some x) {q : Nat} (hq : q < 21) : rowAt (fun q => numC (l.take k) q) x 21 q = numC (l.take (k + 1)) q := by
  unfold rowAt numC
  rw [if_pos hq, List.take_add_one, hx, Option.toList_some, List.map_append]
  rfl
theorem info_rows : (Tryz.prog.info? 100).map (fun i => (i.zero, i.size, i.bytes)) = some (some (.slice none 0 0), 1, 24) := by kernel_rfl
def RW (w5 : World) (l : List OpD) (k : Nat) (W : World) : Prop := RowsIn w5.heap.size (w5.heap.size + 2) (fun q => numC (l.take k) q) (fun j => j < w5.heap.size) W ∧ W.heap[w5.heap.size + 1]? = some (.cells #[.slice (some ⟨w5.heap.size, 0, none⟩) 21 21] 161 (0, 0)) ∧ Below w5.heap.size w5 W ∧ w5.heap.size + 2 ≤ W.heap.size
theorem colB_len {l : List OpD} (hwf : ∀ x ∈ l, x.wf) (hl : l.length ≤ 200) {c : Nat} (hc : c < 21) : (colB l c).length ≤ 4000 ∧ ∀ x ∈ numC l c, -9223372036854775808 ≤ x ∧ x ≤ 9223372036854775807 := by
  have hin : ∀ x ∈ numC l c, -9223372036854775808 ≤ x ∧ x ≤ 9223372036854775807 := fun x hx => by
    obtain ⟨o, ho, rfl⟩ := List.mem_map.1 hx
    exact (hwf o ho).2 c hc
  refine ⟨?_, hin⟩
  have hlen : (numC l c).length = l.length := by simp [numC]
  unfold colB
  split
  · have := runsB_len _ (diffsB (numC l c)) rfl (by rw [diffsB_length, hlen]; omega) (fun x hx => zigN_lt (diffsB_in hin x hx).1 (diffsB_in hin x hx).2)
    rw [diffsB_length, hlen] at this
    omega
  · have := runsB_len _ (numC l c) rfl (by rw [hlen]; omega) (fun x hx => zigN_lt (hin x hx).1 (hin x hx).2)
    rw [hlen] at this
    omega
theorem numsB_len {l : List OpD} (hwf : ∀ x ∈ l, x.wf) (hl : l.length ≤ 200) : ∀ c, c ≤ 21 → (numsB l c).length ≤ 4000 * c
  | 0, _ => by simp [numsB]
  | c + 1, h => by
    rw [numsB_succ, List.length_append]
    have h1 := numsB_len hwf hl c (by omega)
    have h2 := (colB_len hwf hl (c := c) (by omega)).1
    omega
structure R3 (w : World) (l : List OpD) (cv : Value) (R : Nat) (cs : Nat → Value) (W : World) (out : Value) (bs : List UInt8) : Prop where
  own : Own u8c 1 5 w.heap.size W out bs
  bel : Below w.heap.size w W
  col : Own btc 1 4 w.heap.size W cv (colsL 21)
  row : ∃ cells, W.heap[R]? = some (.cells cells 100 (0, 0)) ∧ cells.size = 21 ∧ ∀ q, q < 21 → cells.getD q undef = cs q
  num : ∀ q, q < 21 → Own intc 1 3 w.heap.size W (cs q) (numC l q)
theorem R3.below {w W w1 : World} {l : List OpD} {cv : Value} {R : Nat} {cs : Nat → Value} {out : Value} {bs : List UInt8} (h : R3 w l cv R cs W out bs) (hb : Below W.heap.size W w1) : R3 w l cv R cs w1 out bs := by
  obtain ⟨cells, h1, h2, h3⟩ := h.row
  exact ⟨h.own.below1 hb, h.bel.trans (hb.mono h.bel.size), h.col.below1 hb, ⟨cells, (hb.block _ (Array.getElem?_eq_some_iff.1 h1).1).trans h1, h2, h3⟩, fun q hq => (h.num q hq).below1 hb⟩
theorem R3.app {w w1 : World} {l : List OpD} {cv vx : Value} {R : Nat} {cs : Nat → Value} {out : Value} {bs ys : List UInt8} (h : R3 w l cv R cs w1 out bs) (hx : SliceIs u8c 1 w1 vx ys) (hl : bs.length + ys.length ≤ 140737488355328) :
    ∃ (s : Sl) (w2 : World), (Builtin.append_ #[22, 22] 22 #[out, vx]).run Tryz.prog w1 = .ok (.slice s.a s.n s.cap) w2 ∧ R3 w l cv R cs w2 (.slice s.a s.n s.cap) (bs ++ ys) := by
  obtain ⟨i0, hi, hz0, hz1, hz2⟩ := info_parts info_u8
  obtain ⟨v', w', hr, ho2, hx2⟩ := append_structs (P := Tryz.prog) 22 22 i0 _ 1 Tryz.underlying22 hi hz0 hz1 hz2 rfl (by omega) u8c_len u8c_one h.own hx (by unfold maxLen; omega) (by omega) h.bel.size
  obtain ⟨s, rfl⟩ := ho2.sl
  have tag : ∀ {b : Nat} {cur : Array Value} {t : TypeId}, w1.heap[b]? = some (.cells cur t (0, 0)) → t ≠ 5 → ¬ out.ownBlock = some b := fun hb ht e => by
    obtain ⟨cur2, h2⟩ := h.own.tag e
    rw [hb] at h2
    cases h2
    exact ht rfl
  obtain ⟨cells, h1, h2, h3⟩ := h.row
  refine ⟨s, w', hr, ho2, Ext.new h.bel hx2 (fun i hi _ e => by have := (h.own.blk i e).1; omega) h.bel.size, h.col.ext hx2 (fun k hk e => ?_), ⟨cells, (hx2.block _ (Array.getElem?_eq_some_iff.1 h1).1 (tag h1 (by decide))).trans h1, h2, h3⟩, fun q hq => (h.num q hq).ext hx2 (fun k hk e => ?_)⟩
  · obtain ⟨cur, hc⟩ := h.col.tag hk
    exact tag hc (by decide) e
  · obtain ⟨cur, hc⟩ := (h.num q hq).tag hk
    exact tag hc (by decide) e
structure R4 (w : World) (W : World) (out : Value) (bs : List UInt8) : Prop where
  own : Own u8c 1 5 w.heap.size W out bs
  bel : Below w.heap.size w W
theorem R4.below {w W w1 : World} {out : Value} {bs : List UInt8} (h : R4 w W out bs) {k : Nat} (hb : Below k W w1) (hk : W.heap.size ≤ k) : R4 w w1 out bs :=
  ⟨h.own.below1 (hb.mono hk), h.bel.trans (hb.mono (Nat.le_trans h.bel.size hk))⟩
theorem R4.app {w w1 : World} {vx : Value} {out : Value} {bs ys : List UInt8} (h : R4 w w1 out bs) (hx : SliceIs u8c 1 w1 vx ys) (hl : bs.length + ys.length ≤ 140737488355328) :
    ∃ (s : Sl) (w2 : World), (Builtin.append_ #[22, 22] 22 #[out, vx]).run Tryz.prog w1 = .ok (.slice s.a s.n s.cap) w2 ∧ R4 w w2 (.slice s.a s.n s.cap) (bs ++ ys) ∧ Ext (fun b => out.ownBlock = some b) w1 w2 := by
  obtain ⟨i0, hi, hz0, hz1, hz2⟩ := info_parts info_u8
  obtain ⟨v', w', hr, ho2, hx2⟩ := append_structs (P := Tryz.prog) 22 22 i0 _ 1 Tryz.underlying22 hi hz0 hz1 hz2 rfl (by omega) u8c_len u8c_one h.own hx (by unfold maxLen; omega) (by omega) h.bel.size
  obtain ⟨s, rfl⟩ := ho2.sl
  exact ⟨s, w', hr, ⟨ho2, Ext.new h.bel hx2 (fun i hi _ e => by have := (h.own.blk i e).1; omega) h.bel.size⟩, hx2⟩
theorem app_string {base : Nat} {w : World} {v : Value} {l : List UInt8} (h : Own u8c 1 5 base w v l) (s : ByteArray) (hb : base ≤ w.heap.size) (hl : l.length + s.size ≤ 140737488355328) :
    ∃ (r : Sl) (w2 : World), (Builtin.append_ #[22, 9] 22 #[v, .string s]).run Tryz.prog w = .ok (.slice r.a r.n r.cap) w2 ∧ Own u8c 1 5 base w2 (.slice r.a r.n r.cap) (l ++ s.data.toList) ∧ Ext (fun b => v.ownBlock = some b) w w2 := by
  obtain ⟨i0, hi, hz0, hz1, hz2⟩ := info_parts info_u8
  obtain ⟨v', w', hr, ho2, hx2, -⟩ := Lib.run_append_own_string (P := Tryz.prog) w base 22 9 22 5 i0 Tryz.underlying22 Tryz.underlying9 hi hz0 hz1 hz2 v l.length (l.flatMap u8c) h s (by unfold maxLen; omega) hl hb
  have ho3 : Own u8c 1 5 base w' v' (l ++ s.data.toList) := by
    unfold Own
    rw [List.length_append, List.flatMap_append, show s.data.toList.length = s.size from by rw [Array.length_toList]; rfl, show s.data.toList.flatMap u8c = Lib.strCells s from by
      unfold Lib.strCells
      induction s.data.toList with
      | nil => rfl
      | cons a t ih => rw [List.flatMap_cons, ih, List.map_cons]; rfl]
    exact ho2
  obtain ⟨r, rfl⟩ := ho3.sl
  exact ⟨r, w', hr, ho3, Ext.of_grown hx2⟩
theorem truC_len (l : List OpD) (c : Nat) : (truC l c).length = l.length := by simp [truC]
theorem lenC_len (l : List OpD) (c : Nat) : (lenC l c).length = l.length := by simp [lenC]
theorem truC_take {l : List OpD} {k : Nat} {x : OpD} (hx : l[k]? = some x) (c : Nat) : truC (l.take (k + 1)) c = truC (l.take k) c ++ [tru x c] := by
  unfold truC
  rw [List.take_add_one, hx, Option.toList_some, List.map_append]
  rfl
theorem lenC_take {l : List OpD} {k : Nat} {x : OpD} (hx : l[k]? = some x) (c : Nat) : lenC (l.take (k + 1)) c = lenC (l.take k) c ++ [((txt x c).size : Int)] := by
  unfold lenC
  rw [List.take_add_one, hx, Option.toList_some, List.map_append]
  rfl
theorem catC_take {l : List OpD} {k : Nat} {x : OpD} (hx : l[k]? = some x) (c : Nat) : catC (l.take (k + 1)) c = catC (l.take k) c ++ (txt x c).data.toList := by
  unfold catC
  rw [List.take_add_one, hx, Option.toList_some, List.flatMap_append]
  simp
theorem trusB_len {l : List OpD} (hl : l.length ≤ 200) : ∀ c, (trusB l c).length ≤ 2010 * c
  | 0 => by simp [trusB]
  | c + 1 => by
    rw [trusB_succ, List.length_append]
    have h1 := trusB_len hl c
    have h2 := boolsB_len (l := truC l c) (by rw [truC_len]; omega)
    rw [truC_len] at h2
    omega
theorem catC_len {l : List OpD} (hr : ∀ x ∈ l, x.right = true) (c : Nat) : (catC l c).length ≤ 64 * l.length := by
  induction l with
  | nil => simp [catC]
  | cons x l ih =>
    have h1 := ih (fun y hy => hr y (List.mem_cons_of_mem _ hy))
    have h2 := (hr x (List.mem_cons_self ..))
    have h3 := OpD.right_txt h2 c
    have h4 : (catC (x :: l) c).length = (txt x c).size + (catC l c).length := by simp [catC]
    rw [h4, List.length_cons]
    omega
theorem lenC_in {l : List OpD} (hr : ∀ x ∈ l, x.right = true) (c : Nat) : ∀ n ∈ lenC l c, -9223372036854775808 ≤ n ∧ n ≤ 9223372036854775807 := fun n hn => by
  obtain ⟨o, ho, rfl⟩ := List.mem_map.1 hn
  have := OpD.right_txt (hr o ho) c
  omega
theorem lenB_len {l : List OpD} (hr : ∀ x ∈ l, x.right = true) (hl : l.length ≤ 200) (c : Nat) : (runsB (lenC l c)).length ≤ 4000 := by
  have := runsB_len _ (lenC l c) rfl (by rw [lenC_len]; omega) (fun x hx => zigN_lt (lenC_in hr c x hx).1 (lenC_in hr c x hx).2)
  rw [lenC_len] at this
  omega
theorem txtsB_len {l : List OpD} (hr : ∀ x ∈ l, x.right = true) (hl : l.length ≤ 200) : ∀ c, (txtsB l c).length ≤ 16800 * c
  | 0 => by simp [txtsB]
  | c + 1 => by
    rw [txtsB_succ, List.length_append, List.length_append]
    have h1 := txtsB_len hr hl c
    have h2 := lenB_len hr hl c
    have h3 := catC_len hr c
    omega
theorem run_index2 (p0 p1 : Option Addr) (w : World) : (Instr.index 168 (.agg #[.pointer p0, .pointer p1]) (.int .i64 0)).run Tryz.prog w = .ok (.pointer p0) w ∧ (Instr.index 168 (.agg #[.pointer p0, .pointer p1]) (.int .i64 1)).run Tryz.prog w = .ok (.pointer p1) w := ⟨by kernel_rfl, by kernel_rfl⟩
theorem run_index3 (p0 p1 p2 : Option Addr) (w : World) : (Instr.index 172 (.agg #[.pointer p0, .pointer p1, .pointer p2]) (.int .i64 0)).run Tryz.prog w = .ok (.pointer p0) w ∧ (Instr.index 172 (.agg #[.pointer p0, .pointer p1, .pointer p2]) (.int .i64 1)).run Tryz.prog w = .ok (.pointer p1) w ∧ (Instr.index 172 (.agg #[.pointer p0, .pointer p1, .pointer p2]) (.int .i64 2)).run Tryz.prog w = .ok (.pointer p2) w := ⟨by kernel_rfl, by kernel_rfl, by kernel_rfl⟩
def EncPost (w : World) (l : List OpD) (e : Ending) (w' : World) : Prop :=
  (l.length ≤ 200 ∧ (∀ x ∈ l, x.right = true) ∧ ∃ v, e = .returned (.tuple #[v, .int .i64 0]) ∧ Own u8c 1 5 w.heap.size w' v (encB l) ∧ Below w.heap.size w w') ∨
  (200 < l.length ∧ e = .returned (.tuple #[.slice none 0 0, .int .i64 1]) ∧ Below w.heap.size w w') ∨
  (l.length ≤ 200 ∧ (∃ x ∈ l, x.right = false) ∧ e = .returned (.tuple #[.slice none 0 0, .int .i64 71]) ∧ Below w.heap.size w w')
set_option maxRecDepth 20000 in
set_option maxHeartbeats 4000000 in
theorem encode_any (v : Value) (l : List OpD) (w : World) (h : SliceIs OpD.cells 26 w v l) (hwf : ∀ x ∈ l, x.wf) (hn : l.length ≤ 1000000) : Calls Tryz.prog 51 #[v] w fun e w' => EncPost w l e w' := by
  obtain ⟨a, cap, rfl, hcap, hmax, -⟩ := id h
  unfold maxLen at hmax
  have HH := Lib.hid h
  have HWF := Lib.hid hwf
  clear h hwf
  by_cases hbig : 200 < l.length
  · have hb1 : (200 : Int) < (l.length : Int) := by omega
    go_enter Tryz.func51, Tryz.ntmps51
    go_wp2_with fail
    go_ret2
    exact .inr (.inl ⟨hbig, rfl, Below.refl _ _⟩)
  · have hb1 : ¬ (200 : Int) < (l.length : Int) := by omega
    go_enter Tryz.func51, Tryz.ntmps51
    go_wp2_with fail
    go_loopg [29] l.length (fun g kv wx => ∃ k : Nat, g = l.length - k ∧ kv = .int .i64 k ∧ k ≤ l.length ∧ Hid ((∀ x ∈ l.take k, x.right = true) ∧ Below w.heap.size w wx))
    case atStart => exact ⟨0, rfl, rfl, Nat.zero_le _, Lib.hid ⟨fun x hx => by simp at hx, Below.refl _ _⟩⟩
    case round =>
      obtain ⟨k, hg, rfl, hk, HR⟩ := hrel
      have HG := Lib.hid hg
      clear hg
      by_cases hlt : k < l.length
      · have hk1 : (k : Int) < (l.length : Int) := by omega
        obtain ⟨x, hx⟩ : ∃ x, l[k]? = some x := ⟨_, List.getElem?_eq_getElem hlt⟩
        have hsl := HH.out.below HR.out.2
        obtain ⟨b0, o0, rfl⟩ := hsl.some8 (by rintro rfl; simp at hlt)
        have hld := sl_load hsl hx
        have hst := store_fresh8 wr x
        have HLD := Lib.hid (And.intro hld hst)
        have HX := Lib.hid hx
        have hxw := HWF.out x (List.mem_of_getElem? hx)
        have HXW := Lib.hid hxw
        have hb2 : Below w.heap.size w (wr.alloc (.cells x.cells.toArray 68)) := HR.out.2.alloc HR.out.2.size _
        have hob := OB.new wr x
        have hw2 := OB.whole hob
        have HW2 := Lib.hid (And.intro hb2 hw2)
        clear hsl hld hst hx hxw hob hw2 hb2
        go_wp2_with (first | ((with_reducible_and_instances refine wpList_ranG (o := ⟨some 32, _, _, _, _, _⟩) (v := .agg x.cells.toArray) ?_ ?_ ?_); rfl; exact exec_load rfl rfl HLD.out.1) | (refine wpList_store_run (T := 68) rfl rfl rfl rfl HLD.out.2 ?_) | ((with_reducible_and_instances refine wpList_ranG (o := ⟨some 33, _, _, _, _, _⟩) (v := .agg x.cells.toArray) ?_ ?_ ?_); rfl; exact exec_load rfl rfl HW2.out.2))
        refine (oright_any x _ HXW.out.1).mono ?_
        rintro e w3 ⟨rfl, b3⟩
        have HB3 : Hid (Below w.heap.size w w3) := Lib.hid (HW2.out.1.trans (b3.mono HW2.out.1.size))
        clear b3 HW2 HLD
        cases hr : x.right with
        | false =>
          have HBAD : Hid (∃ x ∈ l, x.right = false) := Lib.hid ⟨x, List.mem_of_getElem? HX.out, hr⟩
          clear hr
          go_wp2_with fail
          go_ret2
          exact .inr (.inr ⟨by omega, HBAD.out, rfl, HB3.out⟩)
        | true =>
          have HN : Hid ((∀ y ∈ l.take (k + 1), y.right = true) ∧ Below w.heap.size w w3) := Lib.hid ⟨fun y hy => by
            rw [List.take_add_one, HX.out, Option.toList_some] at hy
            rcases List.mem_append.1 hy with hy | hy
            · exact HR.out.1 y hy
            · rw [List.mem_singleton.1 hy]; exact hr, HB3.out⟩
          clear hr HR HB3
          go_wp2_with fail
          go_roundg (l.length - (k + 1))
          case measure => rw [HG.out]; omega
          case rel => exact ⟨k + 1, rfl, by simp, by omega, HN⟩
      · obtain rfl : k = l.length := by omega
        have hk1 : ¬ (l.length : Int) < (l.length : Int) := by omega
        have HALL : Hid (∀ x ∈ l, x.right = true) := Lib.hid (by have := HR.out.1; rwa [List.take_length] at this)
        have HB : Hid (Below w.heap.size w wr) := Lib.hid HR.out.2
        clear hlt HR hk
        have hlw : IntKind.u64.wrap (l.length : Int) = (l.length : Int) := by rw [u64_wrap]; omega
        go_wp2_with fail
        refine (put_any l.length _ (by omega)).mono ?_
        rintro e w4 ⟨v4, rfl, hown4, b4⟩
        obtain ⟨⟨pa, pn, pc⟩, e4⟩ := hown4.sl
        dsimp only at e4
        subst e4
        have HB4 : Hid (Below w.heap.size w w4 ∧ Own u8c 1 5 w.heap.size w4 (.slice pa pn pc) (putB l.length)) := Lib.hid ⟨HB.out.trans (b4.mono HB.out.size), hown4.mono HB.out.size⟩
        clear hown4 b4 HB hlw
        go_wp2_with fail
        refine (columns_any _).mono ?_
        rintro e w5 ⟨v5, rfl, hown5, b5⟩
        obtain ⟨⟨ca, cn, cc⟩, e5⟩ := hown5.sl
        dsimp only at e5
        subst e5
        obtain rfl : cn = 21 := by have := (hown5.nlen btc_len).1; rw [colsL_len] at this; exact this
        have HB5 : Hid (Below w.heap.size w w5 ∧ Own u8c 1 5 w.heap.size w5 (.slice pa pn pc) (putB l.length) ∧ Own btc 1 4 w.heap.size w5 (.slice ca 21 cc) (colsL 21)) := Lib.hid ⟨HB4.out.1.trans (b5.mono HB4.out.1.size), HB4.out.2.below1 b5, hown5.mono HB4.out.1.size⟩
        clear hown5 b5 HB4
        obtain ⟨i1, hi1, hy10, hy11, hy12⟩ := info_parts info_rows
        have hmk := run_makeSlice (P := Tryz.prog) w5 161 100 i1 (.slice none 0 0) Tryz.underlying161 hi1 hy10 .i64 .i64 21 21 (by omega) (by omega) (by rw [hy11]; decide) (by rw [hy12]; omega) (by omega)
        rw [hy11] at hmk
        obtain ⟨MC, hMC⟩ : ∃ MC : List Value, MC = List.replicate 21 (Value.slice none 0 0) := ⟨_, rfl⟩
        have hmc : madeCells (Value.slice none 0 0).cells ((21 : Int).toNat * 1) = MC.toArray := by rw [hMC, show (21 : Int).toNat = 21 from rfl, made_rep _ rfl]; rfl
        rw [hmc] at hmk
        obtain ⟨W6, hW6⟩ : ∃ W6, (w5.alloc (.cells MC.toArray 100)).alloc (.cells #[.slice (some ⟨w5.heap.size, 0, none⟩) 21 21] 161) = W6 := ⟨_, rfl⟩
        have HR0 : Hid (RW w5 l 0 W6) := Lib.hid (by
          have h1 : W6.heap[w5.heap.size]? = some (.cells MC.toArray 100 (0, 0)) := by rw [← hW6]; exact (Below.heap_alloc _ _ _ (by simp)).trans (heap_new8 w5 _)
          have h2 : W6.heap[w5.heap.size + 1]? = some (.cells #[.slice (some ⟨w5.heap.size, 0, none⟩) 21 21] 161 (0, 0)) := by
            rw [← hW6]
            have := heap_new8 (w5.alloc (.cells MC.toArray 100)) (.cells #[.slice (some ⟨w5.heap.size, 0, none⟩) 21 21] 161)
            rwa [World.size_alloc] at this
          have hg : ∀ q, q < 21 → MC.toArray.getD q undef = .slice none 0 0 := fun q hq => by
            rw [Array.getD_eq_getD_getElem?, List.getElem?_toArray, hMC, List.getElem?_replicate, if_pos hq]
            rfl
          refine ⟨⟨_, by simp [hMC], h1, fun q hq => ?_, fun q r hq hr _ k hk => ?_, fun q hq k hk => ?_⟩, h2, by rw [← hW6]; exact ((Below.refl _ _).alloc (Nat.le_refl _) _).alloc (by simp) _, by rw [← hW6]; simp⟩
          · rw [hg q hq]; exact Own.nil
          · rw [hg q hq] at hk; cases hk
          · rw [hg q hq] at hk; cases hk)
        have HW6 := Lib.hid hW6
        clear hW6 hmc hMC
        go_upto_region 12 with fail
        rw [HW6.out]
        clear hmk HW6
        go_wp2_with fail
        go_loopg [47] l.length (fun g kv wx => ∃ k : Nat, g = l.length - k ∧ kv = .int .i64 k ∧ k ≤ l.length ∧ Hid (RW w5 l k wx))
        case atStart => exact ⟨0, rfl, rfl, Nat.zero_le _, HR0⟩
        case round =>
          clear HR0
          obtain ⟨k, hg, rfl, hk, HR⟩ := hrel
          have HG := Lib.hid hg
          clear hg
          by_cases hlt : k < l.length
          · have hk1 : (k : Int) < (l.length : Int) := by omega
            obtain ⟨x, hx⟩ : ∃ x, l[k]? = some x := ⟨_, List.getElem?_eq_getElem hlt⟩
            have hsl := HH.out.below (HB5.out.1.trans (HR.out.2.2.1.mono HB5.out.1.size))
            obtain ⟨b0, o0, rfl⟩ := hsl.some8 (by rintro rfl; simp at hlt)
            have HLD := Lib.hid (And.intro (sl_load hsl hx) (store_fresh8 wr x))
            have HX := Lib.hid hx
            clear hsl hx
            go_wp2_with (first | ((with_reducible_and_instances refine wpList_ranG (o := ⟨some 50, _, _, _, _, _⟩) (v := .agg x.cells.toArray) ?_ ?_ ?_); rfl; exact exec_load rfl rfl HLD.out.1) | (refine wpList_store_run (T := 68) rfl rfl rfl rfl HLD.out.2 ?_))
            have hz2 : ((wr.alloc (.cells x.cells.toArray 68)).alloc (.cells #[.int .i64 0] 3)).heap.size = wr.heap.size + 2 := by simp
            have hx2 : Ext (fun _ => False) wr ((wr.alloc (.cells x.cells.toArray 68)).alloc (.cells #[.int .i64 0] 3)) := ((Ext.refl _ _).alloc _).alloc _
            have hop : OB wr.heap.size x ((wr.alloc (.cells x.cells.toArray 68)).alloc (.cells #[.int .i64 0] 3)) := (OB.new wr x).alloc _
            have hc2 : ((wr.alloc (.cells x.cells.toArray 68)).alloc (.cells #[.int .i64 0] 3)).heap[wr.heap.size + 1]? = some (.cells #[.int .i64 0] 3 (0, 0)) := by
              have := heap_new8 (wr.alloc (.cells x.cells.toArray 68)) (.cells #[.int .i64 0] 3)
              rwa [World.size_alloc] at this
            generalize (wr.alloc (.cells x.cells.toArray 68)).alloc (.cells #[.int .i64 0] 3) = W2 at hz2 hx2 hop hc2 ⊢
            have hA : At wr.heap.size 0 x (fld x) W2 := At.of_cells (fun j u hj => by rw [Nat.zero_add]; exact hop.cell hj) (fun j _ => by rw [Nat.zero_add]; exact hop.free j)
            have hr := HR.out
            have hJ0 : JE w5.heap.size (w5.heap.size + 1) (wr.heap.size + 1) (w5.heap.size + 2) (fun q => numC (l.take k) q) x 0 (fun j => j < w5.heap.size ∨ j = wr.heap.size) W2 :=
              ⟨by rw [rowAt_zero]; exact hr.1.ext hx2 id (fun _ f => f.elim) (fun j hj => hj.imp id (fun e => by omega)), (hx2.block _ (by have := hr.2.2.2; omega) id).trans hr.2.1, hc2, ⟨fun h => by have := hr.2.2.2; omega, fun h => by have := hr.2.2.2; omega, fun h => by have := hr.2.2.2; omega⟩, ⟨by omega, by have := hr.2.2.2; omega, by have := hr.2.2.2; omega, by omega, by omega, by omega⟩, by have := hr.2.2.2; omega, fun j hj => by have := hr.2.2.2; omega, hr.1.ne hx2 id (by omega)⟩
            refine (ints_any (enters_of Tryz.func93 (by kernel_rfl) rfl) wr.heap.size 0 x (fld x) _ (fun j => j < w5.heap.size ∨ j = wr.heap.size) W2 (rows_use w5.heap.size (w5.heap.size + 1) (wr.heap.size + 1) (w5.heap.size + 2) (fun q => numC (l.take k) q) x (fun q => by unfold numC; rw [List.length_map, List.length_take]; omega)) (JE.jok _ _ _ _ _ _ _) (.inr rfl) hA hJ0).mono ?_
            rintro e w3 ⟨⟨v3, rfl⟩, hJ, -, hx3, -⟩
            have HN : Hid (RW w5 l (k + 1) w3) := Lib.hid ⟨hJ.1.congr (fun q hq => rowAt_all HX.out hq) (fun j hj => .inl hj), hJ.2.1, Ext.new (hr.2.2.1.trans ((Ext.below hx2).mono (by have := hr.2.2.2; omega))) hx3 (fun i hi _ e => e.elim (fun e => e (.inl hi)) (fun e => by have := hr.2.2.2; omega)) (by have := hr.2.2.2; omega), by have := hx3.size; have := hr.2.2.2; omega⟩
            clear hJ hx3 hJ0 hr hA hop hc2 hx2 hz2 HLD HR
            go_wp2_with fail
            go_roundg (l.length - (k + 1))
            case measure => rw [HG.out]; omega
            case rel => exact ⟨k + 1, rfl, by simp, by omega, HN⟩
          · obtain rfl : k = l.length := by omega
            have hk1 : ¬ (l.length : Int) < (l.length : Int) := by omega
            clear hlt hk
            obtain ⟨⟨cells, hcs1, hcs2, hcs3, -, -⟩, hcs6, hcs7, -⟩ := HR.out
            have HR3 : Hid (R3 w l (.slice ca 21 cc) w5.heap.size (fun q => cells.getD q undef) wr (.slice pa pn pc) (putB l.length ++ numsB l 0)) := Lib.hid ⟨by rw [show numsB l 0 = [] from rfl, List.append_nil]; exact HB5.out.2.1.below1 hcs7, HB5.out.1.trans (hcs7.mono HB5.out.1.size), HB5.out.2.2.below1 hcs7, ⟨cells, hcs2, hcs1, fun q hq => rfl⟩, fun q hq => by have := hcs3 q hq; simp only [List.take_length] at this; exact this.mono (by have := HB5.out.1.size; omega)⟩
            have c6 := cell_of_one hcs6
            generalize (fun q => cells.getD q undef) = cs at HR3
            obtain ⟨R, hR⟩ : ∃ R, R = w5.heap.size := ⟨_, rfl⟩
            clear hcs1 hcs2 hcs3 hcs6 hcs7 HR
            go_wp2_with fail
            clear c6
            go_loopg [56, 6] 21 (fun g kv ov wx => ∃ (k : Nat) (s : Sl), g = 21 - k ∧ kv = .int .i64 k ∧ ov = .slice s.a s.n s.cap ∧ k ≤ 21 ∧ Hid (R3 w l (.slice ca 21 cc) w5.heap.size cs wx (.slice s.a s.n s.cap) (putB l.length ++ numsB l k)))
            case atStart => exact ⟨0, ⟨pa, pn, pc⟩, rfl, rfl, rfl, by omega, HR3⟩
            case round =>
              clear HR3
              obtain ⟨k, ⟨ta, tn, tc⟩, hg, rfl, rfl, hk, HR⟩ := hrel
              dsimp only at HR ⊢
              have HG := Lib.hid hg
              clear hg
              by_cases hlt : k < 21
              · have hk1 : (k : Int) < 21 := by omega
                have hcell : wr.cell? ⟨w5.heap.size, k, none⟩ = some (cs k) := by
                  obtain ⟨cells, h1, h2, h3⟩ := HR.out.row
                  unfold World.cell?
                  rw [h1, ← h3 k hlt, Array.getD_eq_getD_getElem?]
                  simp [h2, hlt]
                obtain ⟨⟨ra, rn, rc⟩, er⟩ := (HR.out.num k hlt).sl
                dsimp only at er
                rw [er] at hcell
                have HNUM : Hid (SliceIs intc 1 wr (.slice ra rn rc) (numC l k)) := Lib.hid (by rw [← er]; exact (HR.out.num k hlt).slice intc_len)
                obtain ⟨b9, o9, e9, c9⟩ := (HR.out.col.slice btc_len).at1 (k := k) (x := dlt k) (by simp [colsL, hlt]) rfl
                cases e9
                have HCL := Lib.hid (colB_len HWF.out (by omega) hlt)
                have hln : (numC l k).length = l.length := by simp [numC]
                have HLN := Lib.hid hln
                have HLEN : Hid ((putB l.length ++ numsB l k).length + (colB l k).length ≤ 140737488355328) := Lib.hid (by have h1 := numsB_len HWF.out (by omega) k (by omega); have h2 := HCL.out.1; have h3 := putB_le10 (n := l.length) (by omega); rw [List.length_append]; omega)
                clear hln er
                cases hd : dlt k with
                  | false =>
                    have hcol : colB l k = runsB (numC l k) := by unfold colB; rw [hd]; rfl
                    have HCOL := Lib.hid hcol
                    clear hcol
                    rw [hd] at c9
                    clear hd
                    go_wp2_with fail
                    refine (cruns_any _ (numC l k) _ HNUM.out (by rw [HLN.out]; omega) HCL.out.2).mono ?_
                    rintro e w7 ⟨v7, rfl, hown7, b7⟩
                    obtain ⟨⟨ua, un, uc⟩, w8, hr8, h8⟩ := R3.app (HR.out.below b7) (hown7.slice u8c_len) (by have := HLEN.out; rw [HCOL.out] at this; exact this)
                    rw [← HCOL.out, List.append_assoc, ← numsB_succ] at h8
                    have HN := Lib.hid h8
                    clear h8 hown7 b7 HNUM hcell c9
                    go_wp2_with (at_builtin; refine Lib.wpList_append_run _ rfl _ _ _ _ rfl _ _ rfl rfl _ _ hr8 ?_)
                    go_roundg (21 - (k + 1))
                    case measure => rw [HG.out]; omega
                    case rel => exact ⟨k + 1, ⟨ua, un, uc⟩, rfl, by simp, rfl, by omega, HN⟩
                  | true =>
                    have hcol : colB l k = runsB (diffsB (numC l k)) := by unfold colB; rw [hd]; rfl
                    have HCOL := Lib.hid hcol
                    clear hcol
                    rw [hd] at c9
                    clear hd
                    go_wp2_with fail
                    refine (cdeltas_any _ (numC l k) _ HNUM.out (by rw [HLN.out]; omega) HCL.out.2).mono ?_
                    rintro e w7 ⟨v7, rfl, hown7, b7⟩
                    obtain ⟨⟨ua, un, uc⟩, w8, hr8, h8⟩ := R3.app (HR.out.below b7) (hown7.slice u8c_len) (by have := HLEN.out; rw [HCOL.out] at this; exact this)
                    rw [← HCOL.out, List.append_assoc, ← numsB_succ] at h8
                    have HN := Lib.hid h8
                    clear h8 hown7 b7 HNUM hcell c9
                    go_wp2_with (at_builtin; refine Lib.wpList_append_run _ rfl _ _ _ _ rfl _ _ rfl rfl _ _ hr8 ?_)
                    go_roundg (21 - (k + 1))
                    case measure => rw [HG.out]; omega
                    case rel => exact ⟨k + 1, ⟨ua, un, uc⟩, rfl, by simp, rfl, by omega, HN⟩
              · obtain rfl : k = 21 := by omega
                have hk1 : ¬ (21 : Int) < 21 := by omega
                have HO : Hid (R4 w wr (.slice ta tn tc) (putB l.length ++ numsB l 21 ++ trusB l 0)) := Lib.hid (by rw [show trusB l 0 = [] from rfl, List.append_nil]; exact ⟨HR.out.own, HR.out.bel⟩)
                clear hlt hk HR
                go_wp2_with fail
                go_loopg [74, 6] 2 (fun g kv ov wx => ∃ (k : Nat) (s : Sl), g = 2 - k ∧ kv = .int .i64 k ∧ ov = .slice s.a s.n s.cap ∧ k ≤ 2 ∧ Hid (R4 w wx (.slice s.a s.n s.cap) (putB l.length ++ numsB l 21 ++ trusB l k)))
                case atStart => exact ⟨0, ⟨ta, tn, tc⟩, rfl, rfl, rfl, by omega, HO⟩
                case round =>
                  clear HO
                  obtain ⟨k, ⟨ta, tn, tc⟩, hg, rfl, rfl, hk, HR⟩ := hrel
                  dsimp only at HR ⊢
                  have HG := Lib.hid hg
                  clear hg
                  obtain ⟨w9, rfl⟩ : ∃ w9, w9 = wr := ⟨_, rfl⟩
                  obtain ⟨i0, hi, hy0, hy1, hy2⟩ := info_parts info_bt
                  rcases (by omega : k = 0 ∨ k = 1 ∨ k = 2) with rfl | rfl | rfl
                  · rw [show ((0 : Nat) : Int) = 0 from rfl]
                    clear hk
                    go_wp2_with fail
                    go_loopg [79, 15] l.length (fun g kv bv wx => ∃ (j : Nat) (s : Sl), g = l.length - j ∧ kv = .int .i64 j ∧ bv = .slice s.a s.n s.cap ∧ j ≤ l.length ∧ Hid (Own btc 1 4 w9.heap.size wx (.slice s.a s.n s.cap) (truC (l.take j) 0) ∧ Below w9.heap.size w9 wx))
                    case atStart => exact ⟨0, ⟨none, 0, 0⟩, rfl, rfl, rfl, Nat.zero_le _, Lib.hid ⟨Own.nil, Below.refl _ _⟩⟩
                    case round =>
                      obtain ⟨j, ⟨sa, sn, sc⟩, hg, rfl, rfl, hj, HI⟩ := hrel
                      dsimp only at HI ⊢
                      have HG2 := Lib.hid hg
                      clear hg
                      by_cases hlt : j < l.length
                      · have hk1 : (j : Int) < (l.length : Int) := by omega
                        obtain ⟨x, hx⟩ : ∃ x, l[j]? = some x := ⟨_, List.getElem?_eq_getElem hlt⟩
                        have hsl := HH.out.below (HR.out.bel.trans (HI.out.2.mono HR.out.bel.size))
                        obtain ⟨b0, o0, rfl⟩ := hsl.some8 (by rintro rfl; simp at hlt)
                        have HLD := Lib.hid (And.intro (sl_load hsl hx) (store_fresh8 wr x))
                        have HX := Lib.hid hx
                        have HOB := Lib.hid (OB.new wr x)
                        clear hsl hx
                        go_wp2_with (first | ((with_reducible_and_instances refine wpList_ranG (o := ⟨some 82, _, _, _, _, _⟩) (v := .agg x.cells.toArray) ?_ ?_ ?_); rfl; exact exec_load rfl rfl HLD.out.1) | (refine wpList_store_run (T := 68) rfl rfl rfl rfl HLD.out.2 ?_))
                        refine (truths_any wr.heap.size 0 _).mono ?_
                        rintro e w3 ⟨rfl, b3⟩
                        have c9 : w3.cell? ⟨wr.heap.size, 22, none⟩ = some (.bool (tru x 0)) := (HOB.out.below b3 (by simp)).cell rfl
                        have HI2 := Lib.hid ((HI.out.1.alloc (.cells x.cells.toArray 68)).below1 b3)
                        have HB3 : Hid (Below w9.heap.size w9 w3) := Lib.hid ((HI.out.2.alloc HI.out.2.size _).trans (b3.mono (by have := HI.out.2.size; simp; omega)))
                        have HBD : Hid ((truC (l.take j) 0).length + 1 ≤ maxLen ∧ ((truC (l.take j) 0).length + 1) * 1 ≤ 140737488355328) := Lib.hid (by rw [truC_len, List.length_take]; unfold maxLen; omega)
                        have hix := (run_index2 (some ⟨wr.heap.size, 22, none⟩) (some ⟨wr.heap.size, 25, none⟩) w3).1
                        simp only [Nat.zero_add]
                        clear b3 HLD HOB HI
                        go_wp2_with (at_builtin; refine wpList_append_struct2 rfl _ _ _ rfl i0 _ 1 Tryz.underlying75 hi hy0 hy1 hy2 rfl (by omega) btc_len btc_one rfl (HI2.out.alloc _) (tru x 0) w3.heap.size 1 rfl (bt_new _ (tru x 0)) HBD.out.1 HBD.out.2 (by have := HB3.out.size; simp; omega) ?_)
                        intro v' w4 hown4 hx4 hn4
                        rw [← truC_take HX.out] at hown4
                        obtain ⟨⟨ua, un, uc⟩, e4⟩ := hown4.sl
                        dsimp only at e4
                        subst e4
                        have HN : Hid (Own btc 1 4 w9.heap.size w4 (.slice ua un uc) (truC (l.take (j + 1)) 0) ∧ Below w9.heap.size w9 w4) := Lib.hid ⟨hown4, Ext.new (HB3.out.alloc HB3.out.size _) hx4 (fun i hi _ e => by have := (HI2.out.blk i e).1; omega) (by have := HB3.out.size; simp; omega)⟩
                        clear hown4 hx4 hn4 c9 hix HI2 HB3
                        go_wp2_with fail
                        go_roundg (l.length - (j + 1))
                        case measure => rw [HG2.out]; omega
                        case rel => exact ⟨j + 1, ⟨ua, un, uc⟩, rfl, by simp, rfl, by omega, HN⟩
                      · obtain rfl : j = l.length := by omega
                        have hk1 : ¬ (l.length : Int) < (l.length : Int) := by omega
                        have HBL : Hid (SliceIs btc 1 wr (.slice sa sn sc) (truC l 0)) := Lib.hid (by have := HI.out.1.slice btc_len; rwa [List.take_length] at this)
                        have HRR : Hid (R4 w wr (.slice ta tn tc) (putB l.length ++ numsB l 21 ++ trusB l 0)) := Lib.hid (HR.out.below HI.out.2 (Nat.le_refl _))
                        have HLEN : Hid ((putB l.length ++ numsB l 21 ++ trusB l 0).length + (boolsB (truC l 0)).length ≤ 140737488355328) := Lib.hid (by have h1 := numsB_len HWF.out (by omega) 21 (by omega); have h2 := boolsB_len (l := truC l 0) (by rw [truC_len]; omega); rw [truC_len] at h2; have h3 := putB_le10 (n := l.length) (by omega); have h4 := trusB_len (l := l) (by omega) 0; rw [List.length_append, List.length_append]; omega)
                        clear HI HR hlt hj
                        go_wp2_with fail
                        refine (cbools_any _ (truC l 0) _ HBL.out (by rw [truC_len]; omega)).mono ?_
                        rintro e w7 ⟨v7, rfl, hown7, b7⟩
                        obtain ⟨⟨ua, un, uc⟩, w8, hr8, h8, -⟩ := R4.app (HRR.out.below b7 (Nat.le_refl _)) (hown7.slice u8c_len) HLEN.out
                        rw [List.append_assoc, ← trusB_succ] at h8
                        have HN := Lib.hid h8
                        clear h8 hown7 b7 HBL HRR HLEN
                        go_wp2_with (at_builtin; refine Lib.wpList_append_run _ rfl _ _ _ _ rfl _ _ rfl rfl _ _ hr8 ?_)
                        go_roundg (2 - (0 + 1))
                        case measure => rw [HG.out]; omega
                        case rel => exact ⟨1, ⟨ua, un, uc⟩, rfl, rfl, rfl, by omega, HN⟩
                  · rw [show ((1 : Nat) : Int) = 1 from rfl]
                    clear hk
                    go_wp2_with fail
                    go_loopg [79, 15] l.length (fun g kv bv wx => ∃ (j : Nat) (s : Sl), g = l.length - j ∧ kv = .int .i64 j ∧ bv = .slice s.a s.n s.cap ∧ j ≤ l.length ∧ Hid (Own btc 1 4 w9.heap.size wx (.slice s.a s.n s.cap) (truC (l.take j) 1) ∧ Below w9.heap.size w9 wx))
                    case atStart => exact ⟨0, ⟨none, 0, 0⟩, rfl, rfl, rfl, Nat.zero_le _, Lib.hid ⟨Own.nil, Below.refl _ _⟩⟩
                    case round =>
                      obtain ⟨j, ⟨sa, sn, sc⟩, hg, rfl, rfl, hj, HI⟩ := hrel
                      dsimp only at HI ⊢
                      have HG2 := Lib.hid hg
                      clear hg
                      by_cases hlt : j < l.length
                      · have hk1 : (j : Int) < (l.length : Int) := by omega
                        obtain ⟨x, hx⟩ : ∃ x, l[j]? = some x := ⟨_, List.getElem?_eq_getElem hlt⟩
                        have hsl := HH.out.below (HR.out.bel.trans (HI.out.2.mono HR.out.bel.size))
                        obtain ⟨b0, o0, rfl⟩ := hsl.some8 (by rintro rfl; simp at hlt)
                        have HLD := Lib.hid (And.intro (sl_load hsl hx) (store_fresh8 wr x))
                        have HX := Lib.hid hx
                        have HOB := Lib.hid (OB.new wr x)
                        clear hsl hx
                        go_wp2_with (first | ((with_reducible_and_instances refine wpList_ranG (o := ⟨some 82, _, _, _, _, _⟩) (v := .agg x.cells.toArray) ?_ ?_ ?_); rfl; exact exec_load rfl rfl HLD.out.1) | (refine wpList_store_run (T := 68) rfl rfl rfl rfl HLD.out.2 ?_))
                        refine (truths_any wr.heap.size 0 _).mono ?_
                        rintro e w3 ⟨rfl, b3⟩
                        have c9 : w3.cell? ⟨wr.heap.size, 25, none⟩ = some (.bool (tru x 1)) := (HOB.out.below b3 (by simp)).cell rfl
                        have HI2 := Lib.hid ((HI.out.1.alloc (.cells x.cells.toArray 68)).below1 b3)
                        have HB3 : Hid (Below w9.heap.size w9 w3) := Lib.hid ((HI.out.2.alloc HI.out.2.size _).trans (b3.mono (by have := HI.out.2.size; simp; omega)))
                        have HBD : Hid ((truC (l.take j) 1).length + 1 ≤ maxLen ∧ ((truC (l.take j) 1).length + 1) * 1 ≤ 140737488355328) := Lib.hid (by rw [truC_len, List.length_take]; unfold maxLen; omega)
                        have hix := (run_index2 (some ⟨wr.heap.size, 22, none⟩) (some ⟨wr.heap.size, 25, none⟩) w3).2
                        simp only [Nat.zero_add]
                        clear b3 HLD HOB HI
                        go_wp2_with (at_builtin; refine wpList_append_struct2 rfl _ _ _ rfl i0 _ 1 Tryz.underlying75 hi hy0 hy1 hy2 rfl (by omega) btc_len btc_one rfl (HI2.out.alloc _) (tru x 1) w3.heap.size 1 rfl (bt_new _ (tru x 1)) HBD.out.1 HBD.out.2 (by have := HB3.out.size; simp; omega) ?_)
                        intro v' w4 hown4 hx4 hn4
                        rw [← truC_take HX.out] at hown4
                        obtain ⟨⟨ua, un, uc⟩, e4⟩ := hown4.sl
                        dsimp only at e4
                        subst e4
                        have HN : Hid (Own btc 1 4 w9.heap.size w4 (.slice ua un uc) (truC (l.take (j + 1)) 1) ∧ Below w9.heap.size w9 w4) := Lib.hid ⟨hown4, Ext.new (HB3.out.alloc HB3.out.size _) hx4 (fun i hi _ e => by have := (HI2.out.blk i e).1; omega) (by have := HB3.out.size; simp; omega)⟩
                        clear hown4 hx4 hn4 c9 hix HI2 HB3
                        go_wp2_with fail
                        go_roundg (l.length - (j + 1))
                        case measure => rw [HG2.out]; omega
                        case rel => exact ⟨j + 1, ⟨ua, un, uc⟩, rfl, by simp, rfl, by omega, HN⟩
                      · obtain rfl : j = l.length := by omega
                        have hk1 : ¬ (l.length : Int) < (l.length : Int) := by omega
                        have HBL : Hid (SliceIs btc 1 wr (.slice sa sn sc) (truC l 1)) := Lib.hid (by have := HI.out.1.slice btc_len; rwa [List.take_length] at this)
                        have HRR : Hid (R4 w wr (.slice ta tn tc) (putB l.length ++ numsB l 21 ++ trusB l 1)) := Lib.hid (HR.out.below HI.out.2 (Nat.le_refl _))
                        have HLEN : Hid ((putB l.length ++ numsB l 21 ++ trusB l 1).length + (boolsB (truC l 1)).length ≤ 140737488355328) := Lib.hid (by have h1 := numsB_len HWF.out (by omega) 21 (by omega); have h2 := boolsB_len (l := truC l 1) (by rw [truC_len]; omega); rw [truC_len] at h2; have h3 := putB_le10 (n := l.length) (by omega); have h4 := trusB_len (l := l) (by omega) 1; rw [List.length_append, List.length_append]; omega)
                        clear HI HR hlt hj
                        go_wp2_with fail
                        refine (cbools_any _ (truC l 1) _ HBL.out (by rw [truC_len]; omega)).mono ?_
                        rintro e w7 ⟨v7, rfl, hown7, b7⟩
                        obtain ⟨⟨ua, un, uc⟩, w8, hr8, h8, -⟩ := R4.app (HRR.out.below b7 (Nat.le_refl _)) (hown7.slice u8c_len) HLEN.out
                        rw [List.append_assoc, ← trusB_succ] at h8
                        have HN := Lib.hid h8
                        clear h8 hown7 b7 HBL HRR HLEN
                        go_wp2_with (at_builtin; refine Lib.wpList_append_run _ rfl _ _ _ _ rfl _ _ rfl rfl _ _ hr8 ?_)
                        go_roundg (2 - (1 + 1))
                        case measure => rw [HG.out]; omega
                        case rel => exact ⟨2, ⟨ua, un, uc⟩, rfl, rfl, rfl, by omega, HN⟩
                  · rw [show ((2 : Nat) : Int) = 2 from rfl]
                    clear hk hi hy0 hy1 hy2
                    have HO : Hid (R4 w w9 (.slice ta tn tc) (putB l.length ++ numsB l 21 ++ trusB l 2 ++ txtsB l 0)) := Lib.hid (by rw [show txtsB l 0 = [] from rfl, List.append_nil]; exact HR.out)
                    clear HR
                    go_wp2_with fail
                    go_loopg [97, 6] 3 (fun g kv ov wx => ∃ (k : Nat) (s : Sl), g = 3 - k ∧ kv = .int .i64 k ∧ ov = .slice s.a s.n s.cap ∧ k ≤ 3 ∧ Hid (R4 w wx (.slice s.a s.n s.cap) (putB l.length ++ numsB l 21 ++ trusB l 2 ++ txtsB l k)))
                    case atStart => exact ⟨0, ⟨ta, tn, tc⟩, rfl, rfl, rfl, by omega, HO⟩
                    case round =>
                      clear HO
                      obtain ⟨k, ⟨ta, tn, tc⟩, hg, rfl, rfl, hk, HR⟩ := hrel
                      dsimp only at HR ⊢
                      have HG := Lib.hid hg
                      clear hg
                      obtain ⟨w9, rfl⟩ : ∃ w9, w9 = wr := ⟨_, rfl⟩
                      obtain ⟨i0, hi, hy0, hy1, hy2⟩ := info_parts info_int
                      rcases (by omega : k = 0 ∨ k = 1 ∨ k = 2 ∨ k = 3) with rfl | rfl | rfl | rfl
                      · rw [show ((0 : Nat) : Int) = 0 from rfl]
                        clear hk
                        go_wp2_with fail
                        go_loopg [102, 19, 20] l.length (fun g kv nv av wx => ∃ (j : Nat) (s r : Sl), g = l.length - j ∧ kv = .int .i64 j ∧ nv = .slice s.a s.n s.cap ∧ av = .slice r.a r.n r.cap ∧ j ≤ l.length ∧ Hid (Own intc 1 3 w9.heap.size wx (.slice s.a s.n s.cap) (lenC (l.take j) 0) ∧ Own u8c 1 5 w9.heap.size wx (.slice r.a r.n r.cap) (catC (l.take j) 0) ∧ Below w9.heap.size w9 wx))
                        case atStart => exact ⟨0, ⟨none, 0, 0⟩, ⟨none, 0, 0⟩, rfl, rfl, rfl, rfl, Nat.zero_le _, Lib.hid ⟨Own.nil, Own.nil, Below.refl _ _⟩⟩
                        case round =>
                          obtain ⟨j, ⟨sa, sn, sc⟩, ⟨ra, rn, rc⟩, hg, rfl, rfl, rfl, hj, HI⟩ := hrel
                          dsimp only at HI ⊢
                          have HG2 := Lib.hid hg
                          clear hg
                          by_cases hlt : j < l.length
                          · have hk1 : (j : Int) < (l.length : Int) := by omega
                            obtain ⟨x, hx⟩ : ∃ x, l[j]? = some x := ⟨_, List.getElem?_eq_getElem hlt⟩
                            have hsl := HH.out.below (HR.out.bel.trans (HI.out.2.2.mono HR.out.bel.size))
                            obtain ⟨b0, o0, rfl⟩ := hsl.some8 (by rintro rfl; simp at hlt)
                            have HLD := Lib.hid (And.intro (sl_load hsl hx) (store_fresh8 wr x))
                            have HX := Lib.hid hx
                            have HOB := Lib.hid (OB.new wr x)
                            have HTX := Lib.hid (OpD.right_txt (HALL.out x (List.mem_of_getElem? hx)) 0)
                            have HCT : Hid ((catC (l.take j) 0).length ≤ 12800) := Lib.hid (by have := catC_len (l := l.take j) (fun y hy => HALL.out y (List.mem_of_mem_take hy)) 0; rw [List.length_take] at this; omega)
                            clear hsl hx
                            go_wp2_with (first | ((with_reducible_and_instances refine wpList_ranG (o := ⟨some 105, _, _, _, _, _⟩) (v := .agg x.cells.toArray) ?_ ?_ ?_); rfl; exact exec_load rfl rfl HLD.out.1) | (refine wpList_store_run (T := 68) rfl rfl rfl rfl HLD.out.2 ?_))
                            refine (texts_any wr.heap.size 0 _).mono ?_
                            rintro e w3 ⟨rfl, b3⟩
                            obtain ⟨T, hT⟩ : ∃ T, txt x 0 = T := ⟨_, rfl⟩
                            have c9 : w3.cell? ⟨wr.heap.size, 17, none⟩ = some (.string T) := by rw [← hT]; exact (HOB.out.below b3 (by simp)).cell rfl
                            have HI2 := Lib.hid ((HI.out.1.alloc (.cells x.cells.toArray 68)).below1 b3)
                            have HA2 := Lib.hid ((HI.out.2.1.alloc (.cells x.cells.toArray 68)).below1 b3)
                            have HB3 : Hid (Below w9.heap.size w9 w3) := Lib.hid ((HI.out.2.2.alloc HI.out.2.2.size _).trans (b3.mono (by have := HI.out.2.2.size; simp; omega)))
                            have HBD : Hid ((lenC (l.take j) 0).length + 1 ≤ maxLen ∧ ((lenC (l.take j) 0).length + 1) * 8 ≤ 140737488355328) := Lib.hid (by rw [lenC_len, List.length_take]; unfold maxLen; omega)
                            have hix := (run_index3 (some ⟨wr.heap.size, 17, none⟩) (some ⟨wr.heap.size, 18, none⟩) (some ⟨wr.heap.size, 19, none⟩) w3).1
                            have htl : T.size ≤ 64 := by rw [← hT]; exact HTX.out
                            have HT := Lib.hid hT
                            simp only [Nat.zero_add]
                            clear b3 HLD HOB HI hT
                            go_wp2_with (at_builtin; refine wpList_append_struct2 rfl _ _ _ rfl i0 _ 8 Tryz.underlying100 hi hy0 hy1 hy2 rfl (by omega) intc_len intc_one rfl (HI2.out.alloc _) (T.size : Int) w3.heap.size 1 rfl (int_new _ (T.size : Int)) HBD.out.1 HBD.out.2 (by have := HB3.out.size; simp; omega) ?_)
                            intro v' w4 hown4 hx4 hn4
                            rw [← HT.out, ← lenC_take HX.out] at hown4
                            obtain ⟨⟨ua, un, uc⟩, e4⟩ := hown4.sl
                            dsimp only at e4
                            subst e4
                            have HA4 := Lib.hid ((HA2.out.alloc (.cells #[.int .i64 (T.size : Int)] 3)).ext hx4 (fun b hb e => by
                              obtain ⟨c1, h1⟩ := (HA2.out.alloc (.cells #[.int .i64 (T.size : Int)] 3)).tag hb
                              obtain ⟨c2, h2⟩ := (HI2.out.alloc (.cells #[.int .i64 (T.size : Int)] 3)).tag e
                              rw [h1] at h2
                              cases h2))
                            have HB4 : Hid (Below w9.heap.size w9 w4) := Lib.hid (Ext.new (HB3.out.alloc HB3.out.size _) hx4 (fun i hi _ e => by have := (HI2.out.blk i e).1; omega) (by have := HB3.out.size; simp; omega))
                            obtain ⟨⟨qa, qn, qc⟩, w5x, hr5, hown5, hx5⟩ := app_string HA4.out T HB4.out.size (by have := HCT.out; omega)
                            rw [← HT.out, ← catC_take HX.out] at hown5
                            have HN : Hid (Own intc 1 3 w9.heap.size w5x (.slice ua un uc) (lenC (l.take (j + 1)) 0) ∧ Own u8c 1 5 w9.heap.size w5x (.slice qa qn qc) (catC (l.take (j + 1)) 0) ∧ Below w9.heap.size w9 w5x) := Lib.hid ⟨hown4.ext hx5 (fun b hb e => by
                              obtain ⟨c1, h1⟩ := hown4.tag hb
                              obtain ⟨c2, h2⟩ := HA4.out.tag e
                              rw [h1] at h2
                              cases h2), hown5, Ext.new HB4.out hx5 (fun i hi _ e => by have := (HA4.out.blk i e).1; omega) HB4.out.size⟩
                            clear hown4 hown5 hx4 hx5 hn4 c9 hix HI2 HB3 HA2 HA4 HB4
                            go_wp2_with (at_builtin; refine Lib.wpList_append_run _ rfl _ _ _ _ rfl _ _ rfl rfl _ _ hr5 ?_)
                            go_roundg (l.length - (j + 1))
                            case measure => rw [HG2.out]; omega
                            case rel => exact ⟨j + 1, ⟨ua, un, uc⟩, ⟨qa, qn, qc⟩, rfl, by simp, rfl, rfl, by omega, HN⟩
                          · obtain rfl : j = l.length := by omega
                            have hk1 : ¬ (l.length : Int) < (l.length : Int) := by omega
                            have HBL : Hid (SliceIs intc 1 wr (.slice sa sn sc) (lenC l 0) ∧ Own u8c 1 5 w9.heap.size wr (.slice ra rn rc) (catC l 0)) := Lib.hid (by have h1 := HI.out.1.slice intc_len; have h2 := HI.out.2.1; rw [List.take_length] at h1 h2; exact ⟨h1, h2⟩)
                            have HRR : Hid (R4 w wr (.slice ta tn tc) (putB l.length ++ numsB l 21 ++ trusB l 2 ++ txtsB l 0)) := Lib.hid (HR.out.below HI.out.2.2 (Nat.le_refl _))
                            have HLEN : Hid ((putB l.length ++ numsB l 21 ++ trusB l 2 ++ txtsB l 0).length + (runsB (lenC l 0)).length + (catC l 0).length ≤ 140737488355328) := Lib.hid (by have h1 := numsB_len HWF.out (by omega) 21 (by omega); have h2 := trusB_len (l := l) (by omega) 2; have h3 := putB_le10 (n := l.length) (by omega); have h4 := txtsB_len HALL.out (by omega) 0; have h5 := lenB_len HALL.out (by omega) 0; have h6 := catC_len HALL.out 0; rw [List.length_append, List.length_append, List.length_append]; omega)
                            have HAP : Hid (∀ b, (Value.slice ra rn rc).ownBlock = some b → (Value.slice ta tn tc).ownBlock = some b → False) := Lib.hid (fun b h1 h2 => by have h3 := (HBL.out.2.blk b h1).1; have h4 := (HR.out.own.blk b h2).2; omega)
                            clear HI HR hlt hj
                            go_wp2_with fail
                            refine (cruns_any _ (lenC l 0) _ HBL.out.1 (by rw [lenC_len]; omega) (lenC_in HALL.out 0)).mono ?_
                            rintro e w7 ⟨v7, rfl, hown7, b7⟩
                            obtain ⟨⟨ua, un, uc⟩, w8, hr8, h8, hx8⟩ := R4.app (HRR.out.below b7 (Nat.le_refl _)) (hown7.slice u8c_len) (by have := HLEN.out; omega)
                            obtain ⟨⟨za, zn, zc⟩, w10, hr10, h10, -⟩ := R4.app h8 (((HBL.out.2.below1 b7).ext hx8 (fun b hb e => HAP.out b hb e)).slice u8c_len) (by have := HLEN.out; rw [List.length_append]; omega)
                            rw [List.append_assoc, List.append_assoc, ← txtsB_succ] at h10
                            have HN := Lib.hid h10
                            clear h8 h10 hx8 hown7 b7 HBL HRR HLEN HAP
                            go_wp2_with (at_builtin; first | (refine Lib.wpList_append_run _ rfl _ _ _ _ rfl _ _ rfl rfl _ _ hr8 ?_) | (refine Lib.wpList_append_run _ rfl _ _ _ _ rfl _ _ rfl rfl _ _ hr10 ?_))
                            go_roundg (3 - (0 + 1))
                            case measure => rw [HG.out]; omega
                            case rel => exact ⟨1, ⟨za, zn, zc⟩, rfl, rfl, rfl, by omega, HN⟩
                      · rw [show ((1 : Nat) : Int) = 1 from rfl]
                        clear hk
                        go_wp2_with fail
                        go_loopg [102, 19, 20] l.length (fun g kv nv av wx => ∃ (j : Nat) (s r : Sl), g = l.length - j ∧ kv = .int .i64 j ∧ nv = .slice s.a s.n s.cap ∧ av = .slice r.a r.n r.cap ∧ j ≤ l.length ∧ Hid (Own intc 1 3 w9.heap.size wx (.slice s.a s.n s.cap) (lenC (l.take j) 1) ∧ Own u8c 1 5 w9.heap.size wx (.slice r.a r.n r.cap) (catC (l.take j) 1) ∧ Below w9.heap.size w9 wx))
                        case atStart => exact ⟨0, ⟨none, 0, 0⟩, ⟨none, 0, 0⟩, rfl, rfl, rfl, rfl, Nat.zero_le _, Lib.hid ⟨Own.nil, Own.nil, Below.refl _ _⟩⟩
                        case round =>
                          obtain ⟨j, ⟨sa, sn, sc⟩, ⟨ra, rn, rc⟩, hg, rfl, rfl, rfl, hj, HI⟩ := hrel
                          dsimp only at HI ⊢
                          have HG2 := Lib.hid hg
                          clear hg
                          by_cases hlt : j < l.length
                          · have hk1 : (j : Int) < (l.length : Int) := by omega
                            obtain ⟨x, hx⟩ : ∃ x, l[j]? = some x := ⟨_, List.getElem?_eq_getElem hlt⟩
                            have hsl := HH.out.below (HR.out.bel.trans (HI.out.2.2.mono HR.out.bel.size))
                            obtain ⟨b0, o0, rfl⟩ := hsl.some8 (by rintro rfl; simp at hlt)
                            have HLD := Lib.hid (And.intro (sl_load hsl hx) (store_fresh8 wr x))
                            have HX := Lib.hid hx
                            have HOB := Lib.hid (OB.new wr x)
                            have HTX := Lib.hid (OpD.right_txt (HALL.out x (List.mem_of_getElem? hx)) 1)
                            have HCT : Hid ((catC (l.take j) 1).length ≤ 12800) := Lib.hid (by have := catC_len (l := l.take j) (fun y hy => HALL.out y (List.mem_of_mem_take hy)) 1; rw [List.length_take] at this; omega)
                            clear hsl hx
                            go_wp2_with (first | ((with_reducible_and_instances refine wpList_ranG (o := ⟨some 105, _, _, _, _, _⟩) (v := .agg x.cells.toArray) ?_ ?_ ?_); rfl; exact exec_load rfl rfl HLD.out.1) | (refine wpList_store_run (T := 68) rfl rfl rfl rfl HLD.out.2 ?_))
                            refine (texts_any wr.heap.size 0 _).mono ?_
                            rintro e w3 ⟨rfl, b3⟩
                            obtain ⟨T, hT⟩ : ∃ T, txt x 1 = T := ⟨_, rfl⟩
                            have c9 : w3.cell? ⟨wr.heap.size, 18, none⟩ = some (.string T) := by rw [← hT]; exact (HOB.out.below b3 (by simp)).cell rfl
                            have HI2 := Lib.hid ((HI.out.1.alloc (.cells x.cells.toArray 68)).below1 b3)
                            have HA2 := Lib.hid ((HI.out.2.1.alloc (.cells x.cells.toArray 68)).below1 b3)
                            have HB3 : Hid (Below w9.heap.size w9 w3) := Lib.hid ((HI.out.2.2.alloc HI.out.2.2.size _).trans (b3.mono (by have := HI.out.2.2.size; simp; omega)))
                            have HBD : Hid ((lenC (l.take j) 1).length + 1 ≤ maxLen ∧ ((lenC (l.take j) 1).length + 1) * 8 ≤ 140737488355328) := Lib.hid (by rw [lenC_len, List.length_take]; unfold maxLen; omega)
                            have hix := (run_index3 (some ⟨wr.heap.size, 17, none⟩) (some ⟨wr.heap.size, 18, none⟩) (some ⟨wr.heap.size, 19, none⟩) w3).2.1
                            have htl : T.size ≤ 64 := by rw [← hT]; exact HTX.out
                            have HT := Lib.hid hT
                            simp only [Nat.zero_add]
                            clear b3 HLD HOB HI hT
                            go_wp2_with (at_builtin; refine wpList_append_struct2 rfl _ _ _ rfl i0 _ 8 Tryz.underlying100 hi hy0 hy1 hy2 rfl (by omega) intc_len intc_one rfl (HI2.out.alloc _) (T.size : Int) w3.heap.size 1 rfl (int_new _ (T.size : Int)) HBD.out.1 HBD.out.2 (by have := HB3.out.size; simp; omega) ?_)
                            intro v' w4 hown4 hx4 hn4
                            rw [← HT.out, ← lenC_take HX.out] at hown4
                            obtain ⟨⟨ua, un, uc⟩, e4⟩ := hown4.sl
                            dsimp only at e4
                            subst e4
                            have HA4 := Lib.hid ((HA2.out.alloc (.cells #[.int .i64 (T.size : Int)] 3)).ext hx4 (fun b hb e => by
                              obtain ⟨c1, h1⟩ := (HA2.out.alloc (.cells #[.int .i64 (T.size : Int)] 3)).tag hb
                              obtain ⟨c2, h2⟩ := (HI2.out.alloc (.cells #[.int .i64 (T.size : Int)] 3)).tag e
                              rw [h1] at h2
                              cases h2))
                            have HB4 : Hid (Below w9.heap.size w9 w4) := Lib.hid (Ext.new (HB3.out.alloc HB3.out.size _) hx4 (fun i hi _ e => by have := (HI2.out.blk i e).1; omega) (by have := HB3.out.size; simp; omega))
                            obtain ⟨⟨qa, qn, qc⟩, w5x, hr5, hown5, hx5⟩ := app_string HA4.out T HB4.out.size (by have := HCT.out; omega)
                            rw [← HT.out, ← catC_take HX.out] at hown5
                            have HN : Hid (Own intc 1 3 w9.heap.size w5x (.slice ua un uc) (lenC (l.take (j + 1)) 1) ∧ Own u8c 1 5 w9.heap.size w5x (.slice qa qn qc) (catC (l.take (j + 1)) 1) ∧ Below w9.heap.size w9 w5x) := Lib.hid ⟨hown4.ext hx5 (fun b hb e => by
                              obtain ⟨c1, h1⟩ := hown4.tag hb
                              obtain ⟨c2, h2⟩ := HA4.out.tag e
                              rw [h1] at h2
                              cases h2), hown5, Ext.new HB4.out hx5 (fun i hi _ e => by have := (HA4.out.blk i e).1; omega) HB4.out.size⟩
                            clear hown4 hown5 hx4 hx5 hn4 c9 hix HI2 HB3 HA2 HA4 HB4
                            go_wp2_with (at_builtin; refine Lib.wpList_append_run _ rfl _ _ _ _ rfl _ _ rfl rfl _ _ hr5 ?_)
                            go_roundg (l.length - (j + 1))
                            case measure => rw [HG2.out]; omega
                            case rel => exact ⟨j + 1, ⟨ua, un, uc⟩, ⟨qa, qn, qc⟩, rfl, by simp, rfl, rfl, by omega, HN⟩
                          · obtain rfl : j = l.length := by omega
                            have hk1 : ¬ (l.length : Int) < (l.length : Int) := by omega
                            have HBL : Hid (SliceIs intc 1 wr (.slice sa sn sc) (lenC l 1) ∧ Own u8c 1 5 w9.heap.size wr (.slice ra rn rc) (catC l 1)) := Lib.hid (by have h1 := HI.out.1.slice intc_len; have h2 := HI.out.2.1; rw [List.take_length] at h1 h2; exact ⟨h1, h2⟩)
                            have HRR : Hid (R4 w wr (.slice ta tn tc) (putB l.length ++ numsB l 21 ++ trusB l 2 ++ txtsB l 1)) := Lib.hid (HR.out.below HI.out.2.2 (Nat.le_refl _))
                            have HLEN : Hid ((putB l.length ++ numsB l 21 ++ trusB l 2 ++ txtsB l 1).length + (runsB (lenC l 1)).length + (catC l 1).length ≤ 140737488355328) := Lib.hid (by have h1 := numsB_len HWF.out (by omega) 21 (by omega); have h2 := trusB_len (l := l) (by omega) 2; have h3 := putB_le10 (n := l.length) (by omega); have h4 := txtsB_len HALL.out (by omega) 1; have h5 := lenB_len HALL.out (by omega) 1; have h6 := catC_len HALL.out 1; rw [List.length_append, List.length_append, List.length_append]; omega)
                            have HAP : Hid (∀ b, (Value.slice ra rn rc).ownBlock = some b → (Value.slice ta tn tc).ownBlock = some b → False) := Lib.hid (fun b h1 h2 => by have h3 := (HBL.out.2.blk b h1).1; have h4 := (HR.out.own.blk b h2).2; omega)
                            clear HI HR hlt hj
                            go_wp2_with fail
                            refine (cruns_any _ (lenC l 1) _ HBL.out.1 (by rw [lenC_len]; omega) (lenC_in HALL.out 1)).mono ?_
                            rintro e w7 ⟨v7, rfl, hown7, b7⟩
                            obtain ⟨⟨ua, un, uc⟩, w8, hr8, h8, hx8⟩ := R4.app (HRR.out.below b7 (Nat.le_refl _)) (hown7.slice u8c_len) (by have := HLEN.out; omega)
                            obtain ⟨⟨za, zn, zc⟩, w10, hr10, h10, -⟩ := R4.app h8 (((HBL.out.2.below1 b7).ext hx8 (fun b hb e => HAP.out b hb e)).slice u8c_len) (by have := HLEN.out; rw [List.length_append]; omega)
                            rw [List.append_assoc, List.append_assoc, ← txtsB_succ] at h10
                            have HN := Lib.hid h10
                            clear h8 h10 hx8 hown7 b7 HBL HRR HLEN HAP
                            go_wp2_with (at_builtin; first | (refine Lib.wpList_append_run _ rfl _ _ _ _ rfl _ _ rfl rfl _ _ hr8 ?_) | (refine Lib.wpList_append_run _ rfl _ _ _ _ rfl _ _ rfl rfl _ _ hr10 ?_))
                            go_roundg (3 - (1 + 1))
                            case measure => rw [HG.out]; omega
                            case rel => exact ⟨2, ⟨za, zn, zc⟩, rfl, rfl, rfl, by omega, HN⟩
                      · rw [show ((2 : Nat) : Int) = 2 from rfl]
                        clear hk
                        go_wp2_with fail
                        go_loopg [102, 19, 20] l.length (fun g kv nv av wx => ∃ (j : Nat) (s r : Sl), g = l.length - j ∧ kv = .int .i64 j ∧ nv = .slice s.a s.n s.cap ∧ av = .slice r.a r.n r.cap ∧ j ≤ l.length ∧ Hid (Own intc 1 3 w9.heap.size wx (.slice s.a s.n s.cap) (lenC (l.take j) 2) ∧ Own u8c 1 5 w9.heap.size wx (.slice r.a r.n r.cap) (catC (l.take j) 2) ∧ Below w9.heap.size w9 wx))
                        case atStart => exact ⟨0, ⟨none, 0, 0⟩, ⟨none, 0, 0⟩, rfl, rfl, rfl, rfl, Nat.zero_le _, Lib.hid ⟨Own.nil, Own.nil, Below.refl _ _⟩⟩
                        case round =>
                          obtain ⟨j, ⟨sa, sn, sc⟩, ⟨ra, rn, rc⟩, hg, rfl, rfl, rfl, hj, HI⟩ := hrel
                          dsimp only at HI ⊢
                          have HG2 := Lib.hid hg
                          clear hg
                          by_cases hlt : j < l.length
                          · have hk1 : (j : Int) < (l.length : Int) := by omega
                            obtain ⟨x, hx⟩ : ∃ x, l[j]? = some x := ⟨_, List.getElem?_eq_getElem hlt⟩
                            have hsl := HH.out.below (HR.out.bel.trans (HI.out.2.2.mono HR.out.bel.size))
                            obtain ⟨b0, o0, rfl⟩ := hsl.some8 (by rintro rfl; simp at hlt)
                            have HLD := Lib.hid (And.intro (sl_load hsl hx) (store_fresh8 wr x))
                            have HX := Lib.hid hx
                            have HOB := Lib.hid (OB.new wr x)
                            have HTX := Lib.hid (OpD.right_txt (HALL.out x (List.mem_of_getElem? hx)) 2)
                            have HCT : Hid ((catC (l.take j) 2).length ≤ 12800) := Lib.hid (by have := catC_len (l := l.take j) (fun y hy => HALL.out y (List.mem_of_mem_take hy)) 2; rw [List.length_take] at this; omega)
                            clear hsl hx
                            go_wp2_with (first | ((with_reducible_and_instances refine wpList_ranG (o := ⟨some 105, _, _, _, _, _⟩) (v := .agg x.cells.toArray) ?_ ?_ ?_); rfl; exact exec_load rfl rfl HLD.out.1) | (refine wpList_store_run (T := 68) rfl rfl rfl rfl HLD.out.2 ?_))
                            refine (texts_any wr.heap.size 0 _).mono ?_
                            rintro e w3 ⟨rfl, b3⟩
                            obtain ⟨T, hT⟩ : ∃ T, txt x 2 = T := ⟨_, rfl⟩
                            have c9 : w3.cell? ⟨wr.heap.size, 19, none⟩ = some (.string T) := by rw [← hT]; exact (HOB.out.below b3 (by simp)).cell rfl
                            have HI2 := Lib.hid ((HI.out.1.alloc (.cells x.cells.toArray 68)).below1 b3)
                            have HA2 := Lib.hid ((HI.out.2.1.alloc (.cells x.cells.toArray 68)).below1 b3)
                            have HB3 : Hid (Below w9.heap.size w9 w3) := Lib.hid ((HI.out.2.2.alloc HI.out.2.2.size _).trans (b3.mono (by have := HI.out.2.2.size; simp; omega)))
                            have HBD : Hid ((lenC (l.take j) 2).length + 1 ≤ maxLen ∧ ((lenC (l.take j) 2).length + 1) * 8 ≤ 140737488355328) := Lib.hid (by rw [lenC_len, List.length_take]; unfold maxLen; omega)
                            have hix := (run_index3 (some ⟨wr.heap.size, 17, none⟩) (some ⟨wr.heap.size, 18, none⟩) (some ⟨wr.heap.size, 19, none⟩) w3).2.2
                            have htl : T.size ≤ 64 := by rw [← hT]; exact HTX.out
                            have HT := Lib.hid hT
                            simp only [Nat.zero_add]
                            clear b3 HLD HOB HI hT
                            go_wp2_with (at_builtin; refine wpList_append_struct2 rfl _ _ _ rfl i0 _ 8 Tryz.underlying100 hi hy0 hy1 hy2 rfl (by omega) intc_len intc_one rfl (HI2.out.alloc _) (T.size : Int) w3.heap.size 1 rfl (int_new _ (T.size : Int)) HBD.out.1 HBD.out.2 (by have := HB3.out.size; simp; omega) ?_)
                            intro v' w4 hown4 hx4 hn4
                            rw [← HT.out, ← lenC_take HX.out] at hown4
                            obtain ⟨⟨ua, un, uc⟩, e4⟩ := hown4.sl
                            dsimp only at e4
                            subst e4
                            have HA4 := Lib.hid ((HA2.out.alloc (.cells #[.int .i64 (T.size : Int)] 3)).ext hx4 (fun b hb e => by
                              obtain ⟨c1, h1⟩ := (HA2.out.alloc (.cells #[.int .i64 (T.size : Int)] 3)).tag hb
                              obtain ⟨c2, h2⟩ := (HI2.out.alloc (.cells #[.int .i64 (T.size : Int)] 3)).tag e
                              rw [h1] at h2
                              cases h2))
                            have HB4 : Hid (Below w9.heap.size w9 w4) := Lib.hid (Ext.new (HB3.out.alloc HB3.out.size _) hx4 (fun i hi _ e => by have := (HI2.out.blk i e).1; omega) (by have := HB3.out.size; simp; omega))
                            obtain ⟨⟨qa, qn, qc⟩, w5x, hr5, hown5, hx5⟩ := app_string HA4.out T HB4.out.size (by have := HCT.out; omega)
                            rw [← HT.out, ← catC_take HX.out] at hown5
                            have HN : Hid (Own intc 1 3 w9.heap.size w5x (.slice ua un uc) (lenC (l.take (j + 1)) 2) ∧ Own u8c 1 5 w9.heap.size w5x (.slice qa qn qc) (catC (l.take (j + 1)) 2) ∧ Below w9.heap.size w9 w5x) := Lib.hid ⟨hown4.ext hx5 (fun b hb e => by
                              obtain ⟨c1, h1⟩ := hown4.tag hb
                              obtain ⟨c2, h2⟩ := HA4.out.tag e
                              rw [h1] at h2
                              cases h2), hown5, Ext.new HB4.out hx5 (fun i hi _ e => by have := (HA4.out.blk i e).1; omega) HB4.out.size⟩
                            clear hown4 hown5 hx4 hx5 hn4 c9 hix HI2 HB3 HA2 HA4 HB4
                            go_wp2_with (at_builtin; refine Lib.wpList_append_run _ rfl _ _ _ _ rfl _ _ rfl rfl _ _ hr5 ?_)
                            go_roundg (l.length - (j + 1))
                            case measure => rw [HG2.out]; omega
                            case rel => exact ⟨j + 1, ⟨ua, un, uc⟩, ⟨qa, qn, qc⟩, rfl, by simp, rfl, rfl, by omega, HN⟩
                          · obtain rfl : j = l.length := by omega
                            have hk1 : ¬ (l.length : Int) < (l.length : Int) := by omega
                            have HBL : Hid (SliceIs intc 1 wr (.slice sa sn sc) (lenC l 2) ∧ Own u8c 1 5 w9.heap.size wr (.slice ra rn rc) (catC l 2)) := Lib.hid (by have h1 := HI.out.1.slice intc_len; have h2 := HI.out.2.1; rw [List.take_length] at h1 h2; exact ⟨h1, h2⟩)
                            have HRR : Hid (R4 w wr (.slice ta tn tc) (putB l.length ++ numsB l 21 ++ trusB l 2 ++ txtsB l 2)) := Lib.hid (HR.out.below HI.out.2.2 (Nat.le_refl _))
                            have HLEN : Hid ((putB l.length ++ numsB l 21 ++ trusB l 2 ++ txtsB l 2).length + (runsB (lenC l 2)).length + (catC l 2).length ≤ 140737488355328) := Lib.hid (by have h1 := numsB_len HWF.out (by omega) 21 (by omega); have h2 := trusB_len (l := l) (by omega) 2; have h3 := putB_le10 (n := l.length) (by omega); have h4 := txtsB_len HALL.out (by omega) 2; have h5 := lenB_len HALL.out (by omega) 2; have h6 := catC_len HALL.out 2; rw [List.length_append, List.length_append, List.length_append]; omega)
                            have HAP : Hid (∀ b, (Value.slice ra rn rc).ownBlock = some b → (Value.slice ta tn tc).ownBlock = some b → False) := Lib.hid (fun b h1 h2 => by have h3 := (HBL.out.2.blk b h1).1; have h4 := (HR.out.own.blk b h2).2; omega)
                            clear HI HR hlt hj
                            go_wp2_with fail
                            refine (cruns_any _ (lenC l 2) _ HBL.out.1 (by rw [lenC_len]; omega) (lenC_in HALL.out 2)).mono ?_
                            rintro e w7 ⟨v7, rfl, hown7, b7⟩
                            obtain ⟨⟨ua, un, uc⟩, w8, hr8, h8, hx8⟩ := R4.app (HRR.out.below b7 (Nat.le_refl _)) (hown7.slice u8c_len) (by have := HLEN.out; omega)
                            obtain ⟨⟨za, zn, zc⟩, w10, hr10, h10, -⟩ := R4.app h8 (((HBL.out.2.below1 b7).ext hx8 (fun b hb e => HAP.out b hb e)).slice u8c_len) (by have := HLEN.out; rw [List.length_append]; omega)
                            rw [List.append_assoc, List.append_assoc, ← txtsB_succ] at h10
                            have HN := Lib.hid h10
                            clear h8 h10 hx8 hown7 b7 HBL HRR HLEN HAP
                            go_wp2_with (at_builtin; first | (refine Lib.wpList_append_run _ rfl _ _ _ _ rfl _ _ rfl rfl _ _ hr8 ?_) | (refine Lib.wpList_append_run _ rfl _ _ _ _ rfl _ _ rfl rfl _ _ hr10 ?_))
                            go_roundg (3 - (2 + 1))
                            case measure => rw [HG.out]; omega
                            case rel => exact ⟨3, ⟨za, zn, zc⟩, rfl, rfl, rfl, by omega, HN⟩
                      · rw [show ((3 : Nat) : Int) = 3 from rfl]
                        clear hk hi hy0 hy1 hy2
                        go_wp2_with fail
                        go_ret2
                        exact .inl ⟨by omega, HALL.out, _, rfl, HR.out.own, HR.out.bel⟩
end Go.Proofs.YtgmdimbiipemhaaGreatDoor
namespace Go.Proofs.YtgmdimbiipemhaaGreatDoor
open Go.RowKit Go.Deep
set_option linter.unusedSimpArgs false
set_option linter.unusedVariables false
theorem info_op : (Tryz.prog.info? 68).map (fun i => (i.zero, i.size, i.bytes)) = some (some (.agg zOp.cells.toArray), 26, 232) := by kernel_rfl
theorem made_ops (n : Nat) : (madeCells zOp.cells.toArray (n * 26)).toList = (List.replicate n zOp).flatMap OpD.cells := by
  apply List.ext_getElem?
  intro q
  by_cases hq : q < n * 26
  · have hdm : q / 26 * 26 + q % 26 = q := by omega
    have hi : (List.replicate n zOp)[q / 26]? = some zOp := List.getElem?_replicate_of_lt (by omega)
    obtain ⟨u, hu⟩ : ∃ u, zOp.cells[q % 26]? = some u := ⟨_, List.getElem?_eq_getElem (by rw [OpD.len]; omega)⟩
    have h5 := getElem?_flatMap_k OpD.len _ _ _ hi _ _ hu
    rw [hdm] at h5
    rw [h5]
    unfold madeCells
    rw [Array.getElem?_toList, Array.getElem?_map, Array.getElem?_range, if_pos hq, Option.map_some, List.size_toArray, OpD.len, getElem!_def, List.getElem?_toArray, hu]
  · rw [List.getElem?_eq_none (by simp [madeCells]; omega), List.getElem?_eq_none (by rw [length_flatMap_k OpD.len, List.length_replicate]; omega)]
theorem Own.made {base n : Nat} {W : World} (hb : base ≤ W.heap.size) (hn : n ≤ 200) : Own OpD.cells 26 68 base (W.alloc (.cells (madeCells zOp.cells.toArray (n * 26)) 68)) (.slice (some ⟨W.heap.size, 0, none⟩) n n) (List.replicate n zOp) := by
  have hs : (madeCells zOp.cells.toArray (n * 26)).size = n * 26 := by simp [madeCells]
  refine ⟨by rw [length_flatMap_k OpD.len], .inr ⟨W.heap.size, n, madeCells zOp.cells.toArray (n * 26), by rw [List.length_replicate], hb, heap_new8 W _, by rw [List.length_replicate]; exact Nat.le_refl _, by unfold maxLen; omega, hs, ?_⟩⟩
  rw [List.length_replicate, List.take_of_length_le (by rw [Array.length_toList, hs]; exact Nat.le_refl _)]
  exact made_ops n
theorem TKS.made1 {w0 : World} {T n : Nat} {W : World} {tb tb' : Value} {b r : List UInt8} (h : TKS w0 T W tb b (.slice none 0 0) []) (hr : SliceIs u8c 1 w0 tb' r) (hn : n ≤ 200) :
    TKS w0 T (((W.setCell ⟨T, 0, none⟩ tb').setCell ⟨T, 1, none⟩ (.slice (some ⟨W.heap.size, 0, none⟩) n n)).alloc (.cells (madeCells zOp.cells.toArray (n * 26)) 68)).drew tb' r (.slice (some ⟨W.heap.size, 0, none⟩) n n) (List.replicate n zOp) := by
  have hTl := (Array.getElem?_eq_some_iff.1 h.cell).1
  have hx2 : Ext (· = T) W (W.setCell ⟨T, 0, none⟩ tb') := (Ext.refl (· = T) W).setCell (p := ⟨T, 0, none⟩) (.inr rfl) _
  have hc2 : (W.setCell ⟨T, 0, none⟩ tb').heap[T]? = some (.cells #[tb', .slice none 0 0] 90 (0, 0)) := by rw [heap_setCell_same _ T 0 _ _ _ h.cell]; rfl
  have hx3 : Ext (· = T) (W.setCell ⟨T, 0, none⟩ tb') ((W.setCell ⟨T, 0, none⟩ tb').setCell ⟨T, 1, none⟩ (.slice (some ⟨W.heap.size, 0, none⟩) n n)) := (Ext.refl (· = T) _).setCell (p := ⟨T, 1, none⟩) (.inr rfl) _
  have hc3 : ((W.setCell ⟨T, 0, none⟩ tb').setCell ⟨T, 1, none⟩ (.slice (some ⟨W.heap.size, 0, none⟩) n n)).heap[T]? = some (.cells #[tb', (.slice (some ⟨W.heap.size, 0, none⟩) n n)] 90 (0, 0)) := by rw [heap_setCell_same _ T 1 _ _ _ hc2]; rfl
  have hz : ((W.setCell ⟨T, 0, none⟩ tb').setCell ⟨T, 1, none⟩ (.slice (some ⟨W.heap.size, 0, none⟩) n n)).heap.size = W.heap.size := by rw [World.size_setCell, World.size_setCell]
  have hx : Ext (· = T) W ((W.setCell ⟨T, 0, none⟩ tb').setCell ⟨T, 1, none⟩ (.slice (some ⟨W.heap.size, 0, none⟩) n n)) := hx2.andThen hx3 (fun i hi e => e)
  generalize (W.setCell ⟨T, 0, none⟩ tb').setCell ⟨T, 1, none⟩ (.slice (some ⟨W.heap.size, 0, none⟩) n n) = W2 at hc3 hz hx ⊢
  have ho := Own.made (W := W2) (base := w0.heap.size) (n := n) (by rw [hz]; exact h.bel.size) hn
  rw [hz] at ho
  have hx4 : Ext (fun _ => False) W2 (W2.alloc (.cells (madeCells zOp.cells.toArray (n * 26)) 68)).drew := ((Ext.refl _ _).alloc _).drew
  have hall : Ext (· = T) W (W2.alloc (.cells (madeCells zOp.cells.toArray (n * 26)) 68)).drew := hx.andThen hx4 (fun i hi e => e.elim)
  exact ⟨(hx4.block T (by omega) id).trans hc3, hr, ho.below1 (Below.refl _ _).drew, Ext.new h.bel hall (fun k hk _ e => by have := h.new; omega) h.bel.size, h.new, h.fltKeep hall (fun e => by omega)⟩
def AllPost (w0 : World) (T : Nat) (b : List UInt8) (e : Ending) (w' : World) : Prop :=
  (∃ l tb' tl, decB b = some l ∧ e = .returned .nilIface ∧ TKS w0 T w' tb' [] tl l) ∨ (decB b = none ∧ (∃ s m, e = .returned (atErr s m)) ∧ Kp w0 T w')
set_option maxRecDepth 20000 in
set_option maxHeartbeats 4000000 in
theorem takeall_any (w0 : World) (T : Nat) (w : World) (tb : Value) (b : List UInt8) (h : TKS w0 T w tb b (.slice none 0 0) []) : Calls Tryz.prog 53 #[.pointer (some ⟨T, 0, none⟩)] w fun e w' => AllPost w0 T b e w' := by
  obtain ⟨ta, tcap, rfl, htc, htm, -⟩ := id h.byt
  unfold maxLen at htm
  have hc0 := h.cell
  have HT := Lib.hid h
  clear h
  have cT : w.cell? ⟨T, 0, none⟩ = some (.slice ta b.length tcap) := by simp [World.cell?, hc0]
  cases hv : takeV b with
  | none =>
    have hR := takeR_none (takeV_none.1 hv)
    have HBAD := Lib.hid (decB_none1 hv)
    clear hc0 hv
    go_enter Tryz.func53, Tryz.ntmps53
    go_wp2_with fail
    refine (take_any _ b _ HT.out.bytes).mono ?_
    rintro e w' ⟨rfl, rfl⟩
    rw [hR]
    clear hR
    go_wp2_with fail
    go_ret
    exact Or.inr ⟨HBAD.out, ⟨_, _, rfl⟩, HT.out.kp⟩
  | some n =>
    have hR := takeR_some (takeV_some.1 hv)
    have HV := Lib.hid hv
    have hpb : (putB n).length ≤ b.length := (takeV_some.1 hv).2.length_le
    clear hv
    by_cases hbig : 200 < n
    · have hb1 : (200 : Int) < (n : Int) := by omega
      have HBAD := Lib.hid (decB_none2 HV.out hbig)
      clear hc0
      go_enter Tryz.func53, Tryz.ntmps53
      go_wp2_with fail
      refine (take_any _ b _ HT.out.bytes).mono ?_
      rintro e w' ⟨rfl, rfl⟩
      rw [hR]
      clear hR
      go_wp2_with fail
      go_ret
      exact Or.inr ⟨HBAD.out, ⟨_, _, rfl⟩, HT.out.kp⟩
    · have hb1 : ¬ (200 : Int) < (n : Int) := by omega
      obtain ⟨a1, c1, hsl, hS1, -⟩ := slice_from (P := Tryz.prog) (ea := u8c) Tryz.underlying22 size_u8 ta b.length tcap (putB n).length htc hpb
      have HBY := Lib.hid (hS1 w0 b rfl HT.out.byt)
      obtain ⟨i0, hi, hy0, hy1, hy2⟩ := info_parts info_op
      have hmk : ∀ W : World, (Instr.makeSlice 24 (.int .u64 (n : Int)) (.int .u64 (n : Int))).run Tryz.prog W = .ok (.slice (some ⟨W.heap.size, 0, none⟩) n n) (W.alloc (.cells (madeCells zOp.cells.toArray (n * 26)) 68)) := fun W => by
        have h := run_make (P := Tryz.prog) W 24 68 i0 _ Tryz.underlying24 hi hy0 .u64 .u64 (n : Int) (n : Int) (by omega) (by omega) (by rw [hy2]; omega) (by omega)
        rw [hy1, Int.toNat_natCast] at h
        exact h
      have cT1 : w.cell? ⟨T, 1, none⟩ = some (.slice none 0 0) := by simp [World.cell?, hc0]
      have fT : w.frozen? ⟨T, 0, none⟩ = false := by simp [World.frozen?, hc0]
      have fT1 : w.frozen? ⟨T, 1, none⟩ = false := by simp [World.frozen?, hc0]
      have hTl : T < w.heap.size := (Array.getElem?_eq_some_iff.1 hc0).1
      clear hS1 hc0 hi hy0 hy1 hy2
      go_enter Tryz.func53, Tryz.ntmps53
      go_wp2_with fail
      refine (take_any _ b _ HT.out.bytes).mono ?_
      rintro e w' ⟨rfl, rfl⟩
      rw [hR]
      clear hR
      go_upto_region 4 with fail
      go_region
      have HN : Hid (TKS w0 T (((w.setCell ⟨T, 0, none⟩ (.slice a1 (b.length - (putB n).length) c1)).setCell ⟨T, 1, none⟩ (.slice (some ⟨w.heap.size, 0, none⟩) n n)).alloc (.cells (madeCells zOp.cells.toArray (n * 26)) 68)).drew (.slice a1 (b.length - (putB n).length) c1) (b.drop (putB n).length) (.slice (some ⟨w.heap.size, 0, none⟩) n n) (List.replicate n zOp)) := Lib.hid (HT.out.made1 HBY.out (by omega))
      clear cT cT1 fT fT1 hTl HBY HT htc htm
      generalize (((w.setCell ⟨T, 0, none⟩ (.slice a1 (b.length - (putB n).length) c1)).setCell ⟨T, 1, none⟩ (.slice (some ⟨w.heap.size, 0, none⟩) n n)).alloc (.cells (madeCells zOp.cells.toArray (n * 26)) 68)).drew = W4 at HN ⊢
      generalize w.heap.size = g at HN ⊢
      go_wp2_with fail
      refine (numbers_any w0 T _ _ _ _ _ HN.out (by rw [List.length_replicate]; omega)).mono ?_
      rintro e w5 (⟨L, r2, tb2, hdec, rfl, hk5⟩ | ⟨hdec, ⟨s, m, rfl⟩, hb5⟩)
      rotate_left
      · rw [List.length_replicate] at hdec
        have HBAD := Lib.hid (decB_none3 HV.out hbig hdec)
        have HBL := Lib.hid hb5
        clear hdec hb5 HN
        unfold atErr
        go_wp2_with fail
        go_ret
        exact Or.inr ⟨HBAD.out, ⟨s, m, rfl⟩, HBL.out⟩
      rw [List.length_replicate] at hdec hk5
      have HC := Lib.hid hdec
      have HLN : Hid ((mixN L n (List.replicate n zOp)).length = n) := Lib.hid (by rw [mixN_len, List.length_replicate])
      have HN5 := Lib.hid hk5
      clear hdec hk5 HN
      go_wp2_with fail
      refine (taketruths_any w0 T _ _ _ _ _ HN5.out (by rw [HLN.out]; omega)).mono ?_
      rintro e w6 (⟨l3, r3, tb3, hdec, rfl, hk6⟩ | ⟨hdec, ⟨s, m, rfl⟩, hb6⟩)
      rotate_left
      · rw [HLN.out] at hdec
        have HBAD := Lib.hid (decB_none4 HV.out hbig HC.out hdec)
        have HBL := Lib.hid hb6
        clear hdec hb6 HN5
        unfold atErr
        go_wp2_with fail
        go_ret
        exact Or.inr ⟨HBAD.out, ⟨s, m, rfl⟩, HBL.out⟩
      rw [HLN.out] at hdec
      have HCH := Lib.hid (decChain_all HV.out hbig HC.out hdec)
      have HL3 : Hid (l3.length = n) := Lib.hid ((tkT_len hdec).trans HLN.out)
      have HN6 := Lib.hid hk6
      clear hdec hk6 HN5 HLN HC
      go_wp2_with fail
      go_loopg [54] 3 (fun q kv wx => ∃ (k : Nat) (l4 : List OpD) (r4 : List UInt8) (tb4 : Value), q = 3 - k ∧ kv = .int .i64 k ∧ k ≤ 3 ∧ Hid (tkX n k (l3, r3) = some (l4, r4) ∧ l4.length = n ∧ TKS w0 T wx tb4 r4 (.slice (some ⟨g, 0, none⟩) n n) l4))
      case atStart => exact ⟨0, _, _, _, rfl, rfl, by omega, Lib.hid ⟨rfl, HL3.out, HN6.out⟩⟩
      case round =>
        clear HN6 HL3
        obtain ⟨k, l4, r4, tb4, hg, rfl, hk, HR⟩ := hrel
        have HG := Lib.hid hg
        clear hg
        by_cases hlt : k < 3
        · have hk1 : (k : Int) < 3 := by omega
          have HLT := Lib.hid hlt
          clear hlt
          go_wp2_with fail
          refine (taketexts_any w0 T _ _ _ _ _ k HLT.out HR.out.2.2 (by rw [HR.out.2.1]; omega)).mono ?_
          rintro e w7 (⟨l5, r5, tb5, hdec, rfl, hk7⟩ | ⟨hdec, ⟨s, m, rfl⟩, hb7⟩)
          rotate_left
          · rw [HR.out.2.1] at hdec
            have HBAD := Lib.hid (decB_none (HCH.out.trans (tkX_bad HR.out.1 hdec HLT.out)))
            have HBL := Lib.hid hb7
            clear hdec hb7 HR
            unfold atErr
            go_wp2_with fail
            go_ret
            exact Or.inr ⟨HBAD.out, ⟨s, m, rfl⟩, HBL.out⟩
          rw [HR.out.2.1] at hdec
          have HNN : Hid (tkX n (k + 1) (l3, r3) = some (l5, r5) ∧ l5.length = n ∧ TKS w0 T w7 tb5 r5 (.slice (some ⟨g, 0, none⟩) n n) l5) := Lib.hid ⟨(tkX_step HR.out.1).trans hdec, (tkX1_len hdec).trans HR.out.2.1, hk7⟩
          clear hdec hk7 HR
          go_wp2_with fail
          go_roundg (3 - (k + 1))
          case measure => rw [HG.out]; have := HLT.out; omega
          case rel => exact ⟨k + 1, _, _, _, rfl, by simp, by have := HLT.out; omega, HNN⟩
        · obtain rfl : k = 3 := by omega
          have hk1 : ¬ (3 : Int) < 3 := by omega
          have HD : Hid (decChain b = some (l4, r4)) := Lib.hid (HCH.out.trans HR.out.1)
          have HKS := Lib.hid HR.out.2.2
          have HL4 := Lib.hid HR.out.2.1
          clear HR hlt hk HCH HG HV
          obtain ⟨t4, c4, rfl, ht4, hm4, -⟩ := id HKS.out.byt
          have hc4 := HKS.out.cell
          have cT4 : wr.cell? ⟨T, 0, none⟩ = some (.slice t4 r4.length c4) := by simp [World.cell?, hc4]
          have cT5 : wr.cell? ⟨T, 1, none⟩ = some (.slice (some ⟨g, 0, none⟩) n n) := by simp [World.cell?, hc4]
          clear hc4 ht4 hm4
          by_cases hr4 : r4 = []
          · subst hr4
            simp only [List.length_nil] at cT4
            go_wp2_with fail
            clear cT4 cT5
            go_loopg [78] n (fun q kv wx => ∃ j : Nat, q = n - j ∧ kv = .int .i64 j ∧ j ≤ n ∧ Hid ((∀ x ∈ l4.take j, x.right = true) ∧ TKS w0 T wx (.slice t4 ([] : List UInt8).length c4) [] (.slice (some ⟨g, 0, none⟩) n n) l4))
            case atStart => exact ⟨0, rfl, rfl, Nat.zero_le _, Lib.hid ⟨fun x hx => by simp at hx, HKS.out⟩⟩
            case round =>
              clear HKS
              obtain ⟨j, hg, rfl, hj, HR⟩ := hrel
              have HG := Lib.hid hg
              clear hg
              by_cases hlj : j < n
              · have hj1 : (j : Int) < (n : Int) := by omega
                obtain ⟨x, hx⟩ : ∃ x, l4[j]? = some x := ⟨_, List.getElem?_eq_getElem (by rw [HL4.out]; exact hlj)⟩
                have hsl : SliceIs OpD.cells 26 wr (.slice (some ⟨g, 0, none⟩) l4.length n) l4 := by
                  have h := HR.out.2.own.slice OpD.len
                  rw [HL4.out]
                  exact h
                have hld := sl_load hsl hx
                rw [Nat.zero_add] at hld
                have hst := store_fresh8 wr x
                have HLD := Lib.hid (And.intro hld hst)
                have HX := Lib.hid hx
                have HFT : Hid x.fits := Lib.hid ((decChain_enc HD.out).2.2 x (List.mem_of_getElem? hx)).1
                have hb2 : Below wr.heap.size wr (wr.alloc (.cells x.cells.toArray 68)) := (Below.refl _ _).alloc (Nat.le_refl _) _
                have hob := OB.new wr x
                have hw2 := OB.whole hob
                have HW2 := Lib.hid (And.intro hb2 hw2)
                clear hsl hld hst hx hob hw2 hb2
                go_wp2_with (first | ((with_reducible_and_instances refine wpList_ranG (o := ⟨some 81, _, _, _, _, _⟩) (v := .agg x.cells.toArray) ?_ ?_ ?_); rfl; exact exec_load rfl rfl HLD.out.1) | (refine wpList_store_run (T := 68) rfl rfl rfl rfl HLD.out.2 ?_) | ((with_reducible_and_instances refine wpList_ranG (o := ⟨some 82, _, _, _, _, _⟩) (v := .agg x.cells.toArray) ?_ ?_ ?_); rfl; exact exec_load rfl rfl HW2.out.2))
                refine (oright_any x _ HFT.out).mono ?_
                rintro e w3 ⟨rfl, b3⟩
                have HB3 : Hid (TKS w0 T w3 (.slice t4 ([] : List UInt8).length c4) [] (.slice (some ⟨g, 0, none⟩) n n) l4) := Lib.hid (HR.out.2.below (HW2.out.1.trans (b3.mono HW2.out.1.size)))
                clear b3 HW2 HLD
                cases hr : x.right with
                | false =>
                  have HBAD : Hid (decB b = none) := Lib.hid (decB_of HD.out (fun h => by have := h.2 x (List.mem_of_getElem? HX.out); rw [hr] at this; cases this))
                  have HBL := Lib.hid HB3.out.kp
                  clear hr HR HB3
                  go_wp2_with fail
                  go_ret
                  exact Or.inr ⟨HBAD.out, ⟨_, _, rfl⟩, HBL.out⟩
                | true =>
                  have HNN : Hid ((∀ y ∈ l4.take (j + 1), y.right = true) ∧ TKS w0 T w3 (.slice t4 ([] : List UInt8).length c4) [] (.slice (some ⟨g, 0, none⟩) n n) l4) := Lib.hid ⟨fun y hy => by
                    rw [List.take_add_one, HX.out, Option.toList_some] at hy
                    rcases List.mem_append.1 hy with hy | hy
                    · exact HR.out.1 y hy
                    · rw [List.mem_singleton.1 hy]; exact hr, HB3.out⟩
                  clear hr HR HB3
                  go_wp2_with fail
                  go_roundg (n - (j + 1))
                  case measure => rw [HG.out]; omega
                  case rel => exact ⟨j + 1, rfl, by simp, by omega, HNN⟩
              · obtain rfl : j = n := by omega
                have hj1 : ¬ (j : Int) < (j : Int) := by omega
                have HALL : Hid (decB b = some l4) := Lib.hid (decB_yes HD.out (by have h := HR.out.1; rwa [← HL4.out, List.take_length] at h))
                go_wp2_with fail
                go_ret
                exact Or.inl ⟨_, _, _, HALL.out, rfl, HR.out.2⟩
          · have hr5 : (0 : Int) < (r4.length : Int) := by have := List.length_pos_iff.2 hr4; omega
            have HBAD : Hid (decB b = none) := Lib.hid (decB_of HD.out (fun h => hr4 h.1))
            go_wp2_with fail
            go_ret
            exact Or.inr ⟨HBAD.out, ⟨_, _, rfl⟩, HKS.out.kp⟩
end Go.Proofs.YtgmdimbiipemhaaGreatDoor
