/- column.TakeDeltas: a contract. -/
import Derived.Test.YtdlnokbeadkdfaaGreatDoorSumP08
import Derived.Test.YtdlnokbeadkdfaaGreatDoorCTR08
import Derived.Test.YtdlnokbeadkdfaaGreatDoorOwnSet
import Derived.Deep.LoopGhost
import Derived.Deep.QuietTactic
import Derived.Deep.CutBlock
import Derived.Deep.DeepCutAuto
namespace Go.Proofs.YtdlnokbeadkdfaaGreatDoor
open Go.RowKit Go.Deep
set_option linter.unusedSimpArgs false
set_option linter.unusedVariables false

/-- Numbers taken as differences. -/
noncomputable def decD (n : Nat) (b : List UInt8) : Option (List Int × Nat) := (decR n none b).map fun p => (sumsB p.1, p.2)
def TdPost (w : World) (b : List UInt8) (n : Nat) (e : Ending) (w' : World) : Prop := (∃ l u v, decD n b = some (l, u) ∧ e = .returned (.tuple #[v, .int .i64 (u : Nat), .int .i64 0]) ∧ Own intc 1 3 w.heap.size w' v l ∧ Below w.heap.size w w') ∨
  (decD n b = none ∧ e = .returned (.tuple #[.slice none 0 0, .int .i64 0, .int .i64 41]) ∧ Below w.heap.size w w')

set_option maxRecDepth 20000 in
set_option maxHeartbeats 1000000 in
theorem takedeltas_any (v : Value) (b : List UInt8) (n : Nat) (w : World) (h : SliceIs u8c 1 w v b) (hn0 : n ≤ 65536) : Calls Tryz.prog 80 #[v, .int .i64 n] w fun e w' => TdPost w b n e w' := by
  have HC := Lib.hid (takeruns_any v b n w h hn0)
  clear h
  go_enter Tryz.func80, Tryz.ntmps80
  go_wp2_with fail
  refine HC.out.mono ?_
  rintro e w5 (⟨d, u, v5, hd, rfl, hown, hb⟩ | ⟨hd, rfl, hb⟩)
  · obtain ⟨⟨sa, sn, sc⟩, e5⟩ := hown.sl
    dsimp only at e5
    subst e5
    obtain rfl := (hown.nlen intc_len).1
    have hdl := (decR_iff n (by omega) none b d u).1 hd
    have hdn : d.length ≤ 65536 := by rcases hdl with ⟨h, _⟩ | ⟨_, rfl, _⟩; omega; simp
    have HD := Lib.hid (show decD n b = some (sumsB d, u) from by unfold decD; rw [hd]; rfl)
    have hsl := sumsB_len d
    have HSL := Lib.hid hsl
    have HU := Lib.hid (And.intro hown hb)
    clear hd hdl hown hb hsl HC hn0
    go_wp2_with fail
    go_loopg [20, 10] d.length (fun g kv iv wr => ∃ i : Nat, g = d.length - i ∧ kv = .int .i64 i ∧ i ≤ d.length ∧ Hid (Own intc 1 3 w.heap.size wr (.slice sa d.length sc) (mixP (sumsB d) d i) ∧ Below w.heap.size w wr))
    case atStart => exact ⟨0, rfl, rfl, Nat.zero_le _, by rw [mixP_zero]; exact HU⟩
    case round =>
      clear HU
      obtain ⟨i, hg, rfl, hil, HU⟩ := hrel
      have HG := Lib.hid hg
      clear hg
      by_cases hlt : i < d.length
      · have hi1 : (i : Int) < (d.length : Int) := by omega
        obtain ⟨x, hx⟩ : ∃ x, d[i]? = some x := ⟨_, List.getElem?_eq_getElem hlt⟩
        cases i with
        | zero =>
          have HN : Hid (Own intc 1 3 w.heap.size wr (.slice sa d.length sc) (mixP (sumsB d) d 1) ∧ Below w.heap.size w wr) := Lib.hid (by rw [← mixP_same HSL.out (sumsB_head hx) hx]; exact HU.out)
          clear hx HU
          go_wp2_with fail
          go_roundg (d.length - 1)
          case measure => rw [HG.out]; omega
          case rel => exact ⟨1, rfl, by simp, by omega, HN⟩
        | succ j =>
          obtain ⟨y, hy⟩ : ∃ y, (sumsB d)[j]? = some y := ⟨_, List.getElem?_eq_getElem (by rw [HSL.out]; omega)⟩
          have hs := sumsB_get hx hy
          obtain ⟨z, hz⟩ : ∃ z, z = wrapI (x + y) := ⟨_, rfl⟩
          rw [← hz] at hs
          have hml := mixP_len HSL.out (show j + 1 ≤ d.length by omega)
          have HO := HU.out.1
          rw [← hml] at HO
          obtain ⟨bb, hsa⟩ : ∃ bb, sa = some ⟨bb, 0, none⟩ := by
            rcases HO.eq_slice with ⟨e, h⟩ | ⟨g, c, e, _⟩
            · rw [h] at hml; simp at hml; omega
            · cases e; exact ⟨g, rfl⟩
          subst hsa
          have c1 : wr.cell? ⟨bb, j + 1, none⟩ = some (.int .i64 x) := by have := HO.cellAt intc_len (mixP_at HSL.out hx) (j := 0) rfl; rwa [Nat.mul_one, Nat.add_zero] at this
          have c0 : wr.cell? ⟨bb, j, none⟩ = some (.int .i64 y) := by have := HO.cellAt intc_len (mixP_before HSL.out hy (Nat.lt_succ_self j)) (j := 0) rfl; rwa [Nat.mul_one, Nat.add_zero] at this
          have f1 := HO.free (j + 1)
          have HN : Hid (Own intc 1 3 w.heap.size (wr.drew.setCell ⟨bb, j + 1, none⟩ (.int .i64 z)) (.slice (some ⟨bb, 0, none⟩) d.length sc) (mixP (sumsB d) d (j + 2)) ∧ Below w.heap.size w (wr.drew.setCell ⟨bb, j + 1, none⟩ (.int .i64 z))) := Lib.hid ⟨by
            have h1 := Own.setAt (show Own intc 1 3 w.heap.size wr.drew (.slice (some ⟨bb, 0, none⟩) (mixP (sumsB d) d (j + 1)).length sc) (mixP (sumsB d) d (j + 1)) from HO) intc_len (i := j + 1) (j := 0) (y := z) (mixP_at HSL.out hx) (by omega) rfl
            rw [hml, Nat.mul_one, Nat.add_zero, mixP_step HSL.out hs] at h1
            exact h1, (HU.out.2.drew).setCell (HU.out.1.blk bb rfl).1 _⟩
          have hzz : IntKind.i64.wrap (x + y) = z := by rw [hz, i64_wrap]
          have hj0 : IntKind.i64.wrap (j : Int) = (j : Int) := IntWalk.i64_in _ (by omega)
          have hj3 : ¬ ((j : Int) + 1 < 0) := by omega
          have hj4 : (0 : Int) ≤ (j : Int) + 1 := by omega
          have hj1 : IntKind.i64.wrap (((j + 1 : Nat) : Int) - 1) = (j : Int) := by rw [IntWalk.i64_in _ (by omega)]; omega
          have hj2 : (j : Int) < (d.length : Int) := by omega
          clear hx hy hs hz hml HO HU
          go_upto_region 6 with fail
          have hS0 : (fun W : World => W.cell? ⟨bb, j + 1, none⟩ = some (.int .i64 x) ∧ W.cell? ⟨bb, j, none⟩ = some (.int .i64 y)) wr.drew := ⟨c1, c0⟩
          have f2 : wr.drew.frozen? ⟨bb, j + 1, none⟩ = false := f1
          have c2 : wr.drew.cell? ⟨bb, j + 1, none⟩ = some (.int .i64 x) := c1
          clear c1 c0 f1
          refine wp_region_s (fun W : World => W.cell? ⟨bb, j + 1, none⟩ = some (.int .i64 x) ∧ W.cell? ⟨bb, j, none⟩ = some (.int .i64 y)) (fun i => i == 11) (by kernel_rfl) ?_
          generalize wr.drew = W1 at hS0 HN f2 c2 ⊢
          refine wpAnyS_take (i := 0) (d := some 25) rfl rfl rfl (by kernel_rfl) (by kernel_rfl) (by kernel_rfl) (by kernel_rfl) (fun _ _ _ h => h) (.inl ⟨by rfl, fun W hW => by obtain ⟨q0, q1⟩ := hW; go_simp; try rfl⟩) hS0 ?_
          try simp only [Act.put, List.setIfInBounds_toArray, List.set_cons_zero, List.set_cons_succ]
          refine wpAnyS_take (i := 1) (d := some 26) rfl rfl rfl (by kernel_rfl) (by kernel_rfl) (by kernel_rfl) (by kernel_rfl) (fun _ _ _ h => h) (.inl ⟨by rfl, fun W hW => by obtain ⟨q0, q1⟩ := hW; go_simp; try rfl⟩) hS0 ?_
          try simp only [Act.put, List.setIfInBounds_toArray, List.set_cons_zero, List.set_cons_succ]
          refine wpAnyS_take (i := 2) (d := some 27) (v := .pointer (some ⟨bb, j + 1, none⟩)) rfl rfl rfl (by kernel_rfl) (by kernel_rfl) (by kernel_rfl) (by kernel_rfl) (fun _ _ _ h => h) (.inl ⟨by rfl, fun W hW => by obtain ⟨q0, q1⟩ := hW; go_simp; try rfl⟩) hS0 ?_
          try simp only [Act.put, List.setIfInBounds_toArray, List.set_cons_zero, List.set_cons_succ]
          refine wpAnyS_take (i := 3) (d := some 28) (v := .int .i64 x) rfl rfl rfl (by kernel_rfl) (by kernel_rfl) (by kernel_rfl) (by kernel_rfl) (fun _ _ _ h => h) (.inl ⟨by rfl, fun W hW => by obtain ⟨q0, q1⟩ := hW; go_simp; try rfl⟩) hS0 ?_
          try simp only [Act.put, List.setIfInBounds_toArray, List.set_cons_zero, List.set_cons_succ]
          refine wpAnyS_take (i := 4) (d := some 29) rfl rfl rfl (by kernel_rfl) (by kernel_rfl) (by kernel_rfl) (by kernel_rfl) (fun _ _ _ h => h) (.inl ⟨by rfl, fun W hW => by obtain ⟨q0, q1⟩ := hW; go_simp; try rfl⟩) hS0 ?_
          try simp only [Act.put, List.setIfInBounds_toArray, List.set_cons_zero, List.set_cons_succ]
          refine wpAnyS_take (i := 5) (d := some 30) rfl rfl rfl (by kernel_rfl) (by kernel_rfl) (by kernel_rfl) (by kernel_rfl) (fun _ _ _ h => h) (.inl ⟨by rfl, fun W hW => by obtain ⟨q0, q1⟩ := hW; go_simp; try rfl⟩) hS0 ?_
          try simp only [Act.put, List.setIfInBounds_toArray, List.set_cons_zero, List.set_cons_succ]
          refine wpAnyS_take (i := 6) (d := some 31) (v := .int .i64 j) rfl rfl rfl (by kernel_rfl) (by kernel_rfl) (by kernel_rfl) (by kernel_rfl) (fun _ _ _ h => h) (.inl ⟨by rfl, fun W hW => by obtain ⟨q0, q1⟩ := hW; go_simp; try rfl⟩) hS0 ?_
          try simp only [Act.put, List.setIfInBounds_toArray, List.set_cons_zero, List.set_cons_succ]
          refine wpAnyS_take (i := 7) (d := some 32) (v := .pointer (some ⟨bb, j, none⟩)) rfl rfl rfl (by kernel_rfl) (by kernel_rfl) (by kernel_rfl) (by kernel_rfl) (fun _ _ _ h => h) (.inl ⟨by rfl, fun W hW => by obtain ⟨q0, q1⟩ := hW; go_simp; try rfl⟩) hS0 ?_
          try simp only [Act.put, List.setIfInBounds_toArray, List.set_cons_zero, List.set_cons_succ]
          refine wpAnyS_take (i := 8) (d := some 33) (v := .int .i64 y) rfl rfl rfl (by kernel_rfl) (by kernel_rfl) (by kernel_rfl) (by kernel_rfl) (fun _ _ _ h => h) (.inl ⟨by rfl, fun W hW => by obtain ⟨q0, q1⟩ := hW; go_simp; try rfl⟩) hS0 ?_
          try simp only [Act.put, List.setIfInBounds_toArray, List.set_cons_zero, List.set_cons_succ]
          refine wpAnyS_take (i := 9) (d := some 34) (v := .int .i64 z) rfl rfl rfl (by kernel_rfl) (by kernel_rfl) (by kernel_rfl) (by kernel_rfl) (fun _ _ _ h => h) (.inl ⟨by rfl, fun W hW => by obtain ⟨q0, q1⟩ := hW; go_simp; try rfl⟩) hS0 ?_
          try simp only [Act.put, List.setIfInBounds_toArray, List.set_cons_zero, List.set_cons_succ]
          refine wpAnyS_take (i := 10) (d := some 35) (v := .pointer (some ⟨bb, j + 1, none⟩)) rfl rfl rfl (by kernel_rfl) (by kernel_rfl) (by kernel_rfl) (by kernel_rfl) (fun _ _ _ h => h) (.inl ⟨by rfl, fun W hW => by obtain ⟨q0, q1⟩ := hW; go_simp; try rfl⟩) hS0 ?_
          try simp only [Act.put, List.setIfInBounds_toArray, List.set_cons_zero, List.set_cons_succ]
          refine wpAnyS_mute (i := 11) (d := none) (w' := W1.setCell ⟨bb, j + 1, none⟩ (.int .i64 z)) (by kernel_rfl) rfl rfl (by rfl) (by go_simp; try rfl) (fun h => by cases h) ?_
          try simp only [Act.put, List.setIfInBounds_toArray, List.set_cons_zero, List.set_cons_succ]
          refine wpAnyS_done (by kernel_rfl) ?_ _
          clear hS0 f2 c2
          generalize W1.setCell ⟨bb, j + 1, none⟩ (.int .i64 z) = W2 at HN ⊢
          go_wp2_with fail
          go_roundg (d.length - (j + 2))
          case measure => rw [HG.out]; omega
          case rel => exact ⟨j + 2, rfl, by simp; omega, by omega, HN⟩
      · obtain rfl : i = d.length := by omega
        have hi1 : ¬ (d.length : Int) < (d.length : Int) := by omega
        have HO : Hid (Own intc 1 3 w.heap.size wr (.slice sa d.length sc) (sumsB d) ∧ Below w.heap.size w wr) := Lib.hid (by have h := HU.out; rw [mixP_all HSL.out] at h; exact h)
        clear hlt HU
        go_wp2_with fail
        go_ret3
        exact .inl ⟨sumsB d, u, _, HD.out, rfl, HO.out.1, HO.out.2⟩
  · have HD := Lib.hid (show decD n b = none from by unfold decD; rw [hd]; rfl)
    have HB := Lib.hid hb
    clear hd hb
    go_wp2_with fail
    go_loopg [20, 10] 0 (fun g kv iv wr => g = 0 ∧ kv = .int .i64 0 ∧ wr = w5)
    case atStart => exact ⟨rfl, rfl, rfl⟩
    case round =>
      obtain ⟨rfl, rfl, rfl⟩ := hrel
      go_wp2_with fail
      go_ret3
      exact .inr ⟨HD.out, rfl, HB.out⟩

end Go.Proofs.YtdlnokbeadkdfaaGreatDoor
