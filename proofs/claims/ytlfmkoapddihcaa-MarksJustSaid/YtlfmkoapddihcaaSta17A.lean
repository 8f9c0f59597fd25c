/- Stable sorting of structs: the library's own functions, each by a contract. -/
import Derived.Test.YtlfmkoapddihcaaRuns
import Derived.Test.YtlfmkoapddihcaaHand
import Derived.BigRegion
import Derived.BigQuiet
import Derived.Deep.QuietTactic
import Derived.Deep.LoopGhost
import Derived.Deep.RegionHeld3
import Derived.Deep.CutBlock
import Derived.Deep.DeepCutAuto
import Derived.IntWalk
import Derived.Lib.Hide
import Derived.Test.YtlfmkoapddihcaaOp17
import Derived.Test.YtlfmkoapddihcaaHeldS
import Derived.Test.YtlfmkoapddihcaaSlab2
namespace Go.Proofs.Ytlfmkoapddihcaa
open Go.RowKit
set_option linter.unusedSimpArgs false
set_option linter.unusedVariables false

section
variable {cap sz blk n : Nat} {lt : (Mark × Nat) → (Mark × Nat) → Prop}

abbrev celT (p : Mark × Nat) : List Value := Mark.cells p.1
theorem len_K (x : (Mark × Nat)) : (celT x).length = 28 := rfl

theorem one_K (x : (Mark × Nat)) : ∀ u ∈ celT x, u.oneCell' = true := fun u hu => List.all_eq_true.1 (show (celT x).all (fun v => v.oneCell') = true from rfl) u hu
theorem ty_K : StructTy Try.prog 78 28 := ⟨Try.isAgg78, Try.sizeOf78⟩

set_option maxRecDepth 100000 in
set_option maxHeartbeats 4000000 in
theorem swapRange_any (a b m : Nat) (f : Nat → (Mark × Nat)) (fv : Value) (w : World) (hS : Slab celT 28 78 sz w blk n f) (h1 : a + m ≤ b) (h2 : b + m ≤ n) (hcap : n ≤ cap) (hn : cap ≤ maxLen) :
    Calls Try.prog 66 #[.slice (some ⟨blk, 0, none⟩) n cap, .int .i64 a, .int .i64 b, .int .i64 m, fv] w fun e w' => (∃ v, e = .returned v) ∧ Slab celT 28 78 sz w' blk n (swapR f a b m) ∧ Ext (· = blk) w w' := by
  unfold maxLen at hn
  go_enter Try.func66, Try.ntmps66
  go_wp2_with fail
  go_loopg [10] m (fun g iv wx => ∃ i : Nat, g = m - i ∧ i ≤ m ∧ iv = .int .i64 i ∧ Slab celT 28 78 sz wx blk n (swapR f a b i) ∧ Ext (· = blk) w wx)
  case atStart => exact ⟨0, rfl, Nat.zero_le _, rfl, by rw [swapR_zero]; exact hS, Ext.refl _ _⟩
  case round =>
    obtain ⟨i, hg, hi, rfl, hW, hx⟩ := hrel
    have HG := Lib.hid hg
    clear hg hS
    have HX := Lib.hid hx
    clear hx
    by_cases hlt : i < m
    · have hp : a + i < n := by omega
      have hq : b + i < n := by omega
      have HW : Hid (swapF (swapR f a b i) (a + i) (b + i) = swapR f a b (i + 1)) := swapR_step f (by omega)
      generalize swapR f a b i = g0 at *
      have HSL := Lib.hid hW
      clear hW
      have iap : (0 : Int) ≤ (a : Int) + (i : Int) := by omega
      have ibp : (a : Int) + (i : Int) < (n : Int) := by omega
      have icp : ((a : Int) + (i : Int)).toNat = a + i := by omega
      have idp : IntKind.i64.wrap ((a : Int) + (i : Int)) = (a : Int) + (i : Int) := IntWalk.i64_in _ (by omega)
      have iaq : (0 : Int) ≤ (b : Int) + (i : Int) := by omega
      have ibq : (b : Int) + (i : Int) < (n : Int) := by omega
      have icq : ((b : Int) + (i : Int)).toNat = b + i := by omega
      have idq : IntKind.i64.wrap ((b : Int) + (i : Int)) = (b : Int) + (i : Int) := IntWalk.i64_in _ (by omega)
      go_wp2_with fail
      refine wp_region_s (fun W => Slab celT 28 78 sz W blk n g0) (fun i => !(i == 13 || i == 19)) (by kernel_rfl) ?_
      have hS0 : Slab celT 28 78 sz wr.drew blk n g0 := HSL.out.drew
      have X0 : Ext (· = blk) wr wr.drew := (Ext.refl _ _).drew
      generalize wr.drew = W1 at hS0 X0 ⊢
      refine wpAnyS_takeP (i := 0) (d := some 16) rfl rfl rfl (by kernel_rfl) (by kernel_rfl) (by kernel_rfl) (fun _ _ _ h => h) (.inl ⟨by rfl, fun W hW => by go_simp; rfl⟩) ?_
      try simp only [Act.put, List.setIfInBounds_toArray, List.set_cons_zero, List.set_cons_succ]
      refine wpAnyS_takeP (i := 1) (d := some 17) rfl rfl rfl (by kernel_rfl) (by kernel_rfl) (by kernel_rfl) (fun _ _ _ h => h) (.inl ⟨by rfl, fun W hW => by go_simp; rfl⟩) ?_
      try simp only [Act.put, List.setIfInBounds_toArray, List.set_cons_zero, List.set_cons_succ]
      refine wpAnyS_takeP (i := 2) (d := some 18) rfl rfl rfl (by kernel_rfl) (by kernel_rfl) (by kernel_rfl) (fun _ _ _ h => h) (.inl ⟨by rfl, fun W hW => by go_simp; rfl⟩) ?_
      try simp only [Act.put, List.setIfInBounds_toArray, List.set_cons_zero, List.set_cons_succ]
      refine wpAnyS_takeP (i := 3) (d := some 19) rfl rfl rfl (by kernel_rfl) (by kernel_rfl) (by kernel_rfl) (fun _ _ _ h => h) (.inl ⟨by rfl, fun W hW => by go_simp; rfl⟩) ?_
      try simp only [Act.put, List.setIfInBounds_toArray, List.set_cons_zero, List.set_cons_succ]
      refine wpAnyS_takeP (i := 4) (d := some 20) rfl rfl rfl (by kernel_rfl) (by kernel_rfl) (by kernel_rfl) (fun _ _ _ h => h) (.inl ⟨by rfl, fun W hW => by go_simp; rfl⟩) ?_
      try simp only [Act.put, List.setIfInBounds_toArray, List.set_cons_zero, List.set_cons_succ]
      refine wpAnyS_takeP (i := 5) (d := some 21) rfl rfl rfl (by kernel_rfl) (by kernel_rfl) (by kernel_rfl) (fun _ _ _ h => h) (.inl ⟨by rfl, fun W hW => by go_simp; rfl⟩) ?_
      try simp only [Act.put, List.setIfInBounds_toArray, List.set_cons_zero, List.set_cons_succ]
      refine wpAnyS_takeP (i := 6) (d := some 22) rfl rfl rfl (by kernel_rfl) (by kernel_rfl) (by kernel_rfl) (fun _ _ _ h => h) (.inl ⟨by rfl, fun W hW => by go_simp; rfl⟩) ?_
      try simp only [Act.put, List.setIfInBounds_toArray, List.set_cons_zero, List.set_cons_succ]
      refine wpAnyS_takeP (i := 7) (d := some 23) rfl rfl rfl (by kernel_rfl) (by kernel_rfl) (by kernel_rfl) (fun _ _ _ h => h) (.inl ⟨by rfl, fun W hW => by go_simp; rfl⟩) ?_
      try simp only [Act.put, List.setIfInBounds_toArray, List.set_cons_zero, List.set_cons_succ]
      refine wpAnyS_takeP (i := 8) (d := some 24) rfl rfl rfl (by kernel_rfl) (by kernel_rfl) (by kernel_rfl) (fun _ _ _ h => h) (.inl ⟨by rfl, fun W hW => by go_simp; rfl⟩) ?_
      try simp only [Act.put, List.setIfInBounds_toArray, List.set_cons_zero, List.set_cons_succ]
      refine wpAnyS_takeP (i := 9) (d := some 25) rfl rfl rfl (by kernel_rfl) (by kernel_rfl) (by kernel_rfl) (fun _ _ _ h => h) (.inl ⟨by rfl, fun W hW => by go_simp; rfl⟩) ?_
      try simp only [Act.put, List.setIfInBounds_toArray, List.set_cons_zero, List.set_cons_succ]
      refine wpAnyS_takeP (i := 10) (d := some 26) rfl rfl rfl (by kernel_rfl) (by kernel_rfl) (by kernel_rfl) (fun _ _ _ h => h) (.inl ⟨by rfl, fun W hW => by go_simp; rfl⟩) ?_
      try simp only [Act.put, List.setIfInBounds_toArray, List.set_cons_zero, List.set_cons_succ]
      refine wpAnyS_takeP (i := 11) (d := some 27) rfl rfl rfl (by kernel_rfl) (by kernel_rfl) (by kernel_rfl) (fun _ _ _ h => h) (.inl ⟨by rfl, fun W hW => by go_simp; rfl⟩) ?_
      try simp only [Act.put, List.setIfInBounds_toArray, List.set_cons_zero, List.set_cons_succ]
      refine wpAnyS_takeP (i := 12) (d := some 28) rfl rfl rfl (by kernel_rfl) (by kernel_rfl) (by kernel_rfl) (fun _ _ _ h => h) (.inl ⟨by rfl, fun W hW => by go_simp; rfl⟩) ?_
      try simp only [Act.put, List.setIfInBounds_toArray, List.set_cons_zero, List.set_cons_succ]
      refine wpAnyS_takeP (i := 14) (d := some 30) rfl rfl rfl (by kernel_rfl) (by kernel_rfl) (by kernel_rfl) (fun _ _ _ h => h) (.inl ⟨by rfl, fun W hW => by go_simp; rfl⟩) ?_
      try simp only [Act.put, List.setIfInBounds_toArray, List.set_cons_zero, List.set_cons_succ]
      refine wpAnyS_takeP (i := 15) (d := some 31) rfl rfl rfl (by kernel_rfl) (by kernel_rfl) (by kernel_rfl) (fun _ _ _ h => h) (.inl ⟨by rfl, fun W hW => by go_simp; rfl⟩) ?_
      try simp only [Act.put, List.setIfInBounds_toArray, List.set_cons_zero, List.set_cons_succ]
      refine wpAnyS_takeP (i := 16) (d := some 32) rfl rfl rfl (by kernel_rfl) (by kernel_rfl) (by kernel_rfl) (fun _ _ _ h => h) (.inl ⟨by rfl, fun W hW => by go_simp; rfl⟩) ?_
      try simp only [Act.put, List.setIfInBounds_toArray, List.set_cons_zero, List.set_cons_succ]
      refine wpAnyS_takeP (i := 17) (d := some 33) rfl rfl rfl (by kernel_rfl) (by kernel_rfl) (by kernel_rfl) (fun _ _ _ h => h) (.inl ⟨by rfl, fun W hW => by go_simp; rfl⟩) ?_
      try simp only [Act.put, List.setIfInBounds_toArray, List.set_cons_zero, List.set_cons_succ]
      refine wpAnyS_takeP (i := 18) (d := some 34) rfl rfl rfl (by kernel_rfl) (by kernel_rfl) (by kernel_rfl) (fun _ _ _ h => h) (.inl ⟨by rfl, fun W hW => by go_simp; rfl⟩) ?_
      try simp only [Act.put, List.setIfInBounds_toArray, List.set_cons_zero, List.set_cons_succ]
      refine wpAnyS_take (i := 13) (d := some 29) (v := .agg (celT (g0 (b + i))).toArray) rfl rfl rfl (by kernel_rfl) (by kernel_rfl) (by kernel_rfl) (by kernel_rfl) (fun _ _ _ h => h) (.inl ⟨by rfl, fun W hW => exec_load rfl rfl (Slab.load hW len_K ty_K hq)⟩) hS0 ?_
      try simp only [Act.put, List.setIfInBounds_toArray, List.set_cons_zero, List.set_cons_succ]
      refine wpAnyS_take (i := 19) (d := some 35) (v := .agg (celT (g0 (a + i))).toArray) rfl rfl rfl (by kernel_rfl) (by kernel_rfl) (by kernel_rfl) (by kernel_rfl) (fun _ _ _ h => h) (.inl ⟨by rfl, fun W hW => exec_load rfl rfl (Slab.load hW len_K ty_K hp)⟩) hS0 ?_
      try simp only [Act.put, List.setIfInBounds_toArray, List.set_cons_zero, List.set_cons_succ]
      refine wpAnyS_takeP (i := 20) (d := some 36) rfl rfl rfl (by kernel_rfl) (by kernel_rfl) (by kernel_rfl) (fun _ _ _ h => h) (.inl ⟨by rfl, fun W hW => by go_simp; rfl⟩) ?_
      try simp only [Act.put, List.setIfInBounds_toArray, List.set_cons_zero, List.set_cons_succ]
      obtain ⟨W2, st2, s2, e2⟩ := Slab.store hS0 len_K one_K ty_K hp (g0 (b + i))
      refine wpAnyS_mute (i := 21) (d := none) (by kernel_rfl) rfl rfl (by rfl) (exec_store rfl rfl rfl st2) (fun h => by cases h) ?_
      try simp only [Act.put, List.setIfInBounds_toArray, List.set_cons_zero, List.set_cons_succ]
      refine wpAnyS_takeP (i := 22) (d := some 37) rfl rfl rfl (by kernel_rfl) (by kernel_rfl) (by kernel_rfl) (fun _ _ _ h => h) (.inl ⟨by rfl, fun W hW => by go_simp; rfl⟩) ?_
      try simp only [Act.put, List.setIfInBounds_toArray, List.set_cons_zero, List.set_cons_succ]
      obtain ⟨W3, st3, s3, e3⟩ := Slab.store s2 len_K one_K ty_K hq (g0 (a + i))
      refine wpAnyS_mute (i := 23) (d := none) (by kernel_rfl) rfl rfl (by rfl) (exec_store rfl rfl rfl st3) (fun h => by cases h) ?_
      try simp only [Act.put, List.setIfInBounds_toArray, List.set_cons_zero, List.set_cons_succ]
      refine wpAnyS_done (by kernel_rfl) ?_ _
      have HSW : Hid (Slab celT 28 78 sz W3 blk n (swapF g0 (a + i) (b + i)) ∧ Ext (· = blk) wr W3) := Lib.hid ⟨by rw [swapF_upd]; exact s3, (X0.trans e2).trans e3⟩
      clear hS0 X0 st2 s2 e2 st3 s3 e3
      clear HSL
      go_wp2_with fail
      go_roundg (m - (i + 1))
      case measure => rw [HG.out]; omega
      case rel => exact ⟨i + 1, rfl, hlt, by go_num, by rw [← HW.out]; exact HSW.out.1, HX.out.trans HSW.out.2⟩
    · obtain rfl : i = m := by omega
      go_wp2_with fail
      go_end0
      exact ⟨⟨_, rfl⟩, hW, HX.out⟩
      
set_option maxRecDepth 100000 in
set_option maxHeartbeats 4000000 in
theorem rotate_any (a m b : Nat) (f : Nat → (Mark × Nat)) (fv : Value) (w : World) (hS : Slab celT 28 78 sz w blk n f) (h1 : a < m) (h2 : m < b) (h3 : b ≤ n) (hcap : n ≤ cap) (hn : cap ≤ maxLen) :
    Calls Try.prog 60 #[.slice (some ⟨blk, 0, none⟩) n cap, .int .i64 a, .int .i64 m, .int .i64 b, fv] w fun e w' => (∃ v, e = .returned v) ∧ Slab celT 28 78 sz w' blk n (rotF f a m b) ∧ Ext (· = blk) w w' := by
  have hn0 := hn
  unfold maxLen at hn
  have HN := Lib.hid hn0
  clear hn0
  go_enter Try.func60, Try.ntmps60
  go_wp2_with fail
  go_loopg [10, 11] (b - a) (fun g iv jv wx => ∃ (i j : Nat) (f' : Nat → (Mark × Nat)), g = i + j ∧ 0 < i ∧ i ≤ m - a ∧ 0 < j ∧ j ≤ b - m ∧ iv = .int .i64 i ∧ jv = .int .i64 j ∧ Slab celT 28 78 sz wx blk n f' ∧ Hid (rotF f' (m - i) m (m + j) = rotF f a m b) ∧ Ext (· = blk) w wx)
  case atStart =>
    refine ⟨m - a, b - m, f, by omega, by omega, Nat.le_refl _, by omega, Nat.le_refl _, by go_num, by go_num, hS, Lib.hid ?_, Ext.refl _ _⟩
    rw [show m - (m - a) = a by omega, show m + (b - m) = b by omega]
  case round =>
    obtain ⟨i, j, f', hg, hi0, hi, hj0, hj, rfl, rfl, hW, hr, hx⟩ := hrel
    have HG := Lib.hid hg
    clear hg hS
    have HX := Lib.hid hx
    clear hx
    have ei : ((m : Int) - (i : Int)) = ((m - i : Nat) : Int) := by omega
    by_cases hij : i = j
    · obtain rfl := hij
      go_wp2_with fail
      (with_reducible refine (swapRange_any (m - i) m i f' _ _ hW (by omega) (by omega) hcap HN.out).mono ?_)
      rintro e w5 ⟨⟨v5, rfl⟩, s5, x5⟩
      go_wp2_with fail
      go_end0
      rw [rot_eq f' (by omega), hr.out] at s5
      exact ⟨⟨_, rfl⟩, s5, HX.out.trans x5⟩
    · by_cases hgt : j < i
      · have ej : ((i : Int) - (j : Int)) = ((i - j : Nat) : Int) := by omega
        go_wp2_with fail
        (with_reducible refine (swapRange_any (m - i) m j f' _ _ hW (by omega) (by omega) hcap HN.out).mono ?_)
        rintro e w5 ⟨⟨v5, rfl⟩, s5, x5⟩
        go_wp2_with fail
        go_roundg (i - j + j)
        case measure => rw [HG.out]; omega
        case rel => exact ⟨i - j, j, _, rfl, by omega, by omega, hj0, hj, by go_num, rfl, s5, Lib.hid ((rot_gt f' (by omega) hgt).trans hr.out), HX.out.trans x5⟩
      · have ej : ((j : Int) - (i : Int)) = ((j - i : Nat) : Int) := by omega
        have ek : ((m : Int) + (j : Int) - (i : Int)) = ((m + j - i : Nat) : Int) := by omega
        go_wp2_with fail
        (with_reducible refine (swapRange_any (m - i) (m + j - i) i f' _ _ hW (by omega) (by omega) hcap HN.out).mono ?_)
        rintro e w5 ⟨⟨v5, rfl⟩, s5, x5⟩
        go_wp2_with fail
        go_roundg (i + (j - i))
        case measure => rw [HG.out]; omega
        case rel => exact ⟨i, j - i, _, rfl, hi0, hi, by omega, by omega, rfl, by go_num, s5, Lib.hid ((rot_lt f' (by omega) (by omega)).trans hr.out), HX.out.trans x5⟩
        
end

end Go.Proofs.Ytlfmkoapddihcaa
