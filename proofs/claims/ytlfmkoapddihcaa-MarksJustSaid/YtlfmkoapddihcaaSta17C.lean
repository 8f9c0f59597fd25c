/- Stable sorting of structs: the library's own functions, each by a contract. -/
import Derived.Test.YtlfmkoapddihcaaRuns
import Derived.Test.YtlfmkoapddihcaaHand
import Derived.BigRegion
import Derived.BigQuiet
import Derived.Deep.QuietTactic
import Derived.Deep.LoopGhost
import Derived.Deep.RegionHeld3
import Derived.Deep.CutBlock
import Derived.Deep.DeepCutAuto
import Derived.IntWalk
import Derived.Lib.Hide
import Derived.Test.YtlfmkoapddihcaaSta17B
namespace Go.Proofs.Ytlfmkoapddihcaa
open Go.RowKit
set_option linter.unusedSimpArgs false
set_option linter.unusedVariables false

section
variable {cap sz blk n : Nat} {lt : (Mark × Nat) → (Mark × Nat) → Prop}

set_option maxRecDepth 100000 in
set_option maxHeartbeats 4000000 in
theorem merge1_any (a m b : Nat) (hm : m = a + 1) (f : Nat → (Mark × Nat)) (w : World) (hS : Slab celT 28 78 sz w blk n f) (R : Ranks lt Prod.snd (fun x y : (Mark × Nat) => cfMark x.1 y.1)) (h : MergePre lt Prod.snd a m b f) (hbn : b ≤ n) (hcap : n ≤ cap) (hn : cap ≤ maxLen) (hN : n ≤ 1000000) :
    Calls Try.prog 47 #[.slice (some ⟨blk, 0, none⟩) n cap, .int .i64 a, .int .i64 m, .int .i64 b, .func (.func 32) #[] #[]] w fun e w' => (∃ v, e = .returned v) ∧ Hid (∃ g, Slab celT 28 78 sz w' blk n g ∧ PermF a b f g ∧ SortF lt a b g) ∧ Ext (· = blk) w w' := by
  have hmb := h.mb
  have t1 : ((m : Int) - (a : Int) == 1) = true := by rw [beq_iff_eq]; omega
  have HE := Lib.hid hm
  have ham : a < m := by omega
  clear hm
  unfold maxLen at hn
  have HR := Lib.hid R
  have HM := Lib.hid h
  clear R h
  go_enter Try.func47, Try.ntmps47
  go_wp2_with fail
  go_loopg [10, 11] (b - m) (fun g0 iv jv wx => ∃ i j : Nat, g0 = j - i ∧ m ≤ i ∧ i ≤ j ∧ j ≤ b ∧ iv = .int .i64 i ∧ jv = .int .i64 j ∧ Slab celT 28 78 sz wx blk n f ∧ Hid (i = m ∨ lt (f (i - 1)) (f a)) ∧ Hid (j = b ∨ ¬ lt (f j) (f a)) ∧ Ext (· = blk) w wx)
  case atStart => exact ⟨m, b, rfl, Nat.le_refl _, by omega, Nat.le_refl _, rfl, rfl, hS, Lib.hid (.inl rfl), Lib.hid (.inl rfl), Ext.refl _ _⟩
  case round =>
    obtain ⟨i, j, hg, hi, hij, hj, rfl, rfl, hW, q1, q2, hx⟩ := hrel
    have HG := Lib.hid hg
    clear hg hS
    have HX := Lib.hid hx
    clear hx
    by_cases hlt : i < j
    · skip
      obtain ⟨h, hh⟩ : ∃ h : Nat, h = (i + j) / 2 := ⟨_, rfl⟩
      have hhi : i ≤ h ∧ h < j := by omega
      have hhz : ((i : Int) + (j : Int)) / 2 = (h : Int) := by omega
      have hhn : h < n := by omega
      have han : a < n := by omega
      have b0h : (0 : Int) ≤ (h : Int) := by omega
      have b1h : (h : Int) < (n : Int) := by omega
      have b0a : (0 : Int) ≤ (a : Int) := by omega
      have b1a : (a : Int) < (n : Int) := by omega
      obtain ⟨x, hx⟩ : ∃ x, x = f h := ⟨_, rfl⟩
      have HRx := Lib.hid hx
      obtain ⟨y, hy⟩ : ∃ y, y = f a := ⟨_, rfl⟩
      have HRy := Lib.hid hy
      have hcc : cfMark x.1 y.1 < 0 ↔ lt (f h) (f a) := by rw [hx, hy]; exact HR.out.says _ _ (HM.out.apart a h (by omega) (by omega) (by omega) (by omega))
      have HCC := Lib.hid hcc
      clear hcc hx hy hh
      go_wp2_with fail
      clear hhz
      have iap : (0 : Int) ≤ (h : Int) := by omega
      have ibp : (h : Int) < (n : Int) := by omega
      have icp : ((h : Int)).toNat = h := by omega
      have idp : IntKind.i64.wrap ((h : Int)) = (h : Int) := IntWalk.i64_in _ (by omega)
      have iaq : (0 : Int) ≤ (a : Int) := by omega
      have ibq : (a : Int) < (n : Int) := by omega
      have icq : ((a : Int)).toNat = a := by omega
      have idq : IntKind.i64.wrap ((a : Int)) = (a : Int) := IntWalk.i64_in _ (by omega)
      have hS0 : (fun W => Slab celT 28 78 sz W blk n f) wr.drew := hW.drew
      have b00 : Below wr.heap.size wr wr.drew := (Below.refl _ _).drew
      refine wp_region_held_drew (S := (fun W => Slab celT 28 78 sz W blk n f)) (by kernel_rfl) hS0 (fun _ => ?_)
      generalize wr.drew = W1 at hS0 b00 ⊢
      refine held_take (i := 0) (d := some 40) rfl rfl (by kernel_rfl) (by kernel_rfl) (by kernel_rfl) (fun _ _ _ h => h) (.inl ⟨by rfl, fun W hW => by go_simp; rfl⟩) hS0 ?_
      try simp only [Act.put, List.setIfInBounds_toArray, List.set_cons_zero, List.set_cons_succ]
      refine held_take (i := 1) (d := some 41) rfl rfl (by kernel_rfl) (by kernel_rfl) (by kernel_rfl) (fun _ _ _ h => h) (.inl ⟨by rfl, fun W hW => by go_simp; rfl⟩) hS0 ?_
      try simp only [Act.put, List.setIfInBounds_toArray, List.set_cons_zero, List.set_cons_succ]
      refine held_take (i := 2) (d := some 42) rfl rfl (by kernel_rfl) (by kernel_rfl) (by kernel_rfl) (fun _ _ _ h => h) (.inl ⟨by rfl, fun W hW => by go_simp; rfl⟩) hS0 ?_
      try simp only [Act.put, List.setIfInBounds_toArray, List.set_cons_zero, List.set_cons_succ]
      refine held_take (i := 3) (d := some 43) rfl rfl (by kernel_rfl) (by kernel_rfl) (by kernel_rfl) (fun _ _ _ h => h) (.inl ⟨by rfl, fun W hW => by go_simp; rfl⟩) hS0 ?_
      try simp only [Act.put, List.setIfInBounds_toArray, List.set_cons_zero, List.set_cons_succ]
      refine held_take (i := 4) (d := some 44) (v := .agg (celT x).toArray) rfl rfl (by kernel_rfl) (by kernel_rfl) (by kernel_rfl) (fun _ _ _ h => h) (.inl ⟨by rfl, fun W hW => exec_load rfl rfl (by rw [HRx.out]; exact Slab.load hW len_K ty_K hhn)⟩) hS0 ?_
      try simp only [Act.put, List.setIfInBounds_toArray, List.set_cons_zero, List.set_cons_succ]
      refine held_take (i := 5) (d := some 45) rfl rfl (by kernel_rfl) (by kernel_rfl) (by kernel_rfl) (fun _ _ _ h => h) (.inl ⟨by rfl, fun W hW => by go_simp; rfl⟩) hS0 ?_
      try simp only [Act.put, List.setIfInBounds_toArray, List.set_cons_zero, List.set_cons_succ]
      refine held_take (i := 6) (d := some 46) rfl rfl (by kernel_rfl) (by kernel_rfl) (by kernel_rfl) (fun _ _ _ h => h) (.inl ⟨by rfl, fun W hW => by go_simp; rfl⟩) hS0 ?_
      try simp only [Act.put, List.setIfInBounds_toArray, List.set_cons_zero, List.set_cons_succ]
      refine held_take (i := 7) (d := some 47) rfl rfl (by kernel_rfl) (by kernel_rfl) (by kernel_rfl) (fun _ _ _ h => h) (.inl ⟨by rfl, fun W hW => by go_simp; rfl⟩) hS0 ?_
      try simp only [Act.put, List.setIfInBounds_toArray, List.set_cons_zero, List.set_cons_succ]
      refine held_take (i := 8) (d := some 48) (v := .agg (celT y).toArray) rfl rfl (by kernel_rfl) (by kernel_rfl) (by kernel_rfl) (fun _ _ _ h => h) (.inl ⟨by rfl, fun W hW => exec_load rfl rfl (by rw [HRy.out]; exact Slab.load hW len_K ty_K han)⟩) hS0 ?_
      try simp only [Act.put, List.setIfInBounds_toArray, List.set_cons_zero, List.set_cons_succ]
      refine held_call (i := 9) (d := some 49) (by kernel_rfl) rfl rfl (by rfl) (by go_simp; first | rfl | exact ⟨rfl, rfl⟩ | exact ⟨⟨rfl, rfl⟩, rfl⟩) ?_
      (refine (found2_any x.1 y.1 _).mono ?_)
      rintro e w5 ⟨rfl, b5⟩
      have hS5 : (fun W => Slab celT 28 78 sz W blk n f) w5 := Slab.below hS0 b5
      replace b5 := b00.trans (b5.mono b00.size)
      refine ⟨_, rfl, hS5, ?_⟩
      try simp only [Act.put, List.setIfInBounds_toArray, List.set_cons_zero, List.set_cons_succ]
      clear hS0 b00
      refine held_take (i := 10) (d := some 50) rfl rfl (by kernel_rfl) (by kernel_rfl) (by kernel_rfl) (fun _ _ _ h => h) (.inl ⟨by rfl, fun W hW => by go_simp; rfl⟩) hS5 ?_
      try simp only [Act.put, List.setIfInBounds_toArray, List.set_cons_zero, List.set_cons_succ]
      refine wpAnyH_done (by kernel_rfl) ?_ _
      clear hS5 HRx HRy
      have HS5 := Lib.hid (hW.below b5)
      have HX5 := Lib.hid (HX.out.then_below b5)
      clear  hW b5
      by_cases hc : cfMark x.1 y.1 < 0
      · have hcb : decide (cfMark x.1 y.1 < 0) = true := decide_eq_true hc
        go_wp2_with fail
        go_roundg (j - (h + 1))
        case measure => rw [HG.out]; omega
        case rel => exact ⟨h + 1, j, rfl, by omega, by omega, hj, by go_num, rfl, HS5.out, Lib.hid (.inr (HCC.out.1 hc)), q2, HX5.out⟩
      · have hcb : decide (cfMark x.1 y.1 < 0) = false := decide_eq_false hc
        go_wp2_with fail
        go_roundg (h - i)
        case measure => rw [HG.out]; omega
        case rel => exact ⟨i, h, rfl, by omega, by omega, by omega, rfl, rfl, HS5.out, q1, Lib.hid (.inr (fun t => by have := HCC.out.2 t; omega)), HX5.out⟩
    · obtain rfl : i = j := by omega
      obtain ⟨k0, rfl⟩ : ∃ k0, i = k0 + 1 := ⟨i - 1, by omega⟩
      have HD := Lib.hid (one_left HR.out (by rw [← HE.out]; exact HM.out) (by rw [← HE.out]; exact hi) hj (by rw [← HE.out]; exact q1.out) q2.out)
      clear q1 q2 hlt
      obtain ⟨wo, hwo⟩ : ∃ wo : World, wo = wr := ⟨_, rfl⟩
      subst hwo
      go_wp2_with fail
      go_loopg [13] (k0 - a) (fun g0 kv wx => ∃ k : Nat, g0 = k0 - k ∧ a ≤ k ∧ k ≤ k0 ∧ kv = .int .i64 k ∧ Slab celT 28 78 sz wx blk n (moveR f a k) ∧ Ext (· = blk) w wx)
      case atStart => exact ⟨a, rfl, Nat.le_refl _, by omega, rfl, by rw [moveR_zero]; exact hW, HX.out⟩
      case round =>
        obtain ⟨k, hg, hk1, hk2, rfl, hW, hx⟩ := hrel
        have HG2 := Lib.hid hg
        clear hg
        have HX2 := Lib.hid hx
        clear hx
        by_cases hlt : k < k0
        · have hp : k < n := by omega
          have hq : k + 1 < n := by omega
          have HW : Hid (swapF (moveR f a k) k (k + 1) = moveR f a (k + 1)) := moveR_step f a k hk1
          generalize moveR f a k = g0 at *
          have HSL := Lib.hid hW
          clear hW
          have iap : (0 : Int) ≤ (k : Int) := by omega
          have ibp : (k : Int) < (n : Int) := by omega
          have icp : ((k : Int)).toNat = k := by omega
          have idp : IntKind.i64.wrap ((k : Int)) = (k : Int) := IntWalk.i64_in _ (by omega)
          have iaq : (0 : Int) ≤ (k : Int) + 1 := by omega
          have ibq : (k : Int) + 1 < (n : Int) := by omega
          have icq : ((k : Int) + 1).toNat = k + 1 := by omega
          have idq : IntKind.i64.wrap ((k : Int) + 1) = (k : Int) + 1 := IntWalk.i64_in _ (by omega)
          go_wp2_with fail
          refine wp_region_s (fun W => Slab celT 28 78 sz W blk n g0) (fun i => !(i == 9 || i == 13)) (by kernel_rfl) ?_
          have hS0 : Slab celT 28 78 sz wr.drew blk n g0 := HSL.out.drew
          have X0 : Ext (· = blk) wr wr.drew := (Ext.refl _ _).drew
          generalize wr.drew = W1 at hS0 X0 ⊢
          refine wpAnyS_takeP (i := 0) (d := some 61) rfl rfl rfl (by kernel_rfl) (by kernel_rfl) (by kernel_rfl) (fun _ _ _ h => h) (.inl ⟨by rfl, fun W hW => by go_simp; rfl⟩) ?_
          try simp only [Act.put, List.setIfInBounds_toArray, List.set_cons_zero, List.set_cons_succ]
          refine wpAnyS_takeP (i := 1) (d := some 62) rfl rfl rfl (by kernel_rfl) (by kernel_rfl) (by kernel_rfl) (fun _ _ _ h => h) (.inl ⟨by rfl, fun W hW => by go_simp; rfl⟩) ?_
          try simp only [Act.put, List.setIfInBounds_toArray, List.set_cons_zero, List.set_cons_succ]
          refine wpAnyS_takeP (i := 2) (d := some 63) rfl rfl rfl (by kernel_rfl) (by kernel_rfl) (by kernel_rfl) (fun _ _ _ h => h) (.inl ⟨by rfl, fun W hW => by go_simp; rfl⟩) ?_
          try simp only [Act.put, List.setIfInBounds_toArray, List.set_cons_zero, List.set_cons_succ]
          refine wpAnyS_takeP (i := 3) (d := some 64) rfl rfl rfl (by kernel_rfl) (by kernel_rfl) (by kernel_rfl) (fun _ _ _ h => h) (.inl ⟨by rfl, fun W hW => by go_simp; rfl⟩) ?_
          try simp only [Act.put, List.setIfInBounds_toArray, List.set_cons_zero, List.set_cons_succ]
          refine wpAnyS_takeP (i := 4) (d := some 65) rfl rfl rfl (by kernel_rfl) (by kernel_rfl) (by kernel_rfl) (fun _ _ _ h => h) (.inl ⟨by rfl, fun W hW => by go_simp; rfl⟩) ?_
          try simp only [Act.put, List.setIfInBounds_toArray, List.set_cons_zero, List.set_cons_succ]
          refine wpAnyS_takeP (i := 5) (d := some 66) rfl rfl rfl (by kernel_rfl) (by kernel_rfl) (by kernel_rfl) (fun _ _ _ h => h) (.inl ⟨by rfl, fun W hW => by go_simp; rfl⟩) ?_
          try simp only [Act.put, List.setIfInBounds_toArray, List.set_cons_zero, List.set_cons_succ]
          refine wpAnyS_takeP (i := 6) (d := some 67) rfl rfl rfl (by kernel_rfl) (by kernel_rfl) (by kernel_rfl) (fun _ _ _ h => h) (.inl ⟨by rfl, fun W hW => by go_simp; rfl⟩) ?_
          try simp only [Act.put, List.setIfInBounds_toArray, List.set_cons_zero, List.set_cons_succ]
          refine wpAnyS_takeP (i := 7) (d := some 68) rfl rfl rfl (by kernel_rfl) (by kernel_rfl) (by kernel_rfl) (fun _ _ _ h => h) (.inl ⟨by rfl, fun W hW => by go_simp; rfl⟩) ?_
          try simp only [Act.put, List.setIfInBounds_toArray, List.set_cons_zero, List.set_cons_succ]
          refine wpAnyS_takeP (i := 8) (d := some 69) rfl rfl rfl (by kernel_rfl) (by kernel_rfl) (by kernel_rfl) (fun _ _ _ h => h) (.inl ⟨by rfl, fun W hW => by go_simp; rfl⟩) ?_
          try simp only [Act.put, List.setIfInBounds_toArray, List.set_cons_zero, List.set_cons_succ]
          refine wpAnyS_takeP (i := 10) (d := some 71) rfl rfl rfl (by kernel_rfl) (by kernel_rfl) (by kernel_rfl) (fun _ _ _ h => h) (.inl ⟨by rfl, fun W hW => by go_simp; rfl⟩) ?_
          try simp only [Act.put, List.setIfInBounds_toArray, List.set_cons_zero, List.set_cons_succ]
          refine wpAnyS_takeP (i := 11) (d := some 72) rfl rfl rfl (by kernel_rfl) (by kernel_rfl) (by kernel_rfl) (fun _ _ _ h => h) (.inl ⟨by rfl, fun W hW => by go_simp; rfl⟩) ?_
          try simp only [Act.put, List.setIfInBounds_toArray, List.set_cons_zero, List.set_cons_succ]
          refine wpAnyS_takeP (i := 12) (d := some 73) rfl rfl rfl (by kernel_rfl) (by kernel_rfl) (by kernel_rfl) (fun _ _ _ h => h) (.inl ⟨by rfl, fun W hW => by go_simp; rfl⟩) ?_
          try simp only [Act.put, List.setIfInBounds_toArray, List.set_cons_zero, List.set_cons_succ]
          refine wpAnyS_take (i := 9) (d := some 70) (v := .agg (celT (g0 (k + 1))).toArray) rfl rfl rfl (by kernel_rfl) (by kernel_rfl) (by kernel_rfl) (by kernel_rfl) (fun _ _ _ h => h) (.inl ⟨by rfl, fun W hW => exec_load rfl rfl (Slab.load hW len_K ty_K hq)⟩) hS0 ?_
          try simp only [Act.put, List.setIfInBounds_toArray, List.set_cons_zero, List.set_cons_succ]
          refine wpAnyS_take (i := 13) (d := some 74) (v := .agg (celT (g0 k)).toArray) rfl rfl rfl (by kernel_rfl) (by kernel_rfl) (by kernel_rfl) (by kernel_rfl) (fun _ _ _ h => h) (.inl ⟨by rfl, fun W hW => exec_load rfl rfl (Slab.load hW len_K ty_K hp)⟩) hS0 ?_
          try simp only [Act.put, List.setIfInBounds_toArray, List.set_cons_zero, List.set_cons_succ]
          refine wpAnyS_takeP (i := 14) (d := some 75) rfl rfl rfl (by kernel_rfl) (by kernel_rfl) (by kernel_rfl) (fun _ _ _ h => h) (.inl ⟨by rfl, fun W hW => by go_simp; rfl⟩) ?_
          try simp only [Act.put, List.setIfInBounds_toArray, List.set_cons_zero, List.set_cons_succ]
          obtain ⟨W2, st2, s2, e2⟩ := Slab.store hS0 len_K one_K ty_K hp (g0 (k + 1))
          refine wpAnyS_mute (i := 15) (d := none) (by kernel_rfl) rfl rfl (by rfl) (exec_store rfl rfl rfl st2) (fun h => by cases h) ?_
          try simp only [Act.put, List.setIfInBounds_toArray, List.set_cons_zero, List.set_cons_succ]
          refine wpAnyS_takeP (i := 16) (d := some 76) rfl rfl rfl (by kernel_rfl) (by kernel_rfl) (by kernel_rfl) (fun _ _ _ h => h) (.inl ⟨by rfl, fun W hW => by go_simp; rfl⟩) ?_
          try simp only [Act.put, List.setIfInBounds_toArray, List.set_cons_zero, List.set_cons_succ]
          obtain ⟨W3, st3, s3, e3⟩ := Slab.store s2 len_K one_K ty_K hq (g0 k)
          refine wpAnyS_mute (i := 17) (d := none) (by kernel_rfl) rfl rfl (by rfl) (exec_store rfl rfl rfl st3) (fun h => by cases h) ?_
          try simp only [Act.put, List.setIfInBounds_toArray, List.set_cons_zero, List.set_cons_succ]
          refine wpAnyS_done (by kernel_rfl) ?_ _
          have HSW : Hid (Slab celT 28 78 sz W3 blk n (swapF g0 k (k + 1)) ∧ Ext (· = blk) wr W3) := Lib.hid ⟨by rw [swapF_upd]; exact s3, (X0.trans e2).trans e3⟩
          clear hS0 X0 st2 s2 e2 st3 s3 e3
          clear HSL
          go_wp2_with fail
          go_roundg (k0 - (k + 1))
          case measure => rw [HG2.out]; omega
          case rel => exact ⟨k + 1, rfl, by omega, by omega, by go_num, by rw [← HW.out]; exact HSW.out.1, HX2.out.trans HSW.out.2⟩
        · obtain rfl : k = k0 := by omega
          go_wp2_with fail
          refine bodyPost_ret (v := .tuple #[]) (results_none rfl _ _ _) rfl ?_
          have hd := HD.out
          rw [show k + 1 - 1 = k by omega] at hd
          exact ⟨⟨_, rfl⟩, Lib.hid ⟨_, hW, hd.2, hd.1⟩, HX2.out⟩
        
set_option maxRecDepth 100000 in
set_option maxHeartbeats 4000000 in
theorem merge2_any (a m b : Nat) (hb : b = m + 1) (f : Nat → (Mark × Nat)) (w : World) (hS : Slab celT 28 78 sz w blk n f) (R : Ranks lt Prod.snd (fun x y : (Mark × Nat) => cfMark x.1 y.1)) (h : MergePre lt Prod.snd a m b f) (h1 : a + 1 < m) (hbn : b ≤ n) (hcap : n ≤ cap) (hn : cap ≤ maxLen) (hN : n ≤ 1000000) :
    Calls Try.prog 47 #[.slice (some ⟨blk, 0, none⟩) n cap, .int .i64 a, .int .i64 m, .int .i64 b, .func (.func 32) #[] #[]] w fun e w' => (∃ v, e = .returned v) ∧ Hid (∃ g, Slab celT 28 78 sz w' blk n g ∧ PermF a b f g ∧ SortF lt a b g) ∧ Ext (· = blk) w w' := by
  unfold maxLen at hn
  have HR := Lib.hid R
  have HM := Lib.hid h
  clear R h
  have t1 : ((m : Int) - (a : Int) == 1) = false := by rw [beq_eq_false_iff_ne]; omega
  have t2 : ((b : Int) - (m : Int) == 1) = true := by rw [beq_iff_eq]; omega
  have HE := Lib.hid hb
  have hmb : m < b := by omega
  have ham : a < m := by omega
  clear hb
  go_enter Try.func47, Try.ntmps47
  go_wp2_with fail
  go_loopg [14, 15] (m - a) (fun g0 iv jv wx => ∃ i j : Nat, g0 = j - i ∧ a ≤ i ∧ i ≤ j ∧ j ≤ m ∧ iv = .int .i64 i ∧ jv = .int .i64 j ∧ Slab celT 28 78 sz wx blk n f ∧ Hid (i = a ∨ ¬ lt (f m) (f (i - 1))) ∧ Hid (j = m ∨ lt (f m) (f j)) ∧ Ext (· = blk) w wx)
  case atStart => exact ⟨a, m, rfl, Nat.le_refl _, by omega, Nat.le_refl _, rfl, rfl, hS, Lib.hid (.inl rfl), Lib.hid (.inl rfl), Ext.refl _ _⟩
  case round =>
    obtain ⟨i, j, hg, hi, hij, hj, rfl, rfl, hW, q1, q2, hx⟩ := hrel
    have HG := Lib.hid hg
    clear hg hS
    have HX := Lib.hid hx
    clear hx
    by_cases hlt : i < j
    · skip
      obtain ⟨h, hh⟩ : ∃ h : Nat, h = (i + j) / 2 := ⟨_, rfl⟩
      have hhi : i ≤ h ∧ h < j := by omega
      have hhz : ((i : Int) + (j : Int)) / 2 = (h : Int) := by omega
      have hhn : h < n := by omega
      have hmn : m < n := by omega
      have b0h : (0 : Int) ≤ (h : Int) := by omega
      have b1h : (h : Int) < (n : Int) := by omega
      have b0m : (0 : Int) ≤ (m : Int) := by omega
      have b1m : (m : Int) < (n : Int) := by omega
      obtain ⟨x, hx⟩ : ∃ x, x = f m := ⟨_, rfl⟩
      have HRx := Lib.hid hx
      obtain ⟨y, hy⟩ : ∃ y, y = f h := ⟨_, rfl⟩
      have HRy := Lib.hid hy
      have hcc : cfMark x.1 y.1 < 0 ↔ lt (f m) (f h) := by rw [hx, hy]; exact HR.out.says _ _ (HM.out.apart h m (by omega) (by omega) (by omega) (by omega))
      have HCC := Lib.hid hcc
      clear hcc hx hy hh
      go_wp2_with fail
      clear hhz
      have iap : (0 : Int) ≤ (m : Int) := by omega
      have ibp : (m : Int) < (n : Int) := by omega
      have icp : ((m : Int)).toNat = m := by omega
      have idp : IntKind.i64.wrap ((m : Int)) = (m : Int) := IntWalk.i64_in _ (by omega)
      have iaq : (0 : Int) ≤ (h : Int) := by omega
      have ibq : (h : Int) < (n : Int) := by omega
      have icq : ((h : Int)).toNat = h := by omega
      have idq : IntKind.i64.wrap ((h : Int)) = (h : Int) := IntWalk.i64_in _ (by omega)
      have hS0 : (fun W => Slab celT 28 78 sz W blk n f) wr.drew := hW.drew
      have b00 : Below wr.heap.size wr wr.drew := (Below.refl _ _).drew
      refine wp_region_held_drew (S := (fun W => Slab celT 28 78 sz W blk n f)) (by kernel_rfl) hS0 (fun _ => ?_)
      generalize wr.drew = W1 at hS0 b00 ⊢
      refine held_take (i := 0) (d := some 92) rfl rfl (by kernel_rfl) (by kernel_rfl) (by kernel_rfl) (fun _ _ _ h => h) (.inl ⟨by rfl, fun W hW => by go_simp; rfl⟩) hS0 ?_
      try simp only [Act.put, List.setIfInBounds_toArray, List.set_cons_zero, List.set_cons_succ]
      refine held_take (i := 1) (d := some 93) rfl rfl (by kernel_rfl) (by kernel_rfl) (by kernel_rfl) (fun _ _ _ h => h) (.inl ⟨by rfl, fun W hW => by go_simp; rfl⟩) hS0 ?_
      try simp only [Act.put, List.setIfInBounds_toArray, List.set_cons_zero, List.set_cons_succ]
      refine held_take (i := 2) (d := some 94) rfl rfl (by kernel_rfl) (by kernel_rfl) (by kernel_rfl) (fun _ _ _ h => h) (.inl ⟨by rfl, fun W hW => by go_simp; rfl⟩) hS0 ?_
      try simp only [Act.put, List.setIfInBounds_toArray, List.set_cons_zero, List.set_cons_succ]
      refine held_take (i := 3) (d := some 95) rfl rfl (by kernel_rfl) (by kernel_rfl) (by kernel_rfl) (fun _ _ _ h => h) (.inl ⟨by rfl, fun W hW => by go_simp; rfl⟩) hS0 ?_
      try simp only [Act.put, List.setIfInBounds_toArray, List.set_cons_zero, List.set_cons_succ]
      refine held_take (i := 4) (d := some 96) (v := .agg (celT x).toArray) rfl rfl (by kernel_rfl) (by kernel_rfl) (by kernel_rfl) (fun _ _ _ h => h) (.inl ⟨by rfl, fun W hW => exec_load rfl rfl (by rw [HRx.out]; exact Slab.load hW len_K ty_K hmn)⟩) hS0 ?_
      try simp only [Act.put, List.setIfInBounds_toArray, List.set_cons_zero, List.set_cons_succ]
      refine held_take (i := 5) (d := some 97) rfl rfl (by kernel_rfl) (by kernel_rfl) (by kernel_rfl) (fun _ _ _ h => h) (.inl ⟨by rfl, fun W hW => by go_simp; rfl⟩) hS0 ?_
      try simp only [Act.put, List.setIfInBounds_toArray, List.set_cons_zero, List.set_cons_succ]
      refine held_take (i := 6) (d := some 98) rfl rfl (by kernel_rfl) (by kernel_rfl) (by kernel_rfl) (fun _ _ _ h => h) (.inl ⟨by rfl, fun W hW => by go_simp; rfl⟩) hS0 ?_
      try simp only [Act.put, List.setIfInBounds_toArray, List.set_cons_zero, List.set_cons_succ]
      refine held_take (i := 7) (d := some 99) rfl rfl (by kernel_rfl) (by kernel_rfl) (by kernel_rfl) (fun _ _ _ h => h) (.inl ⟨by rfl, fun W hW => by go_simp; rfl⟩) hS0 ?_
      try simp only [Act.put, List.setIfInBounds_toArray, List.set_cons_zero, List.set_cons_succ]
      refine held_take (i := 8) (d := some 100) (v := .agg (celT y).toArray) rfl rfl (by kernel_rfl) (by kernel_rfl) (by kernel_rfl) (fun _ _ _ h => h) (.inl ⟨by rfl, fun W hW => exec_load rfl rfl (by rw [HRy.out]; exact Slab.load hW len_K ty_K hhn)⟩) hS0 ?_
      try simp only [Act.put, List.setIfInBounds_toArray, List.set_cons_zero, List.set_cons_succ]
      refine held_call (i := 9) (d := some 101) (by kernel_rfl) rfl rfl (by rfl) (by go_simp; first | rfl | exact ⟨rfl, rfl⟩ | exact ⟨⟨rfl, rfl⟩, rfl⟩) ?_
      (refine (found2_any x.1 y.1 _).mono ?_)
      rintro e w5 ⟨rfl, b5⟩
      have hS5 : (fun W => Slab celT 28 78 sz W blk n f) w5 := Slab.below hS0 b5
      replace b5 := b00.trans (b5.mono b00.size)
      refine ⟨_, rfl, hS5, ?_⟩
      try simp only [Act.put, List.setIfInBounds_toArray, List.set_cons_zero, List.set_cons_succ]
      clear hS0 b00
      refine held_take (i := 10) (d := some 102) rfl rfl (by kernel_rfl) (by kernel_rfl) (by kernel_rfl) (fun _ _ _ h => h) (.inl ⟨by rfl, fun W hW => by go_simp; rfl⟩) hS5 ?_
      try simp only [Act.put, List.setIfInBounds_toArray, List.set_cons_zero, List.set_cons_succ]
      refine held_take (i := 11) (d := some 103) rfl rfl (by kernel_rfl) (by kernel_rfl) (by kernel_rfl) (fun _ _ _ h => h) (.inl ⟨by rfl, fun W hW => by go_simp; rfl⟩) hS5 ?_
      try simp only [Act.put, List.setIfInBounds_toArray, List.set_cons_zero, List.set_cons_succ]
      refine wpAnyH_done (by kernel_rfl) ?_ _
      clear hS5 HRx HRy
      have HS5 := Lib.hid (hW.below b5)
      have HX5 := Lib.hid (HX.out.then_below b5)
      clear  hW b5
      by_cases hc : cfMark x.1 y.1 < 0
      · have hcb : decide (cfMark x.1 y.1 < 0) = true := decide_eq_true hc
        simp only [hcb, Bool.not_true]
        go_wp2_with fail
        go_roundg (h - i)
        case measure => rw [HG.out]; omega
        case rel => exact ⟨i, h, rfl, by omega, by omega, by omega, rfl, rfl, HS5.out, q1, Lib.hid (.inr (HCC.out.1 hc)), HX5.out⟩
      · have hcb : decide (cfMark x.1 y.1 < 0) = false := decide_eq_false hc
        simp only [hcb, Bool.not_false]
        go_wp2_with fail
        go_roundg (j - (h + 1))
        case measure => rw [HG.out]; omega
        case rel => exact ⟨h + 1, j, rfl, by omega, by omega, hj, by go_num, rfl, HS5.out, Lib.hid (.inr (fun t => by have := HCC.out.2 t; omega)), q2, HX5.out⟩
    · obtain rfl : i = j := by omega
      have HD := Lib.hid (one_right HR.out (by rw [← HE.out]; exact HM.out) hi hj q1.out q2.out)
      clear q1 q2 hlt
      obtain ⟨wo, hwo⟩ : ∃ wo : World, wo = wr := ⟨_, rfl⟩
      subst hwo
      go_wp2_with fail
      go_loopg [17] (m - i) (fun g0 kv wx => ∃ k : Nat, g0 = k - i ∧ i ≤ k ∧ k ≤ m ∧ kv = .int .i64 k ∧ Slab celT 28 78 sz wx blk n (moveL f m k) ∧ Ext (· = blk) w wx)
      case atStart => exact ⟨m, rfl, by omega, Nat.le_refl _, rfl, by rw [moveL_zero]; exact hW, HX.out⟩
      case round =>
        obtain ⟨k, hg, hk1, hk2, rfl, hW, hx⟩ := hrel
        have HG2 := Lib.hid hg
        clear hg
        have HX2 := Lib.hid hx
        clear hx
        by_cases hlt : i < k
        · obtain ⟨q, rfl⟩ : ∃ q, k = q + 1 := ⟨k - 1, by omega⟩
          have hp : q + 1 < n := by omega
          have hq : q < n := by omega
          have iw1 : IntKind.i64.wrap ((q : Int) + 1 - 1) = (q : Int) := by rw [show (q : Int) + 1 - 1 = (q : Int) by omega]; exact IntWalk.i64_in _ (by omega)
          have iw3 : IntKind.i64.wrap (q : Int) = (q : Int) := IntWalk.i64_in _ (by omega)
          have HW : Hid (swapF (moveL f m (q + 1)) (q + 1) q = moveL f m q) := moveL_step f m q (by omega)
          generalize moveL f m (q + 1) = g0 at *
          have HSL := Lib.hid hW
          clear hW
          have iap : (0 : Int) ≤ (q : Int) + 1 := by omega
          have ibp : (q : Int) + 1 < (n : Int) := by omega
          have icp : ((q : Int) + 1).toNat = q + 1 := by omega
          have idp : IntKind.i64.wrap ((q : Int) + 1) = (q : Int) + 1 := IntWalk.i64_in _ (by omega)
          have iaq : (0 : Int) ≤ (q : Int) := by omega
          have ibq : (q : Int) < (n : Int) := by omega
          have icq : ((q : Int)).toNat = q := by omega
          have idq : IntKind.i64.wrap ((q : Int)) = (q : Int) := IntWalk.i64_in _ (by omega)
          go_wp2_with fail
          refine wp_region_s (fun W => Slab celT 28 78 sz W blk n g0) (fun i => !(i == 9 || i == 13)) (by kernel_rfl) ?_
          have hS0 : Slab celT 28 78 sz wr.drew blk n g0 := HSL.out.drew
          have X0 : Ext (· = blk) wr wr.drew := (Ext.refl _ _).drew
          generalize wr.drew = W1 at hS0 X0 ⊢
          refine wpAnyS_takeP (i := 0) (d := some 113) rfl rfl rfl (by kernel_rfl) (by kernel_rfl) (by kernel_rfl) (fun _ _ _ h => h) (.inl ⟨by rfl, fun W hW => by go_simp; rfl⟩) ?_
          try simp only [Act.put, List.setIfInBounds_toArray, List.set_cons_zero, List.set_cons_succ]
          refine wpAnyS_takeP (i := 1) (d := some 114) rfl rfl rfl (by kernel_rfl) (by kernel_rfl) (by kernel_rfl) (fun _ _ _ h => h) (.inl ⟨by rfl, fun W hW => by go_simp; rfl⟩) ?_
          try simp only [Act.put, List.setIfInBounds_toArray, List.set_cons_zero, List.set_cons_succ]
          refine wpAnyS_takeP (i := 2) (d := some 115) rfl rfl rfl (by kernel_rfl) (by kernel_rfl) (by kernel_rfl) (fun _ _ _ h => h) (.inl ⟨by rfl, fun W hW => by go_simp; rfl⟩) ?_
          try simp only [Act.put, List.setIfInBounds_toArray, List.set_cons_zero, List.set_cons_succ]
          refine wpAnyS_takeP (i := 3) (d := some 116) rfl rfl rfl (by kernel_rfl) (by kernel_rfl) (by kernel_rfl) (fun _ _ _ h => h) (.inl ⟨by rfl, fun W hW => by go_simp; rfl⟩) ?_
          try simp only [Act.put, List.setIfInBounds_toArray, List.set_cons_zero, List.set_cons_succ]
          refine wpAnyS_takeP (i := 4) (d := some 117) rfl rfl rfl (by kernel_rfl) (by kernel_rfl) (by kernel_rfl) (fun _ _ _ h => h) (.inl ⟨by rfl, fun W hW => by go_simp; rfl⟩) ?_
          try simp only [Act.put, List.setIfInBounds_toArray, List.set_cons_zero, List.set_cons_succ]
          refine wpAnyS_takeP (i := 5) (d := some 118) rfl rfl rfl (by kernel_rfl) (by kernel_rfl) (by kernel_rfl) (fun _ _ _ h => h) (.inl ⟨by rfl, fun W hW => by go_simp; rfl⟩) ?_
          try simp only [Act.put, List.setIfInBounds_toArray, List.set_cons_zero, List.set_cons_succ]
          refine wpAnyS_takeP (i := 6) (d := some 119) rfl rfl rfl (by kernel_rfl) (by kernel_rfl) (by kernel_rfl) (fun _ _ _ h => h) (.inl ⟨by rfl, fun W hW => by go_simp; rfl⟩) ?_
          try simp only [Act.put, List.setIfInBounds_toArray, List.set_cons_zero, List.set_cons_succ]
          refine wpAnyS_takeP (i := 7) (d := some 120) rfl rfl rfl (by kernel_rfl) (by kernel_rfl) (by kernel_rfl) (fun _ _ _ h => h) (.inl ⟨by rfl, fun W hW => by go_simp; rfl⟩) ?_
          try simp only [Act.put, List.setIfInBounds_toArray, List.set_cons_zero, List.set_cons_succ]
          refine wpAnyS_takeP (i := 8) (d := some 121) rfl rfl rfl (by kernel_rfl) (by kernel_rfl) (by kernel_rfl) (fun _ _ _ h => h) (.inl ⟨by rfl, fun W hW => by go_simp; rfl⟩) ?_
          try simp only [Act.put, List.setIfInBounds_toArray, List.set_cons_zero, List.set_cons_succ]
          refine wpAnyS_takeP (i := 10) (d := some 123) rfl rfl rfl (by kernel_rfl) (by kernel_rfl) (by kernel_rfl) (fun _ _ _ h => h) (.inl ⟨by rfl, fun W hW => by go_simp; rfl⟩) ?_
          try simp only [Act.put, List.setIfInBounds_toArray, List.set_cons_zero, List.set_cons_succ]
          refine wpAnyS_takeP (i := 11) (d := some 124) rfl rfl rfl (by kernel_rfl) (by kernel_rfl) (by kernel_rfl) (fun _ _ _ h => h) (.inl ⟨by rfl, fun W hW => by go_simp; rfl⟩) ?_
          try simp only [Act.put, List.setIfInBounds_toArray, List.set_cons_zero, List.set_cons_succ]
          refine wpAnyS_takeP (i := 12) (d := some 125) rfl rfl rfl (by kernel_rfl) (by kernel_rfl) (by kernel_rfl) (fun _ _ _ h => h) (.inl ⟨by rfl, fun W hW => by go_simp; rfl⟩) ?_
          try simp only [Act.put, List.setIfInBounds_toArray, List.set_cons_zero, List.set_cons_succ]
          refine wpAnyS_take (i := 9) (d := some 122) (v := .agg (celT (g0 q)).toArray) rfl rfl rfl (by kernel_rfl) (by kernel_rfl) (by kernel_rfl) (by kernel_rfl) (fun _ _ _ h => h) (.inl ⟨by rfl, fun W hW => exec_load rfl rfl (Slab.load hW len_K ty_K hq)⟩) hS0 ?_
          try simp only [Act.put, List.setIfInBounds_toArray, List.set_cons_zero, List.set_cons_succ]
          refine wpAnyS_take (i := 13) (d := some 126) (v := .agg (celT (g0 (q + 1))).toArray) rfl rfl rfl (by kernel_rfl) (by kernel_rfl) (by kernel_rfl) (by kernel_rfl) (fun _ _ _ h => h) (.inl ⟨by rfl, fun W hW => exec_load rfl rfl (Slab.load hW len_K ty_K hp)⟩) hS0 ?_
          try simp only [Act.put, List.setIfInBounds_toArray, List.set_cons_zero, List.set_cons_succ]
          refine wpAnyS_takeP (i := 14) (d := some 127) rfl rfl rfl (by kernel_rfl) (by kernel_rfl) (by kernel_rfl) (fun _ _ _ h => h) (.inl ⟨by rfl, fun W hW => by go_simp; rfl⟩) ?_
          try simp only [Act.put, List.setIfInBounds_toArray, List.set_cons_zero, List.set_cons_succ]
          obtain ⟨W2, st2, s2, e2⟩ := Slab.store hS0 len_K one_K ty_K hp (g0 q)
          refine wpAnyS_mute (i := 15) (d := none) (by kernel_rfl) rfl rfl (by rfl) (exec_store rfl rfl rfl st2) (fun h => by cases h) ?_
          try simp only [Act.put, List.setIfInBounds_toArray, List.set_cons_zero, List.set_cons_succ]
          refine wpAnyS_takeP (i := 16) (d := some 128) rfl rfl rfl (by kernel_rfl) (by kernel_rfl) (by kernel_rfl) (fun _ _ _ h => h) (.inl ⟨by rfl, fun W hW => by go_simp; rfl⟩) ?_
          try simp only [Act.put, List.setIfInBounds_toArray, List.set_cons_zero, List.set_cons_succ]
          obtain ⟨W3, st3, s3, e3⟩ := Slab.store s2 len_K one_K ty_K hq (g0 (q + 1))
          refine wpAnyS_mute (i := 17) (d := none) (by kernel_rfl) rfl rfl (by rfl) (exec_store rfl rfl rfl st3) (fun h => by cases h) ?_
          try simp only [Act.put, List.setIfInBounds_toArray, List.set_cons_zero, List.set_cons_succ]
          refine wpAnyS_done (by kernel_rfl) ?_ _
          have HSW : Hid (Slab celT 28 78 sz W3 blk n (swapF g0 (q + 1) q) ∧ Ext (· = blk) wr W3) := Lib.hid ⟨by rw [swapF_upd]; exact s3, (X0.trans e2).trans e3⟩
          clear hS0 X0 st2 s2 e2 st3 s3 e3
          clear HSL
          go_wp2_with fail
          go_roundg (q - i)
          case measure => rw [HG2.out]; omega
          case rel => exact ⟨q, rfl, by omega, by omega, by go_num, by rw [← HW.out]; exact HSW.out.1, HX2.out.trans HSW.out.2⟩
        · obtain rfl : k = i := by omega
          go_wp2_with fail
          refine bodyPost_ret (v := .tuple #[]) (results_none rfl _ _ _) rfl ?_
          exact ⟨⟨_, rfl⟩, Lib.hid ⟨_, hW, by rw [HE.out]; exact HD.out.2, by rw [HE.out]; exact HD.out.1⟩, HX2.out⟩
        
end

end Go.Proofs.Ytlfmkoapddihcaa
