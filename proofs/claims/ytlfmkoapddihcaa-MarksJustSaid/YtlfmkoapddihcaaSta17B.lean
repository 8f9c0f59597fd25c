/- Stable sorting of structs: the library's own functions, each by a contract. -/
import Derived.Test.YtlfmkoapddihcaaRuns
import Derived.Test.YtlfmkoapddihcaaHand
import Derived.BigRegion
import Derived.BigQuiet
import Derived.Deep.QuietTactic
import Derived.Deep.LoopGhost
import Derived.Deep.RegionHeld3
import Derived.Deep.CutBlock
import Derived.Deep.DeepCutAuto
import Derived.IntWalk
import Derived.Lib.Hide
import Derived.Test.YtlfmkoapddihcaaSta17A
namespace Go.Proofs.Ytlfmkoapddihcaa
open Go.RowKit
set_option linter.unusedSimpArgs false
set_option linter.unusedVariables false

section
variable {cap sz blk n : Nat} {lt : (Mark × Nat) → (Mark × Nat) → Prop}

set_option maxHeartbeats 400000 in
theorem insertion_none (v : Value) (a : Nat) (fv : Value) (w : World) (hn : a < 9223372036854775807) :
    Calls Try.prog 46 #[v, .int .i64 a, .int .i64 a, fv] w fun e w' => (∃ v, e = .returned v) ∧ w = w' := by
  go_enter Try.func46, Try.ntmps46
  go_wp2_with fail
  go_loopg [8] 1 (fun g iv wx => iv = .int .i64 (a + 1 : Nat) ∧ w = wx)
  case atStart => exact ⟨by go_num, rfl⟩
  case round =>
    obtain ⟨rfl, rfl⟩ := hrel
    go_wp2_with fail
    go_end0
    exact ⟨⟨_, rfl⟩, rfl⟩
  
set_option maxRecDepth 100000 in
set_option maxHeartbeats 4000000 in
theorem insertion_any (a b : Nat) (f : Nat → (Mark × Nat)) (w : World) (hS : Slab celT 28 78 sz w blk n f) (R : Ranks lt Prod.snd (fun x y : (Mark × Nat) => cfMark x.1 y.1)) (hab : a < b) (hbn : b ≤ n) (hcap : n ≤ cap) (hn : cap ≤ maxLen) (hp : ∀ p q, a ≤ p → p < q → q < b → (f p).2 < (f q).2) :
    Calls Try.prog 46 #[.slice (some ⟨blk, 0, none⟩) n cap, .int .i64 a, .int .i64 b, .func (.func 32) #[] #[]] w fun e w' => (∃ v, e = .returned v) ∧ Hid (∃ g, Slab celT 28 78 sz w' blk n g ∧ PermF a b f g ∧ SortF lt a b g) ∧ Ext (· = blk) w w' := by
  unfold maxLen at hn
  have HR := Lib.hid R
  have HP := Lib.hid hp
  clear R hp
  go_enter Try.func46, Try.ntmps46
  go_wp2_with fail
  go_loopg [8] (b - (a + 1)) (fun g0 iv wx => ∃ (i : Nat) (f1 : Nat → (Mark × Nat)), g0 = b - i ∧ a + 1 ≤ i ∧ i ≤ b ∧ iv = .int .i64 i ∧ Slab celT 28 78 sz wx blk n f1 ∧ Hid (PermF a i f f1) ∧ Hid (SortF lt a i f1) ∧ Ext (· = blk) w wx)
  case atStart => exact ⟨a + 1, f, by omega, Nat.le_refl _, hab, by go_num, hS, Lib.hid (PermF.refl _ _ _), Lib.hid (fun i j h1 h2 h3 => by omega), Ext.refl _ _⟩
  case round =>
    obtain ⟨i, f1, hg, hi1, hi2, rfl, hW, hpm, hso, hx⟩ := hrel
    have HG := Lib.hid hg
    clear hg hS
    have HX := Lib.hid hx
    clear hx
    by_cases hlt : i < b
    · have hin : i < n := by omega
      have hst : Hid (InsInv lt Prod.snd a i i f1 f1) := Lib.hid (InsInv.start (by omega) hso.out (fun p h1 h2 => by
        obtain ⟨q, k1, k2, k3⟩ := hpm.out.from h1 h2
        rw [k3, hpm.out.out (.inr (Nat.le_refl i))]
        exact HP.out q i k1 k2 hlt))
      obtain ⟨wo, hwo⟩ : ∃ wo : World, wo = wr := ⟨_, rfl⟩
      subst hwo
      go_wp2_with fail
      go_loopg [9] i (fun g0 jv wx => ∃ (j : Nat) (f2 : Nat → (Mark × Nat)), g0 = j ∧ a ≤ j ∧ j ≤ i ∧ jv = .int .i64 j ∧ Slab celT 28 78 sz wx blk n f2 ∧ Hid (InsInv lt Prod.snd a i j f1 f2) ∧ Ext (· = blk) w wx)
      case atStart => exact ⟨i, f1, rfl, by omega, Nat.le_refl _, rfl, hW, hst, HX.out⟩
      case round =>
        obtain ⟨j, f2, hg, hj1, hj2, rfl, hW, hv, hx⟩ := hrel
        have HG2 := Lib.hid hg
        clear hg hst
        have HX2 := Lib.hid hx
        clear hx
        by_cases haj : a < j
        · obtain ⟨k, hk⟩ : ∃ k, k = j - 1 := ⟨_, rfl⟩
          have hkj : j = k + 1 := by omega
          subst hkj
          clear hk
          have hjn : k + 1 < n := by omega
          have hkn : k < n := by omega
          have hak : a ≤ k := by omega
          obtain ⟨x, hx⟩ : ∃ x, x = f2 (k + 1) := ⟨_, rfl⟩
          have HRx := Lib.hid hx
          obtain ⟨y, hy⟩ : ∃ y, y = f2 k := ⟨_, rfl⟩
          have HRy := Lib.hid hy
          have gd1 : decide (a < k + 1) = true := by rw [decide_eq_true_eq]; omega
          have gd2 : decide ((a : Int) < (k : Int) + 1) = true := by rw [decide_eq_true_eq]; omega
          have ib1 : (0 : Int) ≤ (k : Int) + 1 := by omega
          have ib2 : (k : Int) + 1 < (n : Int) := by omega
          have ib3 : (0 : Int) ≤ (k : Int) := by omega
          have ib4 : (k : Int) < (n : Int) := by omega
          have iw1 : IntKind.i64.wrap ((k : Int) + 1 - 1) = (k : Int) := by rw [show (k : Int) + 1 - 1 = (k : Int) by omega]; exact IntWalk.i64_in _ (by omega)
          have iw3 : IntKind.i64.wrap (k : Int) = (k : Int) := IntWalk.i64_in _ (by omega)
          have iw2 : ((k : Int) + 1).toNat = k + 1 := by omega
          have HXX := Lib.hid hx
          have HYY := Lib.hid hy
          clear hx hy
          go_wp2_with fail
          have iap : (0 : Int) ≤ (k : Int) + 1 := by omega
          have ibp : (k : Int) + 1 < (n : Int) := by omega
          have icp : ((k : Int) + 1).toNat = k + 1 := by omega
          have idp : IntKind.i64.wrap ((k : Int) + 1) = (k : Int) + 1 := IntWalk.i64_in _ (by omega)
          have iaq : (0 : Int) ≤ (k : Int) := by omega
          have ibq : (k : Int) < (n : Int) := by omega
          have icq : ((k : Int)).toNat = k := by omega
          have idq : IntKind.i64.wrap ((k : Int)) = (k : Int) := IntWalk.i64_in _ (by omega)
          have hS0 : (fun W => Slab celT 28 78 sz W blk n f2) wr.drew := hW.drew
          have b00 : Below wr.heap.size wr wr.drew := (Below.refl _ _).drew
          refine wp_region_held_drew (S := (fun W => Slab celT 28 78 sz W blk n f2)) (by kernel_rfl) hS0 (fun _ => ?_)
          generalize wr.drew = W1 at hS0 b00 ⊢
          refine held_take (i := 0) (d := some 18) rfl rfl (by kernel_rfl) (by kernel_rfl) (by kernel_rfl) (fun _ _ _ h => h) (.inl ⟨by rfl, fun W hW => by go_simp; rfl⟩) hS0 ?_
          try simp only [Act.put, List.setIfInBounds_toArray, List.set_cons_zero, List.set_cons_succ]
          refine held_take (i := 1) (d := some 19) rfl rfl (by kernel_rfl) (by kernel_rfl) (by kernel_rfl) (fun _ _ _ h => h) (.inl ⟨by rfl, fun W hW => by go_simp; rfl⟩) hS0 ?_
          try simp only [Act.put, List.setIfInBounds_toArray, List.set_cons_zero, List.set_cons_succ]
          refine held_take (i := 2) (d := some 20) rfl rfl (by kernel_rfl) (by kernel_rfl) (by kernel_rfl) (fun _ _ _ h => h) (.inl ⟨by rfl, fun W hW => by go_simp; rfl⟩) hS0 ?_
          try simp only [Act.put, List.setIfInBounds_toArray, List.set_cons_zero, List.set_cons_succ]
          refine held_take (i := 3) (d := some 21) rfl rfl (by kernel_rfl) (by kernel_rfl) (by kernel_rfl) (fun _ _ _ h => h) (.inl ⟨by rfl, fun W hW => by go_simp; rfl⟩) hS0 ?_
          try simp only [Act.put, List.setIfInBounds_toArray, List.set_cons_zero, List.set_cons_succ]
          refine held_take (i := 4) (d := some 22) rfl rfl (by kernel_rfl) (by kernel_rfl) (by kernel_rfl) (fun _ _ _ h => h) (.inl ⟨by rfl, fun W hW => by go_simp; rfl⟩) hS0 ?_
          try simp only [Act.put, List.setIfInBounds_toArray, List.set_cons_zero, List.set_cons_succ]
          refine held_take (i := 5) (d := some 23) rfl rfl (by kernel_rfl) (by kernel_rfl) (by kernel_rfl) (fun _ _ _ h => h) (.inl ⟨by rfl, fun W hW => by go_simp; rfl⟩) hS0 ?_
          try simp only [Act.put, List.setIfInBounds_toArray, List.set_cons_zero, List.set_cons_succ]
          refine held_take (i := 6) (d := some 24) rfl rfl (by kernel_rfl) (by kernel_rfl) (by kernel_rfl) (fun _ _ _ h => h) (.inl ⟨by rfl, fun W hW => by go_simp; rfl⟩) hS0 ?_
          try simp only [Act.put, List.setIfInBounds_toArray, List.set_cons_zero, List.set_cons_succ]
          refine held_take (i := 7) (d := some 25) rfl rfl (by kernel_rfl) (by kernel_rfl) (by kernel_rfl) (fun _ _ _ h => h) (.inl ⟨by rfl, fun W hW => by go_simp; rfl⟩) hS0 ?_
          try simp only [Act.put, List.setIfInBounds_toArray, List.set_cons_zero, List.set_cons_succ]
          refine held_take (i := 8) (d := some 26) (v := .agg (celT x).toArray) rfl rfl (by kernel_rfl) (by kernel_rfl) (by kernel_rfl) (fun _ _ _ h => h) (.inl ⟨by rfl, fun W hW => exec_load rfl rfl (by rw [HRx.out]; exact Slab.load hW len_K ty_K hjn)⟩) hS0 ?_
          try simp only [Act.put, List.setIfInBounds_toArray, List.set_cons_zero, List.set_cons_succ]
          refine held_take (i := 9) (d := some 27) rfl rfl (by kernel_rfl) (by kernel_rfl) (by kernel_rfl) (fun _ _ _ h => h) (.inl ⟨by rfl, fun W hW => by go_simp; rfl⟩) hS0 ?_
          try simp only [Act.put, List.setIfInBounds_toArray, List.set_cons_zero, List.set_cons_succ]
          refine held_take (i := 10) (d := some 28) rfl rfl (by kernel_rfl) (by kernel_rfl) (by kernel_rfl) (fun _ _ _ h => h) (.inl ⟨by rfl, fun W hW => by go_simp; rfl⟩) hS0 ?_
          try simp only [Act.put, List.setIfInBounds_toArray, List.set_cons_zero, List.set_cons_succ]
          refine held_take (i := 11) (d := some 29) rfl rfl (by kernel_rfl) (by kernel_rfl) (by kernel_rfl) (fun _ _ _ h => h) (.inl ⟨by rfl, fun W hW => by go_simp; rfl⟩) hS0 ?_
          try simp only [Act.put, List.setIfInBounds_toArray, List.set_cons_zero, List.set_cons_succ]
          refine held_take (i := 12) (d := some 30) rfl rfl (by kernel_rfl) (by kernel_rfl) (by kernel_rfl) (fun _ _ _ h => h) (.inl ⟨by rfl, fun W hW => by go_simp; rfl⟩) hS0 ?_
          try simp only [Act.put, List.setIfInBounds_toArray, List.set_cons_zero, List.set_cons_succ]
          refine held_take (i := 13) (d := some 31) (v := .agg (celT y).toArray) rfl rfl (by kernel_rfl) (by kernel_rfl) (by kernel_rfl) (fun _ _ _ h => h) (.inl ⟨by rfl, fun W hW => exec_load rfl rfl (by rw [HRy.out]; exact Slab.load hW len_K ty_K hkn)⟩) hS0 ?_
          try simp only [Act.put, List.setIfInBounds_toArray, List.set_cons_zero, List.set_cons_succ]
          refine held_call (i := 14) (d := some 32) (by kernel_rfl) rfl rfl (by rfl) (by go_simp; first | rfl | exact ⟨rfl, rfl⟩ | exact ⟨⟨rfl, rfl⟩, rfl⟩) ?_
          (refine (found2_any x.1 y.1 _).mono ?_)
          rintro e w5 ⟨rfl, b5⟩
          have hS5 : (fun W => Slab celT 28 78 sz W blk n f2) w5 := Slab.below hS0 b5
          replace b5 := b00.trans (b5.mono b00.size)
          refine ⟨_, rfl, hS5, ?_⟩
          try simp only [Act.put, List.setIfInBounds_toArray, List.set_cons_zero, List.set_cons_succ]
          clear hS0 b00
          refine held_take (i := 15) (d := some 33) rfl rfl (by kernel_rfl) (by kernel_rfl) (by kernel_rfl) (fun _ _ _ h => h) (.inl ⟨by rfl, fun W hW => by go_simp; rfl⟩) hS5 ?_
          try simp only [Act.put, List.setIfInBounds_toArray, List.set_cons_zero, List.set_cons_succ]
          refine held_take (i := 16) (d := some 34) rfl rfl (by kernel_rfl) (by kernel_rfl) (by kernel_rfl) (fun _ _ _ h => h) (.inl ⟨by rfl, fun W hW => by go_simp; rfl⟩) hS5 ?_
          try simp only [Act.put, List.setIfInBounds_toArray, List.set_cons_zero, List.set_cons_succ]
          refine wpAnyH_done (by kernel_rfl) ?_ _
          clear hS5 HRx HRy
          have HS5 := Lib.hid (hW.below b5)
          have HX5 := Lib.hid (HX2.out.then_below b5)
          clear  hW b5
          have hcc : cfMark x.1 y.1 < 0 ↔ lt x y := by rw [HXX.out, HYY.out]; exact HR.out.says _ _ (hv.out.later k hak (by omega) (by omega))
          have HCC := Lib.hid hcc
          clear hcc
          by_cases hc : cfMark x.1 y.1 < 0
          · have hd := hv.out.down hak (by rw [← HXX.out, ← HYY.out]; exact HCC.out.1 hc)
            have HD := Lib.hid hd
            clear hd
            have hW := HS5.out
            have hx := HXX.out
            have hy := HYY.out
            clear HXX HYY HCC
            have HSL := Lib.hid hW
            clear hW hx hy HS5
            have iap : (0 : Int) ≤ (k : Int) + 1 := by omega
            have ibp : (k : Int) + 1 < (n : Int) := by omega
            have icp : ((k : Int) + 1).toNat = k + 1 := by omega
            have idp : IntKind.i64.wrap ((k : Int) + 1) = (k : Int) + 1 := IntWalk.i64_in _ (by omega)
            have iaq : (0 : Int) ≤ (k : Int) := by omega
            have ibq : (k : Int) < (n : Int) := by omega
            have icq : ((k : Int)).toNat = k := by omega
            have idq : IntKind.i64.wrap ((k : Int)) = (k : Int) := IntWalk.i64_in _ (by omega)
            go_wp2_with fail
            refine wp_region_s (fun W => Slab celT 28 78 sz W blk n f2) (fun i => !(i == 9 || i == 13)) (by kernel_rfl) ?_
            have hS0 : Slab celT 28 78 sz w5.drew blk n f2 := HSL.out.drew
            have X0 : Ext (· = blk) w5 w5.drew := (Ext.refl _ _).drew
            generalize w5.drew = W1 at hS0 X0 ⊢
            refine wpAnyS_takeP (i := 0) (d := some 37) rfl rfl rfl (by kernel_rfl) (by kernel_rfl) (by kernel_rfl) (fun _ _ _ h => h) (.inl ⟨by rfl, fun W hW => by go_simp; rfl⟩) ?_
            try simp only [Act.put, List.setIfInBounds_toArray, List.set_cons_zero, List.set_cons_succ]
            refine wpAnyS_takeP (i := 1) (d := some 38) rfl rfl rfl (by kernel_rfl) (by kernel_rfl) (by kernel_rfl) (fun _ _ _ h => h) (.inl ⟨by rfl, fun W hW => by go_simp; rfl⟩) ?_
            try simp only [Act.put, List.setIfInBounds_toArray, List.set_cons_zero, List.set_cons_succ]
            refine wpAnyS_takeP (i := 2) (d := some 39) rfl rfl rfl (by kernel_rfl) (by kernel_rfl) (by kernel_rfl) (fun _ _ _ h => h) (.inl ⟨by rfl, fun W hW => by go_simp; rfl⟩) ?_
            try simp only [Act.put, List.setIfInBounds_toArray, List.set_cons_zero, List.set_cons_succ]
            refine wpAnyS_takeP (i := 3) (d := some 40) rfl rfl rfl (by kernel_rfl) (by kernel_rfl) (by kernel_rfl) (fun _ _ _ h => h) (.inl ⟨by rfl, fun W hW => by go_simp; rfl⟩) ?_
            try simp only [Act.put, List.setIfInBounds_toArray, List.set_cons_zero, List.set_cons_succ]
            refine wpAnyS_takeP (i := 4) (d := some 41) rfl rfl rfl (by kernel_rfl) (by kernel_rfl) (by kernel_rfl) (fun _ _ _ h => h) (.inl ⟨by rfl, fun W hW => by go_simp; rfl⟩) ?_
            try simp only [Act.put, List.setIfInBounds_toArray, List.set_cons_zero, List.set_cons_succ]
            refine wpAnyS_takeP (i := 5) (d := some 42) rfl rfl rfl (by kernel_rfl) (by kernel_rfl) (by kernel_rfl) (fun _ _ _ h => h) (.inl ⟨by rfl, fun W hW => by go_simp; rfl⟩) ?_
            try simp only [Act.put, List.setIfInBounds_toArray, List.set_cons_zero, List.set_cons_succ]
            refine wpAnyS_takeP (i := 6) (d := some 43) rfl rfl rfl (by kernel_rfl) (by kernel_rfl) (by kernel_rfl) (fun _ _ _ h => h) (.inl ⟨by rfl, fun W hW => by go_simp; rfl⟩) ?_
            try simp only [Act.put, List.setIfInBounds_toArray, List.set_cons_zero, List.set_cons_succ]
            refine wpAnyS_takeP (i := 7) (d := some 44) rfl rfl rfl (by kernel_rfl) (by kernel_rfl) (by kernel_rfl) (fun _ _ _ h => h) (.inl ⟨by rfl, fun W hW => by go_simp; rfl⟩) ?_
            try simp only [Act.put, List.setIfInBounds_toArray, List.set_cons_zero, List.set_cons_succ]
            refine wpAnyS_takeP (i := 8) (d := some 45) rfl rfl rfl (by kernel_rfl) (by kernel_rfl) (by kernel_rfl) (fun _ _ _ h => h) (.inl ⟨by rfl, fun W hW => by go_simp; rfl⟩) ?_
            try simp only [Act.put, List.setIfInBounds_toArray, List.set_cons_zero, List.set_cons_succ]
            refine wpAnyS_takeP (i := 10) (d := some 47) rfl rfl rfl (by kernel_rfl) (by kernel_rfl) (by kernel_rfl) (fun _ _ _ h => h) (.inl ⟨by rfl, fun W hW => by go_simp; rfl⟩) ?_
            try simp only [Act.put, List.setIfInBounds_toArray, List.set_cons_zero, List.set_cons_succ]
            refine wpAnyS_takeP (i := 11) (d := some 48) rfl rfl rfl (by kernel_rfl) (by kernel_rfl) (by kernel_rfl) (fun _ _ _ h => h) (.inl ⟨by rfl, fun W hW => by go_simp; rfl⟩) ?_
            try simp only [Act.put, List.setIfInBounds_toArray, List.set_cons_zero, List.set_cons_succ]
            refine wpAnyS_takeP (i := 12) (d := some 49) rfl rfl rfl (by kernel_rfl) (by kernel_rfl) (by kernel_rfl) (fun _ _ _ h => h) (.inl ⟨by rfl, fun W hW => by go_simp; rfl⟩) ?_
            try simp only [Act.put, List.setIfInBounds_toArray, List.set_cons_zero, List.set_cons_succ]
            refine wpAnyS_take (i := 9) (d := some 46) (v := .agg (celT (f2 k)).toArray) rfl rfl rfl (by kernel_rfl) (by kernel_rfl) (by kernel_rfl) (by kernel_rfl) (fun _ _ _ h => h) (.inl ⟨by rfl, fun W hW => exec_load rfl rfl (Slab.load hW len_K ty_K hkn)⟩) hS0 ?_
            try simp only [Act.put, List.setIfInBounds_toArray, List.set_cons_zero, List.set_cons_succ]
            refine wpAnyS_take (i := 13) (d := some 50) (v := .agg (celT (f2 (k + 1))).toArray) rfl rfl rfl (by kernel_rfl) (by kernel_rfl) (by kernel_rfl) (by kernel_rfl) (fun _ _ _ h => h) (.inl ⟨by rfl, fun W hW => exec_load rfl rfl (Slab.load hW len_K ty_K hjn)⟩) hS0 ?_
            try simp only [Act.put, List.setIfInBounds_toArray, List.set_cons_zero, List.set_cons_succ]
            refine wpAnyS_takeP (i := 14) (d := some 51) rfl rfl rfl (by kernel_rfl) (by kernel_rfl) (by kernel_rfl) (fun _ _ _ h => h) (.inl ⟨by rfl, fun W hW => by go_simp; rfl⟩) ?_
            try simp only [Act.put, List.setIfInBounds_toArray, List.set_cons_zero, List.set_cons_succ]
            obtain ⟨W2, st2, s2, e2⟩ := Slab.store hS0 len_K one_K ty_K hjn (f2 k)
            refine wpAnyS_mute (i := 15) (d := none) (by kernel_rfl) rfl rfl (by rfl) (exec_store rfl rfl rfl st2) (fun h => by cases h) ?_
            try simp only [Act.put, List.setIfInBounds_toArray, List.set_cons_zero, List.set_cons_succ]
            refine wpAnyS_takeP (i := 16) (d := some 52) rfl rfl rfl (by kernel_rfl) (by kernel_rfl) (by kernel_rfl) (fun _ _ _ h => h) (.inl ⟨by rfl, fun W hW => by go_simp; rfl⟩) ?_
            try simp only [Act.put, List.setIfInBounds_toArray, List.set_cons_zero, List.set_cons_succ]
            obtain ⟨W3, st3, s3, e3⟩ := Slab.store s2 len_K one_K ty_K hkn (f2 (k + 1))
            refine wpAnyS_mute (i := 17) (d := none) (by kernel_rfl) rfl rfl (by rfl) (exec_store rfl rfl rfl st3) (fun h => by cases h) ?_
            try simp only [Act.put, List.setIfInBounds_toArray, List.set_cons_zero, List.set_cons_succ]
            refine wpAnyS_done (by kernel_rfl) ?_ _
            have HSW : Hid (Slab celT 28 78 sz W3 blk n (swapF f2 (k + 1) k) ∧ Ext (· = blk) w5 W3) := Lib.hid ⟨by rw [swapF_upd]; exact s3, (X0.trans e2).trans e3⟩
            clear hS0 X0 st2 s2 e2 st3 s3 e3
            clear HSL
            go_wp2_with fail
            go_roundg k
            case measure => rw [HG2.out]; omega
            case rel => exact ⟨k, _, rfl, hak, by omega, by go_num, HSW.out.1, HD, HX5.out.trans HSW.out.2⟩
          · have hq : ¬ lt (f2 (k + 1)) (f2 k) := by rw [← HXX.out, ← HYY.out]; exact fun h => hc (HCC.out.2 h)
            have HD := Lib.hid (hv.out.done HR.out (.inr hq))
            clear HXX HYY HCC hq
            go_wp2_with fail
            go_roundg (b - (i + 1))
            case measure => rw [HG.out]; omega
            case rel => exact ⟨i + 1, f2, rfl, by omega, hlt, by go_num, HS5.out, Lib.hid ((hpm.out.mono (Nat.le_refl _) (by omega)).trans hv.out.perm), HD, HX5.out⟩
        · obtain rfl : j = a := by omega
          have HD := Lib.hid (hv.out.done HR.out (.inl rfl))
          go_wp2_with fail
          go_quiet (fail)
          go_wp2_with fail
          go_roundg (b - (i + 1))
          case measure => rw [HG.out]; omega
          case rel => exact ⟨i + 1, f2, rfl, by omega, hlt, by go_num, hW.below (below_drewN (Below.refl _ _) _), Lib.hid ((hpm.out.mono (Nat.le_refl _) (by omega)).trans hv.out.perm), HD, HX2.out.then_below (below_drewN (Below.refl _ _) _)⟩
    · obtain rfl : i = b := by omega
      go_wp2_with fail
      go_end0
      exact ⟨⟨_, rfl⟩, Lib.hid ⟨f1, hW, hpm.out, hso.out⟩, HX.out⟩
    
end

end Go.Proofs.Ytlfmkoapddihcaa
