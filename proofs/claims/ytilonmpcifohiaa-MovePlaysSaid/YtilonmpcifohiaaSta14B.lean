/- Stable sorting of structs: the library's own functions, each by a contract. -/
import Derived.Test.YtilonmpcifohiaaRuns
import Derived.Test.YtilonmpcifohiaaHand
import Derived.BigRegion
import Derived.BigQuiet
import Derived.Deep.QuietTactic
import Derived.Deep.LoopGhost
import Derived.Deep.RegionHeld3
import Derived.Deep.CutBlock
import Derived.Deep.DeepCutAuto
import Derived.IntWalk
import Derived.Lib.Hide
import Derived.Test.YtilonmpcifohiaaSta14A
namespace Go.Proofs.Ytilonmpcifohiaa
open Go.RowKit
set_option linter.unusedSimpArgs false
set_option linter.unusedVariables false

section
variable {cap sz blk n : Nat} {lt : (Ch × Nat) → (Ch × Nat) → Prop}

set_option maxHeartbeats 400000 in
theorem insertion_none (v : Value) (a : Nat) (fv : Value) (w : World) (hn : a < 9223372036854775807) :
    Calls Try.prog 58 #[v, .int .i64 a, .int .i64 a, fv] w fun e w' => (∃ v, e = .returned v) ∧ w = w' := by
  go_enter Try.func58, Try.ntmps58
  go_wp2_with fail
  go_loopg [8] 1 (fun g iv wx => iv = .int .i64 (a + 1 : Nat) ∧ w = wx)
  case atStart => exact ⟨by go_num, rfl⟩
  case round =>
    obtain ⟨rfl, rfl⟩ := hrel
    go_wp2_with fail
    go_end0
    exact ⟨⟨_, rfl⟩, rfl⟩
  
set_option maxRecDepth 100000 in
set_option maxHeartbeats 4000000 in
theorem insertion_any (a b : Nat) (f : Nat → (Ch × Nat)) (w : World) (hS : Slab celT 5 36 sz w blk n f) (R : Ranks lt Prod.snd (fun x y : (Ch × Nat) => cfKey x.1 y.1)) (hab : a < b) (hbn : b ≤ n) (hcap : n ≤ cap) (hn : cap ≤ maxLen) (hp : ∀ p q, a ≤ p → p < q → q < b → (f p).2 < (f q).2) :
    Calls Try.prog 58 #[.slice (some ⟨blk, 0, none⟩) n cap, .int .i64 a, .int .i64 b, .func (.func 41) #[] #[]] w fun e w' => (∃ v, e = .returned v) ∧ Hid (∃ g, Slab celT 5 36 sz w' blk n g ∧ PermF a b f g ∧ SortF lt a b g) ∧ Ext (· = blk) w w' := by
  unfold maxLen at hn
  have HR := Lib.hid R
  have HP := Lib.hid hp
  clear R hp
  go_enter Try.func58, Try.ntmps58
  go_wp2_with fail
  go_loopg [8] (b - (a + 1)) (fun g0 iv wx => ∃ (i : Nat) (f1 : Nat → (Ch × Nat)), g0 = b - i ∧ a + 1 ≤ i ∧ i ≤ b ∧ iv = .int .i64 i ∧ Slab celT 5 36 sz wx blk n f1 ∧ Hid (PermF a i f f1) ∧ Hid (SortF lt a i f1) ∧ Ext (· = blk) w wx)
  case atStart => exact ⟨a + 1, f, by omega, Nat.le_refl _, hab, by go_num, hS, Lib.hid (PermF.refl _ _ _), Lib.hid (fun i j h1 h2 h3 => by omega), Ext.refl _ _⟩
  case round =>
    obtain ⟨i, f1, hg, hi1, hi2, rfl, hW, hpm, hso, hx⟩ := hrel
    have HG := Lib.hid hg
    clear hg hS
    have HX := Lib.hid hx
    clear hx
    by_cases hlt : i < b
    · have hin : i < n := by omega
      have hst : Hid (InsInv lt Prod.snd a i i f1 f1) := Lib.hid (InsInv.start (by omega) hso.out (fun p h1 h2 => by
        obtain ⟨q, k1, k2, k3⟩ := hpm.out.from h1 h2
        rw [k3, hpm.out.out (.inr (Nat.le_refl i))]
        exact HP.out q i k1 k2 hlt))
      obtain ⟨wo, hwo⟩ : ∃ wo : World, wo = wr := ⟨_, rfl⟩
      subst hwo
      go_wp2_with fail
      go_loopg [9] i (fun g0 jv wx => ∃ (j : Nat) (f2 : Nat → (Ch × Nat)), g0 = j ∧ a ≤ j ∧ j ≤ i ∧ jv = .int .i64 j ∧ Slab celT 5 36 sz wx blk n f2 ∧ Hid (InsInv lt Prod.snd a i j f1 f2) ∧ Ext (· = blk) w wx)
      case atStart => exact ⟨i, f1, rfl, by omega, Nat.le_refl _, rfl, hW, hst, HX.out⟩
      case round =>
        obtain ⟨j, f2, hg, hj1, hj2, rfl, hW, hv, hx⟩ := hrel
        have HG2 := Lib.hid hg
        clear hg hst
        have HX2 := Lib.hid hx
        clear hx
        by_cases haj : a < j
        · obtain ⟨k, hk⟩ : ∃ k, k = j - 1 := ⟨_, rfl⟩
          have hkj : j = k + 1 := by omega
          subst hkj
          clear hk
          have hjn : k + 1 < n := by omega
          have hkn : k < n := by omega
          have hak : a ≤ k := by omega
          obtain ⟨x, hx⟩ : ∃ x, x = f2 (k + 1) := ⟨_, rfl⟩
          have xc0 : wr.cell? ⟨blk, (k + 1) * 5, none⟩ = some (.int .i64 x.1.block.n) := hW.cell (i := k + 1) (j := 0) hjn (by rw [← hx]; rfl)
          have xc1 : wr.cell? ⟨blk, (k + 1) * 5 + 1, none⟩ = some (.int .i64 x.1.block.r) := hW.cell (i := k + 1) (j := 1) hjn (by rw [← hx]; rfl)
          have xc2 : wr.cell? ⟨blk, (k + 1) * 5 + 2, none⟩ = some (.int .i64 x.1.under.n) := hW.cell (i := k + 1) (j := 2) hjn (by rw [← hx]; rfl)
          have xc3 : wr.cell? ⟨blk, (k + 1) * 5 + 3, none⟩ = some (.int .i64 x.1.under.r) := hW.cell (i := k + 1) (j := 3) hjn (by rw [← hx]; rfl)
          have xc4 : wr.cell? ⟨blk, (k + 1) * 5 + 4, none⟩ = some (.string x.1.key) := hW.cell (i := k + 1) (j := 4) hjn (by rw [← hx]; rfl)
          obtain ⟨y, hy⟩ : ∃ y, y = f2 k := ⟨_, rfl⟩
          have yc0 : wr.cell? ⟨blk, k * 5, none⟩ = some (.int .i64 y.1.block.n) := hW.cell (i := k) (j := 0) hkn (by rw [← hy]; rfl)
          have yc1 : wr.cell? ⟨blk, k * 5 + 1, none⟩ = some (.int .i64 y.1.block.r) := hW.cell (i := k) (j := 1) hkn (by rw [← hy]; rfl)
          have yc2 : wr.cell? ⟨blk, k * 5 + 2, none⟩ = some (.int .i64 y.1.under.n) := hW.cell (i := k) (j := 2) hkn (by rw [← hy]; rfl)
          have yc3 : wr.cell? ⟨blk, k * 5 + 3, none⟩ = some (.int .i64 y.1.under.r) := hW.cell (i := k) (j := 3) hkn (by rw [← hy]; rfl)
          have yc4 : wr.cell? ⟨blk, k * 5 + 4, none⟩ = some (.string y.1.key) := hW.cell (i := k) (j := 4) hkn (by rw [← hy]; rfl)
          have gd1 : decide (a < k + 1) = true := by rw [decide_eq_true_eq]; omega
          have gd2 : decide ((a : Int) < (k : Int) + 1) = true := by rw [decide_eq_true_eq]; omega
          have ib1 : (0 : Int) ≤ (k : Int) + 1 := by omega
          have ib2 : (k : Int) + 1 < (n : Int) := by omega
          have ib3 : (0 : Int) ≤ (k : Int) := by omega
          have ib4 : (k : Int) < (n : Int) := by omega
          have iw1 : IntKind.i64.wrap ((k : Int) + 1 - 1) = (k : Int) := by rw [show (k : Int) + 1 - 1 = (k : Int) by omega]; exact IntWalk.i64_in _ (by omega)
          have iw3 : IntKind.i64.wrap (k : Int) = (k : Int) := IntWalk.i64_in _ (by omega)
          have iw2 : ((k : Int) + 1).toNat = k + 1 := by omega
          have HXX := Lib.hid hx
          have HYY := Lib.hid hy
          clear hx hy
          go_wp2_with fail
          go_region_held3 (fun W => W.cell? ⟨blk, (k + 1) * 5, none⟩ = some (.int .i64 x.1.block.n) ∧ W.cell? ⟨blk, (k + 1) * 5 + 1, none⟩ = some (.int .i64 x.1.block.r) ∧ W.cell? ⟨blk, (k + 1) * 5 + 2, none⟩ = some (.int .i64 x.1.under.n) ∧ W.cell? ⟨blk, (k + 1) * 5 + 3, none⟩ = some (.int .i64 x.1.under.r) ∧ W.cell? ⟨blk, (k + 1) * 5 + 4, none⟩ = some (.string x.1.key) ∧ W.cell? ⟨blk, k * 5, none⟩ = some (.int .i64 y.1.block.n) ∧ W.cell? ⟨blk, k * 5 + 1, none⟩ = some (.int .i64 y.1.block.r) ∧ W.cell? ⟨blk, k * 5 + 2, none⟩ = some (.int .i64 y.1.under.n) ∧ W.cell? ⟨blk, k * 5 + 3, none⟩ = some (.int .i64 y.1.under.r) ∧ W.cell? ⟨blk, k * 5 + 4, none⟩ = some (.string y.1.key)) (first | exact ⟨xc0, xc1, xc2, xc3, xc4, yc0, yc1, yc2, yc3, yc4⟩ | exact ⟨keepB b5 xc0, keepB b5 xc1, keepB b5 xc2, keepB b5 xc3, keepB b5 xc4, keepB b5 yc0, keepB b5 yc1, keepB b5 yc2, keepB b5 yc3, keepB b5 yc4⟩) ((go_at_call 41; ((with_reducible refine (kids2_any x.1 y.1 _).mono ?_); rintro e w5 ⟨rfl, b5⟩; simp only [heap_drew, below_drew] at b5)))
          have HS5 := Lib.hid (hW.below b5)
          have HX5 := Lib.hid (HX2.out.then_below b5)
          clear xc0 xc1 xc2 xc3 xc4 yc0 yc1 yc2 yc3 yc4 hW b5
          have hcc : cfKey x.1 y.1 < 0 ↔ lt x y := by rw [HXX.out, HYY.out]; exact HR.out.says _ _ (hv.out.later k hak (by omega) (by omega))
          have HCC := Lib.hid hcc
          clear hcc
          by_cases hc : cfKey x.1 y.1 < 0
          · have hd := hv.out.down hak (by rw [← HXX.out, ← HYY.out]; exact HCC.out.1 hc)
            have HD := Lib.hid hd
            clear hd
            have hW := HS5.out
            have hx := HXX.out
            have hy := HYY.out
            clear HXX HYY HCC
            have hsw := hW.swap len_K hjn hkn
            rw [← hx, ← hy] at hsw
            have xc0 : w5.cell? ⟨blk, (k + 1) * 5, none⟩ = some (.int .i64 x.1.block.n) := hW.cell (i := k + 1) (j := 0) hjn (by rw [← hx]; rfl)
            have xf0 := hW.frozen ((k + 1) * 5)
            have xc1 : w5.cell? ⟨blk, (k + 1) * 5 + 1, none⟩ = some (.int .i64 x.1.block.r) := hW.cell (i := k + 1) (j := 1) hjn (by rw [← hx]; rfl)
            have xf1 := hW.frozen ((k + 1) * 5 + 1)
            have xc2 : w5.cell? ⟨blk, (k + 1) * 5 + 2, none⟩ = some (.int .i64 x.1.under.n) := hW.cell (i := k + 1) (j := 2) hjn (by rw [← hx]; rfl)
            have xf2 := hW.frozen ((k + 1) * 5 + 2)
            have xc3 : w5.cell? ⟨blk, (k + 1) * 5 + 3, none⟩ = some (.int .i64 x.1.under.r) := hW.cell (i := k + 1) (j := 3) hjn (by rw [← hx]; rfl)
            have xf3 := hW.frozen ((k + 1) * 5 + 3)
            have xc4 : w5.cell? ⟨blk, (k + 1) * 5 + 4, none⟩ = some (.string x.1.key) := hW.cell (i := k + 1) (j := 4) hjn (by rw [← hx]; rfl)
            have xf4 := hW.frozen ((k + 1) * 5 + 4)
            have yc0 : w5.cell? ⟨blk, k * 5, none⟩ = some (.int .i64 y.1.block.n) := hW.cell (i := k) (j := 0) hkn (by rw [← hy]; rfl)
            have yf0 := hW.frozen (k * 5)
            have yc1 : w5.cell? ⟨blk, k * 5 + 1, none⟩ = some (.int .i64 y.1.block.r) := hW.cell (i := k) (j := 1) hkn (by rw [← hy]; rfl)
            have yf1 := hW.frozen (k * 5 + 1)
            have yc2 : w5.cell? ⟨blk, k * 5 + 2, none⟩ = some (.int .i64 y.1.under.n) := hW.cell (i := k) (j := 2) hkn (by rw [← hy]; rfl)
            have yf2 := hW.frozen (k * 5 + 2)
            have yc3 : w5.cell? ⟨blk, k * 5 + 3, none⟩ = some (.int .i64 y.1.under.r) := hW.cell (i := k) (j := 3) hkn (by rw [← hy]; rfl)
            have yf3 := hW.frozen (k * 5 + 3)
            have yc4 : w5.cell? ⟨blk, k * 5 + 4, none⟩ = some (.string y.1.key) := hW.cell (i := k) (j := 4) hkn (by rw [← hy]; rfl)
            have yf4 := hW.frozen (k * 5 + 4)
            simp only [putFrom, celT, Nat.add_zero, Nat.zero_add, Nat.reduceAdd] at hsw
            have HSW := Lib.hid hsw
            clear hsw hW hx hy HS5
            go_wp2_with fail
            go_big_region
            all_goals go_wp2
            go_roundg k
            case measure => rw [HG2.out]; omega
            case rel => exact ⟨k, _, rfl, hak, by omega, by go_num, HSW.out.1.drew, HD, (HX5.out.trans HSW.out.2).drew⟩
          · have hq : ¬ lt (f2 (k + 1)) (f2 k) := by rw [← HXX.out, ← HYY.out]; exact fun h => hc (HCC.out.2 h)
            have HD := Lib.hid (hv.out.done HR.out (.inr hq))
            clear HXX HYY HCC hq
            go_wp2_with fail
            go_roundg (b - (i + 1))
            case measure => rw [HG.out]; omega
            case rel => exact ⟨i + 1, f2, rfl, by omega, hlt, by go_num, HS5.out, Lib.hid ((hpm.out.mono (Nat.le_refl _) (by omega)).trans hv.out.perm), HD, HX5.out⟩
        · obtain rfl : j = a := by omega
          have HD := Lib.hid (hv.out.done HR.out (.inl rfl))
          go_wp2_with fail
          go_quiet (fail)
          go_wp2_with fail
          go_roundg (b - (i + 1))
          case measure => rw [HG.out]; omega
          case rel => exact ⟨i + 1, f2, rfl, by omega, hlt, by go_num, hW.below (below_drewN (Below.refl _ _) _), Lib.hid ((hpm.out.mono (Nat.le_refl _) (by omega)).trans hv.out.perm), HD, HX2.out.then_below (below_drewN (Below.refl _ _) _)⟩
    · obtain rfl : i = b := by omega
      go_wp2_with fail
      go_end0
      exact ⟨⟨_, rfl⟩, Lib.hid ⟨f1, hW, hpm.out, hso.out⟩, HX.out⟩
    
end

end Go.Proofs.Ytilonmpcifohiaa
