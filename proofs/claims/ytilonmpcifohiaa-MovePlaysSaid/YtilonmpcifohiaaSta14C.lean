/- Stable sorting of structs: the library's own functions, each by a contract. -/
import Derived.Test.YtilonmpcifohiaaRuns
import Derived.Test.YtilonmpcifohiaaHand
import Derived.BigRegion
import Derived.BigQuiet
import Derived.Deep.QuietTactic
import Derived.Deep.LoopGhost
import Derived.Deep.RegionHeld3
import Derived.Deep.CutBlock
import Derived.Deep.DeepCutAuto
import Derived.IntWalk
import Derived.Lib.Hide
import Derived.Test.YtilonmpcifohiaaSta14B
namespace Go.Proofs.Ytilonmpcifohiaa
open Go.RowKit
set_option linter.unusedSimpArgs false
set_option linter.unusedVariables false

section
variable {cap sz blk n : Nat} {lt : (Ch × Nat) → (Ch × Nat) → Prop}

set_option maxRecDepth 100000 in
set_option maxHeartbeats 4000000 in
theorem merge1_any (a m b : Nat) (hm : m = a + 1) (f : Nat → (Ch × Nat)) (w : World) (hS : Slab celT 5 36 sz w blk n f) (R : Ranks lt Prod.snd (fun x y : (Ch × Nat) => cfKey x.1 y.1)) (h : MergePre lt Prod.snd a m b f) (hbn : b ≤ n) (hcap : n ≤ cap) (hn : cap ≤ maxLen) (hN : n ≤ 1000000) :
    Calls Try.prog 68 #[.slice (some ⟨blk, 0, none⟩) n cap, .int .i64 a, .int .i64 m, .int .i64 b, .func (.func 41) #[] #[]] w fun e w' => (∃ v, e = .returned v) ∧ Hid (∃ g, Slab celT 5 36 sz w' blk n g ∧ PermF a b f g ∧ SortF lt a b g) ∧ Ext (· = blk) w w' := by
  have hmb := h.mb
  have t1 : ((m : Int) - (a : Int) == 1) = true := by rw [beq_iff_eq]; omega
  have HE := Lib.hid hm
  have ham : a < m := by omega
  clear hm
  unfold maxLen at hn
  have HR := Lib.hid R
  have HM := Lib.hid h
  clear R h
  go_enter Try.func68, Try.ntmps68
  go_wp2_with fail
  go_loopg [10, 11] (b - m) (fun g0 iv jv wx => ∃ i j : Nat, g0 = j - i ∧ m ≤ i ∧ i ≤ j ∧ j ≤ b ∧ iv = .int .i64 i ∧ jv = .int .i64 j ∧ Slab celT 5 36 sz wx blk n f ∧ Hid (i = m ∨ lt (f (i - 1)) (f a)) ∧ Hid (j = b ∨ ¬ lt (f j) (f a)) ∧ Ext (· = blk) w wx)
  case atStart => exact ⟨m, b, rfl, Nat.le_refl _, by omega, Nat.le_refl _, rfl, rfl, hS, Lib.hid (.inl rfl), Lib.hid (.inl rfl), Ext.refl _ _⟩
  case round =>
    obtain ⟨i, j, hg, hi, hij, hj, rfl, rfl, hW, q1, q2, hx⟩ := hrel
    have HG := Lib.hid hg
    clear hg hS
    have HX := Lib.hid hx
    clear hx
    by_cases hlt : i < j
    · skip
      obtain ⟨h, hh⟩ : ∃ h : Nat, h = (i + j) / 2 := ⟨_, rfl⟩
      have hhi : i ≤ h ∧ h < j := by omega
      have hhz : ((i : Int) + (j : Int)) / 2 = (h : Int) := by omega
      have hhn : h < n := by omega
      have han : a < n := by omega
      have b0h : (0 : Int) ≤ (h : Int) := by omega
      have b1h : (h : Int) < (n : Int) := by omega
      have b0a : (0 : Int) ≤ (a : Int) := by omega
      have b1a : (a : Int) < (n : Int) := by omega
      obtain ⟨x, hx⟩ : ∃ x, x = f h := ⟨_, rfl⟩
      have xc0 : wr.cell? ⟨blk, h * 5, none⟩ = some (.int .i64 x.1.block.n) := hW.cell (i := h) (j := 0) hhn (by rw [← hx]; rfl)
      have xc1 : wr.cell? ⟨blk, h * 5 + 1, none⟩ = some (.int .i64 x.1.block.r) := hW.cell (i := h) (j := 1) hhn (by rw [← hx]; rfl)
      have xc2 : wr.cell? ⟨blk, h * 5 + 2, none⟩ = some (.int .i64 x.1.under.n) := hW.cell (i := h) (j := 2) hhn (by rw [← hx]; rfl)
      have xc3 : wr.cell? ⟨blk, h * 5 + 3, none⟩ = some (.int .i64 x.1.under.r) := hW.cell (i := h) (j := 3) hhn (by rw [← hx]; rfl)
      have xc4 : wr.cell? ⟨blk, h * 5 + 4, none⟩ = some (.string x.1.key) := hW.cell (i := h) (j := 4) hhn (by rw [← hx]; rfl)
      obtain ⟨y, hy⟩ : ∃ y, y = f a := ⟨_, rfl⟩
      have yc0 : wr.cell? ⟨blk, a * 5, none⟩ = some (.int .i64 y.1.block.n) := hW.cell (i := a) (j := 0) han (by rw [← hy]; rfl)
      have yc1 : wr.cell? ⟨blk, a * 5 + 1, none⟩ = some (.int .i64 y.1.block.r) := hW.cell (i := a) (j := 1) han (by rw [← hy]; rfl)
      have yc2 : wr.cell? ⟨blk, a * 5 + 2, none⟩ = some (.int .i64 y.1.under.n) := hW.cell (i := a) (j := 2) han (by rw [← hy]; rfl)
      have yc3 : wr.cell? ⟨blk, a * 5 + 3, none⟩ = some (.int .i64 y.1.under.r) := hW.cell (i := a) (j := 3) han (by rw [← hy]; rfl)
      have yc4 : wr.cell? ⟨blk, a * 5 + 4, none⟩ = some (.string y.1.key) := hW.cell (i := a) (j := 4) han (by rw [← hy]; rfl)
      have hcc : cfKey x.1 y.1 < 0 ↔ lt (f h) (f a) := by rw [hx, hy]; exact HR.out.says _ _ (HM.out.apart a h (by omega) (by omega) (by omega) (by omega))
      have HCC := Lib.hid hcc
      clear hcc hx hy hh
      go_wp2_with fail
      clear hhz
      go_region_held3 (fun W => W.cell? ⟨blk, h * 5, none⟩ = some (.int .i64 x.1.block.n) ∧ W.cell? ⟨blk, h * 5 + 1, none⟩ = some (.int .i64 x.1.block.r) ∧ W.cell? ⟨blk, h * 5 + 2, none⟩ = some (.int .i64 x.1.under.n) ∧ W.cell? ⟨blk, h * 5 + 3, none⟩ = some (.int .i64 x.1.under.r) ∧ W.cell? ⟨blk, h * 5 + 4, none⟩ = some (.string x.1.key) ∧ W.cell? ⟨blk, a * 5, none⟩ = some (.int .i64 y.1.block.n) ∧ W.cell? ⟨blk, a * 5 + 1, none⟩ = some (.int .i64 y.1.block.r) ∧ W.cell? ⟨blk, a * 5 + 2, none⟩ = some (.int .i64 y.1.under.n) ∧ W.cell? ⟨blk, a * 5 + 3, none⟩ = some (.int .i64 y.1.under.r) ∧ W.cell? ⟨blk, a * 5 + 4, none⟩ = some (.string y.1.key)) (first | exact ⟨xc0, xc1, xc2, xc3, xc4, yc0, yc1, yc2, yc3, yc4⟩ | exact ⟨keepB b5 xc0, keepB b5 xc1, keepB b5 xc2, keepB b5 xc3, keepB b5 xc4, keepB b5 yc0, keepB b5 yc1, keepB b5 yc2, keepB b5 yc3, keepB b5 yc4⟩) ((go_at_call 41; ((with_reducible refine (kids2_any x.1 y.1 _).mono ?_); rintro e w5 ⟨rfl, b5⟩; simp only [heap_drew, below_drew] at b5)))
      have HS5 := Lib.hid (hW.below b5)
      have HX5 := Lib.hid (HX.out.then_below b5)
      clear xc0 xc1 xc2 xc3 xc4 yc0 yc1 yc2 yc3 yc4 hW b5
      by_cases hc : cfKey x.1 y.1 < 0
      · have hcb : decide (cfKey x.1 y.1 < 0) = true := decide_eq_true hc
        go_wp2_with fail
        go_roundg (j - (h + 1))
        case measure => rw [HG.out]; omega
        case rel => exact ⟨h + 1, j, rfl, by omega, by omega, hj, by go_num, rfl, HS5.out, Lib.hid (.inr (HCC.out.1 hc)), q2, HX5.out⟩
      · have hcb : decide (cfKey x.1 y.1 < 0) = false := decide_eq_false hc
        go_wp2_with fail
        go_roundg (h - i)
        case measure => rw [HG.out]; omega
        case rel => exact ⟨i, h, rfl, by omega, by omega, by omega, rfl, rfl, HS5.out, q1, Lib.hid (.inr (fun t => by have := HCC.out.2 t; omega)), HX5.out⟩
    · obtain rfl : i = j := by omega
      obtain ⟨k0, rfl⟩ : ∃ k0, i = k0 + 1 := ⟨i - 1, by omega⟩
      have HD := Lib.hid (one_left HR.out (by rw [← HE.out]; exact HM.out) (by rw [← HE.out]; exact hi) hj (by rw [← HE.out]; exact q1.out) q2.out)
      clear q1 q2 hlt
      obtain ⟨wo, hwo⟩ : ∃ wo : World, wo = wr := ⟨_, rfl⟩
      subst hwo
      go_wp2_with fail
      go_loopg [13] (k0 - a) (fun g0 kv wx => ∃ k : Nat, g0 = k0 - k ∧ a ≤ k ∧ k ≤ k0 ∧ kv = .int .i64 k ∧ Slab celT 5 36 sz wx blk n (moveR f a k) ∧ Ext (· = blk) w wx)
      case atStart => exact ⟨a, rfl, Nat.le_refl _, by omega, rfl, by rw [moveR_zero]; exact hW, HX.out⟩
      case round =>
        obtain ⟨k, hg, hk1, hk2, rfl, hW, hx⟩ := hrel
        have HG2 := Lib.hid hg
        clear hg
        have HX2 := Lib.hid hx
        clear hx
        by_cases hlt : k < k0
        · have hp : k < n := by omega
          have hq : k + 1 < n := by omega
          have hsw := hW.swap len_K hp hq
          have HW : Hid (swapF (moveR f a k) k (k + 1) = moveR f a (k + 1)) := moveR_step f a k hk1
          generalize moveR f a k = g0 at *
          obtain ⟨x, hx⟩ : ∃ x, x = g0 k := ⟨_, rfl⟩
          have xc0 : wr.cell? ⟨blk, k * 5, none⟩ = some (.int .i64 x.1.block.n) := hW.cell (i := k) (j := 0) hp (by rw [← hx]; rfl)
          have xf0 := hW.frozen (k * 5)
          have xc1 : wr.cell? ⟨blk, k * 5 + 1, none⟩ = some (.int .i64 x.1.block.r) := hW.cell (i := k) (j := 1) hp (by rw [← hx]; rfl)
          have xf1 := hW.frozen (k * 5 + 1)
          have xc2 : wr.cell? ⟨blk, k * 5 + 2, none⟩ = some (.int .i64 x.1.under.n) := hW.cell (i := k) (j := 2) hp (by rw [← hx]; rfl)
          have xf2 := hW.frozen (k * 5 + 2)
          have xc3 : wr.cell? ⟨blk, k * 5 + 3, none⟩ = some (.int .i64 x.1.under.r) := hW.cell (i := k) (j := 3) hp (by rw [← hx]; rfl)
          have xf3 := hW.frozen (k * 5 + 3)
          have xc4 : wr.cell? ⟨blk, k * 5 + 4, none⟩ = some (.string x.1.key) := hW.cell (i := k) (j := 4) hp (by rw [← hx]; rfl)
          have xf4 := hW.frozen (k * 5 + 4)
          obtain ⟨y, hy⟩ : ∃ y, y = g0 (k + 1) := ⟨_, rfl⟩
          have yc0 : wr.cell? ⟨blk, (k + 1) * 5, none⟩ = some (.int .i64 y.1.block.n) := hW.cell (i := k + 1) (j := 0) hq (by rw [← hy]; rfl)
          have yf0 := hW.frozen ((k + 1) * 5)
          have yc1 : wr.cell? ⟨blk, (k + 1) * 5 + 1, none⟩ = some (.int .i64 y.1.block.r) := hW.cell (i := k + 1) (j := 1) hq (by rw [← hy]; rfl)
          have yf1 := hW.frozen ((k + 1) * 5 + 1)
          have yc2 : wr.cell? ⟨blk, (k + 1) * 5 + 2, none⟩ = some (.int .i64 y.1.under.n) := hW.cell (i := k + 1) (j := 2) hq (by rw [← hy]; rfl)
          have yf2 := hW.frozen ((k + 1) * 5 + 2)
          have yc3 : wr.cell? ⟨blk, (k + 1) * 5 + 3, none⟩ = some (.int .i64 y.1.under.r) := hW.cell (i := k + 1) (j := 3) hq (by rw [← hy]; rfl)
          have yf3 := hW.frozen ((k + 1) * 5 + 3)
          have yc4 : wr.cell? ⟨blk, (k + 1) * 5 + 4, none⟩ = some (.string y.1.key) := hW.cell (i := k + 1) (j := 4) hq (by rw [← hy]; rfl)
          have yf4 := hW.frozen ((k + 1) * 5 + 4)
          rw [← hx, ← hy] at hsw
          simp only [putFrom, celT, Nat.add_zero, Nat.zero_add, Nat.reduceAdd] at hsw
          have HSW := Lib.hid hsw
          clear hsw hW hx hy
          go_wp2_with fail
          go_big_region
          all_goals go_wp2
          go_roundg (k0 - (k + 1))
          case measure => rw [HG2.out]; omega
          case rel => exact ⟨k + 1, rfl, by omega, by omega, by go_num, by rw [← HW.out]; exact HSW.out.1.drew, (HX2.out.trans HSW.out.2).drew⟩
        · obtain rfl : k = k0 := by omega
          go_wp2_with fail
          refine bodyPost_ret (v := .tuple #[]) (results_none rfl _ _ _) rfl ?_
          have hd := HD.out
          rw [show k + 1 - 1 = k by omega] at hd
          exact ⟨⟨_, rfl⟩, Lib.hid ⟨_, hW, hd.2, hd.1⟩, HX2.out⟩
        
set_option maxRecDepth 100000 in
set_option maxHeartbeats 4000000 in
theorem merge2_any (a m b : Nat) (hb : b = m + 1) (f : Nat → (Ch × Nat)) (w : World) (hS : Slab celT 5 36 sz w blk n f) (R : Ranks lt Prod.snd (fun x y : (Ch × Nat) => cfKey x.1 y.1)) (h : MergePre lt Prod.snd a m b f) (h1 : a + 1 < m) (hbn : b ≤ n) (hcap : n ≤ cap) (hn : cap ≤ maxLen) (hN : n ≤ 1000000) :
    Calls Try.prog 68 #[.slice (some ⟨blk, 0, none⟩) n cap, .int .i64 a, .int .i64 m, .int .i64 b, .func (.func 41) #[] #[]] w fun e w' => (∃ v, e = .returned v) ∧ Hid (∃ g, Slab celT 5 36 sz w' blk n g ∧ PermF a b f g ∧ SortF lt a b g) ∧ Ext (· = blk) w w' := by
  unfold maxLen at hn
  have HR := Lib.hid R
  have HM := Lib.hid h
  clear R h
  have t1 : ((m : Int) - (a : Int) == 1) = false := by rw [beq_eq_false_iff_ne]; omega
  have t2 : ((b : Int) - (m : Int) == 1) = true := by rw [beq_iff_eq]; omega
  have HE := Lib.hid hb
  have hmb : m < b := by omega
  have ham : a < m := by omega
  clear hb
  go_enter Try.func68, Try.ntmps68
  go_wp2_with fail
  go_loopg [14, 15] (m - a) (fun g0 iv jv wx => ∃ i j : Nat, g0 = j - i ∧ a ≤ i ∧ i ≤ j ∧ j ≤ m ∧ iv = .int .i64 i ∧ jv = .int .i64 j ∧ Slab celT 5 36 sz wx blk n f ∧ Hid (i = a ∨ ¬ lt (f m) (f (i - 1))) ∧ Hid (j = m ∨ lt (f m) (f j)) ∧ Ext (· = blk) w wx)
  case atStart => exact ⟨a, m, rfl, Nat.le_refl _, by omega, Nat.le_refl _, rfl, rfl, hS, Lib.hid (.inl rfl), Lib.hid (.inl rfl), Ext.refl _ _⟩
  case round =>
    obtain ⟨i, j, hg, hi, hij, hj, rfl, rfl, hW, q1, q2, hx⟩ := hrel
    have HG := Lib.hid hg
    clear hg hS
    have HX := Lib.hid hx
    clear hx
    by_cases hlt : i < j
    · skip
      obtain ⟨h, hh⟩ : ∃ h : Nat, h = (i + j) / 2 := ⟨_, rfl⟩
      have hhi : i ≤ h ∧ h < j := by omega
      have hhz : ((i : Int) + (j : Int)) / 2 = (h : Int) := by omega
      have hhn : h < n := by omega
      have hmn : m < n := by omega
      have b0h : (0 : Int) ≤ (h : Int) := by omega
      have b1h : (h : Int) < (n : Int) := by omega
      have b0m : (0 : Int) ≤ (m : Int) := by omega
      have b1m : (m : Int) < (n : Int) := by omega
      obtain ⟨x, hx⟩ : ∃ x, x = f m := ⟨_, rfl⟩
      have xc0 : wr.cell? ⟨blk, m * 5, none⟩ = some (.int .i64 x.1.block.n) := hW.cell (i := m) (j := 0) hmn (by rw [← hx]; rfl)
      have xc1 : wr.cell? ⟨blk, m * 5 + 1, none⟩ = some (.int .i64 x.1.block.r) := hW.cell (i := m) (j := 1) hmn (by rw [← hx]; rfl)
      have xc2 : wr.cell? ⟨blk, m * 5 + 2, none⟩ = some (.int .i64 x.1.under.n) := hW.cell (i := m) (j := 2) hmn (by rw [← hx]; rfl)
      have xc3 : wr.cell? ⟨blk, m * 5 + 3, none⟩ = some (.int .i64 x.1.under.r) := hW.cell (i := m) (j := 3) hmn (by rw [← hx]; rfl)
      have xc4 : wr.cell? ⟨blk, m * 5 + 4, none⟩ = some (.string x.1.key) := hW.cell (i := m) (j := 4) hmn (by rw [← hx]; rfl)
      obtain ⟨y, hy⟩ : ∃ y, y = f h := ⟨_, rfl⟩
      have yc0 : wr.cell? ⟨blk, h * 5, none⟩ = some (.int .i64 y.1.block.n) := hW.cell (i := h) (j := 0) hhn (by rw [← hy]; rfl)
      have yc1 : wr.cell? ⟨blk, h * 5 + 1, none⟩ = some (.int .i64 y.1.block.r) := hW.cell (i := h) (j := 1) hhn (by rw [← hy]; rfl)
      have yc2 : wr.cell? ⟨blk, h * 5 + 2, none⟩ = some (.int .i64 y.1.under.n) := hW.cell (i := h) (j := 2) hhn (by rw [← hy]; rfl)
      have yc3 : wr.cell? ⟨blk, h * 5 + 3, none⟩ = some (.int .i64 y.1.under.r) := hW.cell (i := h) (j := 3) hhn (by rw [← hy]; rfl)
      have yc4 : wr.cell? ⟨blk, h * 5 + 4, none⟩ = some (.string y.1.key) := hW.cell (i := h) (j := 4) hhn (by rw [← hy]; rfl)
      have hcc : cfKey x.1 y.1 < 0 ↔ lt (f m) (f h) := by rw [hx, hy]; exact HR.out.says _ _ (HM.out.apart h m (by omega) (by omega) (by omega) (by omega))
      have HCC := Lib.hid hcc
      clear hcc hx hy hh
      go_wp2_with fail
      clear hhz
      go_region_held3 (fun W => W.cell? ⟨blk, m * 5, none⟩ = some (.int .i64 x.1.block.n) ∧ W.cell? ⟨blk, m * 5 + 1, none⟩ = some (.int .i64 x.1.block.r) ∧ W.cell? ⟨blk, m * 5 + 2, none⟩ = some (.int .i64 x.1.under.n) ∧ W.cell? ⟨blk, m * 5 + 3, none⟩ = some (.int .i64 x.1.under.r) ∧ W.cell? ⟨blk, m * 5 + 4, none⟩ = some (.string x.1.key) ∧ W.cell? ⟨blk, h * 5, none⟩ = some (.int .i64 y.1.block.n) ∧ W.cell? ⟨blk, h * 5 + 1, none⟩ = some (.int .i64 y.1.block.r) ∧ W.cell? ⟨blk, h * 5 + 2, none⟩ = some (.int .i64 y.1.under.n) ∧ W.cell? ⟨blk, h * 5 + 3, none⟩ = some (.int .i64 y.1.under.r) ∧ W.cell? ⟨blk, h * 5 + 4, none⟩ = some (.string y.1.key)) (first | exact ⟨xc0, xc1, xc2, xc3, xc4, yc0, yc1, yc2, yc3, yc4⟩ | exact ⟨keepB b5 xc0, keepB b5 xc1, keepB b5 xc2, keepB b5 xc3, keepB b5 xc4, keepB b5 yc0, keepB b5 yc1, keepB b5 yc2, keepB b5 yc3, keepB b5 yc4⟩) ((go_at_call 41; ((with_reducible refine (kids2_any x.1 y.1 _).mono ?_); rintro e w5 ⟨rfl, b5⟩; simp only [heap_drew, below_drew] at b5)))
      have HS5 := Lib.hid (hW.below b5)
      have HX5 := Lib.hid (HX.out.then_below b5)
      clear xc0 xc1 xc2 xc3 xc4 yc0 yc1 yc2 yc3 yc4 hW b5
      by_cases hc : cfKey x.1 y.1 < 0
      · have hcb : decide (cfKey x.1 y.1 < 0) = true := decide_eq_true hc
        simp only [hcb, Bool.not_true]
        go_wp2_with fail
        go_roundg (h - i)
        case measure => rw [HG.out]; omega
        case rel => exact ⟨i, h, rfl, by omega, by omega, by omega, rfl, rfl, HS5.out, q1, Lib.hid (.inr (HCC.out.1 hc)), HX5.out⟩
      · have hcb : decide (cfKey x.1 y.1 < 0) = false := decide_eq_false hc
        simp only [hcb, Bool.not_false]
        go_wp2_with fail
        go_roundg (j - (h + 1))
        case measure => rw [HG.out]; omega
        case rel => exact ⟨h + 1, j, rfl, by omega, by omega, hj, by go_num, rfl, HS5.out, Lib.hid (.inr (fun t => by have := HCC.out.2 t; omega)), q2, HX5.out⟩
    · obtain rfl : i = j := by omega
      have HD := Lib.hid (one_right HR.out (by rw [← HE.out]; exact HM.out) hi hj q1.out q2.out)
      clear q1 q2 hlt
      obtain ⟨wo, hwo⟩ : ∃ wo : World, wo = wr := ⟨_, rfl⟩
      subst hwo
      go_wp2_with fail
      go_loopg [17] (m - i) (fun g0 kv wx => ∃ k : Nat, g0 = k - i ∧ i ≤ k ∧ k ≤ m ∧ kv = .int .i64 k ∧ Slab celT 5 36 sz wx blk n (moveL f m k) ∧ Ext (· = blk) w wx)
      case atStart => exact ⟨m, rfl, by omega, Nat.le_refl _, rfl, by rw [moveL_zero]; exact hW, HX.out⟩
      case round =>
        obtain ⟨k, hg, hk1, hk2, rfl, hW, hx⟩ := hrel
        have HG2 := Lib.hid hg
        clear hg
        have HX2 := Lib.hid hx
        clear hx
        by_cases hlt : i < k
        · obtain ⟨q, rfl⟩ : ∃ q, k = q + 1 := ⟨k - 1, by omega⟩
          have hp : q + 1 < n := by omega
          have hq : q < n := by omega
          have iw1 : IntKind.i64.wrap ((q : Int) + 1 - 1) = (q : Int) := by rw [show (q : Int) + 1 - 1 = (q : Int) by omega]; exact IntWalk.i64_in _ (by omega)
          have iw3 : IntKind.i64.wrap (q : Int) = (q : Int) := IntWalk.i64_in _ (by omega)
          have hsw := hW.swap len_K hp hq
          have HW : Hid (swapF (moveL f m (q + 1)) (q + 1) q = moveL f m q) := moveL_step f m q (by omega)
          generalize moveL f m (q + 1) = g0 at *
          obtain ⟨x, hx⟩ : ∃ x, x = g0 (q + 1) := ⟨_, rfl⟩
          have xc0 : wr.cell? ⟨blk, (q + 1) * 5, none⟩ = some (.int .i64 x.1.block.n) := hW.cell (i := q + 1) (j := 0) hp (by rw [← hx]; rfl)
          have xf0 := hW.frozen ((q + 1) * 5)
          have xc1 : wr.cell? ⟨blk, (q + 1) * 5 + 1, none⟩ = some (.int .i64 x.1.block.r) := hW.cell (i := q + 1) (j := 1) hp (by rw [← hx]; rfl)
          have xf1 := hW.frozen ((q + 1) * 5 + 1)
          have xc2 : wr.cell? ⟨blk, (q + 1) * 5 + 2, none⟩ = some (.int .i64 x.1.under.n) := hW.cell (i := q + 1) (j := 2) hp (by rw [← hx]; rfl)
          have xf2 := hW.frozen ((q + 1) * 5 + 2)
          have xc3 : wr.cell? ⟨blk, (q + 1) * 5 + 3, none⟩ = some (.int .i64 x.1.under.r) := hW.cell (i := q + 1) (j := 3) hp (by rw [← hx]; rfl)
          have xf3 := hW.frozen ((q + 1) * 5 + 3)
          have xc4 : wr.cell? ⟨blk, (q + 1) * 5 + 4, none⟩ = some (.string x.1.key) := hW.cell (i := q + 1) (j := 4) hp (by rw [← hx]; rfl)
          have xf4 := hW.frozen ((q + 1) * 5 + 4)
          obtain ⟨y, hy⟩ : ∃ y, y = g0 q := ⟨_, rfl⟩
          have yc0 : wr.cell? ⟨blk, q * 5, none⟩ = some (.int .i64 y.1.block.n) := hW.cell (i := q) (j := 0) hq (by rw [← hy]; rfl)
          have yf0 := hW.frozen (q * 5)
          have yc1 : wr.cell? ⟨blk, q * 5 + 1, none⟩ = some (.int .i64 y.1.block.r) := hW.cell (i := q) (j := 1) hq (by rw [← hy]; rfl)
          have yf1 := hW.frozen (q * 5 + 1)
          have yc2 : wr.cell? ⟨blk, q * 5 + 2, none⟩ = some (.int .i64 y.1.under.n) := hW.cell (i := q) (j := 2) hq (by rw [← hy]; rfl)
          have yf2 := hW.frozen (q * 5 + 2)
          have yc3 : wr.cell? ⟨blk, q * 5 + 3, none⟩ = some (.int .i64 y.1.under.r) := hW.cell (i := q) (j := 3) hq (by rw [← hy]; rfl)
          have yf3 := hW.frozen (q * 5 + 3)
          have yc4 : wr.cell? ⟨blk, q * 5 + 4, none⟩ = some (.string y.1.key) := hW.cell (i := q) (j := 4) hq (by rw [← hy]; rfl)
          have yf4 := hW.frozen (q * 5 + 4)
          rw [← hx, ← hy] at hsw
          simp only [putFrom, celT, Nat.add_zero, Nat.zero_add, Nat.reduceAdd] at hsw
          have HSW := Lib.hid hsw
          clear hsw hW hx hy
          go_wp2_with fail
          go_big_region
          all_goals go_wp2
          go_roundg (q - i)
          case measure => rw [HG2.out]; omega
          case rel => exact ⟨q, rfl, by omega, by omega, by go_num, by rw [← HW.out]; exact HSW.out.1.drew, (HX2.out.trans HSW.out.2).drew⟩
        · obtain rfl : k = i := by omega
          go_wp2_with fail
          refine bodyPost_ret (v := .tuple #[]) (results_none rfl _ _ _) rfl ?_
          exact ⟨⟨_, rfl⟩, Lib.hid ⟨_, hW, by rw [HE.out]; exact HD.out.2, by rw [HE.out]; exact HD.out.1⟩, HX2.out⟩
        
end

end Go.Proofs.Ytilonmpcifohiaa
