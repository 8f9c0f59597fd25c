/- Stable sorting of structs: the library's own functions, each by a contract. -/
import Derived.Test.YtilonmpcifohiaaRuns
import Derived.Test.YtilonmpcifohiaaHand
import Derived.BigRegion
import Derived.BigQuiet
import Derived.Deep.QuietTactic
import Derived.Deep.LoopGhost
import Derived.Deep.RegionHeld3
import Derived.Deep.CutBlock
import Derived.Deep.DeepCutAuto
import Derived.IntWalk
import Derived.Lib.Hide
import Derived.Test.YtilonmpcifohiaaKids14a
namespace Go.Proofs.Ytilonmpcifohiaa
open Go.RowKit
set_option linter.unusedSimpArgs false
set_option linter.unusedVariables false

section
variable {cap sz blk n : Nat} {lt : (Ch × Nat) → (Ch × Nat) → Prop}

def celT (p : Ch × Nat) : List Value := [.int .i64 p.1.block.n, .int .i64 p.1.block.r, .int .i64 p.1.under.n, .int .i64 p.1.under.r, .string p.1.key]
theorem len_K (x : (Ch × Nat)) : (celT x).length = 5 := rfl

set_option maxRecDepth 100000 in
set_option maxHeartbeats 4000000 in
theorem swapRange_any (a b m : Nat) (f : Nat → (Ch × Nat)) (fv : Value) (w : World) (hS : Slab celT 5 36 sz w blk n f) (h1 : a + m ≤ b) (h2 : b + m ≤ n) (hcap : n ≤ cap) (hn : cap ≤ maxLen) :
    Calls Try.prog 77 #[.slice (some ⟨blk, 0, none⟩) n cap, .int .i64 a, .int .i64 b, .int .i64 m, fv] w fun e w' => (∃ v, e = .returned v) ∧ Slab celT 5 36 sz w' blk n (swapR f a b m) ∧ Ext (· = blk) w w' := by
  unfold maxLen at hn
  go_enter Try.func77, Try.ntmps77
  go_wp2_with fail
  go_loopg [10] m (fun g iv wx => ∃ i : Nat, g = m - i ∧ i ≤ m ∧ iv = .int .i64 i ∧ Slab celT 5 36 sz wx blk n (swapR f a b i) ∧ Ext (· = blk) w wx)
  case atStart => exact ⟨0, rfl, Nat.zero_le _, rfl, by rw [swapR_zero]; exact hS, Ext.refl _ _⟩
  case round =>
    obtain ⟨i, hg, hi, rfl, hW, hx⟩ := hrel
    have HG := Lib.hid hg
    clear hg hS
    have HX := Lib.hid hx
    clear hx
    by_cases hlt : i < m
    · have hp : a + i < n := by omega
      have hq : b + i < n := by omega
      have hsw := hW.swap len_K hp hq
      have HW : Hid (swapF (swapR f a b i) (a + i) (b + i) = swapR f a b (i + 1)) := swapR_step f (by omega)
      generalize swapR f a b i = g0 at *
      obtain ⟨x, hx⟩ : ∃ x, x = g0 (a + i) := ⟨_, rfl⟩
      have xc0 : wr.cell? ⟨blk, (a + i) * 5, none⟩ = some (.int .i64 x.1.block.n) := hW.cell (i := a + i) (j := 0) hp (by rw [← hx]; rfl)
      have xf0 := hW.frozen ((a + i) * 5)
      have xc1 : wr.cell? ⟨blk, (a + i) * 5 + 1, none⟩ = some (.int .i64 x.1.block.r) := hW.cell (i := a + i) (j := 1) hp (by rw [← hx]; rfl)
      have xf1 := hW.frozen ((a + i) * 5 + 1)
      have xc2 : wr.cell? ⟨blk, (a + i) * 5 + 2, none⟩ = some (.int .i64 x.1.under.n) := hW.cell (i := a + i) (j := 2) hp (by rw [← hx]; rfl)
      have xf2 := hW.frozen ((a + i) * 5 + 2)
      have xc3 : wr.cell? ⟨blk, (a + i) * 5 + 3, none⟩ = some (.int .i64 x.1.under.r) := hW.cell (i := a + i) (j := 3) hp (by rw [← hx]; rfl)
      have xf3 := hW.frozen ((a + i) * 5 + 3)
      have xc4 : wr.cell? ⟨blk, (a + i) * 5 + 4, none⟩ = some (.string x.1.key) := hW.cell (i := a + i) (j := 4) hp (by rw [← hx]; rfl)
      have xf4 := hW.frozen ((a + i) * 5 + 4)
      obtain ⟨y, hy⟩ : ∃ y, y = g0 (b + i) := ⟨_, rfl⟩
      have yc0 : wr.cell? ⟨blk, (b + i) * 5, none⟩ = some (.int .i64 y.1.block.n) := hW.cell (i := b + i) (j := 0) hq (by rw [← hy]; rfl)
      have yf0 := hW.frozen ((b + i) * 5)
      have yc1 : wr.cell? ⟨blk, (b + i) * 5 + 1, none⟩ = some (.int .i64 y.1.block.r) := hW.cell (i := b + i) (j := 1) hq (by rw [← hy]; rfl)
      have yf1 := hW.frozen ((b + i) * 5 + 1)
      have yc2 : wr.cell? ⟨blk, (b + i) * 5 + 2, none⟩ = some (.int .i64 y.1.under.n) := hW.cell (i := b + i) (j := 2) hq (by rw [← hy]; rfl)
      have yf2 := hW.frozen ((b + i) * 5 + 2)
      have yc3 : wr.cell? ⟨blk, (b + i) * 5 + 3, none⟩ = some (.int .i64 y.1.under.r) := hW.cell (i := b + i) (j := 3) hq (by rw [← hy]; rfl)
      have yf3 := hW.frozen ((b + i) * 5 + 3)
      have yc4 : wr.cell? ⟨blk, (b + i) * 5 + 4, none⟩ = some (.string y.1.key) := hW.cell (i := b + i) (j := 4) hq (by rw [← hy]; rfl)
      have yf4 := hW.frozen ((b + i) * 5 + 4)
      rw [← hx, ← hy] at hsw
      simp only [putFrom, celT, Nat.add_zero, Nat.zero_add, Nat.reduceAdd] at hsw
      have HSW := Lib.hid hsw
      clear hsw hW hx hy
      go_wp2_with fail
      go_big_region
      all_goals go_wp2
      go_roundg (m - (i + 1))
      case measure => rw [HG.out]; omega
      case rel => exact ⟨i + 1, rfl, hlt, by go_num, by rw [← HW.out]; exact HSW.out.1.drew, (HX.out.trans HSW.out.2).drew⟩
    · obtain rfl : i = m := by omega
      go_wp2_with fail
      go_end0
      exact ⟨⟨_, rfl⟩, hW, HX.out⟩
      
set_option maxRecDepth 100000 in
set_option maxHeartbeats 4000000 in
theorem rotate_any (a m b : Nat) (f : Nat → (Ch × Nat)) (fv : Value) (w : World) (hS : Slab celT 5 36 sz w blk n f) (h1 : a < m) (h2 : m < b) (h3 : b ≤ n) (hcap : n ≤ cap) (hn : cap ≤ maxLen) :
    Calls Try.prog 75 #[.slice (some ⟨blk, 0, none⟩) n cap, .int .i64 a, .int .i64 m, .int .i64 b, fv] w fun e w' => (∃ v, e = .returned v) ∧ Slab celT 5 36 sz w' blk n (rotF f a m b) ∧ Ext (· = blk) w w' := by
  have hn0 := hn
  unfold maxLen at hn
  have HN := Lib.hid hn0
  clear hn0
  go_enter Try.func75, Try.ntmps75
  go_wp2_with fail
  go_loopg [10, 11] (b - a) (fun g iv jv wx => ∃ (i j : Nat) (f' : Nat → (Ch × Nat)), g = i + j ∧ 0 < i ∧ i ≤ m - a ∧ 0 < j ∧ j ≤ b - m ∧ iv = .int .i64 i ∧ jv = .int .i64 j ∧ Slab celT 5 36 sz wx blk n f' ∧ Hid (rotF f' (m - i) m (m + j) = rotF f a m b) ∧ Ext (· = blk) w wx)
  case atStart =>
    refine ⟨m - a, b - m, f, by omega, by omega, Nat.le_refl _, by omega, Nat.le_refl _, by go_num, by go_num, hS, Lib.hid ?_, Ext.refl _ _⟩
    rw [show m - (m - a) = a by omega, show m + (b - m) = b by omega]
  case round =>
    obtain ⟨i, j, f', hg, hi0, hi, hj0, hj, rfl, rfl, hW, hr, hx⟩ := hrel
    have HG := Lib.hid hg
    clear hg hS
    have HX := Lib.hid hx
    clear hx
    have ei : ((m : Int) - (i : Int)) = ((m - i : Nat) : Int) := by omega
    by_cases hij : i = j
    · obtain rfl := hij
      go_wp2_with fail
      (with_reducible refine (swapRange_any (m - i) m i f' _ _ hW (by omega) (by omega) hcap HN.out).mono ?_)
      rintro e w5 ⟨⟨v5, rfl⟩, s5, x5⟩
      go_wp2_with fail
      go_end0
      rw [rot_eq f' (by omega), hr.out] at s5
      exact ⟨⟨_, rfl⟩, s5, HX.out.trans x5⟩
    · by_cases hgt : j < i
      · have ej : ((i : Int) - (j : Int)) = ((i - j : Nat) : Int) := by omega
        go_wp2_with fail
        (with_reducible refine (swapRange_any (m - i) m j f' _ _ hW (by omega) (by omega) hcap HN.out).mono ?_)
        rintro e w5 ⟨⟨v5, rfl⟩, s5, x5⟩
        go_wp2_with fail
        go_roundg (i - j + j)
        case measure => rw [HG.out]; omega
        case rel => exact ⟨i - j, j, _, rfl, by omega, by omega, hj0, hj, by go_num, rfl, s5, Lib.hid ((rot_gt f' (by omega) hgt).trans hr.out), HX.out.trans x5⟩
      · have ej : ((j : Int) - (i : Int)) = ((j - i : Nat) : Int) := by omega
        have ek : ((m : Int) + (j : Int) - (i : Int)) = ((m + j - i : Nat) : Int) := by omega
        go_wp2_with fail
        (with_reducible refine (swapRange_any (m - i) (m + j - i) i f' _ _ hW (by omega) (by omega) hcap HN.out).mono ?_)
        rintro e w5 ⟨⟨v5, rfl⟩, s5, x5⟩
        go_wp2_with fail
        go_roundg (i + (j - i))
        case measure => rw [HG.out]; omega
        case rel => exact ⟨i, j - i, _, rfl, hi0, hi, by omega, by omega, rfl, by go_num, s5, Lib.hid ((rot_lt f' (by omega) (by omega)).trans hr.out), HX.out.trans x5⟩
        
end

end Go.Proofs.Ytilonmpcifohiaa
