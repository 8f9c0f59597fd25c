/- Stable sorting of structs: the library's own functions, each by a contract. -/
import Derived.Test.YtilonmpcifohiaaRuns
import Derived.Test.YtilonmpcifohiaaHand
import Derived.BigRegion
import Derived.BigQuiet
import Derived.Deep.QuietTactic
import Derived.Deep.LoopGhost
import Derived.Deep.RegionHeld3
import Derived.Deep.CutBlock
import Derived.Deep.DeepCutAuto
import Derived.IntWalk
import Derived.Lib.Hide
import Derived.Test.YtilonmpcifohiaaSta14D
namespace Go.Proofs.Ytilonmpcifohiaa
open Go.RowKit
set_option linter.unusedSimpArgs false
set_option linter.unusedVariables false

section
variable {cap sz blk n : Nat} {lt : (Ch × Nat) → (Ch × Nat) → Prop}

theorem insertion_le (a b : Nat) (f : Nat → (Ch × Nat)) (w : World) (hS : Slab celT 5 36 sz w blk n f) (R : Ranks lt Prod.snd (fun x y : (Ch × Nat) => cfKey x.1 y.1)) (hab : a ≤ b) (hbn : b ≤ n) (hcap : n ≤ cap) (hn : cap ≤ maxLen) (hN : n ≤ 1000000) (hp : ∀ p q, a ≤ p → p < q → q < b → (f p).2 < (f q).2) : Calls Try.prog 58 #[.slice (some ⟨blk, 0, none⟩) n cap, .int .i64 a, .int .i64 b, .func (.func 41) #[] #[]] w fun e w' => (∃ v, e = .returned v) ∧ Hid (∃ g, Slab celT 5 36 sz w' blk n g ∧ PermF a b f g ∧ SortF lt a b g) ∧ Ext (· = blk) w w' := by
  by_cases h : a < b
  · exact insertion_any a b f w hS R h hbn hcap hn hp
  · obtain rfl : a = b := by omega
    refine (insertion_none _ a _ w (by omega)).mono ?_
    rintro e w' ⟨h1, rfl⟩
    exact ⟨h1, Lib.hid ⟨f, hS, PermF.refl _ _ _, fun i j h1 h2 h3 => by omega⟩, Ext.refl _ _⟩
  
set_option maxHeartbeats 1000000 in
theorem stable_none (v fv : Value) (w : World) : Calls Try.prog 54 #[v, .int .i64 0, fv] w fun e w' => (∃ v, e = .returned v) ∧ w = w' := by
  go_enter Try.func54, Try.ntmps54
  go_wp2_with fail
  go_loopg [7, 8] 1 (fun g av bv wx => av = .int .i64 (0 : Nat) ∧ bv = .int .i64 20 ∧ w = wx)
  case atStart => exact ⟨rfl, rfl, rfl⟩
  case round =>
    obtain ⟨rfl, rfl, rfl⟩ := hrel
    go_wp2_with fail
    have hK := insertion_none v 0 fv w (by omega)
    push_cast at hK
    (with_reducible refine hK.mono ?_)
    clear hK
    rintro e w5 ⟨⟨v5, rfl⟩, rfl⟩
    go_wp2_with fail
    go_loopg [6] 1 (fun g sv wx => sv = .int .i64 20 ∧ w = wx)
    case atStart => exact ⟨rfl, rfl⟩
    case round =>
      obtain ⟨rfl, rfl⟩ := hrel
      go_wp2_with fail
      go_end0
      exact ⟨⟨_, rfl⟩, rfl⟩
  
set_option maxRecDepth 100000 in
set_option maxHeartbeats 4000000 in
theorem stable_any (f : Nat → (Ch × Nat)) (w : World) (hS : Slab celT 5 36 sz w blk n f) (R : Ranks lt Prod.snd (fun x y : (Ch × Nat) => cfKey x.1 y.1)) (hcap : n ≤ cap) (hn : cap ≤ maxLen) (hN : n ≤ 1000000) (hp : ∀ p q, p < q → q < n → (f p).2 < (f q).2) :
    Calls Try.prog 54 #[.slice (some ⟨blk, 0, none⟩) n cap, .int .i64 n, .func (.func 41) #[] #[]] w fun e w' => (∃ v, e = .returned v) ∧ Hid (∃ g, Slab celT 5 36 sz w' blk n g ∧ PermF 0 n f g ∧ SortF lt 0 n g) ∧ Ext (· = blk) w w' := by
  have HN := Lib.hid hn
  unfold maxLen at hn
  have HR := Lib.hid R
  have HP := Lib.hid hp
  clear R hp
  go_enter Try.func54, Try.ntmps54
  go_wp2_with fail
  go_loopg [7, 8] (n + 20) (fun g0 av bv wx => ∃ (a : Nat) (g : Nat → (Ch × Nat)), g0 + a = n + 20 ∧ a ≤ n ∧ av = .int .i64 a ∧ bv = .int .i64 (a + 20 : Nat) ∧ Slab celT 5 36 sz wx blk n g ∧ Hid (PermF 0 n f g) ∧ Hid (Front lt f 20 g a) ∧ Hid (∀ i, a ≤ i → i < n → g i = f i) ∧ Ext (· = blk) w wx)
  case atStart => exact ⟨0, f, by omega, Nat.zero_le _, rfl, rfl, hS, Lib.hid (PermF.refl _ _ _), Lib.hid .zero, Lib.hid (fun _ _ _ => rfl), Ext.refl _ _⟩
  case round =>
    obtain ⟨a, g, hg, han, rfl, rfl, hW, hpm, hfr, hre, hx⟩ := hrel
    have HG := Lib.hid hg
    clear hg hS
    have HX := Lib.hid hx
    clear hx
    have hpos : ∀ b, b ≤ n → ∀ p q, a ≤ p → p < q → q < b → (g p).2 < (g q).2 := fun b hb p q h1 h2 h3 => by rw [hre.out p h1 (by omega), hre.out q (by omega) (by omega)]; exact HP.out p q h2 (by omega)
    have HO := Lib.hid hpos
    clear hpos
    by_cases hlt : a + 20 ≤ n
    · go_wp2_with fail
      have hK := insertion_le a (a + 20) g _ hW HR.out (by omega) hlt hcap HN.out hN (HO.out _ hlt)
      rw [show ((a + 20 : Nat) : Int) = (a : Int) + 20 by omega] at hK
      (with_reducible refine hK.mono ?_)
      clear hK
      rintro e w5 ⟨⟨v5, rfl⟩, s5, x5⟩
      obtain ⟨g1, W1, p1, q1⟩ := s5.out
      have P1 := Lib.hid p1
      have Q1 := Lib.hid q1
      clear p1 q1 s5
      go_wp2_with fail
      go_roundg (n - a)
      case measure => have := HG.out; omega
      case rel => exact ⟨a + 20, g1, by omega, hlt, rfl, by go_num, W1, Lib.hid (hpm.out.trans (P1.out.mono (Nat.zero_le _) hlt)), Lib.hid (.snoc (hfr.out.congr fun i h => P1.out.out (.inl h)) (sorted_run (fun i h1 h2 => hre.out i h1 (by omega)) P1.out Q1.out)), Lib.hid (fun i h1 h2 => by rw [P1.out.out (.inr h1)]; exact hre.out i (by omega) h2), HX.out.trans x5⟩
    · go_wp2_with fail
      have hK := insertion_le a n g _ hW HR.out han (Nat.le_refl _) hcap HN.out hN (HO.out _ (Nat.le_refl _))
      push_cast at hK
      (with_reducible refine hK.mono ?_)
      clear hK
      rintro e w5 ⟨⟨v5, rfl⟩, s5, x5⟩
      obtain ⟨g1, W1, p1, q1⟩ := s5.out
      have hru : Runs lt f 20 n g1 0 := Front.runs (hfr.out.congr fun i h => p1.out (.inl h)) han (by
        by_cases ha : a < n
        · exact .step ha (by rw [Nat.min_eq_right (by omega)]; exact sorted_run (fun i h1 h2 => hre.out i h1 h2) p1 q1) (.done (by omega))
        · exact .done (by omega))
      have HRU := Lib.hid hru
      have HPM := Lib.hid (hpm.out.trans (p1.mono (Nat.zero_le _) (Nat.le_refl _)))
      have HX1 := Lib.hid (HX.out.trans x5)
      clear hru p1 q1 s5 x5 hpm hfr hre hW
      go_wp2_with fail
      go_loopg [6] (n - 20) (fun g0 sv wx => ∃ (s : Nat) (g : Nat → (Ch × Nat)), g0 = n - s ∧ 1 ≤ s ∧ s ≤ 2 * n + 20 ∧ sv = .int .i64 s ∧ Slab celT 5 36 sz wx blk n g ∧ Hid (PermF 0 n f g) ∧ Hid (Runs lt f s n g 0) ∧ Ext (· = blk) w wx)
      case atStart => exact ⟨20, g1, rfl, by omega, by omega, rfl, W1, HPM, HRU, HX1.out⟩
      case round =>
        clear HPM HRU HX1 W1 HG HX HO
        obtain ⟨s, g, hg, hs1, hs2, rfl, hW, hpm, hru, hx⟩ := hrel
        have HG := Lib.hid hg
        clear hg
        have HX := Lib.hid hx
        clear hx
        by_cases hsn : s < n
        · obtain ⟨wo, hwo⟩ : ∃ wo : World, wo = wr := ⟨_, rfl⟩
          subst hwo
          go_wp2_with fail
          go_loopg [7, 8] (n + 2 * s) (fun g0 av bv wx => ∃ (a : Nat) (g : Nat → (Ch × Nat)), g0 + a = n + 2 * s ∧ a ≤ n ∧ av = .int .i64 a ∧ bv = .int .i64 (a + 2 * s : Nat) ∧ Slab celT 5 36 sz wx blk n g ∧ Hid (PermF 0 n f g) ∧ Hid (Front lt f (2 * s) g a) ∧ Hid (Runs lt f s n g a) ∧ Ext (· = blk) w wx)
          case atStart => exact ⟨0, g, by omega, Nat.zero_le _, rfl, by go_num, hW, hpm, Lib.hid .zero, hru, HX.out⟩
          case round =>
            clear hpm hru HX hW
            obtain ⟨a, g, hg, han, rfl, rfl, hW, hpm, hfr, hru, hx⟩ := hrel
            have HG2 := Lib.hid hg
            clear hg
            have HX := Lib.hid hx
            clear hx
            by_cases hlt : a + 2 * s ≤ n
            · have r1 := hru.out.first (by omega)
              have r2 := r1.2.first (by omega)
              rw [Nat.min_eq_left (by omega)] at r1 r2
              have e2 : a + s + s = a + 2 * s := by omega
              rw [e2] at r2
              have Q1 := Lib.hid r1.1
              have Q2 := Lib.hid r2.1
              have Q3 := Lib.hid r2.2
              clear r1 r2 e2
              have hpre := Lib.hid (pre_of_runs (pos := Prod.snd) (show a < a + s by omega) (show a + s < a + 2 * s by omega) hlt HP.out Q1.out Q2.out)
              go_wp2_with fail
              have hK := merge_any (2 * s) a (a + s) (a + 2 * s) g _ (by omega) hW HR.out hpre.out hlt hcap HN.out hN
              push_cast at hK
              (with_reducible refine hK.mono ?_)
              clear hK
              rintro e w5 ⟨⟨v5, rfl⟩, s5, x5⟩
              obtain ⟨g1, W1, p1, q1⟩ := s5.out
              have P1 := Lib.hid p1
              have O1 := Lib.hid q1
              clear p1 q1 s5
              go_wp2_with fail
              go_roundg (n + 2 * s - (a + 2 * s))
              case measure => have := HG2.out; omega
              case rel => exact ⟨a + 2 * s, g1, by omega, hlt, rfl, by go_num, W1, Lib.hid (hpm.out.trans (P1.out.mono (Nat.zero_le _) hlt)), Lib.hid (.snoc (hfr.out.congr fun i h => P1.out.out (.inl h)) (merged (by omega) (by omega) Q1.out Q2.out P1.out O1.out)), Lib.hid (Q3.out.congr fun i h1 h2 => P1.out.out (.inr h1)), HX.out.trans x5⟩
            · by_cases hmn : a + s < n
              · have r1 := hru.out.first (by omega)
                have r2 := r1.2.first (by omega)
                rw [Nat.min_eq_left (by omega)] at r1
                rw [Nat.min_eq_right (by omega)] at r2
                have Q1 := Lib.hid r1.1
                have Q2 := Lib.hid r2.1
                clear r1 r2
                have hpre := Lib.hid (pre_of_runs (pos := Prod.snd) (show a < a + s by omega) (show a + s < n by omega) (Nat.le_refl _) HP.out Q1.out Q2.out)
                go_wp2_with fail
                have hK := merge_any (2 * s) a (a + s) n g _ (by omega) hW HR.out hpre.out (Nat.le_refl _) hcap HN.out hN
                push_cast at hK
                (with_reducible refine hK.mono ?_)
                clear hK
                rintro e w5 ⟨⟨v5, rfl⟩, s5, x5⟩
                obtain ⟨g1, W1, p1, q1⟩ := s5.out
                have P1 := Lib.hid p1
                have O1 := Lib.hid q1
                clear p1 q1 s5
                go_wp2_with fail
                go_roundg (n - 2 * s)
                case measure => rw [HG.out]; omega
                case rel => exact ⟨2 * s, g1, rfl, by omega, by omega, by go_num, W1, Lib.hid (hpm.out.trans (P1.out.mono (Nat.zero_le _) (Nat.le_refl _))), Lib.hid (Front.runs (hfr.out.congr fun i h => P1.out.out (.inl h)) han (.step (by omega) (by rw [Nat.min_eq_right (by omega)]; exact merged (by omega) (by omega) Q1.out Q2.out P1.out O1.out) (.done (by omega)))), HX.out.trans x5⟩
              · go_wp2_with fail
                go_roundg (n - 2 * s)
                case measure => rw [HG.out]; omega
                case rel => exact ⟨2 * s, g, rfl, by omega, by omega, by go_num, hW, hpm, Lib.hid (hfr.out.runs han (hru.out.last (by omega) (by omega))), HX.out⟩
        · go_wp2_with fail
          go_end0
          exact ⟨⟨_, rfl⟩, Lib.hid ⟨g, hW, hpm.out, hru.out.all (by omega)⟩, HX.out⟩
        
end

end Go.Proofs.Ytilonmpcifohiaa
