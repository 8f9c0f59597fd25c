/- Contracts of files.right and of the reference's Right. -/
import Derived.Test.YtmlaojfhmaamcaaDisk06
import Derived.BigQuiet
import Derived.Deep.QuietTactic
import Derived.Deep.RegionHeld3
import Derived.Laws.RangeAny
import Derived.IntWalk
import Derived.Deep.CutBlock
import Derived.Deep.DeepCutAuto
import Derived.ProofKit
namespace Go.Proofs.Ytmlaojfhmaamcaa
open Go.RowKit Go.Deep
set_option linter.unusedSimpArgs false
set_option linter.unusedVariables false

/-- A letter. -/
def okB (c : UInt8) : Bool := decide (97 ≤ c.toNat ∧ c.toNat ≤ 122)
/-- May a name be? -/
def rightN (s : ByteArray) : Bool := s.data.toList.all okB && decide (1 ≤ s.size ∧ s.size ≤ 8)

theorem rightN_size {s : ByteArray} (h : rightN s = true) : s.size ≤ 8 := by
  simp [rightN] at h
  exact h.2.2
theorem okB_bad {s : ByteArray} {i : Nat} (hi : i < s.size) (h : okB (s[i]'hi) = false) : rightN s = false := by
  have : s.data.toList.all okB = false := by
    rw [List.all_eq_false]
    exact ⟨s[i]'hi, by rw [show s[i]'hi = s.data.toList[i]'(by simpa using hi) from rfl]; exact List.getElem_mem _, by simp [h]⟩
  simp [rightN, this]
theorem okB_all {s : ByteArray} (h : ∀ i (hi : i < s.size), okB (s[i]'hi) = true) : rightN s = decide (1 ≤ s.size ∧ s.size ≤ 8) := by
  have : s.data.toList.all okB = true := by
    rw [List.all_eq_true]
    intro x hx
    obtain ⟨i, hi, rfl⟩ := List.mem_iff_getElem.1 hx
    exact h i (by simpa using hi)
  simp [rightN, this]
theorem below_iter {B : Nat} {w w' : World} (h : Below B w w') (hB : B ≤ w'.heap.size) (s : ByteArray) (p : Nat) : Below B w (w'.iter s p) := h.alloc hB _

set_option maxHeartbeats 1000000 in
theorem right_any (s : ByteArray) (w : World) : Calls Try.prog 45 #[.string s] w fun e w' => e = .returned (.bool (rightN s)) ∧ Below w.heap.size w w' := by
  have hrs := fun w => run_range_string (P := Try.prog) w 9 s und_string
  go_enter Try.func45, Try.ntmps45
  go_wp2_with fail
  go_loopg [4] s.size (fun g cv wx => ∃ k : Nat, g = s.size - k ∧ k ≤ s.size ∧ wx = w.iter s k ∧ Hid (∀ i (hi : i < s.size), i < k → okB (s[i]'hi) = true))
  case atStart => exact ⟨0, by omega, by omega, rfl, Lib.hid (fun i _ h => absurd h (by omega))⟩
  case round =>
    obtain ⟨k, hg, hk, rfl, hU⟩ := hrel
    by_cases hkl : k < s.size
    · have hb : Below w.heap.size w (w.iter s (k + (Utf8.decode s k).2)) := below_iter (Below.refl _ _) (Nat.le_refl _) _ _
      by_cases ha : (s[k]'hkl).toNat < 128
      · have hnx := fun ty => run_next_ascii (P := Try.prog) w s k ty hkl ha
        have hdc := decode_ascii s k hkl ha
        rw [hdc] at hb
        by_cases h1 : (s[k]'hkl).toNat < 97
        · have hr : rightN s = false := okB_bad hkl (by simp [okB]; omega)
          go_wp2
          go_ret
          exact ⟨by first | rfl | (rw [hr]; rfl), hb⟩
        · by_cases h2 : 122 < (s[k]'hkl).toNat
          · have hr : rightN s = false := okB_bad hkl (by simp [okB]; omega)
            go_wp2
            go_ret
            exact ⟨by first | rfl | (rw [hr]; rfl), hb⟩
          · have ho : okB (s[k]'hkl) = true := by simp [okB]; omega
            go_wp2
            go_roundg (s.size - (k + 1))
            case measure => omega
            case rel => exact ⟨k + 1, rfl, by omega, rfl, Lib.hid (fun i hi hik => by
              by_cases h3 : i < k
              · exact hU.out i hi h3
              · obtain rfl : i = k := by omega
                exact ho)⟩
      · have hnx := fun ty => run_next_any (P := Try.prog) w s k ty hkl
        have hdc := decode_high s k hkl (by omega)
        have hr : rightN s = false := okB_bad hkl (by simp [okB]; omega)
        have h1 : ¬ ((Utf8.decode s k).1 : Int) < 97 := by omega
        have h2 : (122 : Int) < ((Utf8.decode s k).1 : Int) := by omega
        go_wp2
        go_ret
        exact ⟨by first | rfl | (rw [hr]; rfl), hb⟩
    · obtain rfl : k = s.size := by omega
      have hnx := fun ty => run_next_end (P := Try.prog) w s s.size ty (by omega)
      have hr := okB_all (fun i hi => hU.out i hi hi)
      have hb : Below w.heap.size w (w.iter s s.size) := below_iter (Below.refl _ _) (Nat.le_refl _) _ _
      by_cases h1 : 1 ≤ s.size
      · have h3 : (1 : Int) ≤ (s.size : Int) := by omega
        by_cases h2 : s.size ≤ 8
        · have h4 : (s.size : Int) ≤ 8 := by omega
          have hr2 : rightN s = true := by rw [hr]; exact decide_eq_true ⟨h1, h2⟩
          clear hr
          go_wp2
          go_ret
          exact ⟨by first | rfl | simp [hr2, h4], hb⟩
        · have h4 : ¬ (s.size : Int) ≤ 8 := by omega
          have hr2 : rightN s = false := by rw [hr]; exact decide_eq_false (fun h => h2 h.2)
          clear hr
          go_wp2
          go_ret
          exact ⟨by first | rfl | simp [hr2, h4], hb⟩
      · have h3 : ¬ (1 : Int) ≤ (s.size : Int) := by omega
        have hr2 : rightN s = false := by rw [hr]; exact decide_eq_false (fun h => h1 h.1)
        clear hr
        go_wp2
        go_ret
        exact ⟨by first | rfl | simp [hr2, h3], hb⟩

end Go.Proofs.Ytmlaojfhmaamcaa
