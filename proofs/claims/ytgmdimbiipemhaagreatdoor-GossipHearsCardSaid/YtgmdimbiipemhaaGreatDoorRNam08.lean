/- The document's None, Has and names: contracts. -/
import Derived.Test.YtgmdimbiipemhaaGreatDoorRStr08
import Derived.Test.YtgmdimbiipemhaaGreatDoorRef01
import Derived.Test.YtgmdimbiipemhaaGreatDoorOp08
import Derived.Test.YtgmdimbiipemhaaGreatDoorBox08
import Derived.Test.YtgmdimbiipemhaaGreatDoorDiffP08
import Derived.RegionTactic
namespace Go.Proofs.YtgmdimbiipemhaaGreatDoor
open Go.RowKit Go.Deep
set_option linter.unusedSimpArgs false
set_option linter.unusedVariables false

theorem rnone_any (s : St) (w : World) : Calls Tryz.prog 133 #[.agg #[.int .i64 s.n, .int .i64 s.r]] w fun e w' => e = .returned (.bool (decide (s = ⟨0, 0⟩))) ∧ Below w.heap.size w w' := by
  obtain ⟨a, b⟩ := s
  by_cases h1 : a = 0
  · subst h1
    by_cases h2 : b = 0
    · subst h2
      go_enter Tryz.func133, Tryz.ntmps133
      go_wp2
      go_ret
      exact ⟨by simp, (Below.refl _ _).alloc (Nat.le_refl _) _⟩
    · have hd : decide ((⟨0, b⟩ : St) = ⟨0, 0⟩) = false := decide_eq_false (by intro e; cases e; exact h2 rfl)
      rw [hd]
      go_enter Tryz.func133, Tryz.ntmps133
      go_wp2
      go_ret
      exact ⟨by first | rfl | simp [h2], (Below.refl _ _).alloc (Nat.le_refl _) _⟩
  · have hd : decide ((⟨a, b⟩ : St) = ⟨0, 0⟩) = false := decide_eq_false (by intro e; cases e; exact h1 rfl)
    rw [hd]
    go_enter Tryz.func133, Tryz.ntmps133
    go_wp2
    go_ret
    exact ⟨by first | rfl | simp [h1], (Below.refl _ _).alloc (Nat.le_refl _) _⟩
def vecC (d0 d1 d2 d3 d4 d5 d6 d7 : Int) : Array Value := #[.int .i64 d0, .int .i64 d1, .int .i64 d2, .int .i64 d3, .int .i64 d4, .int .i64 d5, .int .i64 d6, .int .i64 d7]
theorem vec_cell {W : World} {B : Nat} {T : TypeId} {d0 d1 d2 d3 d4 d5 d6 d7 : Int} (h : W.heap[B]? = some (.cells (vecC d0 d1 d2 d3 d4 d5 d6 d7) T (0, 0))) {k : Nat} (hk : k < 8) : W.cell? ⟨B, k, none⟩ = some (.int .i64 ([d0, d1, d2, d3, d4, d5, d6, d7].getD k 0)) := by
  unfold World.cell?
  simp only [h]
  match k, hk with
  | 0, _ => rfl
  | 1, _ => rfl
  | 2, _ => rfl
  | 3, _ => rfl
  | 4, _ => rfl
  | 5, _ => rfl
  | 6, _ => rfl
  | 7, _ => rfl
  | n + 8, h => exact absurd h (by omega)
set_option maxRecDepth 20000 in
set_option maxHeartbeats 1000000 in
theorem rhas_any (d0 d1 d2 d3 d4 d5 d6 d7 : Int) (s : St) (w : World) : Calls Tryz.prog 173 #[.agg #[.int .i64 d0, .int .i64 d1, .int .i64 d2, .int .i64 d3, .int .i64 d4, .int .i64 d5, .int .i64 d6, .int .i64 d7], .agg #[.int .i64 s.n, .int .i64 s.r]] w fun e w' => e = .returned (.bool (hasV [d0, d1, d2, d3, d4, d5, d6, d7] s)) ∧ Below w.heap.size w w' := by
  obtain ⟨sn, sr⟩ := s
  obtain ⟨W1, hW1⟩ : ∃ W1, (w.alloc (.cells #[.int .i64 d0, .int .i64 d1, .int .i64 d2, .int .i64 d3, .int .i64 d4, .int .i64 d5, .int .i64 d6, .int .i64 d7] 32)).alloc (.cells #[.int .i64 sn, .int .i64 sr] 62) = W1 := ⟨_, rfl⟩
  have hb1 : Below w.heap.size w W1 := by rw [← hW1]; exact ((Below.refl _ _).alloc (Nat.le_refl _) _).alloc (by simp) _
  have hv : W1.heap[w.heap.size]? = some (.cells (vecC d0 d1 d2 d3 d4 d5 d6 d7) 32 (0, 0)) := by rw [← hW1]; exact (Below.heap_alloc _ _ _ (by simp)).trans (heap_new8 w _)
  have hs : W1.heap[w.heap.size + 1]? = some (.cells #[.int .i64 sn, .int .i64 sr] 62 (0, 0)) := by
    rw [← hW1]
    have := heap_new8 (w.alloc (.cells #[.int .i64 d0, .int .i64 d1, .int .i64 d2, .int .i64 d3, .int .i64 d4, .int .i64 d5, .int .i64 d6, .int .i64 d7] 32)) (.cells #[.int .i64 sn, .int .i64 sr] 62)
    rwa [World.size_alloc] at this
  have c0 : W1.cell? ⟨w.heap.size + 1, 0, none⟩ = some (.int .i64 sn) := by simp [World.cell?, hs]
  have c1 : W1.cell? ⟨w.heap.size + 1, 1, none⟩ = some (.int .i64 sr) := by simp [World.cell?, hs]
  have HV := Lib.hid (And.intro hv hb1)
  clear hv hb1 hs
  by_cases hin : 0 ≤ sr ∧ sr < 8
  · obtain ⟨m, rfl⟩ : ∃ m : Nat, sr = (m : Int) := ⟨sr.toNat, by omega⟩
    have hm : m < 8 := by omega
    have cv := vec_cell HV.out.1 hm
    have hhas : hasV [d0, d1, d2, d3, d4, d5, d6, d7] ⟨sn, (m : Int)⟩ = decide (sn ≤ [d0, d1, d2, d3, d4, d5, d6, d7].getD m 0) := by
      unfold hasV
      rw [decide_eq_true hin]
      rfl
    obtain ⟨q, hq⟩ : ∃ q, [d0, d1, d2, d3, d4, d5, d6, d7].getD m 0 = q := ⟨_, rfl⟩
    rw [hq] at cv hhas
    have HH := Lib.hid hhas
    clear hq hhas hin
    go_enter Tryz.func173, Tryz.ntmps173
    go_wp2_with fail
    go_loopg [5] 8 (fun g kv wx => ∃ k : Nat, g = 8 - k ∧ kv = .int .i64 k ∧ k ≤ m ∧ wx = W1)
    case atStart => exact ⟨0, rfl, rfl, by omega, rfl⟩
    case round =>
      obtain ⟨k, hg, rfl, hk, rfl⟩ := hrel
      have HG := Lib.hid hg
      clear hg
      have hk8 : (k : Int) < 8 := by omega
      by_cases hkm : k = m
      · subst hkm
        have hk0 : (0 : Int) ≤ (k : Int) := by omega
        by_cases hle : sn ≤ q
        · go_wp2_with fail
          go_quiet (fail)
          go_wp2_with fail
          go_ret
          exact ⟨by rw [HH.out, decide_eq_true (by omega)]; first | rfl | (simp; omega), below_drewN HV.out.2 _⟩
        · go_wp2_with fail
          go_quiet (fail)
          go_wp2_with fail
          go_ret
          exact ⟨by rw [HH.out, decide_eq_false (by omega)]; first | rfl | (simp; omega), below_drewN HV.out.2 _⟩
      · have hne : ¬ (k : Int) = (m : Int) := by omega
        go_wp2_with fail
        go_roundg (8 - (k + 1))
        case measure => rw [HG.out]; omega
        case rel => exact ⟨k + 1, rfl, by simp, by omega, rfl⟩
  · have hhas : hasV [d0, d1, d2, d3, d4, d5, d6, d7] ⟨sn, sr⟩ = false := by
      unfold hasV
      rw [decide_eq_false hin]
      rfl
    have HH := Lib.hid hhas
    clear hhas
    go_enter Tryz.func173, Tryz.ntmps173
    go_wp2_with fail
    go_loopg [5] 8 (fun g kv wx => ∃ k : Nat, g = 8 - k ∧ kv = .int .i64 k ∧ k ≤ 8 ∧ wx = W1)
    case atStart => exact ⟨0, rfl, rfl, by omega, rfl⟩
    case round =>
      obtain ⟨k, hg, rfl, hk, rfl⟩ := hrel
      have HG := Lib.hid hg
      clear hg
      by_cases hk8 : k < 8
      · have hk1 : (k : Int) < 8 := by omega
        have hne : ¬ (k : Int) = sr := by omega
        go_wp2_with fail
        go_roundg (8 - (k + 1))
        case measure => rw [HG.out]; omega
        case rel => exact ⟨k + 1, rfl, by simp, by omega, rfl⟩
      · have hk1 : ¬ (k : Int) < 8 := by omega
        go_wp2_with fail
        go_ret
        exact ⟨by rw [HH.out]; rfl, HV.out.2⟩

end Go.Proofs.YtgmdimbiipemhaaGreatDoor
