/- Layer 14: how long the way up is; the cells of a slice of children. -/
import Derived.Test.YtilonmpcifohiaaKidsP14
import Derived.Test.YtilonmpcifohiaaOpen14
namespace Go.Proofs.Ytilonmpcifohiaa
open Go.RowKit
set_option linter.unusedSimpArgs false
set_option linter.unusedVariables false

theorem ends_uniq {h : Hang} : ∀ (m n : Nat) (u : St), Ends h m u → Ends h n u → m = n
  | 0, 0, _, _, _ => rfl
  | 0, n + 1, u, h1, ⟨c, hc, _⟩ => by rw [show h u = none from h1] at hc; cases hc
  | m + 1, 0, u, ⟨c, hc, _⟩, h2 => by rw [show h u = none from h2] at hc; cases hc
  | m + 1, n + 1, u, ⟨c, hc, h1⟩, ⟨d, hd, h2⟩ => by
    rw [hc] at hd; cases hd
    rw [ends_uniq m n _ h1 h2]
theorem ends_path {h : Hang} (hk : Keyed h) : ∀ (m : Nat) (u : St), Ends h m u → ∃ l : List Ch, l.length = m ∧ l.Nodup ∧ ∀ c ∈ l, h c.block = some c ∧ ∃ j, j ≤ m ∧ Ends h j c.block
  | 0, u, _ => ⟨[], rfl, List.nodup_nil, fun c hc => by simp at hc⟩
  | m + 1, u, ⟨c, hc, he⟩ => by
    obtain ⟨l, h1, h2, h3⟩ := ends_path hk m c.under he
    have hb : c.block = u := hk u c hc
    refine ⟨c :: l, by simp [h1], List.nodup_cons.2 ⟨fun hcl => ?_, h2⟩, fun d hd => ?_⟩
    · obtain ⟨_, j, hj, hej⟩ := h3 c hcl
      have hu : Ends h (m + 1) c.block := by rw [hb]; exact ⟨c, hc, he⟩
      have := ends_uniq _ _ _ hej hu
      omega
    · rcases List.mem_cons.1 hd with rfl | hd
      · exact ⟨by rw [hb]; exact hc, m + 1, Nat.le_refl _, by rw [hb]; exact ⟨d, hc, he⟩⟩
      · obtain ⟨a1, j, a2, a3⟩ := h3 d hd
        exact ⟨a1, j, by omega, a3⟩
/-- The way up is no longer than there are blocks that hang. -/
theorem ends_le {h : Hang} {A : List Ch} (hk : Keyed h) (ha : Acyc h) (hA : AllOf h A) (u : St) : ∃ m, Ends h m u ∧ m ≤ A.length := by
  obtain ⟨m, hm⟩ := ha u
  obtain ⟨l, h1, h2, h3⟩ := ends_path hk m u hm
  refine ⟨m, hm, ?_⟩
  rw [← h1]
  exact h2.length_le_of_subset fun c hc => (hA.1 c).2 (h3 c hc).1
theorem ends_succ {h : Hang} {m : Nat} {b : St} {y : Ch} (he : Ends h m b) (hy : h b = some y) : ∃ k, m = k + 1 ∧ Ends h k y.under := by
  cases m with
  | zero => rw [show h b = none from he] at hy; cases hy
  | succ k => obtain ⟨c, hc, h2⟩ := he; rw [hc] at hy; cases hy; exact ⟨k, rfl, h2⟩

theorem SliceIs.dcells {w : World} {v : Value} {l : List Ch} (h : SliceIs Ch.cells 5 w v l) (hne : l ≠ []) : ∃ b o cap, v = .slice (some ⟨b, o, none⟩) l.length cap ∧ ∀ i (x : Ch), l[i]? = some x →
    w.cell? ⟨b, o + i * 5, none⟩ = some (.int .i64 x.block.n) ∧ w.cell? ⟨b, o + i * 5 + 1, none⟩ = some (.int .i64 x.block.r) ∧ w.cell? ⟨b, o + i * 5 + 2, none⟩ = some (.int .i64 x.under.n) ∧ w.cell? ⟨b, o + i * 5 + 3, none⟩ = some (.int .i64 x.under.r) ∧ w.cell? ⟨b, o + i * 5 + 4, none⟩ = some (.string x.key) := by
  obtain ⟨a, cap, rfl, _, _, h4⟩ := h
  obtain ⟨b, o, rfl, h6⟩ := h4 hne
  exact ⟨b, o, cap, rfl, fun i x hi => ⟨h6 i x hi 0 _ rfl, h6 i x hi 1 _ rfl, h6 i x hi 2 _ rfl, h6 i x hi 3 _ rfl, h6 i x hi 4 _ rfl⟩⟩

end Go.Proofs.Ytilonmpcifohiaa
