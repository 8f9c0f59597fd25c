/- Stable sorting, plain: the merge of two neighbours. -/
import Derived.Test.YtilonmpcifohiaaStableP
namespace Go.Proofs.Ytilonmpcifohiaa
set_option linter.unusedSimpArgs false
set_option linter.unusedVariables false

section
variable {α : Type} {lt : α → α → Prop} {pos : α → Nat} {cf : α → α → Int}

/-- Two neighbours, each by the order, all of the left one from further ahead. -/
structure MergePre (lt : α → α → Prop) (pos : α → Nat) (a m b : Nat) (f : Nat → α) : Prop where
  am : a < m
  mb : m < b
  left : SortF lt a m f
  right : SortF lt m b f
  apart : ∀ i j, a ≤ i → i < m → m ≤ j → j < b → pos (f i) < pos (f j)

theorem rotF_id (f : Nat → α) {s m e : Nat} (h1 : s ≤ m) (h2 : m ≤ e) (h : s = m ∨ e = m) : rotF f s m e = f := by
  funext t
  unfold rotF
  split
  · congr 1; omega
  · split
    · congr 1; omega
    · rfl

theorem one_left (R : Ranks lt pos cf) {a b i : Nat} {f : Nat → α} (h : MergePre lt pos a (a + 1) b f) (hi1 : a + 1 ≤ i) (hi2 : i ≤ b) (q1 : i = a + 1 ∨ lt (f (i - 1)) (f a)) (q2 : i = b ∨ ¬ lt (f i) (f a)) :
    SortF lt a b (moveR f a (i - 1)) ∧ PermF a b f (moveR f a (i - 1)) := by
  have hmb := h.mb
  refine ⟨?_, moveR_perm f (by omega) (Nat.le_refl _) (by omega)⟩
  have below : ∀ t, a + 1 ≤ t → t < i → lt (f t) (f a) := fun t h1 h2 => by
    rcases q1 with e | hl
    · omega
    · by_cases ht : t = i - 1
      · rw [ht]; exact hl
      · exact R.trans _ _ _ (h.right t (i - 1) h1 (by omega) (by omega)) hl
  have above : ∀ t, i ≤ t → t < b → lt (f a) (f t) := fun t h1 h2 => by
    have hl : lt (f a) (f i) := by
      rcases q2 with e | hn
      · omega
      · have := h.apart a i (Nat.le_refl _) (by omega) hi1 (by omega)
        rcases R.total (f a) (f i) (by omega) with t | t
        · exact t
        · exact absurd t hn
    by_cases ht : t = i
    · rw [ht]; exact hl
    · exact R.trans _ _ _ hl (h.right i t hi1 (by omega) h2)
  have e1 : ∀ t, a ≤ t → t < i - 1 → moveR f a (i - 1) t = f (t + 1) := fun t h1 h2 => by unfold moveR; rw [if_pos ⟨h1, h2⟩]
  have e2 : moveR f a (i - 1) (i - 1) = f a := by unfold moveR; rw [if_neg (by omega), if_pos rfl]
  have e3 : ∀ t, i ≤ t → moveR f a (i - 1) t = f t := fun t h1 => by unfold moveR; rw [if_neg (by omega), if_neg (by omega)]
  intro p q h1 h2 h3
  by_cases hp : p < i - 1
  · rw [e1 p h1 hp]
    by_cases hq : q < i - 1
    · rw [e1 q (by omega) hq]; exact h.right (p + 1) (q + 1) (by omega) (by omega) (by omega)
    · by_cases hq2 : q = i - 1
      · rw [hq2, e2]; exact below (p + 1) (by omega) (by omega)
      · rw [e3 q (by omega)]; exact h.right (p + 1) q (by omega) (by omega) h3
  · by_cases hp2 : p = i - 1
    · rw [hp2, e2, e3 q (by omega)]; exact above q (by omega) h3
    · rw [e3 p (by omega), e3 q (by omega)]; exact h.right p q (by omega) h2 h3

theorem one_right (R : Ranks lt pos cf) {a m i : Nat} {f : Nat → α} (h : MergePre lt pos a m (m + 1) f) (hi1 : a ≤ i) (hi2 : i ≤ m) (q1 : i = a ∨ ¬ lt (f m) (f (i - 1))) (q2 : i = m ∨ lt (f m) (f i)) :
    SortF lt a (m + 1) (moveL f m i) ∧ PermF a (m + 1) f (moveL f m i) := by
  have ham := h.am
  refine ⟨?_, moveL_perm f hi2 hi1 (by omega)⟩
  have below : ∀ t, a ≤ t → t < i → lt (f t) (f m) := fun t h1 h2 => by
    have hl : lt (f (i - 1)) (f m) := by
      rcases q1 with e | hn
      · omega
      · have := h.apart (i - 1) m (by omega) (by omega) (Nat.le_refl _) (by omega)
        rcases R.total (f (i - 1)) (f m) (by omega) with t | t
        · exact t
        · exact absurd t hn
    by_cases ht : t = i - 1
    · rw [ht]; exact hl
    · exact R.trans _ _ _ (h.left t (i - 1) h1 (by omega) (by omega)) hl
  have above : ∀ t, i ≤ t → t < m → lt (f m) (f t) := fun t h1 h2 => by
    rcases q2 with e | hl
    · omega
    · by_cases ht : t = i
      · rw [ht]; exact hl
      · exact R.trans _ _ _ hl (h.left i t hi1 (by omega) h2)
  have e1 : ∀ t, t < i → moveL f m i t = f t := fun t h1 => by unfold moveL; rw [if_neg (by omega), if_neg (by omega)]
  have e2 : moveL f m i i = f m := by unfold moveL; rw [if_neg (by omega), if_pos rfl]
  have e3 : ∀ t, i < t → t ≤ m → moveL f m i t = f (t - 1) := fun t h1 h2 => by unfold moveL; rw [if_pos ⟨h1, h2⟩]
  intro p q h1 h2 h3
  by_cases hp : p < i
  · rw [e1 p hp]
    by_cases hq : q < i
    · rw [e1 q hq]; exact h.left p q h1 h2 (by omega)
    · by_cases hq2 : q = i
      · rw [hq2, e2]; exact below p h1 hp
      · rw [e3 q (by omega) (by omega)]
        by_cases hpq : p = q - 1
        · omega
        · exact h.left p (q - 1) h1 (by omega) (by omega)
  · by_cases hp2 : p = i
    · rw [hp2, e2, e3 q (by omega) (by omega)]; exact above (q - 1) (by omega) (by omega)
    · rw [e3 p (by omega) (by omega), e3 q (by omega) (by omega)]; exact h.left (p - 1) (q - 1) (by omega) (by omega) (by omega)

/-- Where the two are cut: the lesser parts of both come ahead of the greater ones. -/
structure CutAt (lt : α → α → Prop) (a m b mid s e : Nat) (f : Nat → α) : Prop where
  lea : a ≤ s
  sm : s ≤ m
  me : m ≤ e
  eb : e ≤ b
  sum : s + e = mid + m
  lo : s = a ∨ e = b ∨ ¬ lt (f e) (f (s - 1))
  hi : s = m ∨ e = m ∨ lt (f (e - 1)) (f s)

section
variable {a m b mid s e : Nat} {f : Nat → α}
theorem CutAt.g1 (c : CutAt lt a m b mid s e f) {t : Nat} (h1 : s ≤ t) (h2 : t < mid) : rotF f s m e t = f (t + (m - s)) := by
  have := c.sum; have := c.sm; have := c.me
  unfold rotF; rw [if_pos (by omega)]
theorem CutAt.g2 (c : CutAt lt a m b mid s e f) {t : Nat} (h1 : mid ≤ t) (h2 : t < e) : rotF f s m e t = f (t - (e - m)) := by
  have := c.sum; have := c.sm; have := c.me
  unfold rotF; rw [if_neg (by omega), if_pos (by omega)]
theorem CutAt.g0 (c : CutAt lt a m b mid s e f) {t : Nat} (h : t < s ∨ e ≤ t) : rotF f s m e t = f t := by
  have := c.sum; have := c.sm; have := c.me
  unfold rotF; rw [if_neg (by omega), if_neg (by omega)]

theorem CutAt.cross (R : Ranks lt pos cf) (h : MergePre lt pos a m b f) (c : CutAt lt a m b mid s e f) {i j : Nat} (h1 : a ≤ i) (h2 : i < mid) (h3 : mid ≤ j) (h4 : j < b) : lt (rotF f s m e i) (rotF f s m e j) := by
  have hs := c.sum; have hsm := c.sm; have hme := c.me; have has := c.lea; have heb := c.eb
  have ham := h.am; have hmb := h.mb
  -- a lesser one of the left, a greater one of the right
  have lr : ∀ p q, a ≤ p → p < s → e ≤ q → q < b → lt (f p) (f q) := fun p q k1 k2 k3 k4 => by
    have hl : lt (f (s - 1)) (f e) := by
      rcases c.lo with e1 | e1 | hn
      · omega
      · omega
      · have := h.apart (s - 1) e (by omega) (by omega) hme (by omega)
        rcases R.total (f (s - 1)) (f e) (by omega) with t | t
        · exact t
        · exact absurd t hn
    have hl2 : lt (f p) (f e) := by
      by_cases hp : p = s - 1
      · rw [hp]; exact hl
      · exact R.trans _ _ _ (h.left p (s - 1) k1 (by omega) (by omega)) hl
    by_cases hq : q = e
    · rw [hq]; exact hl2
    · exact R.trans _ _ _ hl2 (h.right e q hme (by omega) k4)
  have rl : ∀ p q, m ≤ p → p < e → s ≤ q → q < m → lt (f p) (f q) := fun p q k1 k2 k3 k4 => by
    have hl : lt (f (e - 1)) (f s) := by
      rcases c.hi with e1 | e1 | hl
      · omega
      · omega
      · exact hl
    have hl2 : lt (f p) (f s) := by
      by_cases hp : p = e - 1
      · rw [hp]; exact hl
      · exact R.trans _ _ _ (h.right p (e - 1) k1 (by omega) (by omega)) hl
    by_cases hq : q = s
    · rw [hq]; exact hl2
    · exact R.trans _ _ _ hl2 (h.left s q has (by omega) k4)
  by_cases hi : i < s
  · rw [c.g0 (.inl hi)]
    by_cases hj : j < e
    · rw [c.g2 h3 hj]; exact h.left i _ h1 (by omega) (by omega)
    · rw [c.g0 (.inr (by omega))]; exact lr i j h1 hi (by omega) h4
  · rw [c.g1 (by omega) h2]
    by_cases hj : j < e
    · rw [c.g2 h3 hj]; exact rl _ _ (by omega) (by omega) (by omega) (by omega)
    · rw [c.g0 (.inr (by omega))]; exact h.right _ j (by omega) (by omega) h4

theorem CutAt.pre1 (h : MergePre lt pos a m b f) (c : CutAt lt a m b mid s e f) (h1 : a < s) (h2 : s < mid) : MergePre lt pos a s mid (rotF f s m e) := by
  have hs := c.sum; have hsm := c.sm; have hme := c.me; have has := c.lea; have heb := c.eb
  refine ⟨h1, h2, fun i j k1 k2 k3 => ?_, fun i j k1 k2 k3 => ?_, fun i j k1 k2 k3 k4 => ?_⟩
  · rw [c.g0 (.inl (by omega)), c.g0 (.inl k3)]; exact h.left i j k1 k2 (by omega)
  · rw [c.g1 k1 (by omega), c.g1 (by omega) k3]; exact h.right _ _ (by omega) (by omega) (by omega)
  · rw [c.g0 (.inl k2), c.g1 k3 k4]; exact h.apart _ _ k1 (by omega) (by omega) (by omega)
theorem CutAt.pre2 (h : MergePre lt pos a m b f) (c : CutAt lt a m b mid s e f) (h1 : mid < e) (h2 : e < b) : MergePre lt pos mid e b (rotF f s m e) := by
  have hs := c.sum; have hsm := c.sm; have hme := c.me; have has := c.lea; have heb := c.eb
  refine ⟨h1, h2, fun i j k1 k2 k3 => ?_, fun i j k1 k2 k3 => ?_, fun i j k1 k2 k3 k4 => ?_⟩
  · rw [c.g2 k1 (by omega), c.g2 (by omega) k3]; exact h.left _ _ (by omega) (by omega) (by omega)
  · rw [c.g0 (.inr k1), c.g0 (.inr (by omega))]; exact h.right _ _ (by omega) (by omega) (by omega)
  · rw [c.g2 k1 k2, c.g0 (.inr k3)]; exact h.apart _ _ (by omega) (by omega) (by omega) k4
theorem CutAt.sort1 (h : MergePre lt pos a m b f) (c : CutAt lt a m b mid s e f) (hn : ¬ (a < s ∧ s < mid)) : SortF lt a mid (rotF f s m e) := by
  have hs := c.sum; have hsm := c.sm; have hme := c.me; have has := c.lea; have heb := c.eb
  intro i j k1 k2 k3
  by_cases hsa : s = a
  · rw [c.g1 (by omega) (by omega), c.g1 (by omega) k3]; exact h.right _ _ (by omega) (by omega) (by omega)
  · rw [c.g0 (.inl (by omega)), c.g0 (.inl (by omega))]; exact h.left i j k1 k2 (by omega)
theorem CutAt.sort2 (h : MergePre lt pos a m b f) (c : CutAt lt a m b mid s e f) (hn : ¬ (mid < e ∧ e < b)) : SortF lt mid b (rotF f s m e) := by
  have hs := c.sum; have hsm := c.sm; have hme := c.me; have has := c.lea; have heb := c.eb
  intro i j k1 k2 k3
  by_cases hb : e = b
  · rw [c.g2 k1 (by omega), c.g2 (by omega) (by omega)]; exact h.left _ _ (by omega) (by omega) (by omega)
  · rw [c.g0 (.inr (by omega)), c.g0 (.inr (by omega))]; exact h.right _ _ (by omega) (by omega) k3
end

theorem join_sorted {a mid b : Nat} {g h1 h2 : Nat → α} (cross : ∀ i j, a ≤ i → i < mid → mid ≤ j → j < b → lt (g i) (g j)) (p1 : PermF a mid g h1) (s1 : SortF lt a mid h1) (p2 : PermF mid b h1 h2) (s2 : SortF lt mid b h2) : SortF lt a b h2 := by
  intro i j k1 k2 k3
  by_cases hi : i < mid
  · have ei : h2 i = h1 i := p2.out (.inl hi)
    by_cases hj : j < mid
    · rw [ei, p2.out (.inl hj)]; exact s1 i j k1 k2 hj
    · obtain ⟨i', a1, a2, a3⟩ := p1.from k1 hi
      obtain ⟨j', b1, b2, b3⟩ := p2.from (show mid ≤ j by omega) k3
      rw [ei, a3, b3, p1.out (.inr b1)]
      exact cross i' j' a1 a2 b1 b2
  · exact s2 i j (by omega) k2 k3
end

end Go.Proofs.Ytilonmpcifohiaa
