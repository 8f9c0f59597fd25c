/- Stable sorting, plain: rows as functions of the place; insertion, the merge by symmetric comparisons, rotation. -/
import Derived.Test.YtilonmpcifohiaaSlab
namespace Go.Proofs.Ytilonmpcifohiaa
set_option linter.unusedSimpArgs false
set_option linter.unusedVariables false

section
variable {α : Type}

/-- g is f, the places in [a, b) taken in another order. -/
def PermF (a b : Nat) (f g : Nat → α) : Prop :=
  ∃ s t : Nat → Nat, (∀ i, s (t i) = i) ∧ (∀ i, t (s i) = i) ∧ (∀ i, i < a ∨ b ≤ i → s i = i) ∧ ∀ i, g i = f (s i)
theorem PermF.refl (a b : Nat) (f : Nat → α) : PermF a b f f := ⟨id, id, fun _ => rfl, fun _ => rfl, fun _ _ => rfl, fun _ => rfl⟩
theorem PermF.trans {a b : Nat} {f g h : Nat → α} (h1 : PermF a b f g) (h2 : PermF a b g h) : PermF a b f h := by
  obtain ⟨s, t, st, ts, so, hg⟩ := h1
  obtain ⟨s', t', st', ts', so', hh⟩ := h2
  exact ⟨fun i => s (s' i), fun i => t' (t i), fun i => by simp only [st', st], fun i => by simp only [ts, ts'], fun i hi => by simp only [so' i hi, so i hi], fun i => by simp only [hh, hg]⟩
theorem PermF.mono {a b a' b' : Nat} {f g : Nat → α} (h : PermF a b f g) (ha : a' ≤ a) (hb : b ≤ b') : PermF a' b' f g := by
  obtain ⟨s, t, st, ts, so, hg⟩ := h
  exact ⟨s, t, st, ts, fun i hi => so i (by omega), hg⟩
theorem PermF.out {a b : Nat} {f g : Nat → α} (h : PermF a b f g) {i : Nat} (hi : i < a ∨ b ≤ i) : g i = f i := by
  obtain ⟨s, t, st, ts, so, hg⟩ := h
  rw [hg, so i hi]
theorem PermF.from {a b : Nat} {f g : Nat → α} (h : PermF a b f g) {i : Nat} (h1 : a ≤ i) (h2 : i < b) : ∃ j, a ≤ j ∧ j < b ∧ g i = f j := by
  obtain ⟨s, t, st, ts, so, hg⟩ := h
  refine ⟨s i, ?_, ?_, hg i⟩
  · refine Nat.le_of_not_lt fun hn => ?_
    have := so (s i) (.inl hn)
    have h3 := congrArg t this
    rw [ts, ts] at h3
    omega
  · refine Nat.lt_of_not_le fun hn => ?_
    have := so (s i) (.inr hn)
    have h3 := congrArg t this
    rw [ts, ts] at h3
    omega
theorem PermF.symm {a b : Nat} {f g : Nat → α} (h : PermF a b f g) : PermF a b g f := by
  obtain ⟨s, t, st, ts, so, hg⟩ := h
  refine ⟨t, s, ts, st, fun i hi => ?_, fun i => by rw [hg, st]⟩
  have := so i hi
  have h3 := congrArg t this
  rw [ts] at h3
  exact h3.symm
theorem PermF.onto {a b : Nat} {f g : Nat → α} (h : PermF a b f g) {j : Nat} (h1 : a ≤ j) (h2 : j < b) : ∃ i, a ≤ i ∧ i < b ∧ g i = f j := by
  obtain ⟨i, h3, h4, h5⟩ := h.symm.from h1 h2
  exact ⟨i, h3, h4, h5.symm⟩
theorem PermF.swap {a b p q : Nat} (f : Nat → α) (hp : a ≤ p ∧ p < b) (hq : a ≤ q ∧ q < b) : PermF a b f (swapF f p q) := by
  refine ⟨fun i => if i = p then q else if i = q then p else i, fun i => if i = p then q else if i = q then p else i, fun i => ?_, fun i => ?_, fun i hi => ?_, fun i => ?_⟩
  · simp only; (repeat' split) <;> omega
  · simp only; (repeat' split) <;> omega
  · simp only; rw [if_neg (by omega), if_neg (by omega)]
  · unfold swapF; simp only; split
    · rfl
    · split <;> rfl

/-- Rising on [a, b). -/
def SortF (lt : α → α → Prop) (a b : Nat) (f : Nat → α) : Prop := ∀ i j, a ≤ i → i < j → j < b → lt (f i) (f j)
theorem SortF.sub {lt : α → α → Prop} {a b a' b' : Nat} {f : Nat → α} (h : SortF lt a b f) (ha : a ≤ a') (hb : b' ≤ b) : SortF lt a' b' f := fun i j h1 h2 h3 => h i j (by omega) h2 (by omega)
theorem SortF.congr {lt : α → α → Prop} {a b : Nat} {f g : Nat → α} (h : SortF lt a b f) (hg : ∀ i, a ≤ i → i < b → g i = f i) : SortF lt a b g := fun i j h1 h2 h3 => by
  rw [hg i h1 (by omega), hg j (by omega) h3]; exact h i j h1 h2 h3

/-- A strict order that tells apart whatever stood apart; and what the comparison says of a later and an earlier one. -/
structure Ranks (lt : α → α → Prop) (pos : α → Nat) (cf : α → α → Int) : Prop where
  irrefl : ∀ x, ¬ lt x x
  trans : ∀ x y z, lt x y → lt y z → lt x z
  total : ∀ x y, pos x ≠ pos y → lt x y ∨ lt y x
  says : ∀ x y, pos x < pos y → (cf y x < 0 ↔ lt y x)

variable {lt : α → α → Prop} {pos : α → Nat} {cf : α → α → Int}

/-! ### Insertion -/
/-- The one at j is on its way down. -/
structure InsInv (lt : α → α → Prop) (pos : α → Nat) (a i j : Nat) (f g : Nat → α) : Prop where
  perm : PermF a (i + 1) f g
  lo : a ≤ j
  hi : j ≤ i
  rest : ∀ p q, a ≤ p → p < q → q ≤ i → p ≠ j → q ≠ j → lt (g p) (g q)
  above : ∀ q, j < q → q ≤ i → lt (g j) (g q)
  later : ∀ p, a ≤ p → p ≤ i → p ≠ j → pos (g p) < pos (g j)
theorem InsInv.start {a i : Nat} {f : Nat → α} (hai : a ≤ i) (hs : SortF lt a i f) (hp : ∀ p, a ≤ p → p < i → pos (f p) < pos (f i)) : InsInv lt pos a i i f f :=
  ⟨PermF.refl _ _ _, hai, Nat.le_refl _, fun p q h1 h2 h3 h4 h5 => hs p q h1 h2 (by omega), fun q h1 h2 => by omega, fun p h1 h2 h3 => hp p h1 (by omega)⟩
theorem InsInv.down {a i j : Nat} {f g : Nat → α} (h : InsInv lt pos a i (j + 1) f g) (haj : a ≤ j) (hlt : lt (g (j + 1)) (g j)) : InsInv lt pos a i j f (swapF g (j + 1) j) := by
  have hi := h.hi
  have e0 : swapF g (j + 1) j j = g (j + 1) := by simp [swapF]
  have e1 : swapF g (j + 1) j (j + 1) = g j := by simp [swapF]
  have eo : ∀ t, t ≠ j → t ≠ j + 1 → swapF g (j + 1) j t = g t := fun t h1 h2 => by simp [swapF, h1, h2]
  refine ⟨h.perm.trans (PermF.swap g ⟨by omega, by omega⟩ ⟨by omega, by omega⟩), haj, by omega, fun p q h1 h2 h3 h4 h5 => ?_, fun q h1 h2 => ?_, fun p h1 h2 h3 => ?_⟩
  · by_cases hp : p = j + 1
    · subst hp
      rw [e1, eo q h5 (by omega)]
      exact h.rest j q haj (by omega) h3 (by omega) (by omega)
    · by_cases hq : q = j + 1
      · subst hq
        rw [e1, eo p h4 hp]
        exact h.rest p j h1 (by omega) (by omega) (by omega) (by omega)
      · rw [eo p h4 hp, eo q h5 hq]
        exact h.rest p q h1 h2 h3 hp hq
  · rw [e0]
    by_cases hq : q = j + 1
    · subst hq; rw [e1]; exact hlt
    · rw [eo q (by omega) hq]; exact h.above q (by omega) h2
  · rw [e0]
    by_cases hp : p = j + 1
    · subst hp; rw [e1]; exact h.later j haj (by omega) (by omega)
    · rw [eo p h3 hp]; exact h.later p h1 h2 hp
theorem InsInv.done {a i j : Nat} {f g : Nat → α} (R : Ranks lt pos cf) (h : InsInv lt pos a i j f g) (hst : j = a ∨ ¬ lt (g j) (g (j - 1))) : SortF lt a (i + 1) g := by
  have hlo := h.lo
  have hbelow : ∀ p, a ≤ p → p < j → lt (g p) (g j) := fun p h1 h2 => by
    have hl : lt (g (j - 1)) (g j) := by
      rcases hst with e | hn
      · omega
      · have := h.later (j - 1) (by omega) (by have := h.hi; omega) (by omega)
        rcases R.total (g j) (g (j - 1)) (by omega) with t | t
        · exact absurd t hn
        · exact t
    by_cases hp : p = j - 1
    · rw [hp]; exact hl
    · exact R.trans _ _ _ (h.rest p (j - 1) h1 (by omega) (by have := h.hi; omega) (by omega) (by omega)) hl
  intro p q h1 h2 h3
  by_cases hp : p = j
  · subst hp; exact h.above q h2 (by omega)
  · by_cases hq : q = j
    · subst hq; exact hbelow p h1 h2
    · exact h.rest p q h1 h2 (by omega) hp hq

/-! ### One moved to its place -/
/-- What stands at a goes to k, those between come one down. -/
def moveR (f : Nat → α) (a k : Nat) : Nat → α := fun t => if a ≤ t ∧ t < k then f (t + 1) else if t = k then f a else f t
theorem moveR_zero (f : Nat → α) (a : Nat) : moveR f a a = f := by
  funext t; unfold moveR; rw [if_neg (by omega)]; split
  · rename_i h; rw [h]
  · rfl
theorem moveR_step (f : Nat → α) (a k : Nat) (h : a ≤ k) : swapF (moveR f a k) k (k + 1) = moveR f a (k + 1) := by
  funext t
  unfold swapF moveR
  by_cases h1 : t = k
  · subst h1; rw [if_pos rfl, if_neg (by omega), if_neg (by omega), if_pos (by omega)]
  · by_cases h2 : t = k + 1
    · subst h2; rw [if_neg (by omega), if_pos rfl, if_neg (by omega), if_pos rfl, if_neg (by omega), if_pos rfl]
    · rw [if_neg h1, if_neg h2]
      by_cases h3 : a ≤ t ∧ t < k
      · rw [if_pos h3, if_pos (by omega)]
      · rw [if_neg h3, if_neg h1, if_neg (by omega), if_neg h2]
theorem moveR_perm (f : Nat → α) {a k lo hi : Nat} (h : a ≤ k) (h1 : lo ≤ a) (h2 : k < hi) : PermF lo hi f (moveR f a k) := by
  refine ⟨fun t => if a ≤ t ∧ t < k then t + 1 else if t = k then a else t, fun t => if t = a then k else if a < t ∧ t ≤ k then t - 1 else t, fun i => ?_, fun i => ?_, fun i hi => ?_, fun i => ?_⟩
  · simp only; (repeat' split) <;> omega
  · simp only; (repeat' split) <;> omega
  · simp only; rw [if_neg (by omega), if_neg (by omega)]
  · unfold moveR; simp only; split
    · rfl
    · split <;> rfl
/-- What stands at m goes to k (k ≤ m), those between come one up. -/
def moveL (f : Nat → α) (m k : Nat) : Nat → α := fun t => if k < t ∧ t ≤ m then f (t - 1) else if t = k then f m else f t
theorem moveL_zero (f : Nat → α) (m : Nat) : moveL f m m = f := by
  funext t; unfold moveL; rw [if_neg (by omega)]; split
  · rename_i h; rw [h]
  · rfl
theorem moveL_step (f : Nat → α) (m k : Nat) (h : k + 1 ≤ m) : swapF (moveL f m (k + 1)) (k + 1) k = moveL f m k := by
  funext t
  unfold swapF moveL
  by_cases h1 : t = k + 1
  · subst h1; rw [if_pos rfl, if_neg (by omega), if_neg (by omega), if_pos (by omega)]; rfl
  · by_cases h2 : t = k
    · subst h2; rw [if_neg (by omega), if_pos rfl, if_neg (by omega), if_pos rfl, if_neg (by omega), if_pos rfl]
    · rw [if_neg h1, if_neg h2]
      by_cases h3 : k + 1 < t ∧ t ≤ m
      · rw [if_pos h3, if_pos (by omega)]
      · rw [if_neg h3, if_neg h1, if_neg (by omega), if_neg h2]
theorem moveL_perm (f : Nat → α) {m k lo hi : Nat} (h : k ≤ m) (h1 : lo ≤ k) (h2 : m < hi) : PermF lo hi f (moveL f m k) := by
  refine ⟨fun t => if k < t ∧ t ≤ m then t - 1 else if t = k then m else t, fun t => if t = m then k else if k ≤ t ∧ t < m then t + 1 else t, fun i => ?_, fun i => ?_, fun i hi => ?_, fun i => ?_⟩
  · simp only; (repeat' split) <;> omega
  · simp only; (repeat' split) <;> omega
  · simp only; rw [if_neg (by omega), if_neg (by omega)]
  · unfold moveL; simp only; split
    · rfl
    · split <;> rfl

/-! ### Ranges exchanged, and a rotation -/
def swapR (f : Nat → α) (a b n : Nat) : Nat → α := fun t => if a ≤ t ∧ t < a + n then f (t - a + b) else if b ≤ t ∧ t < b + n then f (t - b + a) else f t
theorem swapR_zero (f : Nat → α) (a b : Nat) : swapR f a b 0 = f := by
  funext t; unfold swapR; rw [if_neg (by omega), if_neg (by omega)]
theorem swapR_step (f : Nat → α) {a b n : Nat} (h : a + n < b) : swapF (swapR f a b n) (a + n) (b + n) = swapR f a b (n + 1) := by
  funext t
  unfold swapF swapR
  by_cases h1 : t = a + n
  · subst h1
    rw [if_pos rfl, if_neg (by omega), if_neg (by omega), if_pos (by omega)]
    congr 1; omega
  · by_cases h2 : t = b + n
    · subst h2
      rw [if_neg h1, if_pos rfl, if_neg (by omega), if_neg (by omega), if_neg (by omega), if_pos (by omega)]
      congr 1; omega
    · rw [if_neg h1, if_neg h2]
      by_cases h3 : a ≤ t ∧ t < a + n
      · rw [if_pos h3, if_pos (by omega)]
      · rw [if_neg h3, if_neg (show ¬ (a ≤ t ∧ t < a + (n + 1)) by omega)]
        by_cases h4 : b ≤ t ∧ t < b + n
        · rw [if_pos h4, if_pos (by omega)]
        · rw [if_neg h4, if_neg (by omega)]
def rotF (f : Nat → α) (a m b : Nat) : Nat → α := fun t => if a ≤ t ∧ t < a + (b - m) then f (t + (m - a)) else if a + (b - m) ≤ t ∧ t < b then f (t - (b - m)) else f t
theorem rotF_perm (f : Nat → α) {a m b lo hi : Nat} (h1 : a ≤ m) (h2 : m ≤ b) (h3 : lo ≤ a) (h4 : b ≤ hi) : PermF lo hi f (rotF f a m b) := by
  refine ⟨fun t => if a ≤ t ∧ t < a + (b - m) then t + (m - a) else if a + (b - m) ≤ t ∧ t < b then t - (b - m) else t, fun t => if a ≤ t ∧ t < m then t + (b - m) else if m ≤ t ∧ t < b then t - (m - a) else t, fun i => ?_, fun i => ?_, fun i hi => ?_, fun i => ?_⟩
  · simp only; (repeat' split) <;> omega
  · simp only; (repeat' split) <;> omega
  · simp only; rw [if_neg (by omega), if_neg (by omega)]
  · unfold rotF; simp only; split
    · rfl
    · split <;> rfl
/-- Blocks of i and j places around m: the greater one's far end is brought home. -/
theorem rot_gt (f : Nat → α) {m i j : Nat} (hi : i ≤ m) (hij : j < i) : rotF (swapR f (m - i) m j) (m - (i - j)) m (m + j) = rotF f (m - i) m (m + j) := by
  funext t
  have e1 : m + j - m = j := by omega
  have e2 : m - (m - (i - j)) = i - j := by omega
  have e3 : m - (m - i) = i := by omega
  unfold rotF swapR
  simp only [e1, e2, e3]
  by_cases c1 : t < m - i
  · rw [if_neg (by omega), if_neg (by omega), if_neg (by omega), if_neg (by omega), if_neg (by omega), if_neg (by omega)]
  · by_cases c2 : t < m - i + j
    · rw [if_neg (by omega), if_neg (by omega), if_pos (by omega), if_pos (by omega)]
      congr 1; omega
    · by_cases c3 : t < m - i + j + j
      · rw [if_pos (by omega), if_neg (by omega), if_pos (by omega), if_neg (by omega), if_pos (by omega)]
        congr 1; omega
      · by_cases c4 : t < m + j
        · rw [if_neg (by omega), if_pos (by omega), if_neg (by omega), if_neg (by omega), if_neg (by omega), if_pos (by omega)]
        · rw [if_neg (by omega), if_neg (by omega), if_neg (by omega), if_neg (by omega), if_neg (by omega), if_neg (by omega)]
theorem rot_lt (f : Nat → α) {m i j : Nat} (hi : i ≤ m) (hij : i < j) : rotF (swapR f (m - i) (m + j - i) i) (m - i) m (m + (j - i)) = rotF f (m - i) m (m + j) := by
  funext t
  have e1 : m + (j - i) - m = j - i := by omega
  have e2 : m - (m - i) = i := by omega
  have e3 : m + j - m = j := by omega
  unfold rotF swapR
  simp only [e1, e2, e3]
  by_cases c1 : t < m - i
  · rw [if_neg (by omega), if_neg (by omega), if_neg (by omega), if_neg (by omega), if_neg (by omega), if_neg (by omega)]
  · by_cases c2 : t < m - i + (j - i)
    · rw [if_pos (by omega), if_neg (by omega), if_neg (by omega), if_pos (by omega)]
    · by_cases c3 : t < m + (j - i)
      · rw [if_neg (by omega), if_pos (by omega), if_pos (by omega), if_pos (by omega)]
        congr 1; omega
      · by_cases c4 : t < m + j
        · rw [if_neg (by omega), if_neg (by omega), if_neg (by omega), if_pos (by omega), if_neg (by omega), if_pos (by omega)]
          congr 1; omega
        · rw [if_neg (by omega), if_neg (by omega), if_neg (by omega), if_neg (by omega), if_neg (by omega), if_neg (by omega)]
theorem rot_eq (f : Nat → α) {m i : Nat} (hi : i ≤ m) : swapR f (m - i) m i = rotF f (m - i) m (m + i) := by
  funext t
  have e1 : m + i - m = i := by omega
  have e2 : m - (m - i) = i := by omega
  unfold rotF swapR
  simp only [e1, e2]
  by_cases c1 : t < m - i
  · rw [if_neg (by omega), if_neg (by omega), if_neg (by omega), if_neg (by omega)]
  · by_cases c2 : t < m
    · rw [if_pos (by omega), if_pos (by omega)]
      congr 1; omega
    · by_cases c3 : t < m + i
      · rw [if_neg (by omega), if_pos (by omega), if_neg (by omega), if_pos (by omega)]
        congr 1; omega
      · rw [if_neg (by omega), if_neg (by omega), if_neg (by omega), if_neg (by omega)]
end

end Go.Proofs.Ytilonmpcifohiaa
