/- Stable sorting, plain: runs of one length, and what their merging makes. -/
import Derived.Test.YtilonmpcifohiaaMergeP
namespace Go.Proofs.Ytilonmpcifohiaa
set_option linter.unusedSimpArgs false
set_option linter.unusedVariables false

section
variable {α : Type} {lt : α → α → Prop} {f g h : Nat → α}

/-- g stands on [a, b) by the order, and holds there only what f has there. -/
def OkRun (lt : α → α → Prop) (f : Nat → α) (a b : Nat) (g : Nat → α) : Prop := SortF lt a b g ∧ ∀ i, a ≤ i → i < b → ∃ j, a ≤ j ∧ j < b ∧ g i = f j
theorem OkRun.congr {a b : Nat} (H : OkRun lt f a b g) (hg : ∀ i, a ≤ i → i < b → h i = g i) : OkRun lt f a b h :=
  ⟨H.1.congr hg, fun i h1 h2 => by rw [hg i h1 h2]; exact H.2 i h1 h2⟩
/-- The runs behind a place, each of s places, the last one maybe shorter. -/
inductive Runs (lt : α → α → Prop) (f : Nat → α) (s n : Nat) (g : Nat → α) : Nat → Prop
  | done {a : Nat} (h : n ≤ a) : Runs lt f s n g a
  | step {a : Nat} (h : a < n) (r : OkRun lt f a (min (a + s) n) g) (k : Runs lt f s n g (a + s)) : Runs lt f s n g a
/-- The runs ahead of a place. -/
inductive Front (lt : α → α → Prop) (f : Nat → α) (t : Nat) (g : Nat → α) : Nat → Prop
  | zero : Front lt f t g 0
  | snoc {a : Nat} (k : Front lt f t g a) (r : OkRun lt f a (a + t) g) : Front lt f t g (a + t)

theorem Runs.congr {s n a : Nat} (H : Runs lt f s n g a) : (∀ i, a ≤ i → i < n → h i = g i) → Runs lt f s n h a := by
  induction H with
  | done hn => exact fun _ => .done hn
  | step hn r k ih => exact fun hg => .step hn (r.congr fun i h1 h2 => hg i h1 (by omega)) (ih fun i h1 h2 => hg i (by omega) h2)
theorem Front.congr {t a : Nat} (H : Front lt f t g a) : (∀ i, i < a → h i = g i) → Front lt f t h a := by
  induction H with
  | zero => exact fun _ => .zero
  | snoc k r ih => exact fun hg => .snoc (ih fun i h1 => hg i (by omega)) (r.congr fun i h1 h2 => hg i h2)
theorem Runs.first {s n a : Nat} (H : Runs lt f s n g a) (ha : a < n) : OkRun lt f a (min (a + s) n) g ∧ Runs lt f s n g (a + s) := by
  cases H with
  | done hn => omega
  | step hn r k => exact ⟨r, k⟩
theorem Front.runs {t n a : Nat} (H : Front lt f t g a) : a ≤ n → Runs lt f t n g a → Runs lt f t n g 0 := by
  induction H with
  | zero => exact fun _ r => r
  | @snoc a k r ih =>
    intro hn hr
    by_cases ht : t = 0
    · subst ht; exact ih (by omega) hr
    · exact ih (by omega) (.step (by omega) (by rw [Nat.min_eq_left (by omega)]; exact r) hr)
theorem Runs.all {s n : Nat} (H : Runs lt f s n g 0) (hs : n ≤ s) : SortF lt 0 n g := by
  by_cases hn : 0 < n
  · have := (H.first hn).1.1
    rwa [Nat.zero_add, Nat.min_eq_right hs] at this
  · exact fun i j _ h1 h2 => by omega

/-- The merge of two neighbours. -/
theorem pre_of_runs {pos : α → Nat} {a m b n : Nat} (am : a < m) (mb : m < b) (bn : b ≤ n) (hp : ∀ p q, p < q → q < n → pos (f p) < pos (f q)) (r1 : OkRun lt f a m g) (r2 : OkRun lt f m b g) : MergePre lt pos a m b g :=
  ⟨am, mb, r1.1, r2.1, fun i j h1 h2 h3 h4 => by
    obtain ⟨p, p1, p2, e1⟩ := r1.2 i h1 h2
    obtain ⟨q, q1, q2, e2⟩ := r2.2 j h3 h4
    rw [e1, e2]; exact hp p q (by omega) (by omega)⟩
theorem merged {a m b : Nat} (am : a ≤ m) (mb : m ≤ b) (r1 : OkRun lt f a m g) (r2 : OkRun lt f m b g) (p : PermF a b g h) (s : SortF lt a b h) : OkRun lt f a b h :=
  ⟨s, fun i h1 h2 => by
    obtain ⟨j, j1, j2, e⟩ := p.from h1 h2
    rw [e]
    by_cases hj : j < m
    · obtain ⟨q, q1, q2, e2⟩ := r1.2 j j1 hj
      exact ⟨q, q1, by omega, e2⟩
    · obtain ⟨q, q1, q2, e2⟩ := r2.2 j (by omega) j2
      exact ⟨q, by omega, q2, e2⟩⟩
theorem sorted_run {a b : Nat} (hg : ∀ i, a ≤ i → i < b → g i = f i) (p : PermF a b g h) (s : SortF lt a b h) : OkRun lt f a b h :=
  ⟨s, fun i h1 h2 => by
    obtain ⟨j, j1, j2, e⟩ := p.from h1 h2
    exact ⟨j, j1, j2, e.trans (hg j j1 j2)⟩⟩
/-- Runs of which one alone is left are runs of twice the length. -/
theorem Runs.last {s t n a : Nat} (H : Runs lt f s n g a) (hst : s ≤ t) (hn : n ≤ a + s) : Runs lt f t n g a := by
  by_cases ha : a < n
  · have := (H.first ha).1
    rw [Nat.min_eq_right hn] at this
    exact .step ha (by rw [Nat.min_eq_right (by omega)]; exact this) (.done (by omega))
  · exact .done (by omega)

/-- A row in another order, as lists. -/
theorem PermF.list {n : Nat} (H : PermF 0 n f g) : ((List.range n).map g).Perm ((List.range n).map f) := by
  obtain ⟨s, t, st, ts, so, hg⟩ := H
  have e : (List.range n).map g = ((List.range n).map s).map f := by rw [List.map_map]; exact List.map_congr_left fun i _ => hg i
  rw [e]
  refine List.Perm.map f ((List.perm_ext_iff_of_nodup ?_ List.nodup_range).2 fun i => ?_)
  · refine List.pairwise_map.2 (List.nodup_range.imp fun {a b} hne h => hne ?_)
    have := congrArg t h
    rwa [ts, ts] at this
  · have inn : ∀ j, j < n → s j < n := fun j hj => Nat.lt_of_not_le fun hn => by
      have h1 := so (s j) (.inr hn)
      have h2 := congrArg t h1
      rw [ts, ts] at h2
      omega
    simp only [List.mem_map, List.mem_range]
    constructor
    · rintro ⟨j, hj, rfl⟩; exact inn j hj
    · intro hi
      refine ⟨t i, ?_, st i⟩
      refine Nat.lt_of_not_le fun hn => ?_
      have h1 := so (t i) (.inr hn)
      rw [st] at h1
      omega
theorem SortF.list {n : Nat} (H : SortF lt 0 n g) : ((List.range n).map g).Pairwise lt := by
  rw [List.pairwise_map]
  refine List.pairwise_iff_getElem.2 fun i j hi hj hij => ?_
  simp only [List.length_range] at hi hj
  simp only [List.getElem_range]
  exact H i j (Nat.zero_le _) hij hj
end

end Go.Proofs.Ytilonmpcifohiaa
