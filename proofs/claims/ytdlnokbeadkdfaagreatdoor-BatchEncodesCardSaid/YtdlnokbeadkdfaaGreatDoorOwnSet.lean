/- A store into one of the call's own elements. -/
import Derived.Test.YtdlnokbeadkdfaaGreatDoorRow
import Derived.Lib.SmallJoins
namespace Go.Proofs.YtdlnokbeadkdfaaGreatDoor
open Go.RowKit Go.Deep
set_option linter.unusedSimpArgs false
set_option linter.unusedVariables false

section
variable {α : Type} {ea : α → List Value} {k : Nat} {e : TypeId} {base : Nat} {w : World}
theorem flatMap_set (hk : ∀ x, (ea x).length = k) {j : Nat} {u : Value} (hj : j < k) : ∀ (l : List α) (i : Nat) (x y : α), l[i]? = some x → ea y = (ea x).set j u → (l.set i y).flatMap ea = (l.flatMap ea).set (i * k + j) u
  | [], i, x, y, h, _ => by simp at h
  | a :: l, 0, x, y, h, hy => by
    simp at h
    subst h
    simp only [List.set_cons_zero, List.flatMap_cons, Nat.zero_mul, Nat.zero_add]
    rw [hy, List.set_append_left _ _ (by rw [hk]; exact hj)]
  | a :: l, i + 1, x, y, h, hy => by
    simp only [List.getElem?_cons_succ] at h
    have ih := flatMap_set hk hj l i x y h hy
    simp only [List.set_cons_succ, List.flatMap_cons]
    rw [ih, List.set_append_right _ _ (by rw [hk, Nat.add_mul]; omega)]
    congr 2
    rw [hk, Nat.add_mul]
    omega
/-- A store into one of its own elements. -/
theorem Own.setAt {g cap : Nat} {l : List α} (h : Own ea k e base w (.slice (some ⟨g, 0, none⟩) l.length cap) l) (hk : ∀ x, (ea x).length = k) {i j : Nat} {x y : α} {u : Value} (hx : l[i]? = some x) (hj : j < k) (hy : ea y = (ea x).set j u) :
    Own ea k e base (w.setCell ⟨g, i * k + j, none⟩ u) (.slice (some ⟨g, 0, none⟩) l.length cap) (l.set i y) := by
  have hf := flatMap_set hk hj l i x y hx hy
  obtain ⟨h1, h2⟩ := h
  refine ⟨by rw [hf, List.length_set, List.length_set]; exact h1, ?_⟩
  rcases h2 with ⟨e1, _⟩ | ⟨g', cap', cur, e1, hb, hg, hn, hm, hs, ht⟩
  · cases e1
  · cases e1
    refine .inr ⟨g, cap, cur.setIfInBounds (i * k + j) u, by rw [List.length_set], hb, Joins.block_setCell hg u, by rw [List.length_set]; exact hn, hm, by simpa using hs, ?_⟩
    rw [hf, ← ht, List.length_set, Array.toList_setIfInBounds, List.take_set]
theorem Own.cellAt {g cap : Nat} {l : List α} (h : Own ea k e base w (.slice (some ⟨g, 0, none⟩) l.length cap) l) (hk : ∀ x, (ea x).length = k) {i j : Nat} {x : α} {u : Value} (hx : l[i]? = some x) (hu : (ea x)[j]? = some u) :
    w.cell? ⟨g, i * k + j, none⟩ = some u := by
  obtain ⟨a, c, e1, _, _, h4⟩ := h.slice hk
  cases e1
  obtain ⟨b, o, e2, h5⟩ := h4 (by rintro rfl; simp at hx)
  cases e2
  have := h5 i x hx j u hu
  rwa [Nat.zero_add] at this
theorem Own.free {g cap : Nat} {l : List α} (h : Own ea k e base w (.slice (some ⟨g, 0, none⟩) l.length cap) l) (o : Nat) : w.frozen? ⟨g, o, none⟩ = false := by
  obtain ⟨cur, hc⟩ := h.tag (b := g) rfl
  exact Joins.unfrozen_of_block hc o
end

end Go.Proofs.YtdlnokbeadkdfaaGreatDoor
