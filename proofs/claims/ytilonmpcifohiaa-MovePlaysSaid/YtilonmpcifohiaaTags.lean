/- Stable sorting, plain: elements with their places; an order out of a key. -/
import Derived.Test.YtilonmpcifohiaaRuns
namespace Go.Proofs.Ytilonmpcifohiaa
open Go.RowKit
set_option linter.unusedSimpArgs false
set_option linter.unusedVariables false

section
variable {α κ : Type} {klt : κ → κ → Prop} {key : α → κ}

/-- By the key, and of one key by the place. -/
def ltT (klt : κ → κ → Prop) (key : α → κ) (p q : α × Nat) : Prop := klt (key p.1) (key q.1) ∨ (key p.1 = key q.1 ∧ p.2 < q.2)
theorem ranks_of_key {cf : α → α → Int} (irr : ∀ a, ¬ klt a a) (tr : ∀ a b c, klt a b → klt b c → klt a c) (tot : ∀ a b, klt a b ∨ a = b ∨ klt b a) (hcf : ∀ x y, cf x y < 0 ↔ klt (key x) (key y)) :
    Ranks (ltT klt key) Prod.snd (fun x y : α × Nat => cf x.1 y.1) where
  irrefl x h := by
    rcases h with h | ⟨_, h⟩
    · exact irr _ h
    · omega
  trans x y z h1 h2 := by
    rcases h1 with h1 | ⟨e1, h1⟩ <;> rcases h2 with h2 | ⟨e2, h2⟩
    · exact .inl (tr _ _ _ h1 h2)
    · exact .inl (by rw [← e2]; exact h1)
    · exact .inl (by rw [e1]; exact h2)
    · exact .inr ⟨e1.trans e2, by omega⟩
  total x y h := by
    rcases tot (key x.1) (key y.1) with t | t | t
    · exact .inl (.inl t)
    · rcases Nat.lt_or_gt_of_ne h with h | h
      · exact .inl (.inr ⟨t, h⟩)
      · exact .inr (.inr ⟨t.symm, h⟩)
    · exact .inr (.inl t)
  says x y h := by
    rw [hcf]
    constructor
    · exact .inl
    · rintro (t | ⟨_, t⟩)
      · exact t
      · omega

/-- A slice's elements with their places. -/
def tagF [Inhabited α] (l : List α) : Nat → α × Nat := fun i => (l[i]!, i)
theorem tag_list [Inhabited α] (l : List α) : (List.range l.length).map (tagF l) = l.zipIdx := by
  refine List.ext_getElem (by simp) fun i h1 h2 => ?_
  simp only [List.length_map, List.length_range] at h1
  simp [tagF, h1]

/-- What a stable sort leaves: the elements with their places, by the key, of one key by the places. -/
def StableOf (klt : κ → κ → Prop) (key : α → κ) (l l' : List α) : Prop := ∃ G : List (α × Nat), G.Perm l.zipIdx ∧ G.Pairwise (ltT klt key) ∧ l' = G.map (·.1)
theorem StableOf.perm {l l' : List α} (h : StableOf klt key l l') : l'.Perm l := by
  obtain ⟨G, h1, _, rfl⟩ := h
  have := h1.map (·.1)
  rwa [show l.zipIdx.map (·.1) = l from by simp] at this
/-- Where the places themselves stand by an order, it is by the key and that order. -/
theorem StableOf.pairwise {R : α → α → Prop} {l l' : List α} (h : StableOf klt key l l') (hl : l.Pairwise R) : l'.Pairwise (fun a b => klt (key a) (key b) ∨ (key a = key b ∧ R a b)) := by
  obtain ⟨G, h1, h2, rfl⟩ := h
  rw [List.pairwise_map]
  refine h2.imp_of_mem fun {a b} ha hb hab => ?_
  rcases hab with hab | ⟨e, hab⟩
  · exact .inl hab
  · refine .inr ⟨e, ?_⟩
    have ha' := h1.mem_iff.1 ha
    have hb' := h1.mem_iff.1 hb
    obtain ⟨x, i⟩ := a
    obtain ⟨y, j⟩ := b
    have hx := List.mem_zipIdx_iff_getElem?.1 ha'
    have hy := List.mem_zipIdx_iff_getElem?.1 hb'
    simp only at hx hy hab
    obtain ⟨hi, rfl⟩ := List.getElem?_eq_some_iff.1 hx
    obtain ⟨hj, rfl⟩ := List.getElem?_eq_some_iff.1 hy
    exact List.pairwise_iff_getElem.1 hl i j hi hj hab
end

end Go.Proofs.Ytilonmpcifohiaa
