/- Layer 17: two lists of what each element has, side by side. -/
import Derived.Test.YtlfmkoapddihcaaRStyle17
import Derived.Test.YtlfmkoapddihcaaSame17
namespace Go.Proofs.Ytlfmkoapddihcaa
open Go.RowKit
set_option linter.unusedSimpArgs false
set_option linter.unusedVariables false

theorem SliceIs.drew {α : Type} {ea : α → List Value} {k : Nat} {w : World} {v : Value} {l : List α} (h : SliceIs ea k w v l) : SliceIs ea k w.drew v l := h
/-- What stands at a place of such a list. -/
theorem Styled.at {l : List El} {ms : List OpD} {base n : Nat} {W : World} {u : Value} (h : Styled l ms base W n u) {i : Nat} (hi : i < n) :
    ∃ (b o c : Nat) (s : Sl) (al : List Atr), u = .slice (some ⟨b, o, none⟩) n c ∧ n ≤ c ∧ c ≤ maxLen ∧ W.cell? ⟨b, o + i, none⟩ = some (.slice s.a s.n s.cap) ∧ SliceIs Atr.cells 2 W (.slice s.a s.n s.cap) al ∧ HasL l ms i al := by
  obtain ⟨vs, h1, h2, h3⟩ := h
  obtain ⟨a, c, rfl, hc, hm, hh⟩ := h1.slice Sl.len
  obtain ⟨s, hs⟩ : ∃ s, vs[i]? = some s := ⟨_, List.getElem?_eq_getElem (by omega)⟩
  obtain ⟨b, o, rfl, hh1⟩ := hh (by intro e; rw [e] at hs; simp at hs)
  obtain ⟨al, h4, h5⟩ := h3 i s hs
  have := hh1 i s hs 0 _ rfl
  rw [Nat.mul_one, Nat.add_zero] at this
  exact ⟨b, o, c, s, al, by rw [h2], by omega, hm, this, h4.slice (fun _ => rfl), h5⟩
theorem Styled.shape {l : List El} {ms : List OpD} {base n : Nat} {W : World} {u : Value} (h : Styled l ms base W n u) : ∃ a c, u = .slice a n c ∧ n ≤ c ∧ c ≤ maxLen := by
  obtain ⟨vs, h1, h2, h3⟩ := h
  obtain ⟨a, c, rfl, hc, hm, hh⟩ := h1.slice Sl.len
  exact ⟨a, c, by rw [h2], by omega, hm⟩
end Go.Proofs.Ytlfmkoapddihcaa
