/- Contract of the reference's All. -/
import Derived.Test.YtkkffnejgbhbmaaRefGet15
import Derived.Deep.DeepCutAuto
import Derived.Deep.CutBlock
namespace Go.Proofs.Ytkkffnejgbhbmaa
open Go.RowKit
set_option linter.unusedSimpArgs false
set_option linter.unusedVariables false

theorem flat_set2 (l : List Atr) (i : Nat) (x : Atr) (hi : i < l.length) : ((l.flatMap Atr.cells).set (i * 2) (.string x.name)).set (i * 2 + 1) (.string x.value) = (l.set i x).flatMap Atr.cells := by
  induction l generalizing i with
  | nil => simp at hi
  | cons y l ih =>
    cases i with
    | zero => simp [Atr.cells]
    | succ i =>
      have := ih i (by simpa using hi)
      rw [List.set_cons_succ, List.flatMap_cons, List.flatMap_cons, ← this]
      show (([.string y.name, .string y.value] ++ _ : List Value).set _ _).set _ _ = [.string y.name, .string y.value] ++ _
      rw [show (i + 1) * 2 = i * 2 + 1 + 1 from by omega]
      rfl

theorem own_set2 {base : Nat} {w : World} {g cap : Nat} {l : List Atr} (h : Own Atr.cells 2 45 base w (.slice (some ⟨g, 0, none⟩) l.length cap) l) (i : Nat) (x : Atr) (hi : i < l.length) :
    Own Atr.cells 2 45 base ((w.setCell ⟨g, i * 2, none⟩ (.string x.name)).setCell ⟨g, i * 2 + 1, none⟩ (.string x.value)) (.slice (some ⟨g, 0, none⟩) l.length cap) (l.set i x) := by
  have h1 := (World.ownsRow.stored h (i * 2) (.string x.name)).1
  have h2 := (World.ownsRow.stored h1 (i * 2 + 1) (.string x.value)).1
  unfold Own
  rw [← flat_set2 l i x hi, List.length_set]
  exact h2

/-- a moved down to place k in O. -/
def insAt (O : List Atr) (a : Atr) (k : Nat) : List Atr := O.take k ++ a :: O.drop k

theorem insAt_len (O : List Atr) (a : Atr) (k : Nat) (h : k ≤ O.length) : (insAt O a k).length = O.length + 1 := by
  simp [insAt]; omega
theorem insAt_at (O : List Atr) (a : Atr) (k : Nat) (h : k ≤ O.length) : (insAt O a k)[k]? = some a := by
  rw [insAt, List.getElem?_append_right (by simp; omega)]
  simp [Nat.min_eq_left h]
theorem insAt_before (O : List Atr) (a : Atr) (k : Nat) (h : k < O.length) : (insAt O a (k + 1))[k]? = O[k]? := by
  rw [insAt, List.getElem?_append_left (by simp; omega), List.getElem?_take, if_pos (by omega)]
theorem insAt_swap (O : List Atr) (a c : Atr) (k : Nat) (h : O[k]? = some c) : ((insAt O a (k + 1)).set (k + 1) c).set k a = insAt O a k := by
  obtain ⟨hk, hc⟩ := List.getElem?_eq_some_iff.1 h
  have hlen : k < O.length := hk
  refine List.ext_getElem? fun j => ?_
  have e1 : O.drop k = c :: O.drop (k + 1) := by rw [List.drop_eq_getElem_cons hk, hc]
  have e2 : O.take (k + 1) = O.take k ++ [c] := by rw [List.take_succ_eq_append_getElem hk, hc]
  have e3 : insAt O a (k + 1) = O.take k ++ [c, a] ++ O.drop (k + 1) := by simp [insAt, e2]
  have e4 : insAt O a k = O.take k ++ [a, c] ++ O.drop (k + 1) := by simp [insAt, e1]
  have hl : (O.take k).length = k := by simp; omega
  rw [e3, e4, List.append_assoc, List.set_append_right _ _ (by rw [hl]; omega), hl, List.set_append_right _ _ (by rw [hl]; omega), hl]
  simp

theorem rising_insAt {O : List Atr} {a : Atr} {k : Nat} (hk : k ≤ O.length) (hO : O.Pairwise (fun x y => x.name.toList < y.name.toList)) (hd : ∀ x ∈ O.drop k, a.name.toList < x.name.toList) (ht : ∀ x ∈ O.take k, x.name.toList < a.name.toList) :
    (insAt O a k).Pairwise (fun x y => x.name.toList < y.name.toList) := by
  unfold insAt
  have h0 := hO
  rw [← List.take_append_drop k O, List.pairwise_append] at h0
  rw [List.pairwise_append, List.pairwise_cons]
  refine ⟨h0.1, ⟨hd, h0.2.1⟩, fun x hx y hy => ?_⟩
  rcases List.mem_cons.1 hy with rfl | hy
  · exact ht x hx
  · exact h0.2.2 x hx y hy

theorem mem_insAt {O : List Atr} {a x : Atr} {k : Nat} : x ∈ insAt O a k ↔ x = a ∨ x ∈ O := by
  unfold insAt
  rw [List.mem_append, List.mem_cons]
  have := List.take_append_drop k O
  constructor
  · rintro (h | h | h)
    · exact .inr (List.mem_of_mem_take h)
    · exact .inl h
    · exact .inr (List.mem_of_mem_drop h)
  · rintro (h | h)
    · exact .inr (.inl h)
    · rw [← this, List.mem_append] at h
      exact h.elim .inl (fun h => .inr (.inr h))

/-- What was gathered of the first writes. -/
structure Gath (L : List Write) (b : St) (k : Nat) (O : List Atr) : Prop where
  rising : O.Pairwise (fun x y => x.name.toList < y.name.toList)
  mem : ∀ a, a ∈ O ↔ (∃ y ∈ L.take k, y.blk = b ∧ y.name = a.name) ∧ a.value = valOf (refBest L ⟨b, a.name⟩)

theorem Gath.skip {L : List Write} {b : St} {k : Nat} {O : List Atr} (h : Gath L b k O) {y : Write} (hy : L[k]? = some y) (hn : y.blk ≠ b ∨ ∃ a ∈ O, a.name = y.name) : Gath L b (k + 1) O := by
  refine ⟨h.rising, fun a => ?_⟩
  rw [h.mem a, take_snoc' hy]
  constructor
  · rintro ⟨⟨z, hz, r⟩, e⟩; exact ⟨⟨z, by simp [hz], r⟩, e⟩
  · rintro ⟨⟨z, hz, r1, r2⟩, e⟩
    rcases List.mem_append.1 hz with hz | hz
    · exact ⟨⟨z, hz, r1, r2⟩, e⟩
    · rw [List.mem_singleton.1 hz] at r1 r2
      rcases hn with hn | ⟨c, hc, ec⟩
      · exact absurd r1 hn
      · obtain ⟨⟨u, hu, s1, s2⟩, _⟩ := (h.mem c).1 hc
        exact ⟨⟨u, hu, s1, by rw [s2, ec, r2]⟩, e⟩

theorem Gath.ins {L : List Write} {b : St} {k : Nat} {O : List Atr} (h : Gath L b k O) {y : Write} (hy : L[k]? = some y) (hb : y.blk = b) {j : Nat} (hj : j ≤ O.length)
    (hd : ∀ x ∈ O.drop j, y.name.toList < x.name.toList) (ht : ∀ x ∈ O.take j, x.name.toList < y.name.toList) : Gath L b (k + 1) (insAt O ⟨y.name, valOf (refBest L ⟨b, y.name⟩)⟩ j) := by
  refine ⟨rising_insAt hj h.rising hd ht, fun a => ?_⟩
  rw [mem_insAt, h.mem a, take_snoc' hy]
  constructor
  · rintro (rfl | ⟨⟨z, hz, r⟩, e⟩)
    · exact ⟨⟨y, by simp, hb, rfl⟩, rfl⟩
    · exact ⟨⟨z, by simp [hz], r⟩, e⟩
  · rintro ⟨⟨z, hz, r1, r2⟩, e⟩
    rcases List.mem_append.1 hz with hz | hz
    · exact .inr ⟨⟨z, hz, r1, r2⟩, e⟩
    · rw [List.mem_singleton.1 hz] at r1 r2
      left
      cases a
      simp only at r2 e
      rw [e, r2]

theorem refBest_some {L : List Write} (hr : ∀ x ∈ L, rightB x.at_ = true) (p : Pl) : (refBest L p).isSome = true ↔ ∃ y ∈ L, y.pl = p := by
  refine snocInd (p := fun L => (∀ x ∈ L, rightB x.at_ = true) → ((refBest L p).isSome = true ↔ ∃ y ∈ L, y.pl = p)) ?_ ?_ L hr
  · intro _; simp [refBest]
  · intro L y ih hr
    have ih := ih (fun x hx => hr x (by simp [hx]))
    rw [refBest_snoc, bestStep]
    split
    · rename_i h
      simp only [Option.isSome_some, true_iff]
      exact ⟨y, by simp, h.1⟩
    · rename_i h
      rw [ih]
      constructor
      · rintro ⟨z, hz, e⟩; exact ⟨z, by simp [hz], e⟩
      · rintro ⟨z, hz, e⟩
        rcases List.mem_append.1 hz with hz | hz
        · exact ⟨z, hz, e⟩
        · rw [List.mem_singleton.1 hz] at e
          refine ih.1 ?_
          cases hb : refBest L p with
          | some x => rfl
          | none =>
            exfalso
            apply h
            refine ⟨e, ?_⟩
            rw [hb]
            have := right_pos (hr y (by simp))
            have hc := (cmpS_lt ⟨0, 0⟩ y.at_).2 this
            show 0 < cmpS y.at_ ⟨0, 0⟩
            unfold stLt at this
            rw [show y.at_ = ⟨y.at_.n, y.at_.r⟩ from rfl, cmpS_val]
            simp only at this
            rw [if_neg (by omega)]
            split
            · omega
            · rw [if_neg (by omega), if_pos (by omega)]; omega

theorem Gath.allList {L : List Write} (hr : ∀ x ∈ L, rightB x.at_ = true) {b : St} {O : List Atr} (h : Gath L b L.length O) {vs : List (Pl × Wr)} (hv : ∀ p, aget vs p = refBest L p) : AllList vs b O := by
  refine ⟨fun a => ?_, h.rising⟩
  rw [h.mem a, List.take_length, hv]
  have hs := refBest_some hr (⟨b, a.name⟩ : Pl)
  constructor
  · rintro ⟨⟨y, hy, e1, e2⟩, e⟩
    have := hs.2 ⟨y, hy, by rw [Write.pl, e1, e2]⟩
    obtain ⟨x, hx⟩ := Option.isSome_iff_exists.1 this
    exact ⟨x, hx, by rw [e, hx]; rfl⟩
  · rintro ⟨x, hx, e⟩
    obtain ⟨y, hy, ey⟩ := hs.1 (by rw [hx]; rfl)
    rw [Write.pl] at ey
    exact ⟨⟨y, hy, (Pl.mk.inj ey).1, (Pl.mk.inj ey).2⟩, by rw [hx]; exact e.symm⟩

end Go.Proofs.Ytkkffnejgbhbmaa
