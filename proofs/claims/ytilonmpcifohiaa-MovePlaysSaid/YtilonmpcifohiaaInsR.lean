/- Insertion from the end, at any order: an element on its way to its place. -/
import Derived.Test.YtilonmpcifohiaaSlab
namespace Go.Proofs.Ytilonmpcifohiaa
open Go.RowKit
set_option linter.unusedSimpArgs false
set_option linter.unusedVariables false

section
variable {α : Type} {R : α → α → Prop}
theorem pairR_get {l : List α} : l.Pairwise R ↔ ∀ (i j : Nat) x y, i < j → l[i]? = some x → l[j]? = some y → R x y := by
  rw [List.pairwise_iff_getElem]
  constructor
  · intro h i j x y hij hx hy
    obtain ⟨hi, rfl⟩ := List.getElem?_eq_some_iff.1 hx
    obtain ⟨hj, rfl⟩ := List.getElem?_eq_some_iff.1 hy
    exact h i j hi hj hij
  · intro h i j hi hj hij
    exact h i j _ _ hij (List.getElem?_eq_getElem hi) (List.getElem?_eq_getElem hj)
theorem eraseR_lt (l : List α) {i j : Nat} (h : j < i) : (l.eraseIdx i)[j]? = l[j]? := by rw [List.getElem?_eraseIdx, if_pos h]
theorem eraseR_ge (l : List α) {i j : Nat} (h : i ≤ j) : (l.eraseIdx i)[j]? = l[j + 1]? := by rw [List.getElem?_eraseIdx, if_neg (by omega)]
theorem permR_erase {l : List α} {i : Nat} {x : α} (h : l[i]? = some x) : l.Perm (x :: l.eraseIdx i) := by
  obtain ⟨hi, hx⟩ := List.getElem?_eq_some_iff.1 h
  have e : l = l.take i ++ x :: l.drop (i + 1) := by
    rw [← hx, ← List.drop_eq_getElem_cons hi, List.take_append_drop]
  rw [List.eraseIdx_eq_take_drop_succ]
  conv => lhs; rw [e]
  exact List.perm_middle

/-- The others are in order, and it stands right to those behind it. -/
structure InsR (R : α → α → Prop) (xs ys : List α) (k : Nat) : Prop where
  perm : ys.Perm xs
  lt : k < ys.length
  rest : (ys.eraseIdx k).Pairwise R
  up : ∀ (j : Nat) x y, k < j → ys[k]? = some x → ys[j]? = some y → R x y
theorem insR_first {l : List α} (h : l.Pairwise R) (x : α) : InsR R (l ++ [x]) (l ++ [x]) l.length := by
  refine ⟨List.Perm.refl _, by simp, ?_, fun j a b hj ha hb => ?_⟩
  · rw [List.eraseIdx_append_of_length_le (Nat.le_refl _)]; simpa using h
  · have := (List.getElem?_eq_some_iff.1 hb).1
    rw [List.length_append] at this
    simp at this
    omega
theorem InsR.stands {xs ys : List α} {k : Nat} (tr : ∀ a b c, R a b → R b c → R a c) (h : InsR R xs ys k) (hk : ∀ (x y : α), 0 < k → ys[k]? = some x → ys[k - 1]? = some y → R y x) : ys.Pairwise R := by
  have hr := pairR_get.1 h.rest
  refine pairR_get.2 (fun i j x y hij hx hy => ?_)
  by_cases h1 : i < k
  · by_cases h2 : j < k
    · exact hr i j x y hij (by rw [eraseR_lt _ h1]; exact hx) (by rw [eraseR_lt _ h2]; exact hy)
    · by_cases h3 : j = k
      · subst h3
        obtain ⟨z, hz⟩ : ∃ z, ys[j - 1]? = some z := ⟨_, List.getElem?_eq_getElem (by have := h.lt; omega)⟩
        have hzy := hk y z (by omega) hy hz
        by_cases h4 : i = j - 1
        · subst h4; rw [hz] at hx; cases hx; exact hzy
        · exact tr _ _ _ (hr i (j - 1) x z (by omega) (by rw [eraseR_lt _ h1]; exact hx) (by rw [eraseR_lt _ (by omega)]; exact hz)) hzy
      · exact hr i (j - 1) x y (by omega) (by rw [eraseR_lt _ h1]; exact hx) (by rw [eraseR_ge _ (by omega), show j - 1 + 1 = j by omega]; exact hy)
  · by_cases h2 : i = k
    · subst h2; exact h.up j x y hij hx hy
    · exact hr (i - 1) (j - 1) x y (by omega) (by rw [eraseR_ge _ (by omega), show i - 1 + 1 = i by omega]; exact hx) (by rw [eraseR_ge _ (by omega), show j - 1 + 1 = j by omega]; exact hy)
/-- One exchange. -/
def exchR (ys : List α) (k : Nat) (x y : α) : List α := (ys.set k y).set (k - 1) x
theorem exchR_len (ys : List α) (k : Nat) (x y : α) : (exchR ys k x y).length = ys.length := by simp [exchR]
theorem exchR_at (ys : List α) {k : Nat} {x y : α} (hk0 : 0 < k) (hx : ys[k]? = some x) (hy : ys[k - 1]? = some y) (i : Nat) : (exchR ys k x y)[i]? = if i = k - 1 then some x else if i = k then some y else ys[i]? := by
  have h1 := (List.getElem?_eq_some_iff.1 hx).1
  unfold exchR
  rw [List.getElem?_set, List.getElem?_set, List.length_set]
  by_cases e1 : k - 1 = i
  · rw [if_pos e1, if_pos (by omega), if_pos e1.symm]
  · rw [if_neg e1, if_neg (show ¬ i = k - 1 from fun e => e1 e.symm)]
    by_cases e2 : k = i
    · rw [if_pos e2, if_pos (by omega), if_pos e2.symm]
    · rw [if_neg e2, if_neg (show ¬ i = k from fun e => e2 e.symm)]
theorem InsR.swap {xs ys : List α} {k : Nat} (h : InsR R xs ys k) {x y : α} (hk0 : 0 < k) (hx : ys[k]? = some x) (hy : ys[k - 1]? = some y) (hlt : R x y) : InsR R xs (exchR ys k x y) (k - 1) := by
  have hr := pairR_get.1 h.rest
  have hl : (exchR ys k x y).length = ys.length := by simp [exchR]
  have he : (exchR ys k x y).eraseIdx (k - 1) = ys.eraseIdx k := by
    apply List.ext_getElem?
    intro i
    by_cases h1 : i < k - 1
    · rw [eraseR_lt _ h1, eraseR_lt _ (by omega), exchR_at ys hk0 hx hy, if_neg (by omega), if_neg (by omega)]
    · rw [eraseR_ge _ (by omega), exchR_at ys hk0 hx hy, if_neg (by omega)]
      by_cases h2 : i + 1 = k
      · rw [if_pos h2, eraseR_lt _ (by omega), ← hy]; congr 1; omega
      · rw [if_neg h2, eraseR_ge _ (by omega)]
  refine ⟨?_, by rw [hl]; have := h.lt; omega, by rw [he]; exact h.rest, fun j a b hj ha hb => ?_⟩
  · refine List.Perm.trans ?_ h.perm
    have p1 := permR_erase (l := ys) (i := k) hx
    have p2 := permR_erase (l := exchR ys k x y) (i := k - 1) (x := x) (by rw [exchR_at ys hk0 hx hy, if_pos rfl])
    rw [he] at p2
    exact p2.trans p1.symm
  · rw [exchR_at ys hk0 hx hy, if_pos rfl] at ha
    cases ha
    rw [exchR_at ys hk0 hx hy, if_neg (by omega)] at hb
    by_cases e : j = k
    · rw [if_pos e] at hb; cases hb; exact hlt
    · rw [if_neg e] at hb
      exact h.up j x b (by omega) hx hb
end

/-- One exchange in memory: first the place k, then the one ahead of it. -/
theorem own_exchR {α : Type} {ea : α → List Value} {q : Nat} {T : TypeId} {base g n cap : Nat} {w : World} {zs : List α} (hk : ∀ x, (ea x).length = q) (hq0 : 0 < q) (hn : zs.length = n) (h : Own ea q T base w (.slice (some ⟨g, 0, none⟩) n cap) zs)
    {k : Nat} {x y : α} (hk0 : 0 < k) (hx : zs[k]? = some x) (hy : zs[k - 1]? = some y) :
    Own ea q T base (putFrom (putFrom w g (k * q) 0 (ea y)) g ((k - 1) * q) 0 (ea x)) (.slice (some ⟨g, 0, none⟩) n cap) (exchR zs k x y) := by
  subst hn
  have hxl := (List.getElem?_eq_some_iff.1 hx).1
  haveI : Inhabited α := ⟨x⟩
  obtain ⟨hs, hb, hc, hm⟩ := h.slab hk
  have h2 := ((hs.put hk hxl y).put hk (i := k - 1) (by omega) x).own hk hq0 hb hc hm
  have e : (List.range zs.length).map (upd (upd (fun i => zs[i]!) k y) (k - 1) x) = exchR zs k x y := by
    apply List.ext_getElem?
    intro i
    rw [exchR_at zs hk0 hx hy, List.getElem?_map]
    by_cases hi : i < zs.length
    · rw [List.getElem?_range hi, Option.map_some]
      unfold upd
      by_cases h1 : i = k - 1
      · rw [if_pos h1, if_pos h1]
      · rw [if_neg h1, if_neg h1]
        by_cases h2 : i = k
        · rw [if_pos h2, if_pos h2]
        · rw [if_neg h2, if_neg h2, List.getElem?_eq_getElem hi]; exact congrArg some (getElem!_pos zs i hi)
    · rw [if_neg (show ¬ i = k - 1 by omega), if_neg (show ¬ i = k by omega), List.getElem?_eq_none (l := List.range zs.length) (by simp; omega), List.getElem?_eq_none (l := zs) (by omega)]
      rfl
  rw [e] at h2
  exact h2
/-- What is in between. -/
theorem slab_put1 {α : Type} {ea : α → List Value} {q : Nat} {T : TypeId} {base g n cap : Nat} {w : World} {zs : List α} (hk : ∀ x, (ea x).length = q) (hq0 : 0 < q) (hn : zs.length = n) (h : Own ea q T base w (.slice (some ⟨g, 0, none⟩) n cap) zs)
    {k : Nat} {x y : α} (hx : zs[k]? = some x) : Own ea q T base (putFrom w g (k * q) 0 (ea y)) (.slice (some ⟨g, 0, none⟩) n cap) (zs.set k y) := by
  subst hn
  have hxl := (List.getElem?_eq_some_iff.1 hx).1
  haveI : Inhabited α := ⟨x⟩
  obtain ⟨hs, hb, hc, hm⟩ := h.slab hk
  have h2 := (hs.put hk hxl y).own hk hq0 hb hc hm
  have e : (List.range zs.length).map (upd (fun i => zs[i]!) k y) = zs.set k y := by
    apply List.ext_getElem?
    intro i
    rw [List.getElem?_map, List.getElem?_set]
    by_cases hi : i < zs.length
    · rw [List.getElem?_range hi, Option.map_some]
      unfold upd
      by_cases h1 : i = k
      · rw [if_pos h1, if_pos h1.symm, if_pos hxl]
      · rw [if_neg h1, if_neg (fun e => h1 e.symm), List.getElem?_eq_getElem hi]; exact congrArg some (getElem!_pos zs i hi)
    · rw [if_neg (show ¬ k = i by omega), List.getElem?_eq_none (l := List.range zs.length) (by simp; omega), List.getElem?_eq_none (l := zs) (by omega)]
      rfl
  rw [e] at h2
  exact h2
theorem Own.cellI {α : Type} {ea : α → List Value} {q : Nat} {T : TypeId} {base g n cap : Nat} {w : World} {l : List α} (h : Own ea q T base w (.slice (some ⟨g, 0, none⟩) n cap) l) (hk : ∀ x, (ea x).length = q) {i j : Nat} {x : α} {u : Value} (hx : l[i]? = some x) (hu : (ea x)[j]? = some u) :
    w.cell? ⟨g, i * q + j, none⟩ = some u := by
  obtain ⟨a, c, e1, _, _, h4⟩ := h.slice hk
  cases e1
  obtain ⟨b, o, e2, h5⟩ := h4 (by rintro rfl; simp at hx)
  cases e2
  have := h5 i x hx j u hu
  rw [Nat.zero_add] at this
  exact this
theorem Own.freeI {α : Type} {ea : α → List Value} {q : Nat} {T : TypeId} {base g n cap : Nat} {w : World} {l : List α} (h : Own ea q T base w (.slice (some ⟨g, 0, none⟩) n cap) l) (o : Nat) : w.frozen? ⟨g, o, none⟩ = false := by
  obtain ⟨cur, hc⟩ := h.tag (b := g) rfl
  simp [World.frozen?, hc]
theorem Own.lenI {α : Type} {ea : α → List Value} {q : Nat} {T : TypeId} {base g n cap : Nat} {w : World} {l : List α} (h : Own ea q T base w (.slice (some ⟨g, 0, none⟩) n cap) l) (hk : ∀ x, (ea x).length = q) : n = l.length ∧ n ≤ cap ∧ cap ≤ 9223372036854775807 := by
  obtain ⟨a, c, e1, h2, h3, h4⟩ := h.slice hk
  cases e1
  exact ⟨rfl, h2, by unfold maxLen at h3; exact h3⟩
theorem below_putFrom {B : Nat} {w0 : World} {g o : Nat} (hg : B ≤ g) : ∀ (vs : List Value) (j : Nat) (w : World), Below B w0 w → Below B w0 (putFrom w g o j vs)
  | [], _, _, h => h
  | v :: vs, j, w, h => below_putFrom hg vs (j + 1) _ (h.setCell hg v)

end Go.Proofs.Ytilonmpcifohiaa
