/- Layer 17, plain: a mark with a stamp above all others, over a range. -/
import Derived.Test.YtlfmkoapddihcaaGrowP17
namespace Go.Proofs.Ytlfmkoapddihcaa
open Go.RowKit
set_option linter.unusedSimpArgs false
set_option linter.unusedVariables false

theorem win_snoc {l : List El} {ms : List OpD} {o : OpD} {i : Int} {n : ByteArray} (h : ¬ Cov l o i ∨ o.name ≠ n) {k : Nat} {p : OpD} : Win l (ms ++ [o]) i n k p ↔ Win l ms i n k p := by
  have hl : ∀ j q, (ms ++ [o])[j]? = some q → ms[j]? = some q ∨ q = o := fun j q hj => by
    rw [List.getElem?_append] at hj
    split at hj
    · exact .inl hj
    · have := List.mem_of_getElem? hj
      rw [List.mem_singleton] at this
      exact .inr this
  have hr : ∀ j q, ms[j]? = some q → (ms ++ [o])[j]? = some q := fun j q hj => by rw [List.getElem?_append_left (List.getElem?_eq_some_iff.1 hj).1]; exact hj
  constructor
  · rintro ⟨h1, h2, h3, h4⟩
    refine ⟨(hl k p h1).resolve_right (fun e => ?_), h2, h3, fun j q hj => h4 j q (hr j q hj)⟩
    subst e
    exact h.elim (fun h => h h2) (fun h => h h3)
  · rintro ⟨h1, h2, h3, h4⟩
    refine ⟨hr k p h1, h2, h3, fun j q hj hc hn => ?_⟩
    rcases hl j q hj with h5 | rfl
    · exact h4 j q h5 hc hn
    · exact h.elim (fun h => absurd hc h) (fun h => absurd hn h)
theorem win_last {l : List El} {ms : List OpD} {o : OpD} {i : Int} (hc : Cov l o i) (hlt : ∀ x ∈ ms, stLt x.id o.id) {k : Nat} {p : OpD} : Win l (ms ++ [o]) i o.name k p ↔ k = ms.length ∧ p = o := by
  have hw : Win l (ms ++ [o]) i o.name ms.length o := by
    refine ⟨by simp, hc, rfl, fun j q hj _ _ => ?_⟩
    rw [List.getElem?_append] at hj
    split at hj
    · exact .inl (hlt q (List.mem_of_getElem? hj))
    · rename_i h
      have := List.mem_of_getElem? hj
      rw [List.mem_singleton] at this
      exact .inr ⟨by rw [this], by omega⟩
  constructor
  · intro h
    exact h.unique hw
  · rintro ⟨rfl, rfl⟩
    exact hw

section
variable {l : List El} {ms : List OpD} {o : OpD} {i : Int} {al bl : List Atr}
theorem hasL_not (ha : HasL l ms i al) (hb : HasL l (ms ++ [o]) i bl) (hc : ¬ Cov l o i) : bl = al :=
  hb.1.unique ha.1 fun x => by
    rw [hb.2 x, ha.2 x]
    have : ∀ k p, Win l (ms ++ [o]) i x.name k p ↔ Win l ms i x.name k p := fun k p => win_snoc (.inl hc)
    simp only [this]
theorem hasL_cov (ha : HasL l ms i al) (hb : HasL l (ms ++ [o]) i bl) : bl.filter (fun a => decide (a.name ≠ o.name)) = al.filter (fun a => decide (a.name ≠ o.name)) :=
  StrictN.unique (List.Pairwise.filter _ hb.1) (List.Pairwise.filter _ ha.1) fun x => by
    rw [List.mem_filter, List.mem_filter, hb.2 x, ha.2 x]
    by_cases hn : x.name = o.name
    · simp [hn]
    · have : ∀ k p, Win l (ms ++ [o]) i x.name k p ↔ Win l ms i x.name k p := fun k p => win_snoc (.inr (fun e => hn e.symm))
      simp only [this]
theorem hasL_own (hb : HasL l (ms ++ [o]) i bl) (hlt : ∀ x ∈ ms, stLt x.id o.id) (hc : Cov l o i) (x : Atr) (hx : x.name = o.name) : x ∈ bl ↔ o.value ≠ ⟨#[]⟩ ∧ x.value = o.value := by
  rw [hb.2 x, hx]
  have : ∀ k p, Win l (ms ++ [o]) i o.name k p ↔ k = ms.length ∧ p = o := fun k p => win_last hc hlt
  simp only [this]
  constructor
  · rintro ⟨h1, _, _, ⟨_, rfl⟩, h2⟩
    exact ⟨by rw [← h2]; exact h1, h2⟩
  · rintro ⟨h1, h2⟩
    exact ⟨by rw [h2]; exact h1, _, _, ⟨rfl, rfl⟩, h2⟩
/-- A mark of nothing. -/
theorem hasL_clear (ha : HasL l ms i al) (hb : HasL l (ms ++ [o]) i bl) (hlt : ∀ x ∈ ms, stLt x.id o.id) (hc : Cov l o i) (hv : o.value = ⟨#[]⟩) : bl = al.filter (fun a => decide (a.name ≠ o.name)) := by
  rw [← hasL_cov ha hb, List.filter_eq_self.2]
  intro x hx
  rw [decide_eq_true_iff]
  intro hn
  exact ((hasL_own hb hlt hc x hn).1 hx).1 hv
end

theorem cnt_le_iff {l : List El} {p i : Nat} {x y : El} (hx : l[p]? = some x) (hxg : x.gone = false) (hy : l[i]? = some y) (hyg : y.gone = false) : p ≤ i ↔ cntS l p ≤ cntS l i := by
  constructor
  · exact cntS_mono l
  · intro h
    refine Classical.byContradiction fun hn => ?_
    have := cntS_strict hy hyg (show i < p by omega)
    omega

/-- A range's mark covers just those that it was asked for. -/
theorem cov_between {l : List El} {fn tn : Nat} {g : Bool} {A B : St} {aa ba : Bool} {o : OpD} (hA : ancP ((shownL l).map (·.id)) (fn : Int) ((tn : Int) + 1) g = ((A, aa), (B, ba), true))
    (hu : Uniq l) (hft : fn ≤ tn) (htl : tn + 1 ≤ (shownL l).length) (e1 : o.fr = A) (e2 : o.fa = aa) (e3 : o.tr = B) (e4 : o.ta = ba) {i : Nat} {y : El} (hy : l[i]? = some y) (hyg : y.gone = false) :
    Cov l o (i : Int) ↔ fn ≤ cntS l i ∧ cntS l i ≤ tn := by
  have hlen : ((shownL l).map (·.id)).length = (shownL l).length := by rw [List.length_map]
  have hat : ∀ j, j < (shownL l).length → ∃ s p x, ((shownL l).map (·.id))[j]? = some s ∧ l[p]? = some x ∧ x.gone = false ∧ cntS l p = j ∧ placeOf l s = some p := fun j hj => by
    obtain ⟨x, hx⟩ : ∃ x, (shownL l)[j]? = some x := ⟨_, List.getElem?_eq_getElem hj⟩
    obtain ⟨p, h1, h2, h3⟩ := shown_at l j x hx
    exact ⟨x.id, p, x, by rw [List.getElem?_map, hx]; rfl, h1, h2, h3, hu p x h1⟩
  obtain ⟨sf, pf, xf, f1, f2, f3, f4, f5⟩ := hat fn (by omega)
  obtain ⟨st, pt, xt, t1, t2, t3, t4, t5⟩ := hat tn (by omega)
  have hlo := cnt_le_iff f2 f3 hy hyg
  by_cases hc : g = true ∧ tn + 1 < (shownL l).length
  · obtain ⟨sz, pz, xz, z1, z2, z3, z4, z5⟩ := hat (tn + 1) (by omega)
    rw [ancP_ok (by omega) (by omega) f1 t1 (fun _ _ => z1), if_pos ⟨hc.1, by omega⟩] at hA
    simp only [Prod.mk.injEq] at hA
    obtain ⟨⟨rfl, rfl⟩, ⟨rfl, rfl⟩, _⟩ := hA
    have hhi := cnt_le_iff z2 z3 hy hyg
    unfold Cov
    rw [e1, e2, e3, e4, f5, z5]
    simp only [Option.some.injEq, Bool.false_eq_true, if_false]
    constructor
    · rintro ⟨p, q, rfl, rfl, h1, h2⟩
      omega
    · intro h
      exact ⟨pf, pz, rfl, rfl, by omega, by omega⟩
  · rw [ancP_ok (z := st) (by omega) (by omega) f1 t1 (fun h1 h2 => absurd ⟨h1, by omega⟩ hc), if_neg (fun h => hc ⟨h.1, by have := h.2; omega⟩)] at hA
    simp only [Prod.mk.injEq] at hA
    obtain ⟨⟨rfl, rfl⟩, ⟨rfl, rfl⟩, _⟩ := hA
    have hhi := cnt_le_iff hy hyg t2 t3
    unfold Cov
    rw [e1, e2, e3, e4, f5, t5]
    simp only [Option.some.injEq, Bool.false_eq_true, if_false, if_true]
    constructor
    · rintro ⟨p, q, rfl, rfl, h1, h2⟩
      omega
    · intro h
      exact ⟨pf, pt, rfl, rfl, by omega, by omega⟩

end Go.Proofs.Ytlfmkoapddihcaa
