/- Readings of arguments: a slice of whatever structs. -/
import Derived.Test.YtgmdimbiipemhaaGreatDoorRows
import Derived.Test.YtgmdimbiipemhaaGreatDoorMaps
import Derived.ProofKit
import Derived.Deep.Slices
namespace Go.Proofs.YtgmdimbiipemhaaGreatDoor
open Go.ChangeShapes Go.WideShapes Go.RowKit Go.Deep
set_option linter.unusedSimpArgs false
set_option linter.unusedVariables false

theorem Tryz.own : ownKnob Tryz.prog.godebug = none := by kernel_rfl
theorem Tryz.laidOut : laidOutB Tryz.prog = true := by kernel_rfl

theorem list_of_all {α : Type} {p : Nat → α → Prop} : ∀ (n : Nat), (∀ i, i < n → ∃ x, p i x) → ∃ l : List α, l.length = n ∧ ∀ i x, l[i]? = some x → p i x
  | 0, _ => ⟨[], rfl, fun i x h => by simp at h⟩
  | n + 1, h => by
    obtain ⟨l, hl, hp⟩ := list_of_all n (fun i hi => h i (by omega))
    obtain ⟨x, hx⟩ := h n (by omega)
    refine ⟨l ++ [x], by simp [hl], fun i y hy => ?_⟩
    by_cases hi : i < n
    · rw [List.getElem?_append_left (by omega)] at hy
      exact hp i y hy
    · rw [List.getElem?_append_right (by omega)] at hy
      have : i - l.length = 0 := by
        have := (List.getElem?_eq_some_iff.1 hy).1
        simp at this; omega
      rw [this] at hy
      cases hy
      have : i = n := by omega
      subst this
      exact hx

/-- A slice value that holds these structs, k cells each. -/
def SliceIs {α : Type} (enc : α → List Value) (k : Nat) (w : World) (v : Value) (l : List α) : Prop :=
  ∃ a cap, v = .slice a l.length cap ∧ l.length ≤ cap ∧ cap ≤ maxLen ∧ (l ≠ [] → ∃ b off, a = some ⟨b, off, none⟩ ∧ ∀ i x, l[i]? = some x → ∀ j u, (enc x)[j]? = some u → w.cell? ⟨b, off + i * k + j, none⟩ = some u)

theorem SliceIs.of {α : Type} {enc : α → List Value} {k : Nat} {w w' : World} {v : Value} {l : List α} (h : SliceIs enc k w v l) (hb : ∀ b o u, w.cell? ⟨b, o, none⟩ = some u → w'.cell? ⟨b, o, none⟩ = some u) : SliceIs enc k w' v l := by
  obtain ⟨a, cap, h1, h2, h3, h4⟩ := h
  refine ⟨a, cap, h1, h2, h3, fun hl => ?_⟩
  obtain ⟨b, off, h5, h6⟩ := h4 hl
  exact ⟨b, off, h5, fun i x hi j u hj => hb _ _ _ (h6 i x hi j u hj)⟩
theorem SliceIs.below {α : Type} {enc : α → List Value} {k : Nat} {w w' : World} {v : Value} {l : List α} (h : SliceIs enc k w v l) (hb : Below w.heap.size w w') : SliceIs enc k w' v l := h.of (fun _ _ _ hu => keepB hb hu)

section
variable {H : Type} {enc : TypeId × Value → H} {P : Program} {w : World} {base : Nat} {spare : Nat → Bool} {held : Bool}

/-- Out of the reading of a slice: the cells, element by element. -/
theorem open_structs {α : Type} {ea : α → List Value} {k : Nat} {t e : TypeId} {v : Value} {d : DataW H} {p : List MemPlace} {r : Reach} {b0 : Nat} (ht : P.underlying t = some (.slice e)) (hk : P.cellsOf e = k) (hk0 : 0 < k) (hlen : ∀ x, (ea x).length = k)
    (hel : ∀ fuel cs x, DataW.trod enc P w base spare held fuel e cs = some x → ∃ y, cs = ea y)
    (hv : Value.okWide P w r b0 t v) (h : DataW.Trod enc P w base spare held t v d p) : ∃ l, SliceIs ea k w v l := by
  obtain ⟨a0, len0, cap0, rfl⟩ := okWide_slice ht hv
  obtain ⟨fuel, hf⟩ := h
  rcases open_slice ht hf with ⟨hcs, _⟩ | ⟨a, len, cap, m, n, D, Pl, hcs, hb, hl, hm, hmm, hx, hi⟩
  · simp [Value.cells] at hcs
    obtain ⟨rfl, rfl, rfl⟩ := hcs
    exact ⟨[], none, 0, rfl, Nat.le_refl _, Nat.zero_le _, fun hn => absurd rfl hn⟩
  · simp [Value.cells] at hcs
    obtain ⟨rfl, rfl, rfl⟩ := hcs
    have hlm : len0 ≤ m := by rw [hmm]; split <;> omega
    obtain ⟨l, h1, h2⟩ := list_of_all (p := fun i (x : α) => ∀ j u, (ea x)[j]? = some u → w.cell? (a.add (i * k + j)) = some u) len0 (fun i hi' => by
      obtain ⟨cs', hc, ht'⟩ := hi i (by omega)
      obtain ⟨y, rfl⟩ := hel _ _ _ ht'
      refine ⟨y, fun j u hj => ?_⟩
      obtain ⟨_, hcl, hat⟩ := World.cells?_some hc
      have hjl := (List.getElem?_eq_some_iff.1 hj).1
      rw [hlen] at hjl
      have := hat j (by rw [hk]; exact hjl)
      rw [hk, Go.Deep.add_add, hj] at this
      exact this)
    subst h1
    refine ⟨l, some a, cap0, rfl, hl, hm, fun hne => ?_⟩
    obtain ⟨x0, hx0⟩ : ∃ x0, l[0]? = some x0 := by
      cases l with
      | nil => exact absurd rfl hne
      | cons x r => exact ⟨x, rfl⟩
    obtain ⟨u0, hu0⟩ : ∃ u0, (ea x0)[0]? = some u0 := by
      have := hlen x0
      cases hq : ea x0 with
      | nil => rw [hq] at this; simp at this; omega
      | cons x r => exact ⟨x, rfl⟩
    have hz := h2 0 x0 hx0 0 u0 hu0
    obtain ⟨b, off, spot⟩ := a
    have hspot : spot = none := by
      simp [Addr.add, World.cell?] at hz
      cases spot with
      | none => rfl
      | some s => simp at hz; split at hz <;> simp at hz
    subst hspot
    refine ⟨b, off, rfl, fun i x hi' j u hj => ?_⟩
    have := h2 i x hi' j u hj
    have e : (Addr.add ⟨b, off, none⟩ (i * k + j)) = ⟨b, off + i * k + j, none⟩ := by
      unfold Addr.add
      split
      · rename_i h0; have : i * k = 0 ∧ j = 0 := by omega
        simp [this.1, this.2]
      · simp [Nat.add_assoc]
    rw [e] at this
    exact this
end

section
variable {H : Type} {enc : TypeId × Value → H} {w : World} {base : Nat} {spare : Nat → Bool} {held : Bool}

theorem len2 {l : List Value} (h : l.length = 2) : ∃ a b, l = [a, b] := by
  match l, h with
  | [a, b], _ => exact ⟨a, b, rfl⟩

end

end Go.Proofs.YtgmdimbiipemhaaGreatDoor
