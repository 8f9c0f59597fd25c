/- Layer 17, plain: the order of the marks; the reading of an int. -/
import Derived.Test.YtlfmkoapddihcaaTwo17
import Derived.Test.YtlfmkoapddihcaaOpenOp17
namespace Go.Proofs.Ytlfmkoapddihcaa
open Go.ChangeShapes Go.WideShapes Go.RowKit Go.Deep
set_option linter.unusedSimpArgs false
set_option linter.unusedVariables false

theorem ids_inj {ms : List OpD} (hd : (ms.map (·.id)).Nodup) {j k : Nat} {o o' : OpD} (hj : ms[j]? = some o) (hk : ms[k]? = some o') (e : o.id = o'.id) : j = k := by
  have hp : ms.Pairwise (fun a b => a.id ≠ b.id) := List.pairwise_map.1 hd
  obtain ⟨h1, rfl⟩ := List.getElem?_eq_some_iff.1 hj
  obtain ⟨h2, rfl⟩ := List.getElem?_eq_some_iff.1 hk
  rcases Nat.lt_trichotomy j k with h | h | h
  · exact absurd e (List.pairwise_iff_getElem.1 hp j k h1 h2 h)
  · exact h
  · exact absurd e.symm (List.pairwise_iff_getElem.1 hp k j h2 h1 h)
theorem win_iff {l : List El} {ms : List OpD} (hd : (ms.map (·.id)).Nodup) {i : Int} {n : ByteArray} {o : OpD} : (∃ k, Win l ms i n k o) ↔ (o ∈ ms ∧ Cov l o i ∧ o.name = n ∧ ∀ o' ∈ ms, Cov l o' i → o'.name = n → stLt o'.id o.id ∨ o' = o) := by
  constructor
  · rintro ⟨k, h1, h2, h3, h4⟩
    refine ⟨List.mem_of_getElem? h1, h2, h3, fun o' ho hc hn => ?_⟩
    obtain ⟨j, hj⟩ := List.getElem?_of_mem ho
    rcases h4 j o' hj hc hn with t | ⟨t, _⟩
    · exact .inl t
    · have := ids_inj hd hj h1 t
      subst this
      rw [hj] at h1
      exact .inr (Option.some.inj h1)
  · rintro ⟨h1, h2, h3, h4⟩
    obtain ⟨k, hk⟩ := List.getElem?_of_mem h1
    refine ⟨k, hk, h2, h3, fun j o' hj hc hn => ?_⟩
    rcases h4 o' (List.mem_of_getElem? hj) hc hn with t | rfl
    · exact .inl t
    · exact .inr ⟨rfl, by have := ids_inj hd hj hk rfl; omega⟩
theorem HasL.perm {l : List El} {ms ms' : List OpD} (hd : (ms.map (·.id)).Nodup) (hp : ms'.Perm ms) {i : Int} {al : List Atr} (h : HasL l ms' i al) : HasL l ms i al := by
  have hd' : (ms'.map (·.id)).Nodup := ((hp.map (·.id)).nodup_iff).2 hd
  have hw : ∀ n o, (∃ k, Win l ms' i n k o) ↔ ∃ k, Win l ms i n k o := fun n o => by
    rw [win_iff hd, win_iff hd']
    simp only [hp.mem_iff]
  refine ⟨h.1, fun a => (h.2 a).trans ?_⟩
  constructor
  · rintro ⟨hv, k, o, h1, h2⟩
    obtain ⟨k', h3⟩ := (hw _ _).1 ⟨k, h1⟩
    exact ⟨hv, k', o, h3, h2⟩
  · rintro ⟨hv, k, o, h1, h2⟩
    obtain ⟨k', h3⟩ := (hw _ _).2 ⟨k, h1⟩
    exact ⟨hv, k', o, h3, h2⟩
theorem turned_perm (ms : List OpD) (f : Nat) : (ms.drop f ++ ms.take f).Perm ms := by
  have := List.perm_append_comm (l₁ := ms.drop f) (l₂ := ms.take f)
  rwa [List.take_append_drop] at this

theorem SliceIs.drop {α : Type} {ea : α → List Value} {q : Nat} {w : World} {l : List α} {g o cap n : Nat} (h : SliceIs ea q w (.slice (some ⟨g, o, none⟩) l.length cap) l) (hn : n ≤ l.length) :
    SliceIs ea q w (.slice (some ⟨g, o + n * q, none⟩) (l.length - n) (cap - n)) (l.drop n) := by
  obtain ⟨a', cap', e, h1, h2, h3⟩ := h
  cases e
  refine ⟨_, cap - n, by rw [List.length_drop], by rw [List.length_drop]; omega, by unfold maxLen at h2 ⊢; omega, fun hne => ?_⟩
  obtain ⟨b, off, e, h4⟩ := h3 (fun e => hne (by rw [e]; simp))
  cases e
  refine ⟨g, o + n * q, rfl, fun i x hi j u hj => ?_⟩
  rw [List.getElem?_drop] at hi
  have := h4 (n + i) x hi j u hj
  rw [Nat.add_mul] at this
  rw [show o + n * q + i * q + j = o + (n * q + i * q) + j by omega]
  exact this

section
variable {H : Type} {enc : TypeId × Value → H} {w : World} {base : Nat} {spare : Nat → Bool} {held : Bool}
set_option maxRecDepth 100000 in
theorem open_int17 {r : Reach} {b0 : Nat} {v : Value} {d : DataW H} {p : List MemPlace} (hv : Value.okWide Try.prog w r b0 3 v) (h : DataW.Trod enc Try.prog w base spare held 3 v d p) : ∃ z : Int, v = .int .i64 z ∧ -9223372036854775808 ≤ z ∧ z ≤ 9223372036854775807 := by
  obtain ⟨z, rfl⟩ := okWide_int Try.underlying3 hv
  obtain ⟨fuel, hf⟩ := h
  obtain ⟨n, h1, _, h3⟩ := DataW.trod_int Try.underlying3 hf
  simp [Value.cells] at h1
  subst h1
  simp only [Lit.wf, Bool.and_eq_true, decide_eq_true_eq] at h3
  refine ⟨_, rfl, ?_, ?_⟩
  · have h4 := h3.1; simp [IntKind.min, IntKind.max, IntKind.bits, IntKind.signed] at h4; exact h4
  · have h4 := h3.2; simp [IntKind.min, IntKind.max, IntKind.bits, IntKind.signed] at h4; exact h4
end

end Go.Proofs.Ytlfmkoapddihcaa
