/- Layer 17, plain: an element that is put in right behind the last one that a mark was asked for. -/
import Derived.Test.YtlfmkoapddihcaaRefP17
import Derived.WalkKit
namespace Go.Proofs.Ytlfmkoapddihcaa
open Go.RowKit
set_option linter.unusedSimpArgs false
set_option linter.unusedVariables false

/-- append by an equation of its run. -/
theorem wpList_append_run {P : Program} {ops : Array Oper} {rest : List Oper} {o : Oper} {a : Act} {w : World} {Q : Exit → Act → World → Prop} (hgd : o.guard = none) (s x : Operand) (t : TypeId)
    (ho : o.op = .call { callee := .builtin .append, args := #[s, x], argTypes := #[t, t] }) {v vx v' : Value} {w' : World} (hs : a.eval s = v) (hx : a.eval x = vx)
    (hr : (Builtin.append_ #[t, t] o.type #[v, vx]).run P w = .ok v' w') (h : wpList P ops Q rest (a.put o.dst v') w') : wpList P ops Q (o :: rest) a w :=
  wpList_plain hgd fun _ hK => by
    have hv : (execOp a.eval o).run P w = .ok (.value v') w' := by
      unfold execOp
      simp only [ho, resolve, invoke, builtin, Sem.run_bind, Sem.run_pure, Result.andThen_ok, List.map_toArray, List.map_cons, List.map_nil, hs, hx, hr]
    rw [Oper.wp, hv]
    exact hK _ _ h

/-- How many are shown ahead of a place. -/
def cntS (l : List El) (k : Nat) : Nat := (shownL (l.take k)).length
theorem cntS_succ {l : List El} {k : Nat} {x : El} (hx : l[k]? = some x) : cntS l (k + 1) = cntS l k + if x.gone = true then 0 else 1 := by
  unfold cntS
  rw [List.take_add_one, hx, Option.toList_some, shownL_snoc, List.length_append]
  cases x.gone <;> simp
theorem cntS_mono (l : List El) {p q : Nat} (h : p ≤ q) : cntS l p ≤ cntS l q := by
  induction q with
  | zero => obtain rfl : p = 0 := by omega
            exact Nat.le_refl _
  | succ q ih =>
    by_cases hp : p ≤ q
    · refine Nat.le_trans (ih hp) ?_
      cases hx : l[q]? with
      | none =>
        have := List.getElem?_eq_none_iff.1 hx
        unfold cntS
        rw [List.take_of_length_le this, List.take_of_length_le (by omega)]
        exact Nat.le_refl _
      | some x => rw [cntS_succ hx]; omega
    · obtain rfl : p = q + 1 := by omega
      exact Nat.le_refl _
theorem cntS_strict {l : List El} {p q : Nat} {x : El} (hx : l[p]? = some x) (hg : x.gone = false) (h : p < q) : cntS l p < cntS l q := by
  have h1 := cntS_succ hx
  rw [hg] at h1
  have h2 := cntS_mono l (show p + 1 ≤ q from h)
  simp at h1
  omega
theorem shown_at : ∀ (l : List El) (j : Nat) (x : El), (shownL l)[j]? = some x → ∃ p, l[p]? = some x ∧ x.gone = false ∧ cntS l p = j := by
  intro l
  induction l with
  | nil => intro j x h; simp [shownL] at h
  | cons y l ih =>
    intro j x h
    cases hg : y.gone with
    | true =>
      have e : shownL (y :: l) = shownL l := by simp [shownL, hg]
      rw [e] at h
      obtain ⟨p, h1, h2, h3⟩ := ih j x h
      refine ⟨p + 1, by simpa using h1, h2, ?_⟩
      unfold cntS at h3 ⊢
      rw [List.take_succ_cons]
      have e2 : shownL (y :: l.take p) = shownL (l.take p) := by simp [shownL, hg]
      rw [e2, h3]
    | false =>
      have e : shownL (y :: l) = y :: shownL l := by simp [shownL, hg]
      rw [e] at h
      cases j with
      | zero =>
        simp at h
        subst h
        exact ⟨0, rfl, hg, rfl⟩
      | succ j =>
        obtain ⟨p, h1, h2, h3⟩ := ih j x (by simpa using h)
        refine ⟨p + 1, by simpa using h1, h2, ?_⟩
        unfold cntS at h3 ⊢
        rw [List.take_succ_cons]
        have e2 : shownL (y :: l.take p) = y :: shownL (l.take p) := by simp [shownL, hg]
        rw [e2, List.length_cons, h3]

/-- No two elements have one stamp. -/
def Uniq (l : List El) : Prop := ∀ i x, l[i]? = some x → placeOf l x.id = some i
theorem placeOf_app (a b : List El) (k : St) : placeOf (a ++ b) k = (placeOf a k).or ((placeOf b k).map (· + a.length)) := by
  unfold placeOf
  rw [List.findIdx?_append]
theorem placeOf_ins {l : List El} {k : Nat} {fresh : El} (hk : k ≤ l.length) {id : St} (hf : fresh.id ≠ id) {p : Nat} (hp : placeOf l id = some p) : placeOf (l.take k ++ fresh :: l.drop k) id = some (if p < k then p else p + 1) := by
  have h1 := placeOf_app (l.take k) (l.drop k) id
  rw [List.take_append_drop, hp] at h1
  have hlen : (l.take k).length = k := by rw [List.length_take]; omega
  rw [placeOf_app]
  have h2 : placeOf (fresh :: l.drop k) id = (placeOf (l.drop k) id).map (· + 1) := by
    unfold placeOf
    rw [List.findIdx?_cons]
    simp [hf]
  cases ha : placeOf (l.take k) id with
  | some i =>
    rw [ha] at h1
    simp at h1
    subst h1
    have := placeOf_lt ha
    rw [hlen] at this
    rw [if_pos this]
    rfl
  | none =>
    rw [ha] at h1
    cases hb : placeOf (l.drop k) id with
    | none => rw [hb] at h1; simp at h1
    | some j =>
      rw [hb, hlen] at h1
      simp at h1
      subst h1
      rw [h2, hb, hlen, if_neg (by omega)]
      simp
      omega

section
variable {l : List El} {fresh : El} {q : Nat} {xq : El} {fn tn : Nat} {sx : St}
theorem grow_lo (hu : Uniq l) (hfr : ∀ x ∈ l, fresh.id ≠ x.id) (hq : l[q]? = some xq) (hqg : xq.gone = false) (hqc : cntS l q = tn) (hft : fn ≤ tn) (hx : ((shownL l).map (·.id))[fn]? = some sx) :
    ∃ p, p ≤ q ∧ placeOf (l.take (q + 1) ++ fresh :: l.drop (q + 1)) sx = some p := by
  rw [List.getElem?_map] at hx
  obtain ⟨x, hx1, rfl⟩ := Option.map_eq_some_iff.1 hx
  obtain ⟨p, h1, h2, h3⟩ := shown_at l fn x hx1
  have hpq : p ≤ q := Classical.byContradiction fun h => by
    have := cntS_strict hq hqg (show q < p by omega)
    omega
  have hql := (List.getElem?_eq_some_iff.1 hq).1
  refine ⟨p, hpq, ?_⟩
  rw [placeOf_ins (by omega) (hfr x (List.mem_of_getElem? h1)) (hu p x h1), if_pos (by omega)]
theorem grow_end (hu : Uniq l) (hfr : ∀ x ∈ l, fresh.id ≠ x.id) (hq : l[q]? = some xq) (hqg : xq.gone = false) (hqc : cntS l q = tn) (hx : ((shownL l).map (·.id))[tn]? = some sx) :
    placeOf (l.take (q + 1) ++ fresh :: l.drop (q + 1)) sx = some q := by
  rw [List.getElem?_map] at hx
  obtain ⟨x, hx1, rfl⟩ := Option.map_eq_some_iff.1 hx
  obtain ⟨p, h1, h2, h3⟩ := shown_at l tn x hx1
  have hpq : p = q := by
    rcases Nat.lt_trichotomy p q with h | h | h
    · have := cntS_strict h1 h2 h; omega
    · exact h
    · have := cntS_strict hq hqg h; omega
  subst hpq
  have hql := (List.getElem?_eq_some_iff.1 hq).1
  rw [placeOf_ins (by omega) (hfr x (List.mem_of_getElem? h1)) (hu p x h1), if_pos (by omega)]
theorem grow_next (hu : Uniq l) (hfr : ∀ x ∈ l, fresh.id ≠ x.id) (hq : l[q]? = some xq) (hqc : cntS l q = tn) (hx : ((shownL l).map (·.id))[tn + 1]? = some sx) :
    ∃ r, q + 1 < r ∧ placeOf (l.take (q + 1) ++ fresh :: l.drop (q + 1)) sx = some r := by
  rw [List.getElem?_map] at hx
  obtain ⟨x, hx1, rfl⟩ := Option.map_eq_some_iff.1 hx
  obtain ⟨p, h1, h2, h3⟩ := shown_at l (tn + 1) x hx1
  have hpq : q < p := Classical.byContradiction fun h => by
    have := cntS_mono l (show p ≤ q by omega)
    omega
  have hql := (List.getElem?_eq_some_iff.1 hq).1
  refine ⟨p + 1, by omega, ?_⟩
  rw [placeOf_ins (by omega) (hfr x (List.mem_of_getElem? h1)) (hu p x h1), if_neg (by omega)]
end

/-- One mark alone. -/
theorem one_mark {l : List El} {o : OpD} {i : Int} {al : List Atr} (hv : o.value ≠ ⟨#[]⟩) (h : HasL l [o] i al) : al.length = 1 ↔ Cov l o i := by
  by_cases hc : Cov l o i
  · have : HasL l [o] i [⟨o.name, o.value⟩] := by
      refine ⟨List.pairwise_singleton _ _, fun a => ?_⟩
      rw [List.mem_singleton]
      constructor
      · rintro rfl
        refine ⟨hv, 0, o, ⟨rfl, hc, rfl, fun j o' hj _ _ => ?_⟩, rfl⟩
        have : j = 0 := by have := (List.getElem?_eq_some_iff.1 hj).1; simpa using this
        subst this
        simp at hj
        subst hj
        exact .inr ⟨rfl, Nat.le_refl _⟩
      · rintro ⟨_, k, o', hw, e⟩
        have h0 := hw.1
        have : k = 0 := by have := (List.getElem?_eq_some_iff.1 h0).1; simpa using this
        subst this
        simp at h0
        subst h0
        obtain ⟨an, av⟩ := a
        have h2 := hw.2.2.1
        simp only at h2 e
        rw [e, h2]
    rw [h.unique this]
    simp [hc]
  · have : HasL l [o] i [] := by
      refine ⟨List.Pairwise.nil, fun a => ?_⟩
      constructor
      · intro h; cases h
      · rintro ⟨_, k, o', hw, e⟩
        have h0 := hw.1
        have : k = 0 := by have := (List.getElem?_eq_some_iff.1 h0).1; simpa using this
        subst this
        simp at h0
        subst h0
        exact absurd hw.2.1 hc
    rw [h.unique this]
    simp [hc]

theorem grow_cov {l : List El} {fresh : El} {q : Nat} {xq : El} {fn tn : Nat} {g : Bool} {A B : St} {aa ba : Bool} {o : OpD} (hA : ancP ((shownL l).map (·.id)) (fn : Int) ((tn : Int) + 1) g = ((A, aa), (B, ba), true))
    (hu : Uniq l) (hfr : ∀ x ∈ l, fresh.id ≠ x.id) (hq : l[q]? = some xq) (hqg : xq.gone = false) (hqc : cntS l q = tn) (hft : fn ≤ tn) (htl : tn + 1 ≤ (shownL l).length)
    (e1 : o.fr = A) (e2 : o.fa = aa) (e3 : o.tr = B) (e4 : o.ta = ba) : Cov (l.take (q + 1) ++ fresh :: l.drop (q + 1)) o ((q + 1 : Nat) : Int) ↔ g = true ∧ tn + 1 < (shownL l).length := by
  have hlen : ((shownL l).map (·.id)).length = (shownL l).length := by rw [List.length_map]
  obtain ⟨x, hx⟩ : ∃ x, ((shownL l).map (·.id))[fn]? = some x := ⟨_, List.getElem?_eq_getElem (by omega)⟩
  obtain ⟨y, hy⟩ : ∃ y, ((shownL l).map (·.id))[tn]? = some y := ⟨_, List.getElem?_eq_getElem (by omega)⟩
  obtain ⟨p, hp1, hp2⟩ := grow_lo (fresh := fresh) hu hfr hq hqg hqc hft hx
  have hy2 := grow_end (fresh := fresh) hu hfr hq hqg hqc hy
  by_cases hc : g = true ∧ tn + 1 < (shownL l).length
  · obtain ⟨z, hz⟩ : ∃ z, ((shownL l).map (·.id))[tn + 1]? = some z := ⟨_, List.getElem?_eq_getElem (by omega)⟩
    rw [ancP_ok (by omega) (by omega) hx hy (fun _ _ => hz), if_pos ⟨hc.1, by omega⟩] at hA
    simp only [Prod.mk.injEq] at hA
    obtain ⟨⟨rfl, rfl⟩, ⟨rfl, rfl⟩, _⟩ := hA
    obtain ⟨r, hr1, hr2⟩ := grow_next (fresh := fresh) hu hfr hq hqc hz
    refine ⟨fun _ => hc, fun _ => ⟨p, r, by rw [e1]; exact hp2, by rw [e3]; exact hr2, ?_, ?_⟩⟩
    · rw [e2]; simp; omega
    · rw [e4]; simp; omega
  · rw [ancP_ok (z := y) (by omega) (by omega) hx hy (fun h1 h2 => absurd ⟨h1, by omega⟩ hc), if_neg (fun h => hc ⟨h.1, by have := h.2; omega⟩)] at hA
    simp only [Prod.mk.injEq] at hA
    obtain ⟨⟨rfl, rfl⟩, ⟨rfl, rfl⟩, _⟩ := hA
    refine ⟨fun h => ?_, fun h => absurd h hc⟩
    obtain ⟨p', q', _, h2, _, h4⟩ := h
    rw [e3, hy2] at h2
    cases h2
    rw [e4] at h4
    simp at h4

/-- What the second loop has found. -/
def GrowRel (l : List El) (tn k : Nat) (at_ : Int) (nx : Bool) : Prop :=
  (cntS l k ≤ tn ∧ at_ = -1 ∧ nx = false) ∨ ∃ (q : Nat) (xq : El), at_ = (q : Int) + 1 ∧ l[q]? = some xq ∧ xq.gone = false ∧ cntS l q = tn ∧ tn < cntS l k ∧ nx = decide (tn + 1 < cntS l k)
theorem GrowRel.skip {l : List El} {tn k : Nat} {p : Int} {nx : Bool} (h : GrowRel l tn k p nx) {y : El} (hy : l[k]? = some y) (hg : y.gone = true) : GrowRel l tn (k + 1) p nx ∧ cntS l (k + 1) = cntS l k := by
  have e := cntS_succ hy
  rw [hg] at e
  simp at e
  unfold GrowRel
  rw [e]
  exact ⟨h, rfl⟩
theorem GrowRel.step {l : List El} {tn k : Nat} {p : Int} {nx : Bool} (h : GrowRel l tn k p nx) {y : El} (hy : l[k]? = some y) (hg : y.gone = false) :
    cntS l (k + 1) = cntS l k + 1 ∧ ((cntS l k < tn ∧ nx = false ∧ GrowRel l tn (k + 1) p false) ∨ (cntS l k = tn ∧ nx = false ∧ GrowRel l tn (k + 1) ((k : Int) + 1) false) ∨ (tn < cntS l k ∧ GrowRel l tn (k + 1) p true)) := by
  have e := cntS_succ hy
  rw [hg] at e
  simp at e
  refine ⟨e, ?_⟩
  rcases h with ⟨h1, rfl, rfl⟩ | ⟨q, xq, h1, h2, h3, h4, h5, h6⟩
  · rcases Nat.lt_or_ge (cntS l k) tn with h | h
    · exact .inl ⟨h, rfl, .inl ⟨by omega, rfl, rfl⟩⟩
    · exact .inr (.inl ⟨by omega, rfl, .inr ⟨k, y, rfl, hy, hg, by omega, by omega, by rw [e]; simp; omega⟩⟩)
  · exact .inr (.inr ⟨h5, .inr ⟨q, xq, h1, h2, h3, h4, by omega, by rw [e]; simp; omega⟩⟩)
theorem cntS_all (l : List El) : cntS l l.length = (shownL l).length := by unfold cntS; rw [List.take_length]
theorem cntS_le (l : List El) (k : Nat) : cntS l k ≤ l.length := by
  unfold cntS
  have := shownL_le (l.take k)
  rw [List.length_take] at this
  omega

end Go.Proofs.Ytlfmkoapddihcaa
