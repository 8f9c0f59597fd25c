/- What the program's registers tell of the accepted writes is what the reference tells: the plain law. -/
import Derived.Test.YtkkffnejgbhbmaaRefWalk15
namespace Go.Proofs.Ytkkffnejgbhbmaa
open Go.RowKit
set_option linter.unusedSimpArgs false
set_option linter.unusedVariables false

theorem cmpS_gt (a b : St) : 0 < cmpS a b ↔ stLt b a := by
  rw [show a = ⟨a.n, a.r⟩ from rfl, show b = ⟨b.n, b.r⟩ from rfl, cmpS_val]
  unfold stLt
  simp only
  split
  · constructor <;> intro h <;> omega
  · split
    · constructor <;> intro h <;> omega
    · split
      · constructor <;> intro h <;> omega
      · split
        · constructor <;> intro h <;> omega
        · constructor <;> intro h <;> omega

/-- Accepted writes: right, and each of a stamp of its own. -/
structure Acc (L : List Write) : Prop where
  right : ∀ x ∈ L, rightB x.at_ = true
  one : Fun1 L

theorem refBest_best (p : Pl) (L : List Write) : (∀ x ∈ L, rightB x.at_ = true) → ∀ x, refBest L p = some x → Best L p x := by
  refine snocInd (p := fun L => (∀ x ∈ L, rightB x.at_ = true) → ∀ x, refBest L p = some x → Best L p x) ?_ ?_ L
  · intro _ x h; cases h
  · intro L y ih hr x h
    have hr' : ∀ x ∈ L, rightB x.at_ = true := fun x hx => hr x (by simp [hx])
    have ih := ih hr'
    rw [refBest_snoc, bestStep] at h
    split at h
    · rename_i hc
      cases h
      refine ⟨y, by simp, hr y (by simp), hc.1, rfl, fun z hz rz pz hlt => ?_⟩
      rcases List.mem_append.1 hz with hz | hz
      · obtain ⟨u, hu⟩ := Option.isSome_iff_exists.1 ((refBest_some hr' p).2 ⟨z, hz, pz⟩)
        obtain ⟨v, hv, rv, pv, rfl, mv⟩ := ih u hu
        rw [hu] at hc
        exact mv z hz rz pz (stLt_trans ((cmpS_gt _ _).1 hc.2) hlt)
      · rw [List.mem_singleton.1 hz] at hlt; exact stLt_irrefl _ hlt
    · rename_i hc
      obtain ⟨v, hv, rv, pv, rfl, mv⟩ := ih x h
      refine ⟨v, by simp [hv], rv, pv, rfl, fun z hz rz pz hlt => ?_⟩
      rcases List.mem_append.1 hz with hz | hz
      · exact mv z hz rz pz hlt
      · rw [List.mem_singleton.1 hz] at hlt pz
        rw [h] at hc
        exact hc ⟨pz, (cmpS_gt _ _).2 hlt⟩

theorem best_eq {L : List Write} (h : Acc L) (p : Pl) : aget (setAll L).1 p = refBest L p := by
  have I := setInv L h.one
  cases hb : refBest L p with
  | some x => exact (I.vals p x).2 (refBest_best p L h.right x hb)
  | none =>
    cases ha : aget (setAll L).1 p with
    | none => rfl
    | some x =>
      obtain ⟨y, hy, _, py, _⟩ := (I.vals p x).1 ha
      have := (refBest_some h.right p).2 ⟨y, hy, py⟩
      rw [hb] at this
      cases this

theorem code_eq {L : List Write} (h : Acc L) (a : St) : setCode (setAll L).2 a = rsetCode L a := by
  have I := setInv L h.one
  unfold setCode rsetCode
  have e : ((aget (setAll L).2 a).getD false = true) ↔ hasAt L a = true := by
    rw [I.ats a, hasAt, List.any_eq_true]
    constructor
    · rintro ⟨y, hy, _, e⟩; exact ⟨y, hy, by simp [e]⟩
    · rintro ⟨y, hy, e⟩; exact ⟨y, hy, h.right y hy, by simpa using e⟩
  by_cases hh : hasAt L a = true
  · rw [if_pos (e.2 hh), if_pos hh]
  · rw [if_neg (fun x => hh (e.1 x)), if_neg hh]

theorem acc_step {L : List Write} (h : Acc L) (x : Write) : Acc (rsetL L x) ∧ setAll (rsetL L x) = setStep (setAll L) x := by
  have hc := code_eq h x.at_
  unfold rsetL
  split
  · rename_i h0
    refine ⟨⟨fun y hy => ?_, fun y hy z hz e => ?_⟩, setAll_snoc L x⟩
    · rcases List.mem_append.1 hy with hy | hy
      · exact h.right y hy
      · rw [List.mem_singleton.1 hy]
        unfold rsetCode at h0
        split at h0
        · omega
        · rename_i hr; simpa using hr
    · have hno : ∀ u ∈ L, u.at_ ≠ x.at_ := fun u hu e => by
        have hh : hasAt L x.at_ = true := by rw [hasAt, List.any_eq_true]; exact ⟨u, hu, by simp [e]⟩
        unfold rsetCode at h0
        rw [hh] at h0
        split at h0 <;> simp at h0
      rcases List.mem_append.1 hy with hy | hy <;> rcases List.mem_append.1 hz with hz | hz
      · exact h.one y hy z hz e
      · rw [List.mem_singleton.1 hz] at e; exact absurd e (hno y hy)
      · rw [List.mem_singleton.1 hy] at e; exact absurd e.symm (hno z hz)
      · rw [List.mem_singleton.1 hy, List.mem_singleton.1 hz]
  · rename_i h0
    rw [← hc] at h0
    refine ⟨h, ?_⟩
    unfold setStep setVals setAts
    rw [if_neg (fun e => h0 e.1), if_neg h0]

theorem rsetL_length (L : List Write) (x : Write) : (rsetL L x).length ≤ L.length + 1 := by
  unfold rsetL
  split <;> simp

end Go.Proofs.Ytkkffnejgbhbmaa
