/- Layer 14: the plain law of moves: where blocks hang behind moves, by their stamps. -/
import Derived.Test.YtilonmpcifohiaaMv14
namespace Go.Proofs.Ytilonmpcifohiaa
open Go.RowKit
set_option linter.unusedSimpArgs false
set_option linter.unusedVariables false

/-- Where blocks hang. -/
abbrev Hang := St → Option Ch

/-- b is met on the way up from u. -/
inductive Up (h : Hang) : St → St → Prop
  | refl (u : St) : Up h u u
  | step {u b : St} {c : Ch} : h u = some c → Up h c.under b → Up h u b

/-- The way up from u ends behind n steps. -/
def Ends (h : Hang) : Nat → St → Prop
  | 0, u => h u = none
  | n + 1, u => ∃ c, h u = some c ∧ Ends h n c.under
def Acyc (h : Hang) : Prop := ∀ u, ∃ n, Ends h n u

theorem up_none {h : Hang} {u b : St} (hn : h u = none) (hne : u ≠ b) : ¬ Up h u b := by
  intro hu
  cases hu with
  | refl => exact hne rfl
  | step hc _ => rw [hn] at hc; cases hc
theorem up_some {h : Hang} {u b : St} {c : Ch} (hc : h u = some c) (hne : u ≠ b) : Up h u b ↔ Up h c.under b := by
  constructor
  · intro hu
    cases hu with
    | refl => exact absurd rfl hne
    | step hc' k => rw [hc] at hc'; cases hc'; exact k
  · exact fun k => .step hc k

def setH (h : Hang) (b : St) (c : Ch) : Hang := fun k => if k = b then some c else h k
theorem setH_same (h : Hang) (b : St) (c : Ch) : setH h b c b = some c := by simp [setH]
theorem setH_other (h : Hang) {b k : St} (c : Ch) (hk : k ≠ b) : setH h b c k = h k := by simp [setH, hk]

open Classical in
/-- A move took effect? -/
noncomputable def tookH (h : Hang) (c : Ch) : Bool := !(decide (Up h c.under c.block))
open Classical in
noncomputable def stepH (h : Hang) (c : Ch) : Hang := if Up h c.under c.block then h else setH h c.block c
theorem stepH_took {h : Hang} {c : Ch} (ht : tookH h c = true) : stepH h c = setH h c.block c := by
  simp only [tookH, Bool.not_eq_true', decide_eq_false_iff_not] at ht
  rw [stepH, if_neg ht]
theorem stepH_not {h : Hang} {c : Ch} (ht : tookH h c = false) : stepH h c = h := by
  simp only [tookH, Bool.not_eq_false', decide_eq_true_eq] at ht
  rw [stepH, if_pos ht]
theorem tookH_of {h : Hang} {c : Ch} (hu : Up h c.under c.block) : tookH h c = false := by simp [tookH, hu]
theorem tookH_of_not {h : Hang} {c : Ch} (hu : ¬ Up h c.under c.block) : tookH h c = true := by simp [tookH, hu]
noncomputable def play (cs : List Ch) : Hang := cs.foldl stepH (fun _ => none)
theorem play_nil : play [] = fun _ => none := rfl
theorem play_snoc (cs : List Ch) (c : Ch) : play (cs ++ [c]) = stepH (play cs) c := by simp [play]

theorem ends_apart {h : Hang} {b : St} {c : Ch} : ∀ (n : Nat) (u : St), Ends h n u → ¬ Up h u b → Ends (setH h b c) n u
  | 0, u, he, hu => by
    show setH h b c u = none
    rw [setH_other h c (fun e => hu (by rw [e]; exact .refl _))]; exact he
  | n + 1, u, ⟨d, hd, he⟩, hu => by
    refine ⟨d, ?_, ends_apart n d.under he (fun k => hu (.step hd k))⟩
    rw [setH_other h c (fun e => hu (by rw [e]; exact .refl _))]; exact hd

theorem acyc_nil : Acyc (fun _ => none) := fun u => ⟨0, rfl⟩
theorem acyc_step {h : Hang} (ha : Acyc h) (c : Ch) : Acyc (stepH h c) := by
  by_cases ht : Up h c.under c.block
  · rw [stepH, if_pos ht]; exact ha
  · rw [stepH, if_neg ht]
    have hb : ∃ n, Ends (setH h c.block c) n c.block := by
      obtain ⟨n, hn⟩ := ha c.under
      exact ⟨n + 1, c, setH_same _ _ _, ends_apart n _ hn ht⟩
    intro u
    by_cases hu : Up h u c.block
    · have key : ∀ {u b : St}, Up h u b → b = c.block → ∃ n, Ends (setH h c.block c) n u := by
        intro u b hub
        induction hub with
        | refl u => rintro rfl; exact hb
        | @step u b d hd _ ih =>
          intro e
          by_cases hub : u = c.block
          · rw [hub]; exact hb
          · obtain ⟨n, hn⟩ := ih e
            exact ⟨n + 1, d, by rw [setH_other _ _ hub]; exact hd, hn⟩
      exact key hu rfl
    · obtain ⟨n, hn⟩ := ha u
      exact ⟨n, ends_apart n u hn hu⟩
theorem acyc_play (cs : List Ch) : Acyc (play cs) := by
  have : ∀ (cs : List Ch) (h : Hang), Acyc h → Acyc (cs.foldl stepH h) := fun cs => by
    induction cs with
    | nil => intro h ha; exact ha
    | cons c cs ih => intro h ha; exact ih _ (acyc_step ha c)
  exact this cs _ acyc_nil

/-- The pairs of a map tell where blocks hang. -/
def Agree (hl : List (St × Ch)) (h : Hang) : Prop := ∀ k, aget hl k = h k
theorem agree_nil : Agree [] (fun _ => none) := fun k => rfl
theorem Agree.set {hl : List (St × Ch)} {h : Hang} (ha : Agree hl h) (b : St) (c : Ch) : Agree (aset hl b c) (setH h b c) := fun k => by
  by_cases hk : k = b
  · subst hk; rw [aget_aset_same, setH_same]
  · rw [aget_aset_other _ _ (fun e => hk e.symm), setH_other _ _ hk]; exact ha k
theorem Agree.back {hl : List (St × Ch)} {h : Hang} {b : St} {c d : Ch} (ha : Agree hl (setH h b c)) (hd : h b = some d) : Agree (aset hl b d) h := fun k => by
  by_cases hk : k = b
  · subst hk; rw [aget_aset_same, hd]
  · rw [aget_aset_other _ _ (fun e => hk e.symm), ha k, setH_other _ _ hk]
theorem Agree.undo {hl : List (St × Ch)} {h : Hang} {b : St} {c : Ch} (hn : (hl.map (·.1)).Nodup) (ha : Agree hl (setH h b c)) (hd : h b = none) : Agree (adel hl b) h := fun k => by
  by_cases hk : k = b
  · subst hk; rw [aget_adel_same _ _ hn, hd]
  · rw [aget_adel_other _ (fun e => hk e.symm), ha k, setH_other _ _ hk]

end Go.Proofs.Ytilonmpcifohiaa
