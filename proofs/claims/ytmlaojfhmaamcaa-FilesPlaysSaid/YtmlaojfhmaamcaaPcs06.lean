/- The pieces of a file out of all that was done; what a loss of power leaves of them; in both texts alike. -/
import Derived.Test.YtmlaojfhmaamcaaSimN06
namespace Go.Proofs.Ytmlaojfhmaamcaa
open Go.RowKit Go.Deep
set_option linter.unusedSimpArgs false
set_option linter.unusedVariables false

theorem snoc_ind {α : Type} {P : List α → Prop} (h0 : P []) (hs : ∀ l x, P l → P (l ++ [x])) : ∀ l, P l := by
  intro l
  have : ∀ n (l : List α), l.length = n → P l := by
    intro n
    induction n with
    | zero => intro l hl; rw [List.length_eq_zero_iff.1 hl]; exact h0
    | succ n ih =>
      intro l hl
      have hne : l ≠ [] := by rintro rfl; simp at hl
      rw [← List.dropLast_concat_getLast hne]
      exact hs _ _ (ih _ (by rw [List.length_dropLast]; omega))
  exact this _ l rfl

theorem pairwise_get {α : Type} {R : α → α → Prop} {l : List α} : l.Pairwise R ↔ ∀ (i j : Nat) x y, i < j → l[i]? = some x → l[j]? = some y → R x y := by
  rw [List.pairwise_iff_getElem]
  refine ⟨fun h i j x y hij hx hy => ?_, fun h i j hi hj hij => h i j _ _ hij (List.getElem?_eq_getElem hi) (List.getElem?_eq_getElem hj)⟩
  obtain ⟨h1, rfl⟩ := List.getElem?_eq_some_iff.1 hx
  obtain ⟨h2, rfl⟩ := List.getElem?_eq_some_iff.1 hy
  exact h i j h1 h2 hij
/-- When a step was: what it made came then, what it synced is safe from then on. -/
def cameT (bse i : Nat) : Int := if i < bse then 0 else (i : Int) - bse + 1
def safeT (bse i : Nat) : Int := if i < bse then -1 else (i : Int) - bse + 1
def pcStep (f : Int) (bse i : Nat) (s : StepA) (ps : List PcA) : List PcA :=
  if s.kind = 2 ∧ s.file = f then ps ++ [⟨s.bs, cameT bse i, 0⟩] else if s.kind = 5 ∧ s.file = f then ps.map (synP (safeT bse i)) else ps
/-- The pieces of a file. -/
def pcsA (bse : Nat) (f : Int) (L : List StepA) : List PcA := (L.zipIdx.foldl (fun ps x => pcStep f bse x.2 x.1 ps) [])
theorem pcs_snoc (bse : Nat) (f : Int) (L : List StepA) (s : StepA) : pcsA bse f (L ++ [s]) = pcStep f bse L.length s (pcsA bse f L) := by
  unfold pcsA
  rw [List.zipIdx_append, List.foldl_append]
  simp
theorem pcs_nil (bse : Nat) (f : Int) : pcsA bse f [] = [] := rfl

theorem bytesP_append (a b : List PcA) : bytesP (a ++ b) = bytesP a ++ bytesP b := by simp [bytesP]
theorem heldR_pcs (bse : Nat) (f : Int) : ∀ L, heldR L f = bytesP (pcsA bse f L) := by
  refine snoc_ind rfl (fun L s ih => ?_)
  rw [heldR_push, pcs_snoc, ih]
  unfold pcStep
  split
  · rw [bytesP_append]; simp [bytesP]
  · split
    · rw [bytesP_syn, List.append_nil]
    · rw [List.append_nil]

/-- The document's Pending. -/
def pendStep (f : Int) (n : Nat) (s : StepA) : Nat := if s.file = f ∧ s.kind = 5 then 0 else if s.file = f ∧ s.kind = 2 then n + 1 else n
def pendR (L : List StepA) (f : Int) : Nat := L.foldl (pendStep f) 0
theorem pendR_snoc (L : List StepA) (s : StepA) (f : Int) : pendR (L ++ [s]) f = pendStep f (pendR L f) s := by
  unfold pendR
  rw [List.foldl_append]
  rfl
theorem safeT_ne (bse i : Nat) : safeT bse i ≠ 0 := by
  unfold safeT
  split <;> omega
theorem pendP_syn (n : Int) (hn : n ≠ 0) (ps : List PcA) : pendP (ps.map (synP n)) = 0 := by
  unfold pendP
  rw [List.length_eq_zero_iff, List.filter_eq_nil_iff]
  intro p hp
  obtain ⟨q, _, rfl⟩ := List.mem_map.1 hp
  rw [decide_eq_true_iff]
  unfold synP
  split
  · exact hn
  · assumption
theorem pendR_pcs (bse : Nat) (f : Int) : ∀ L, pendR L f = pendP (pcsA bse f L) := by
  refine snoc_ind rfl (fun L s ih => ?_)
  rw [pendR_snoc, pcs_snoc, ih]
  unfold pcStep pendStep
  by_cases h1 : s.file = f
  · by_cases h2 : s.kind = 5
    · rw [if_pos ⟨h1, h2⟩, if_neg (by omega), if_pos ⟨h2, h1⟩, pendP_syn _ (safeT_ne _ _)]
    · rw [if_neg (fun e => h2 e.2)]
      by_cases h3 : s.kind = 2
      · rw [if_pos ⟨h1, h3⟩, if_pos ⟨h3, h1⟩]
        simp [pendP]
      · rw [if_neg (fun e => h3 e.2), if_neg (fun e => h3 e.1), if_neg (fun e => h2 e.1)]
  · rw [if_neg (fun e => h1 e.1), if_neg (fun e => h1 e.1), if_neg (fun e => h1 e.2), if_neg (fun e => h1 e.2)]

/-- One piece is left, or not. -/
def dStep (ks : List Bool) (torn : Int) (s : LeftS) (p : List UInt8 × Bool) : LeftS :=
  if p.2 = true then ⟨s.out ++ p.1, (s.out ++ p.1).length, s.n⟩
  else if ks[s.n]? = some true then ⟨s.out ++ p.1, s.out.length + pickN torn (p.1.length + 1), s.n + 1⟩
  else ⟨s.out ++ List.replicate p.1.length 0, s.fin, s.n + 1⟩
/-- The pieces that had come, and which are safe. -/
def flagsP (at_ : Int) (ps : List PcA) : List (List UInt8 × Bool) := (ps.filter fun p => decide (p.came ≤ at_)).map fun p => (p.bs, decide (p.safe ≠ 0 ∧ p.safe ≤ at_))
theorem leftS_flags (at_ torn : Int) (ks : List Bool) (ps : List PcA) : leftS at_ ks torn ps = (flagsP at_ ps).foldl (dStep ks torn) ⟨[], 0, 0⟩ := by
  have : ∀ (ps : List PcA) (s : LeftS), ps.foldl (leftStep at_ ks torn) s = (flagsP at_ ps).foldl (dStep ks torn) s := by
    intro ps
    induction ps with
    | nil => intro s; rfl
    | cons p ps ih =>
      intro s
      rw [List.foldl_cons, ih]
      unfold flagsP leftStep
      by_cases h : p.came ≤ at_
      · rw [if_neg (by omega), List.filter_cons_of_pos (by simpa using h), List.map_cons, List.foldl_cons]
        congr 1
        unfold dStep
        by_cases h2 : p.safe ≠ 0 ∧ p.safe ≤ at_
        · rw [if_pos h2, if_pos (by simpa using h2)]
        · rw [if_neg h2]
          have : decide (p.safe ≠ 0 ∧ p.safe ≤ at_) = false := decide_eq_false h2
          dsimp only
          rw [this]
          simp only [Bool.false_eq_true, if_false]
      · rw [if_pos (by omega), List.filter_cons_of_neg (by simpa using h)]
  exact this ps _

/-- The document's last Sync of a file: its place. -/
def lastS (f : Int) (L : List StepA) : Nat := L.zipIdx.foldl (fun s x => if x.1.kind = 5 ∧ x.1.file = f then x.2 else s) 0
theorem lastS_snoc (f : Int) (L : List StepA) (s : StepA) : lastS f (L ++ [s]) = if s.kind = 5 ∧ s.file = f then L.length else lastS f L := by
  unfold lastS
  rw [List.zipIdx_append, List.foldl_append]
  simp
theorem lastS_le (f : Int) : ∀ L, lastS f L ≤ L.length := by
  refine snoc_ind (by simp [lastS]) (fun L s ih => ?_)
  rw [lastS_snoc, List.length_append]
  split <;> simp <;> omega
/-- The appends of a file, and which are safe. -/
def appsAt (f : Int) (safe : Nat) (L : List StepA) : List (List UInt8 × Bool) := L.zipIdx.filterMap fun x => if x.1.kind = 2 ∧ x.1.file = f then some (x.1.bs, decide (x.2 < safe)) else none
theorem apps_snoc (f : Int) (safe : Nat) (L : List StepA) (s : StepA) : appsAt f safe (L ++ [s]) = appsAt f safe L ++ if s.kind = 2 ∧ s.file = f then [(s.bs, decide (L.length < safe))] else [] := by
  unfold appsAt
  rw [List.zipIdx_append, List.filterMap_append]
  congr 1
  by_cases h : s.kind = 2 ∧ s.file = f <;> simp [h]
theorem apps_all (f : Int) {safe : Nat} : ∀ L, L.length ≤ safe → ∀ (safe2 : Nat), (appsAt f safe2 L).map (fun p => (p.1, true)) = appsAt f safe L := by
  refine snoc_ind (fun _ _ => rfl) (fun L s ih hl safe2 => ?_)
  rw [List.length_append] at hl
  simp at hl
  rw [apps_snoc, apps_snoc, List.map_append, ih (by omega)]
  congr 1
  split
  · simp; omega
  · rfl
/-- The flags of both are alike. -/
theorem flags_apps (bse : Nat) (f : Int) (a : Nat) : ∀ L : List StepA, flagsP a (pcsA bse f L) = appsAt f (lastS f (L.take (bse + a))) (L.take (bse + a)) ∧ ∀ p ∈ pcsA bse f L, p.safe ≤ (L.length : Int) - bse ∨ p.safe ≤ 0 := by
  refine snoc_ind ⟨by simp [pcsA, flagsP, appsAt], fun p hp => by cases hp⟩ (fun L s ⟨ih, is⟩ => ?_)
  have hsf : ∀ p ∈ pcsA bse f (L ++ [s]), p.safe ≤ (((L ++ [s]).length : Nat) : Int) - bse ∨ p.safe ≤ 0 := by
    intro p hp
    rw [pcs_snoc] at hp
    rw [List.length_append]
    have key : ∀ p ∈ pcsA bse f L, p.safe ≤ ((L.length + [s].length : Nat) : Int) - bse ∨ p.safe ≤ 0 := fun p hp => by
      rcases is p hp with h | h
      · left; simp; omega
      · right; exact h
    unfold pcStep at hp
    split at hp
    · rcases List.mem_append.1 hp with hp | hp
      · exact key p hp
      · simp at hp; subst hp; right; simp
    · split at hp
      · obtain ⟨q, hq, rfl⟩ := List.mem_map.1 hp
        unfold synP
        split
        · unfold safeT
          simp only [List.length_cons, List.length_nil]
          split
          · right; omega
          · left; omega
        · exact key q hq
      · exact key p hp
  refine ⟨?_, hsf⟩
  rw [pcs_snoc]
  by_cases hl : L.length < bse + a
  · rw [List.take_of_length_le (by omega)] at ih
    rw [List.take_of_length_le (by rw [List.length_append]; simp; omega), apps_snoc, lastS_snoc]
    have ht : cameT bse L.length ≤ a := by unfold cameT; split <;> omega
    have ht2 : safeT bse L.length ≤ a := by unfold safeT; split <;> omega
    unfold pcStep
    by_cases h2 : s.kind = 2 ∧ s.file = f
    · rw [if_pos h2, if_pos h2, if_neg (by omega)]
      have : ¬ L.length < lastS f L := by have := lastS_le f L; omega
      unfold flagsP at ih ⊢
      rw [List.filter_append, List.map_append, ih]
      simp [ht, this]
    · rw [if_neg h2, if_neg h2, List.append_nil]
      by_cases h5 : s.kind = 5 ∧ s.file = f
      · rw [if_pos h5, if_pos h5, ← apps_all f L (Nat.le_refl _) (lastS f L), ← ih]
        unfold flagsP
        rw [List.filter_map, List.map_map, List.map_map]
        have e1 : ((fun p : PcA => decide (p.came ≤ (a : Int))) ∘ synP (safeT bse L.length)) = fun p : PcA => decide (p.came ≤ (a : Int)) := by
          funext p
          simp only [Function.comp, synP]
          split <;> rfl
        rw [e1]
        refine List.map_congr_left (fun p hp => ?_)
        have hp2 := is p (List.mem_filter.1 hp).1
        simp only [Function.comp, synP, Prod.mk.injEq]
        split
        · refine ⟨rfl, ?_⟩
          rw [decide_eq_true_iff]
          exact ⟨safeT_ne _ _, ht2⟩
        · rename_i h0
          refine ⟨rfl, ?_⟩
          rw [decide_eq_true_iff]
          refine ⟨h0, ?_⟩
          omega
      · rw [if_neg h5, if_neg h5]
        exact ih
  · rw [List.take_append_of_le_length (by omega), ← ih]
    have ht : ¬ cameT bse L.length ≤ a := by unfold cameT; split <;> omega
    have ht2 : ¬ safeT bse L.length ≤ a := by unfold safeT; split <;> omega
    unfold pcStep
    split
    · unfold flagsP
      rw [List.filter_append]
      simp [ht]
    · split
      · unfold flagsP
        rw [List.filter_map, List.map_map]
        have e1 : ((fun p : PcA => decide (p.came ≤ (a : Int))) ∘ synP (safeT bse L.length)) = fun p : PcA => decide (p.came ≤ (a : Int)) := by
          funext p
          simp only [Function.comp, synP]
          split <;> rfl
        rw [e1]
        refine List.map_congr_left (fun p hp => ?_)
        simp only [Function.comp, synP, Prod.mk.injEq]
        split
        · rename_i h0
          refine ⟨rfl, ?_⟩
          simp [h0, ht2]
        · exact ⟨rfl, rfl⟩
      · rfl

/-- The document's left. -/
def leftRS (L : List StepA) (f : Int) (ks : List Bool) (torn : Int) (safe : Nat) : LeftS := (appsAt f safe L).foldl (dStep ks torn) ⟨[], 0, 0⟩
def leftR (L : List StepA) (f : Int) (ks : List Bool) (torn : Int) : List UInt8 := (leftRS L f ks torn (lastS f L)).out.take (leftRS L f ks torn (lastS f L)).fin
theorem left_alike (bse : Nat) (f : Int) (a : Nat) (L : List StepA) (ks : List Bool) (torn : Int) : leftR (L.take (bse + a)) f ks torn = leftA a ks torn (pcsA bse f L) := by
  unfold leftR leftA leftRS
  rw [leftS_flags, (flags_apps bse f a L).1]
theorem leftRS_snoc (L : List StepA) (p : StepA) (f : Int) (ks : List Bool) (torn : Int) (safe : Nat) : leftRS (L ++ [p]) f ks torn safe = if p.kind = 2 ∧ p.file = f then dStep ks torn (leftRS L f ks torn safe) (p.bs, decide (L.length < safe)) else leftRS L f ks torn safe := by
  unfold leftRS
  rw [apps_snoc, List.foldl_append]
  by_cases h : p.kind = 2 ∧ p.file = f <;> simp [h]

end Go.Proofs.Ytmlaojfhmaamcaa
