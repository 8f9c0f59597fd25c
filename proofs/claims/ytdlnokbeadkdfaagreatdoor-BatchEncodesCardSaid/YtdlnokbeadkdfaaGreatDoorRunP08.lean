/- Runs of a list, plain. -/
import Derived.Test.YtdlnokbeadkdfaaGreatDoorColP08
namespace Go.Proofs.YtdlnokbeadkdfaaGreatDoor
set_option linter.unusedSimpArgs false
set_option linter.unusedVariables false

section
variable {α : Type} [DecidableEq α]
/-- A list's runs: how long each is, its value. -/
def runsL : List α → List (Nat × α)
  | [] => []
  | x :: l => (leadN x l + 1, x) :: runsL (l.drop (leadN x l))
termination_by l => l.length
decreasing_by simp; omega
theorem runsL_nil : runsL ([] : List α) = [] := by rw [runsL]
theorem lead_head {x : α} {l : List α} (h : l[0]? = some x) : 1 ≤ leadN x l := by
  cases l with
  | nil => simp at h
  | cons y l => simp at h; subst h; rw [leadN, if_pos rfl]; omega
theorem runsL_step {x : α} {l : List α} (h : l[0]? = some x) : runsL l = (leadN x l, x) :: runsL (l.drop (leadN x l)) := by
  cases l with
  | nil => simp at h
  | cons y l =>
    simp at h
    subst h
    rw [runsL, leadN, if_pos rfl, List.drop_succ_cons]
theorem runsL_pos : ∀ (n : Nat) (l : List α), l.length = n → ∀ p ∈ runsL l, 1 ≤ p.1 ∧ p.1 ≤ n ∧ p.2 ∈ l := by
  intro n
  induction n using Nat.strongRecOn with
  | ind n ih =>
    intro l hl p hp
    cases l with
    | nil => rw [runsL] at hp; simp at hp
    | cons x l =>
      rw [runsL] at hp
      have hle := leadN_le x l
      rw [List.length_cons] at hl
      rcases List.mem_cons.1 hp with rfl | hp
      · exact ⟨by simp, by simp; omega, by simp⟩
      · obtain ⟨h1, h2, h3⟩ := ih (l.drop (leadN x l)).length (by rw [List.length_drop]; omega) _ rfl p hp
        rw [List.length_drop] at h2
        exact ⟨h1, by omega, List.mem_cons_of_mem _ (List.mem_of_mem_drop h3)⟩
end
/-- What Runs puts for these. -/
def putR (ps : List (Nat × Int)) : List UInt8 := ps.flatMap fun p => putB p.1 ++ putB (zigN p.2)
theorem putR_snoc (ps : List (Nat × Int)) (p : Nat × Int) : putR (ps ++ [p]) = (putR ps ++ putB p.1) ++ putB (zigN p.2) := by simp [putR]
theorem runsB_runsL : ∀ (n : Nat) (l : List Int), l.length = n → runsB l = putR (runsL l) := by
  intro n
  induction n using Nat.strongRecOn with
  | ind n ih =>
    intro l hl
    cases l with
    | nil => rw [runsB, runsL]; rfl
    | cons x l =>
      rw [List.length_cons] at hl
      rw [runsB, runsL, ih (l.drop (leadN x l)).length (by rw [List.length_drop]; omega) _ rfl]
      simp [putR]
theorem putR_le {ps qs : List (Nat × Int)} (h : ps <+: qs) : (putR ps).length ≤ (putR qs).length := by
  obtain ⟨t, rfl⟩ := h
  unfold putR
  rw [List.flatMap_append, List.length_append]
  omega
/-- What Bools puts for these. -/
def putT (ps : List (Nat × Bool)) : List UInt8 := (match ps.head? with
  | some (_, true) => [0]
  | _ => []) ++ ps.flatMap fun p => putB p.1
theorem putT_nil : putT [] = [] := rfl
theorem putT_ne {ps : List (Nat × Bool)} (h : ps ≠ []) : putT ps ≠ [] := by
  cases ps with
  | nil => exact absurd rfl h
  | cons p ps =>
    unfold putT
    intro e
    have := congrArg List.length e
    rw [List.length_append, List.flatMap_cons, List.length_append, List.length_nil] at this
    have := List.length_pos_iff.2 (putB_ne p.1)
    omega
theorem putT_snoc (ps : List (Nat × Bool)) (p : Nat × Bool) : putT (ps ++ [p]) = (if p.2 = true ∧ ps = [] then putT ps ++ [0] else putT ps) ++ putB p.1 := by
  cases ps with
  | nil =>
    obtain ⟨k, v⟩ := p
    cases v <;> simp [putT]
  | cons q ps => simp [putT]
theorem putT_le {ps qs : List (Nat × Bool)} (h : ps <+: qs) : (putT ps).length ≤ (putT qs).length := by
  obtain ⟨t, rfl⟩ := h
  cases ps with
  | nil => simp [putT]
  | cons p ps => simp [putT]
theorem boolsF_runsL : ∀ (n : Nat) (v : Bool) (l : List Bool), l.length = n → (l = [] ∨ l.head? = some v) → boolsF v l = (runsL l).flatMap fun p => putB p.1 := by
  intro n
  induction n using Nat.strongRecOn with
  | ind n ih =>
    intro v l hl h
    cases l with
    | nil => rw [boolsF_nil, runsL]; rfl
    | cons x l =>
      have hx : x = v := by simpa using h
      subst hx
      rw [List.length_cons] at hl
      have e : leadN x (x :: l) = leadN x l + 1 := by rw [leadN, if_pos rfl]
      rw [boolsF_cons (by simp), e, List.drop_succ_cons, runsL, List.flatMap_cons, ih (l.drop (leadN x l)).length (by rw [List.length_drop]; omega) (!x) _ rfl (head_not (leadN_drop x l))]
theorem boolsB_runsL (l : List Bool) : boolsB l = putT (runsL l) := by
  unfold boolsB
  cases l with
  | nil => rw [boolsF_nil, runsL]; rfl
  | cons x l =>
    cases x with
    | false =>
      rw [boolsF_runsL _ false _ rfl (.inr rfl)]
      rw [runsL]
      rfl
    | true =>
      have e : leadN false (true :: l) = 0 := by rw [leadN, if_neg (by decide)]
      rw [boolsF_cons (by simp), e, List.drop_zero, Bool.not_false, boolsF_runsL _ true _ rfl (.inr rfl), runsL, putB_lt (by omega)]
      rfl

end Go.Proofs.YtdlnokbeadkdfaaGreatDoor
