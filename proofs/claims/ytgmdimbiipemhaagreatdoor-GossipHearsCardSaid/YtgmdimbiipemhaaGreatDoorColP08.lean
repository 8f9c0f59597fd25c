/- Columns of numbers and truths as bytes, plain. -/
import Derived.Test.YtgmdimbiipemhaaGreatDoorVarP08
namespace Go.Proofs.YtgmdimbiipemhaaGreatDoor
set_option linter.unusedSimpArgs false
set_option linter.unusedVariables false

section
variable {α : Type} [DecidableEq α]
/-- How many of the first are this one. -/
def leadN (x : α) : List α → Nat
  | [] => 0
  | y :: l => if y = x then leadN x l + 1 else 0
theorem leadN_le (x : α) : ∀ l : List α, leadN x l ≤ l.length
  | [] => Nat.le_refl _
  | y :: l => by
    unfold leadN
    split
    · simp; exact leadN_le x l
    · omega
theorem leadN_take (x : α) : ∀ l : List α, l.take (leadN x l) = List.replicate (leadN x l) x
  | [] => rfl
  | y :: l => by
    unfold leadN
    split
    · rename_i h
      rw [List.take_succ_cons, leadN_take x l, List.replicate_succ, h]
    · simp
theorem leadN_drop (x : α) : ∀ l : List α, (l.drop (leadN x l)).head? ≠ some x
  | [] => by simp [leadN]
  | y :: l => by
    unfold leadN
    split
    · rw [List.drop_succ_cons]; exact leadN_drop x l
    · rename_i h; simp [h]
theorem leadN_repl (x : α) (k : Nat) {l : List α} (h : l.head? ≠ some x) : leadN x (List.replicate k x ++ l) = k := by
  induction k with
  | zero =>
    cases l with
    | nil => rfl
    | cons y l => simp only [List.replicate_zero, List.nil_append, leadN]; rw [if_neg (fun e => h (by simp [e]))]
  | succ k ih => rw [List.replicate_succ, List.cons_append, leadN, if_pos rfl, ih]
theorem lead_split (x : α) (l : List α) : l = List.replicate (leadN x l) x ++ l.drop (leadN x l) := by
  rw [← leadN_take, List.take_append_drop]
end

theorem prefix_app {a b c : List UInt8} : a ++ b <+: c ↔ a <+: c ∧ b <+: c.drop a.length := by
  constructor
  · rintro ⟨t, rfl⟩
    refine ⟨⟨b ++ t, by simp⟩, ⟨t, ?_⟩⟩
    rw [List.append_assoc, List.drop_left]
  · rintro ⟨⟨t, rfl⟩, h⟩
    rw [List.drop_left] at h
    obtain ⟨s, rfl⟩ := h
    exact ⟨s, by simp⟩

/-- A list of numbers as runs. -/
def runsB : List Int → List UInt8
  | [] => []
  | x :: l => putB (leadN x l + 1) ++ putB (zigN x) ++ runsB (l.drop (leadN x l))
termination_by l => l.length
decreasing_by simp; omega
theorem runsB_repl (x : Int) (k : Nat) {l : List Int} (h : l.head? ≠ some x) : runsB (List.replicate (k + 1) x ++ l) = putB (k + 1) ++ putB (zigN x) ++ runsB l := by
  rw [List.replicate_succ, List.cons_append, runsB, leadN_repl x k h]
  congr 2
  rw [List.drop_append_of_le_length (by simp), List.drop_eq_nil_of_le (by simp), List.nil_append]

/-- Runs taken from the front of bytes: so many numbers; the one ahead of them. -/
noncomputable def decR (n : Nat) (prev : Option Int) (b : List UInt8) : Option (List Int × Nat) :=
  if hn : n = 0 then some ([], 0) else
    match takeV b with
    | none => none
    | some k => match takeV (b.drop (putB k).length) with
      | none => none
      | some v => if hk : k = 0 ∨ n < k ∨ prev = some (zagI v) then none else
        (decR (n - k) (some (zagI v)) (b.drop ((putB k).length + (putB v).length))).map fun p => (List.replicate k (zagI v) ++ p.1, (putB k).length + (putB v).length + p.2)
termination_by n
decreasing_by omega
theorem decR_zero (prev : Option Int) (b : List UInt8) : decR 0 prev b = some ([], 0) := by rw [decR, dif_pos rfl]
theorem decR_bad1 {n : Nat} {prev : Option Int} {b : List UInt8} (hn : n ≠ 0) (h : takeV b = none) : decR n prev b = none := by rw [decR, dif_neg hn, h]
theorem decR_bad2 {n : Nat} {prev : Option Int} {b : List UInt8} {k : Nat} (hn : n ≠ 0) (h : takeV b = some k) (h2 : takeV (b.drop (putB k).length) = none) : decR n prev b = none := by rw [decR, dif_neg hn, h]; simp only [h2]
theorem decR_bad3 {n : Nat} {prev : Option Int} {b : List UInt8} {k v : Nat} (hn : n ≠ 0) (h : takeV b = some k) (h2 : takeV (b.drop (putB k).length) = some v) (h3 : k = 0 ∨ n < k ∨ prev = some (zagI v)) : decR n prev b = none := by
  rw [decR, dif_neg hn, h]; simp only [h2]; rw [dif_pos h3]
theorem decR_step {n : Nat} {prev : Option Int} {b : List UInt8} {k v : Nat} (h : takeV b = some k) (h2 : takeV (b.drop (putB k).length) = some v) (hk0 : k ≠ 0) (hkn : k ≤ n) (hp : prev ≠ some (zagI v)) :
    decR n prev b = (decR (n - k) (some (zagI v)) (b.drop ((putB k).length + (putB v).length))).map fun p => (List.replicate k (zagI v) ++ p.1, (putB k).length + (putB v).length + p.2) := by
  rw [decR, dif_neg (by omega), h]; simp only [h2]; rw [dif_neg (by rintro (h | h | h); exact hk0 h; omega; exact hp h)]
/-- What is taken is what is put. -/
theorem decR_iff : ∀ (n : Nat), n < 18446744073709551616 → ∀ (prev : Option Int) (b : List UInt8) (l : List Int) (u : Nat), decR n prev b = some (l, u) ↔ l.length = n ∧ (prev ≠ none → l.head? ≠ prev) ∧ (∀ x ∈ l, zigN x < 18446744073709551616) ∧ runsB l <+: b ∧ u = (runsB l).length ∨ (n = 0 ∧ l = [] ∧ u = 0) := by
  intro n
  induction n using Nat.strongRecOn with
  | ind n ih =>
    intro hnn prev b l u
    by_cases hn : n = 0
    · subst hn
      rw [decR_zero]
      constructor
      · intro h; cases h; exact .inr ⟨rfl, rfl, rfl⟩
      · rintro (⟨h, _, _, _, rfl⟩ | ⟨_, rfl, rfl⟩)
        · rw [List.length_eq_zero_iff.1 h]; simp [runsB]
        · rfl
    · constructor
      · intro h
        left
        cases hk : takeV b with
        | none => rw [decR_bad1 hn hk] at h; cases h
        | some k =>
          cases hv : takeV (b.drop (putB k).length) with
          | none => rw [decR_bad2 hn hk hv] at h; cases h
          | some v =>
            by_cases h3 : k = 0 ∨ n < k ∨ prev = some (zagI v)
            · rw [decR_bad3 hn hk hv h3] at h; cases h
            · have h4 : k ≠ 0 ∧ k ≤ n ∧ prev ≠ some (zagI v) := ⟨fun e => h3 (.inl e), by have : ¬ n < k := fun e => h3 (.inr (.inl e)); omega, fun e => h3 (.inr (.inr e))⟩
              rw [decR_step hk hv h4.1 h4.2.1 h4.2.2] at h
              obtain ⟨⟨r, s⟩, hr, he⟩ := Option.map_eq_some_iff.1 h
              cases he
              have tk := takeV_some.1 hk
              have tv := takeV_some.1 hv
              obtain ⟨j, rfl⟩ : ∃ j, k = j + 1 := ⟨k - 1, by omega⟩
              have key : r.length = n - (j + 1) ∧ r.head? ≠ some (zagI v) ∧ (∀ x ∈ r, zigN x < 18446744073709551616) ∧ runsB r <+: b.drop ((putB (j + 1)).length + (putB v).length) ∧ s = (runsB r).length := by
                rcases (ih (n - (j + 1)) (by omega) (by omega) _ _ _ _).1 hr with ⟨a1, a2, a3, a4, a5⟩ | ⟨a1, rfl, rfl⟩
                · exact ⟨a1, a2 (by simp), a3, a4, a5⟩
                · exact ⟨by simp [a1], by simp, by simp, by simp [runsB], by simp [runsB]⟩
              obtain ⟨a1, a2, a3, a4, a5⟩ := key
              have e := runsB_repl (zagI v) j a2
              rw [zig_zag] at e
              refine ⟨by simp; omega, fun _ => ?_, fun x hx => ?_, ?_, ?_⟩
              · rw [List.replicate_succ]; simpa using fun e => h4.2.2 e.symm
              · rcases List.mem_append.1 hx with hx | hx
                · rw [(List.mem_replicate.1 hx).2, zig_zag]; exact tv.1
                · exact a3 x hx
              · rw [e, prefix_app, prefix_app, List.length_append]
                exact ⟨⟨tk.2, tv.2⟩, a4⟩
              · rw [e, List.length_append, List.length_append, a5]
      · rintro (⟨h1, h2, h3, h4, h5⟩ | ⟨h, _⟩)
        · cases l with
          | nil => simp at h1; omega
          | cons x l =>
            have hl := leadN_le x l
            rw [runsB, prefix_app, prefix_app] at h4
            rw [List.length_cons] at h1
            have tk : takeV b = some (leadN x l + 1) := takeV_some.2 ⟨by omega, h4.1.1⟩
            have tv : takeV (b.drop (putB (leadN x l + 1)).length) = some (zigN x) := takeV_some.2 ⟨h3 x (by simp), h4.1.2⟩
            rw [decR_step tk tv (by omega) (by omega) (by
              rw [zag_zig]
              intro e
              exact h2 (by rw [e]; simp) (by rw [e]; rfl)), zag_zig]
            have hr : decR (n - (leadN x l + 1)) (some x) (b.drop ((putB (leadN x l + 1)).length + (putB (zigN x)).length)) = some (l.drop (leadN x l), (runsB (l.drop (leadN x l))).length) := by
              refine (ih (n - (leadN x l + 1)) (by omega) (by omega) _ _ _ _).2 (.inl ⟨by simp; omega, fun _ => leadN_drop x l, fun y hy => h3 y (List.mem_cons_of_mem _ (List.mem_of_mem_drop hy)), ?_, rfl⟩)
              rw [← List.length_append]; exact h4.2
            rw [hr, Option.map_some, h5]
            congr 2
            · rw [List.replicate_succ, List.cons_append]
              congr 1
              exact (lead_split x l).symm
            · rw [runsB, List.length_append, List.length_append]
        · exact absurd h hn

/-- Differences, and sums; numbers wrap. -/
def wrapI (n : Int) : Int := (n + 9223372036854775808) % 18446744073709551616 - 9223372036854775808
theorem wrapI_in (n : Int) : -9223372036854775808 ≤ wrapI n ∧ wrapI n ≤ 9223372036854775807 := by unfold wrapI; omega
theorem wrapI_id {n : Int} (h1 : -9223372036854775808 ≤ n) (h2 : n ≤ 9223372036854775807) : wrapI n = n := by unfold wrapI; omega
def diffsF (p : Int) : List Int → List Int
  | [] => []
  | x :: l => wrapI (x - p) :: diffsF x l
def diffsB : List Int → List Int
  | [] => []
  | x :: l => x :: diffsF x l
def sumsF (p : Int) : List Int → List Int
  | [] => []
  | x :: l => wrapI (x + p) :: sumsF (wrapI (x + p)) l
def sumsB : List Int → List Int
  | [] => []
  | x :: l => x :: sumsF x l
theorem sums_diffsF : ∀ (l : List Int) (p : Int), (∀ x ∈ l, -9223372036854775808 ≤ x ∧ x ≤ 9223372036854775807) → sumsF p (diffsF p l) = l
  | [], _, _ => rfl
  | x :: l, p, h => by
    have hx := h x (by simp)
    have e : wrapI (wrapI (x - p) + p) = x := by unfold wrapI; omega
    rw [diffsF, sumsF, e, sums_diffsF l x (fun y hy => h y (by simp [hy]))]
theorem sums_diffs {l : List Int} (h : ∀ x ∈ l, -9223372036854775808 ≤ x ∧ x ≤ 9223372036854775807) : sumsB (diffsB l) = l := by
  cases l with
  | nil => rfl
  | cons x l => rw [diffsB, sumsB, sums_diffsF l x (fun y hy => h y (by simp [hy]))]
theorem diffs_sumsF : ∀ (l : List Int) (p : Int), (∀ x ∈ l, -9223372036854775808 ≤ x ∧ x ≤ 9223372036854775807) → diffsF p (sumsF p l) = l
  | [], _, _ => rfl
  | x :: l, p, h => by
    have hx := h x (by simp)
    have e : wrapI (wrapI (x + p) - p) = x := by unfold wrapI; omega
    rw [sumsF, diffsF, e, diffs_sumsF l _ (fun y hy => h y (by simp [hy]))]
theorem diffs_sums {l : List Int} (h : ∀ x ∈ l, -9223372036854775808 ≤ x ∧ x ≤ 9223372036854775807) : diffsB (sumsB l) = l := by
  cases l with
  | nil => rfl
  | cons x l => rw [sumsB, diffsB, diffs_sumsF l x (fun y hy => h y (by simp [hy]))]

theorem bools_meas (v : Bool) {l : List Bool} (h : l ≠ []) : 2 * (l.drop (leadN v l)).length + (if (l.drop (leadN v l)).head? = some (!v) then 0 else 1) < 2 * l.length + (if l.head? = some v then 0 else 1) := by
  cases l with
  | nil => exact absurd rfl h
  | cons x l =>
    by_cases hx : x = v
    · have e : leadN v (x :: l) = leadN v l + 1 := by rw [leadN, if_pos hx]
      have := leadN_le v l
      rw [e, List.drop_succ_cons, List.length_drop, List.length_cons]
      split <;> omega
    · have e : leadN v (x :: l) = 0 := by rw [leadN, if_neg hx]
      have hx2 : x = !v := by cases x <;> cases v <;> simp_all
      rw [e, List.drop_zero, List.head?_cons, if_pos (by rw [hx2]), if_neg (by simpa using hx)]
      omega
/-- A list of truths as runs, of this one first. -/
def boolsF (v : Bool) (l : List Bool) : List UInt8 := if h : l = [] then [] else putB (leadN v l) ++ boolsF (!v) (l.drop (leadN v l))
termination_by 2 * l.length + (if l.head? = some v then 0 else 1)
decreasing_by exact bools_meas v h
def boolsB (l : List Bool) : List UInt8 := boolsF false l
theorem boolsF_nil (v : Bool) : boolsF v [] = [] := by rw [boolsF, dif_pos rfl]
theorem boolsF_cons {v : Bool} {l : List Bool} (h : l ≠ []) : boolsF v l = putB (leadN v l) ++ boolsF (!v) (l.drop (leadN v l)) := by rw [boolsF, dif_neg h]

/-- Truths taken from the front of bytes. -/
noncomputable def decT (n : Nat) (v first : Bool) (b : List UInt8) : Option (List Bool × Nat) :=
  if hn : n = 0 then some ([], 0) else
    match takeV b with
    | none => none
    | some k => if hk : (k = 0 ∧ first = false) ∨ n < k then none else
      (decT (n - k) (!v) false (b.drop (putB k).length)).map fun p => (List.replicate k v ++ p.1, (putB k).length + p.2)
termination_by 2 * n + (if first then 1 else 0)
decreasing_by
  have h1 : ¬ n < k := fun e => hk (.inr e)
  have h2 : ¬ (k = 0 ∧ first = false) := fun e => hk (.inl e)
  cases first
  · have : k ≠ 0 := fun e => h2 ⟨e, rfl⟩
    simp only [Bool.false_eq_true, if_false]
    omega
  · simp only [Bool.false_eq_true, if_false, if_true]
    omega
theorem decT_zero (v first : Bool) (b : List UInt8) : decT 0 v first b = some ([], 0) := by rw [decT, dif_pos rfl]
theorem decT_bad1 {n : Nat} {v first : Bool} {b : List UInt8} (hn : n ≠ 0) (h : takeV b = none) : decT n v first b = none := by rw [decT, dif_neg hn, h]
theorem decT_bad2 {n : Nat} {v first : Bool} {b : List UInt8} {k : Nat} (hn : n ≠ 0) (h : takeV b = some k) (h3 : (k = 0 ∧ first = false) ∨ n < k) : decT n v first b = none := by
  rw [decT, dif_neg hn, h]; simp only []; rw [dif_pos h3]
theorem decT_step {n : Nat} {v first : Bool} {b : List UInt8} {k : Nat} (hn : n ≠ 0) (h : takeV b = some k) (h3 : ¬ ((k = 0 ∧ first = false) ∨ n < k)) :
    decT n v first b = (decT (n - k) (!v) false (b.drop (putB k).length)).map fun p => (List.replicate k v ++ p.1, (putB k).length + p.2) := by
  rw [decT, dif_neg hn, h]; simp only []; rw [dif_neg h3]

theorem boolsF_repl (v : Bool) (k : Nat) {l : List Bool} (h : l.head? ≠ some v) (hl : 0 < k + l.length) : boolsF v (List.replicate k v ++ l) = putB k ++ boolsF (!v) l := by
  have hne : List.replicate k v ++ l ≠ [] := by
    intro e
    have := congrArg List.length e
    rw [List.length_append, List.length_replicate, List.length_nil] at this
    omega
  rw [boolsF_cons hne, leadN_repl v k h]
  congr 2
  rw [List.drop_append_of_le_length (by simp), List.drop_eq_nil_of_le (by simp), List.nil_append]
theorem head_not {v : Bool} {l : List Bool} (h : l.head? ≠ some v) : l = [] ∨ l.head? = some (!v) := by
  cases l with
  | nil => exact .inl rfl
  | cons x l => right; cases x <;> cases v <;> simp_all
/-- What is taken is what is put. -/
theorem decT_iff : ∀ (n : Nat), n < 18446744073709551616 → ∀ (v first : Bool) (b : List UInt8) (l : List Bool) (u : Nat), decT n v first b = some (l, u) ↔ l.length = n ∧ (first = false → l = [] ∨ l.head? = some v) ∧ boolsF v l <+: b ∧ u = (boolsF v l).length := by
  have main : ∀ (m n : Nat) (v first : Bool), 2 * n + (if first = true then 1 else 0) = m → n < 18446744073709551616 → ∀ (b : List UInt8) (l : List Bool) (u : Nat), decT n v first b = some (l, u) ↔ l.length = n ∧ (first = false → l = [] ∨ l.head? = some v) ∧ boolsF v l <+: b ∧ u = (boolsF v l).length := by
    intro m
    induction m using Nat.strongRecOn with
    | ind m ih =>
      intro n v first hm hnn b l u
      by_cases hn : n = 0
      · subst hn
        rw [decT_zero]
        constructor
        · intro h; cases h; exact ⟨rfl, fun _ => .inl rfl, by rw [boolsF_nil]; exact List.nil_prefix, by rw [boolsF_nil]; rfl⟩
        · rintro ⟨h, _, _, rfl⟩
          rw [List.length_eq_zero_iff.1 h, boolsF_nil]; rfl
      · cases hk : takeV b with
        | none =>
          rw [decT_bad1 hn hk]
          constructor
          · intro h; cases h
          · rintro ⟨h1, _, h3, _⟩
            have hl : l ≠ [] := by intro e; rw [e] at h1; exact hn h1.symm
            rw [boolsF_cons hl, prefix_app] at h3
            have hle := leadN_le v l
            exact absurd ⟨by omega, h3.1⟩ (takeV_none.1 hk (leadN v l))
        | some k =>
          have tk := takeV_some.1 hk
          by_cases h3 : (k = 0 ∧ first = false) ∨ n < k
          · rw [decT_bad2 hn hk h3]
            constructor
            · intro h; cases h
            · rintro ⟨h1, h2, h4, _⟩
              have hl : l ≠ [] := by intro e; rw [e] at h1; exact hn h1.symm
              rw [boolsF_cons hl, prefix_app] at h4
              have hle := leadN_le v l
              have e := tk.uniq ⟨by omega, h4.1⟩
              rcases h3 with ⟨e0, ef⟩ | h3
              · have := (h2 ef).resolve_left hl
                cases l with
                | nil => exact absurd rfl hl
                | cons x l =>
                  simp only [List.head?_cons, Option.some.injEq] at this
                  rw [leadN, if_pos this] at e
                  omega
              · omega
          · rw [decT_step hn hk h3]
            have hlt : 2 * (n - k) + (if (false = true) then 1 else 0) < m := by
              have h1 : ¬ n < k := fun e => h3 (.inr e)
              have h2 : ¬ (k = 0 ∧ first = false) := fun e => h3 (.inl e)
              rw [← hm]
              cases first
              · have : k ≠ 0 := fun e => h2 ⟨e, rfl⟩
                simp
                omega
              · simp
                omega
            have ih2 := ih _ hlt (n - k) (!v) false rfl (by omega) (b.drop (putB k).length)
            constructor
            · intro h
              obtain ⟨⟨r, s⟩, hr, he⟩ := Option.map_eq_some_iff.1 h
              cases he
              obtain ⟨a1, a2, a3, a4⟩ := (ih2 r s).1 hr
              have hh : r.head? ≠ some v := by
                rcases a2 rfl with rfl | a2
                · simp
                · rw [a2]; cases v <;> simp
              have hkn : k ≤ n := by have : ¬ n < k := fun e => h3 (.inr e); omega
              have e := boolsF_repl v k hh (by omega)
              refine ⟨by simp; omega, fun hf => ?_, ?_, ?_⟩
              · right
                have hk0 : k ≠ 0 := fun e => h3 (.inl ⟨e, hf⟩)
                obtain ⟨j, rfl⟩ : ∃ j, k = j + 1 := ⟨k - 1, by omega⟩
                rw [List.replicate_succ]; rfl
              · rw [e, prefix_app]; exact ⟨tk.2, a3⟩
              · rw [e, List.length_append, a4]
            · rintro ⟨h1, h2, h4, h5⟩
              have hl : l ≠ [] := by intro e; rw [e] at h1; exact hn h1.symm
              rw [boolsF_cons hl, prefix_app] at h4
              have hle := leadN_le v l
              have e := tk.uniq ⟨by omega, h4.1⟩
              subst e
              have hr : decT (n - leadN v l) (!v) false (b.drop (putB (leadN v l)).length) = some (l.drop (leadN v l), (boolsF (!v) (l.drop (leadN v l))).length) :=
                (ih2 _ _).2 ⟨by simp; omega, fun _ => head_not (leadN_drop v l), h4.2, rfl⟩
              rw [hr, Option.map_some, h5]
              congr 2
              · exact (lead_split v l).symm
              · rw [boolsF_cons hl, List.length_append]
  intro n hn v first b l u
  exact main _ n v first rfl hn b l u

end Go.Proofs.YtgmdimbiipemhaaGreatDoor
