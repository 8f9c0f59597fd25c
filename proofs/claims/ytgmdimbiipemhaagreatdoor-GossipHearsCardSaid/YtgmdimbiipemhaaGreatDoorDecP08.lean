/- Truths taken from bytes, as a loop does it, plain. -/
import Derived.Test.YtgmdimbiipemhaaGreatDoorColP08
namespace Go.Proofs.YtgmdimbiipemhaaGreatDoor
set_option linter.unusedSimpArgs false
set_option linter.unusedVariables false

/-- So many are taken: these, up to here; the next run is of v. -/
def TB (b : List UInt8) (n : Nat) (l : List Bool) (at' : Nat) (v : Bool) : Prop :=
  decT n false true b = (decT (n - l.length) v (decide (at' = 0)) (b.drop at')).map fun p => (l ++ p.1, at' + p.2)
theorem TB.zero (b : List UInt8) (n : Nat) : TB b n [] 0 false := by
  unfold TB
  simp
theorem TB.step {b : List UInt8} {n : Nat} {l : List Bool} {p k : Nat} {v : Bool} (h : TB b n l p v) (hl : l.length < n) (hk : takeV (b.drop p) = some k) (h0 : ¬ (k = 0 ∧ p ≠ 0)) (hkn : k ≤ n - l.length) :
    TB b n (l ++ List.replicate k v) (p + (putB k).length) (!v) := by
  unfold TB at h ⊢
  have hp : 0 < (putB k).length := List.length_pos_iff.2 (putB_ne k)
  have e : decide (p + (putB k).length = 0) = false := decide_eq_false (by omega)
  rw [h, decT_step (by omega) hk (by
    rintro (⟨h1, h2⟩ | h1)
    · exact h0 ⟨h1, of_decide_eq_false h2⟩
    · omega), e, List.length_append, List.length_replicate, List.drop_drop, Option.map_map, Nat.sub_add_eq]
  congr 1
  funext q
  simp [Nat.add_assoc]
theorem TB.bad {b : List UInt8} {n : Nat} {l : List Bool} {p : Nat} {v : Bool} (h : TB b n l p v) (hl : l.length < n) (hb : takeV (b.drop p) = none ∨ ∃ k, takeV (b.drop p) = some k ∧ ((k = 0 ∧ p ≠ 0) ∨ n - l.length < k)) : decT n false true b = none := by
  unfold TB at h
  rw [h]
  rcases hb with hb | ⟨k, hk, hb⟩
  · rw [decT_bad1 (by omega) hb]; rfl
  · rw [decT_bad2 (by omega) hk (by
      rcases hb with ⟨h1, h2⟩ | h1
      · exact .inl ⟨h1, decide_eq_false h2⟩
      · exact .inr h1)]
    rfl
theorem TB.done {b : List UInt8} {n : Nat} {l : List Bool} {p : Nat} {v : Bool} (h : TB b n l p v) (hl : l.length = n) : decT n false true b = some (l, p) := by
  unfold TB at h
  rw [h, hl, Nat.sub_self, decT_zero]
  simp
/-- What was taken is what would be put. -/
theorem TB.puts {b : List UInt8} {n : Nat} {l : List Bool} {p : Nat} {v : Bool} (h : TB b n l p v) (hl : l.length = n) (hn : n < 18446744073709551616) : boolsB l = b.take p ∧ p ≤ b.length := by
  obtain ⟨_, _, h1, h2⟩ := (decT_iff n hn false true b l p).1 (h.done hl)
  unfold boolsB
  have hle := h1.length_le
  obtain ⟨t, rfl⟩ := h1
  refine ⟨?_, by omega⟩
  rw [h2, List.take_left]

/-- Numbers: so many are taken, up to here. -/
def TR (b : List UInt8) (n : Nat) (l : List Int) (p : Nat) : Prop :=
  decR n none b = (decR (n - l.length) l.getLast? (b.drop p)).map fun q => (l ++ q.1, p + q.2)
theorem TR.zero (b : List UInt8) (n : Nat) : TR b n [] 0 := by
  unfold TR
  simp
theorem last_repl (l : List Int) (k : Nat) (x : Int) (hk : k ≠ 0) : (l ++ List.replicate k x).getLast? = some x := by
  obtain ⟨j, rfl⟩ : ∃ j, k = j + 1 := ⟨k - 1, by omega⟩
  rw [List.replicate_succ', ← List.append_assoc, List.getLast?_concat]
theorem TR.step {b : List UInt8} {n : Nat} {l : List Int} {p k v : Nat} (h : TR b n l p) (hk : takeV (b.drop p) = some k) (hv : takeV (b.drop (p + (putB k).length)) = some v) (h0 : k ≠ 0) (hkn : k ≤ n - l.length) (hp : l.getLast? ≠ some (zagI v)) :
    TR b n (l ++ List.replicate k (zagI v)) (p + (putB k).length + (putB v).length) := by
  unfold TR at h ⊢
  rw [h, decR_step hk (by rw [List.drop_drop]; exact hv) h0 hkn hp, last_repl _ _ _ h0, List.length_append, List.length_replicate, List.drop_drop, Option.map_map, Nat.sub_add_eq, Nat.add_assoc]
  congr 1
  funext q
  simp [Nat.add_assoc]
theorem TR.bad {b : List UInt8} {n : Nat} {l : List Int} {p : Nat} (h : TR b n l p) (hl : l.length < n) (hb : takeV (b.drop p) = none ∨ ∃ k, takeV (b.drop p) = some k ∧ (takeV (b.drop (p + (putB k).length)) = none ∨ ∃ v, takeV (b.drop (p + (putB k).length)) = some v ∧ (k = 0 ∨ n - l.length < k ∨ l.getLast? = some (zagI v)))) : decR n none b = none := by
  unfold TR at h
  rw [h]
  rcases hb with hb | ⟨k, hk, hb | ⟨v, hv, hb⟩⟩
  · rw [decR_bad1 (by omega) hb]; rfl
  · rw [decR_bad2 (by omega) hk (by rw [List.drop_drop]; exact hb)]; rfl
  · rw [decR_bad3 (by omega) hk (by rw [List.drop_drop]; exact hv) hb]; rfl
theorem TR.done {b : List UInt8} {n : Nat} {l : List Int} {p : Nat} (h : TR b n l p) (hl : l.length = n) : decR n none b = some (l, p) := by
  unfold TR at h
  rw [h, hl, Nat.sub_self, decR_zero]
  simp
/-- What the document's loop keeps: it asks only at the end whether two runs were of one number. -/
def TRd (b : List UInt8) (n : Nat) (l : List Int) (p : Nat) : Prop := (TR b n l p ∨ decR n none b = none) ∧ ∀ x ∈ l, zigN x < 18446744073709551616
theorem TRd.zero (b : List UInt8) (n : Nat) : TRd b n [] 0 := ⟨.inl (TR.zero b n), fun x hx => by simp at hx⟩
theorem TRd.step {b : List UInt8} {n : Nat} {l : List Int} {p k v : Nat} (h : TRd b n l p) (hl : l.length < n) (hk : takeV (b.drop p) = some k) (hv : takeV (b.drop (p + (putB k).length)) = some v) (h0 : k ≠ 0) (hkn : k ≤ n - l.length) :
    TRd b n (l ++ List.replicate k (zagI v)) (p + (putB k).length + (putB v).length) := by
  refine ⟨?_, fun x hx => ?_⟩
  · rcases h.1 with h1 | h1
    · by_cases hp : l.getLast? = some (zagI v)
      · exact .inr (h1.bad hl (.inr ⟨k, hk, .inr ⟨v, hv, .inr (.inr hp)⟩⟩))
      · exact .inl (h1.step hk hv h0 hkn hp)
    · exact .inr h1
  · rcases List.mem_append.1 hx with hx | hx
    · exact h.2 x hx
    · rw [(List.mem_replicate.1 hx).2, zig_zag]; exact (takeV_some.1 hv).1
theorem TRd.bad {b : List UInt8} {n : Nat} {l : List Int} {p : Nat} (h : TRd b n l p) (hl : l.length < n) (hb : takeV (b.drop p) = none ∨ ∃ k, takeV (b.drop p) = some k ∧ (takeV (b.drop (p + (putB k).length)) = none ∨ ∃ v, takeV (b.drop (p + (putB k).length)) = some v ∧ (k = 0 ∨ n - l.length < k))) : decR n none b = none := by
  rcases h.1 with h1 | h1
  · refine h1.bad hl ?_
    rcases hb with hb | ⟨k, hk, hb | ⟨v, hv, hb⟩⟩
    · exact .inl hb
    · exact .inr ⟨k, hk, .inl hb⟩
    · exact .inr ⟨k, hk, .inr ⟨v, hv, hb.elim .inl (fun h => .inr (.inl h))⟩⟩
  · exact h1
theorem TRd.good {b : List UInt8} {n : Nat} {l : List Int} {p : Nat} (h : TRd b n l p) (hl : l.length = n) (hn : n < 18446744073709551616) (hp : p ≤ b.length) (hr : runsB l = b.take p) : decR n none b = some (l, p) :=
  (decR_iff n hn none b l p).2 (.inl ⟨hl, fun h => absurd rfl h, h.2, by rw [hr]; exact List.take_prefix _ _, by rw [hr, List.length_take]; omega⟩)
theorem TRd.wrong {b : List UInt8} {n : Nat} {l : List Int} {p : Nat} (h : TRd b n l p) (hl : l.length = n) (hn : n < 18446744073709551616) (hr : runsB l ≠ b.take p) : decR n none b = none := by
  rcases h.1 with h1 | h1
  · have e := h1.done hl
    rcases (decR_iff n hn none b l p).1 e with ⟨_, _, _, a4, a5⟩ | ⟨_, rfl, rfl⟩
    · exact absurd (by obtain ⟨t, rfl⟩ := a4; rw [a5, List.take_left]) hr
    · exact absurd (by simp [runsB]) hr
  · exact h1

end Go.Proofs.YtgmdimbiipemhaaGreatDoor
