/- Numbers as few bytes, plain: base 128, the last one below 128. -/
import Derived.Test.YtgmdimbiipemhaaGreatDoorRows
namespace Go.Proofs.YtgmdimbiipemhaaGreatDoor
set_option linter.unusedSimpArgs false
set_option linter.unusedVariables false

/-- A number as bytes. -/
def putB (n : Nat) : List UInt8 := if n < 128 then [UInt8.ofNat n] else UInt8.ofNat (n % 128 + 128) :: putB (n / 128)
termination_by n
decreasing_by omega
theorem putB_lt {n : Nat} (h : n < 128) : putB n = [UInt8.ofNat n] := by rw [putB, if_pos h]
theorem putB_ge {n : Nat} (h : ¬ n < 128) : putB n = UInt8.ofNat (n % 128 + 128) :: putB (n / 128) := by rw [putB, if_neg h]
theorem putB_ne (n : Nat) : putB n ≠ [] := by
  rw [putB]
  split <;> simp
theorem u8_nat {n : Nat} (h : n < 256) : (UInt8.ofNat n).toNat = n := by simp; omega
/-- No number's bytes begin another one's. -/
theorem putB_uniq : ∀ (n m : Nat) (b : List UInt8), putB n <+: b → putB m <+: b → n = m := by
  intro n
  induction n using Nat.strongRecOn with
  | ind n ih =>
    intro m b hn hm
    by_cases h1 : n < 128
    · by_cases h2 : m < 128
      · rw [putB_lt h1] at hn
        rw [putB_lt h2] at hm
        obtain ⟨t, rfl⟩ := hn
        obtain ⟨s, e⟩ := hm
        simp only [List.cons_append, List.nil_append, List.cons.injEq] at e
        have := congrArg UInt8.toNat e.1
        rw [u8_nat (by omega), u8_nat (by omega)] at this
        exact this.symm
      · rw [putB_lt h1] at hn
        rw [putB_ge h2] at hm
        obtain ⟨t, rfl⟩ := hn
        obtain ⟨s, e⟩ := hm
        simp only [List.cons_append, List.nil_append, List.cons.injEq] at e
        have := congrArg UInt8.toNat e.1
        rw [u8_nat (by omega), u8_nat (by omega)] at this
        omega
    · by_cases h2 : m < 128
      · rw [putB_ge h1] at hn
        rw [putB_lt h2] at hm
        obtain ⟨t, rfl⟩ := hm
        obtain ⟨s, e⟩ := hn
        simp only [List.cons_append, List.nil_append, List.cons.injEq] at e
        have := congrArg UInt8.toNat e.1
        rw [u8_nat (by omega), u8_nat (by omega)] at this
        omega
      · rw [putB_ge h1] at hn
        rw [putB_ge h2] at hm
        cases b with
        | nil => simp at hn
        | cons x b =>
          rw [List.cons_prefix_cons] at hn hm
          have e := congrArg UInt8.toNat (hn.1.trans hm.1.symm)
          rw [u8_nat (by omega), u8_nat (by omega)] at e
          have := ih (n / 128) (by omega) (m / 128) b hn.2 hm.2
          omega
/-- What bytes say, read as they come. -/
def valB : List UInt8 → Nat
  | [] => 0
  | x :: l => x.toNat % 128 + 128 * valB l
theorem valB_snoc : ∀ (l : List UInt8) (x : UInt8), valB (l ++ [x]) = valB l + x.toNat % 128 * 128 ^ l.length
  | [], x => by simp [valB]
  | y :: l, x => by
    rw [List.cons_append, valB, valB_snoc l x, valB, List.length_cons, Nat.pow_succ]
    rw [Nat.mul_add, ← Nat.mul_assoc, Nat.mul_comm 128 (x.toNat % 128), Nat.mul_assoc, Nat.mul_comm 128 (128 ^ l.length)]
    omega
theorem valB_lt : ∀ l : List UInt8, valB l < 128 ^ l.length
  | [] => by simp [valB]
  | x :: l => by
    have := valB_lt l
    rw [valB, List.length_cons, Nat.pow_succ]
    have : x.toNat % 128 < 128 := Nat.mod_lt _ (by omega)
    omega
/-- Read back. -/
theorem putB_val : ∀ (l : List UInt8) (x : UInt8), (∀ y ∈ l, 128 ≤ y.toNat) → x.toNat < 128 → (l ≠ [] → x.toNat ≠ 0) → putB (valB (l ++ [x])) = l ++ [x]
  | [], x, _, h2, _ => by
    simp only [List.nil_append, valB, Nat.mul_zero, Nat.add_zero]
    rw [Nat.mod_eq_of_lt h2, putB_lt h2]
    simp
  | y :: l, x, h1, h2, h3 => by
    have hy := h1 y (by simp)
    have hy2 : y.toNat < 256 := y.toNat_lt
    have hp : 0 < valB (l ++ [x]) := by
      rw [valB_snoc, Nat.mod_eq_of_lt h2]
      have := h3 (by simp)
      have h4 : 0 < 128 ^ l.length := Nat.pow_pos (by omega)
      have : 0 < x.toNat * 128 ^ l.length := Nat.mul_pos (by omega) h4
      omega
    have ih := putB_val l x (fun z hz => h1 z (by simp [hz])) h2 (fun _ => h3 (by simp))
    rw [List.cons_append, valB, putB_ge (by omega)]
    have e1 : (y.toNat % 128 + 128 * valB (l ++ [x])) / 128 = valB (l ++ [x]) := by omega
    have e2 : (y.toNat % 128 + 128 * valB (l ++ [x])) % 128 + 128 = y.toNat := by omega
    rw [e1, e2, ih]
    simp
/-- How a number's bytes are made. -/
theorem putB_shape : ∀ (n : Nat), ∃ l x, putB n = l ++ [x] ∧ (∀ y ∈ l, 128 ≤ y.toNat) ∧ x.toNat < 128 ∧ (l ≠ [] → x.toNat ≠ 0) ∧ valB (l ++ [x]) = n := by
  intro n
  induction n using Nat.strongRecOn with
  | ind n ih =>
    by_cases h : n < 128
    · refine ⟨[], UInt8.ofNat n, by rw [putB_lt h]; rfl, fun y hy => by simp at hy, by rw [u8_nat (by omega)]; exact h, fun h => absurd rfl h, ?_⟩
      simp only [List.nil_append, valB]
      rw [u8_nat (by omega)]
      omega
    · obtain ⟨l, x, h1, h2, h3, h4, h5⟩ := ih (n / 128) (by omega)
      refine ⟨UInt8.ofNat (n % 128 + 128) :: l, x, by rw [putB_ge h, h1]; rfl, fun y hy => ?_, h3, fun _ hx => ?_, ?_⟩
      · rcases List.mem_cons.1 hy with rfl | hy
        · rw [u8_nat (by omega)]; omega
        · exact h2 y hy
      · by_cases hl : l = []
        · subst hl
          simp only [List.nil_append, valB] at h5
          omega
        · exact h4 hl hx
      · rw [List.cons_append, valB, h5, u8_nat (by omega)]
        omega
theorem putB_len (n k : Nat) (hk : 0 < k) : (putB n).length ≤ k ↔ n < 128 ^ k := by
  induction k generalizing n with
  | zero => omega
  | succ k ih =>
    by_cases h : n < 128
    · rw [putB_lt h]
      have : 128 ≤ 128 ^ (k + 1) := by rw [Nat.pow_succ]; have := Nat.pow_pos (n := k) (show 0 < 128 by omega); omega
      simp
      omega
    · rw [putB_ge h, List.length_cons, Nat.pow_succ]
      by_cases hk0 : k = 0
      · subst hk0
        have := putB_ne (n / 128)
        have h1 : 0 < (putB (n / 128)).length := List.length_pos_iff.2 this
        rw [Nat.pow_zero, Nat.one_mul]
        constructor
        · intro h2; omega
        · intro h2; exact absurd h2 h
      · have := ih (n / 128) (by omega)
        rw [Nat.add_le_add_iff_right, this]
        rw [Nat.div_lt_iff_lt_mul (by omega)]

/-- A number taken from the front of bytes. -/
def TakeIs (b : List UInt8) (n : Nat) : Prop := n < 18446744073709551616 ∧ putB n <+: b
theorem TakeIs.uniq {b : List UInt8} {n m : Nat} (h : TakeIs b n) (k : TakeIs b m) : n = m := putB_uniq n m b h.2 k.2
open Classical in
noncomputable def takeV (b : List UInt8) : Option Nat := if h : ∃ n, TakeIs b n then some (Classical.choose h) else none
theorem takeV_some {b : List UInt8} {n : Nat} : takeV b = some n ↔ TakeIs b n := by
  unfold takeV
  constructor
  · intro h
    split at h
    · rename_i hx
      cases h
      exact Classical.choose_spec hx
    · cases h
  · intro h
    have hx : ∃ n, TakeIs b n := ⟨n, h⟩
    rw [dif_pos hx]
    exact congrArg some ((Classical.choose_spec hx).uniq h)
theorem takeV_none {b : List UInt8} : takeV b = none ↔ ∀ n, ¬ TakeIs b n := by
  constructor
  · intro h n hn
    rw [takeV_some.2 hn] at h
    cases h
  · intro h
    cases hb : takeV b with
    | none => rfl
    | some n => exact absurd (takeV_some.1 hb) (h n)
/-- The first bytes go on: none is the last. -/
def Goes (b : List UInt8) (i : Nat) : Prop := i ≤ b.length ∧ ∀ (j : Nat) x, j < i → b[j]? = some x → 128 ≤ x.toNat
theorem goes_zero (b : List UInt8) : Goes b 0 := ⟨Nat.zero_le _, fun j x hj => absurd hj (by omega)⟩
theorem Goes.succ {b : List UInt8} {i : Nat} {x : UInt8} (h : Goes b i) (hx : b[i]? = some x) (hg : 128 ≤ x.toNat) : Goes b (i + 1) :=
  ⟨(List.getElem?_eq_some_iff.1 hx).1, fun j y hj hy => by
    by_cases e : j = i
    · subst e; rw [hx] at hy; cases hy; exact hg
    · exact h.2 j y (by omega) hy⟩
theorem Goes.all {b : List UInt8} {i : Nat} (h : Goes b i) : ∀ y ∈ b.take i, 128 ≤ y.toNat := fun y hy => by
  obtain ⟨j, hj⟩ := List.getElem?_of_mem hy
  rw [List.getElem?_take] at hj
  split at hj
  · exact h.2 j y (by assumption) hj
  · cases hj
theorem take_snocU {b : List UInt8} {i : Nat} {x : UInt8} (hx : b[i]? = some x) : b.take (i + 1) = b.take i ++ [x] := by
  rw [List.take_add_one, hx, Option.toList_some]
/-- Where they end, the number is read. -/
theorem Goes.stop {b : List UInt8} {i : Nat} {x : UInt8} (h : Goes b i) (hx : b[i]? = some x) (hl : x.toNat < 128) (h0 : 0 < i → x.toNat ≠ 0) (hn : valB (b.take (i + 1)) < 18446744073709551616) :
    TakeIs b (valB (b.take (i + 1))) ∧ (putB (valB (b.take (i + 1)))).length = i + 1 := by
  have hi := (List.getElem?_eq_some_iff.1 hx).1
  have e := putB_val (b.take i) x h.all hl (fun hne => h0 (by
    by_cases e : i = 0
    · subst e; simp at hne
    · omega))
  rw [← take_snocU hx] at e
  refine ⟨⟨hn, ?_⟩, ?_⟩
  · rw [e]; exact List.take_prefix _ _
  · rw [e, List.length_take]; omega
/-- What is no number. -/
theorem Goes.bad {b : List UInt8} {i n : Nat} {x : UInt8} (h : Goes b i) (hx : b[i]? = some x) (hb : (0 < i ∧ x.toNat = 0) ∨ (i = 9 ∧ 1 < x.toNat % 128)) : ¬ TakeIs b n := fun ⟨hn, hp⟩ => by
  obtain ⟨l, y, h1, h2, h3, h4, h5⟩ := putB_shape n
  have hlen : (putB n).length ≤ 10 := (putB_len n 10 (by omega)).2 (by omega)
  rw [h1] at hp hlen
  have hget : ∀ j z, (l ++ [y])[j]? = some z → b[j]? = some z := fun j z hz => by
    obtain ⟨t, rfl⟩ := hp
    rw [List.getElem?_append_left (List.getElem?_eq_some_iff.1 hz).1]
    exact hz
  rw [List.length_append, List.length_cons, List.length_nil] at hlen
  have hyl := hget l.length y (by simp)
  have hll : ¬ l.length < i := fun hlt => by
    have := h.2 l.length y hlt hyl
    omega
  rcases Nat.lt_or_ge i l.length with hil | hil
  · -- it goes on behind i
    obtain ⟨z, hz⟩ : ∃ z, l[i]? = some z := ⟨_, List.getElem?_eq_getElem hil⟩
    have := hget i z (by rw [List.getElem?_append_left hil]; exact hz)
    rw [hx] at this
    cases this
    have hxg := h2 x (List.mem_of_getElem? hz)
    rcases hb with ⟨_, h0⟩ | ⟨h9, _⟩ <;> omega
  · have hil2 : i = l.length := by omega
    subst hil2
    rw [hx] at hyl
    cases hyl
    rcases hb with ⟨h0, hz⟩ | ⟨h9, hz⟩
    · exact h4 (by intro e; rw [e] at h0; simp at h0) hz
    · rw [valB_snoc, h9, Nat.mod_eq_of_lt h3] at h5
      rw [Nat.mod_eq_of_lt h3] at hz
      have : 2 * 128 ^ 9 ≤ x.toNat * 128 ^ 9 := Nat.mul_le_mul_right _ (by omega)
      omega
/-- All bytes are gone through, or ten. -/
theorem Goes.over {b : List UInt8} {i n : Nat} (h : Goes b i) (hi : i = b.length ∨ i = 10) : ¬ TakeIs b n := fun ⟨hn, hp⟩ => by
  obtain ⟨l, y, h1, h2, h3, h4, h5⟩ := putB_shape n
  have hlen : (putB n).length ≤ 10 := (putB_len n 10 (by omega)).2 (by omega)
  have hle := hp.length_le
  rw [h1] at hp hlen hle
  rw [List.length_append, List.length_cons, List.length_nil] at hlen hle
  have hyl : b[l.length]? = some y := by
    obtain ⟨t, rfl⟩ := hp
    rw [List.getElem?_append_left (by simp)]
    simp
  have := h.2 l.length y (by rcases hi with hi | hi <;> omega) hyl
  omega

/-- A number without a sign, and what it comes from. -/
def zigN (n : Int) : Nat := if 0 ≤ n then (2 * n).toNat else (-2 * n - 1).toNat
def zagI (n : Nat) : Int := if n % 2 = 0 then ((n / 2 : Nat) : Int) else -((n / 2 : Nat) : Int) - 1
theorem zag_zig (n : Int) : zagI (zigN n) = n := by
  unfold zagI zigN
  split <;> split <;> omega
theorem zig_zag (n : Nat) : zigN (zagI n) = n := by
  unfold zagI zigN
  split <;> split <;> omega
theorem zigN_lt {n : Int} (h1 : -9223372036854775808 ≤ n) (h2 : n ≤ 9223372036854775807) : zigN n < 18446744073709551616 := by
  unfold zigN
  split <;> omega
theorem zagI_in {n : Nat} (h : n < 18446744073709551616) : -9223372036854775808 ≤ zagI n ∧ zagI n ≤ 9223372036854775807 := by
  unfold zagI
  split <;> omega

end Go.Proofs.YtgmdimbiipemhaaGreatDoor
