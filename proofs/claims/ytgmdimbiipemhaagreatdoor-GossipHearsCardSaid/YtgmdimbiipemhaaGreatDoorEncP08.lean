/- Operations as bytes, plain. -/
import Derived.Test.YtgmdimbiipemhaaGreatDoorRgtP08
import Derived.Test.YtgmdimbiipemhaaGreatDoorIntsP08
import Derived.Test.YtgmdimbiipemhaaGreatDoorDiffP08
namespace Go.Proofs.YtgmdimbiipemhaaGreatDoor
set_option linter.unusedSimpArgs false
set_option linter.unusedVariables false

def txt (o : OpD) : Nat → ByteArray
  | 0 => o.key
  | 1 => o.name
  | _ => o.value
def tru (o : OpD) : Nat → Bool
  | 0 => o.fa
  | _ => o.ta
/-- A column of numbers, of truths, of texts. -/
def numC (l : List OpD) (c : Nat) : List Int := l.map fun o => fld o c
def colB (l : List OpD) (c : Nat) : List UInt8 := if dlt c then runsB (diffsB (numC l c)) else runsB (numC l c)
def truC (l : List OpD) (c : Nat) : List Bool := l.map fun o => tru o c
def lenC (l : List OpD) (c : Nat) : List Int := l.map fun o => ((txt o c).size : Int)
def catC (l : List OpD) (c : Nat) : List UInt8 := l.flatMap fun o => (txt o c).data.toList
def numsB (l : List OpD) (n : Nat) : List UInt8 := (List.range n).flatMap (colB l)
def trusB (l : List OpD) (n : Nat) : List UInt8 := (List.range n).flatMap fun c => boolsB (truC l c)
def txtsB (l : List OpD) (n : Nat) : List UInt8 := (List.range n).flatMap fun c => runsB (lenC l c) ++ catC l c
/-- The bytes. -/
def encB (l : List OpD) : List UInt8 := putB l.length ++ numsB l 21 ++ trusB l 2 ++ txtsB l 3
theorem numsB_succ (l : List OpD) (n : Nat) : numsB l (n + 1) = numsB l n ++ colB l n := by simp [numsB, List.range_succ]
theorem trusB_succ (l : List OpD) (n : Nat) : trusB l (n + 1) = trusB l n ++ boolsB (truC l n) := by simp [trusB, List.range_succ]
theorem txtsB_succ (l : List OpD) (n : Nat) : txtsB l (n + 1) = txtsB l n ++ (runsB (lenC l n) ++ catC l n) := by simp [txtsB, List.range_succ]
/-- What memory can hold of an operation. -/
def OpD.wf (o : OpD) : Prop := (o.key.size ≤ 9223372036854775807 ∧ o.name.size ≤ 9223372036854775807 ∧ o.value.size ≤ 9223372036854775807) ∧ ∀ c, c < 21 → -9223372036854775808 ≤ fld o c ∧ fld o c ≤ 9223372036854775807
theorem OpD.right_txt {o : OpD} (h : o.right = true) (c : Nat) : (txt o c).size ≤ 64 := by
  have hk : o.kindOk = true := by
    unfold OpD.right at h
    simp only [Bool.and_eq_true] at h
    exact h.2.2.2
  have hn : ∀ {s : ByteArray}, nameB s = true → s.size ≤ 64 := fun h => by
    unfold nameB at h
    rw [Bool.and_eq_true] at h
    have := of_decide_eq_true h.1
    omega
  have hv : ∀ {s : ByteArray}, valueB s = true → s.size ≤ 64 := fun h => by
    unfold valueB at h
    rw [Bool.and_eq_true] at h
    have := of_decide_eq_true h.1
    omega
  have hkey : ∀ {s : ByteArray}, keyB s = true → s.size ≤ 64 := fun h => by
    unfold keyB at h
    rw [Bool.and_eq_true, Bool.and_eq_true] at h
    have := of_decide_eq_true h.1.1
    omega
  have h0 : noText.size ≤ 64 := by show 0 ≤ 64; omega
  have fin : o.key.size ≤ 64 ∧ o.name.size ≤ 64 ∧ o.value.size ≤ 64 := by
    unfold OpD.kindOk at hk
    split at hk
    · rw [Bool.and_eq_true] at hk
      have e := of_decide_eq_true hk.2
      rw [← e]
      exact ⟨h0, h0, h0⟩
    · split at hk
      · rw [Bool.and_eq_true] at hk
        have e := of_decide_eq_true hk.2
        rw [← e]
        exact ⟨h0, h0, h0⟩
      · split at hk
        · rw [Bool.and_eq_true] at hk
          have e := of_decide_eq_true hk.2
          have h1 := hk.1
          unfold OpD.okM at h1
          rw [Bool.and_eq_true] at h1
          have h2 := hkey h1.2
          refine ⟨h2, ?_, ?_⟩ <;> (rw [← e]; exact h0)
        · split at hk
          · rw [Bool.and_eq_true] at hk
            have e := of_decide_eq_true hk.2
            have h1 := hk.1
            unfold OpD.okS at h1
            rw [Bool.and_eq_true, Bool.and_eq_true] at h1
            exact ⟨by rw [← e]; exact h0, hn h1.1.2, hv h1.2⟩
          · split at hk
            · rw [Bool.and_eq_true] at hk
              have e := of_decide_eq_true hk.2
              have h1 := hk.1
              unfold OpD.okK at h1
              rw [Bool.and_eq_true, Bool.and_eq_true] at h1
              exact ⟨by rw [← e]; exact h0, hn h1.1.2, hv h1.2⟩
            · cases hk
  unfold txt
  split
  · exact fin.1
  · exact fin.2.1
  · exact fin.2.2

end Go.Proofs.YtgmdimbiipemhaaGreatDoor
