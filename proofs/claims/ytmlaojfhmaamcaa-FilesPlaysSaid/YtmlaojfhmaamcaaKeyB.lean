/- Names as a map's keys. -/
import Derived.Test.YtmlaojfhmaamcaaKeys
import Derived.Test.YtmlaojfhmaamcaaRows
namespace Go.Proofs.Ytmlaojfhmaamcaa
open Go.RowKit
set_option linter.unusedSimpArgs false
set_option linter.unusedVariables false

theorem eq_bytes (a b : ByteArray) : a.toList = b.toList ↔ a = b := by
  rw [ByteArray.toList_eq, ByteArray.toList_eq]
  constructor
  · intro h
    obtain ⟨x⟩ := a
    obtain ⟨y⟩ := b
    exact congrArg ByteArray.mk (Array.toList_inj.1 h)
  · intro h; rw [h]

theorem und_string : Try.prog.underlying 9 = some .string := by kernel_rfl
theorem beq_bytes (a b : ByteArray) : (a == b) = decide (a = b) := by
  rw [show (a == b) = (a.data == b.data) from by cases a; cases b; rfl]
  by_cases h : a = b
  · subst h; simp
  · have : ¬ a.data = b.data := fun e => h (by cases a; cases b; cases e; rfl)
    simp [h, this]

theorem run_findNow {V : Type} (k : ByteArray) : ∀ (es : List MapEntry) (l : List (ByteArray × V)) (i : Nat), es.map (·.key) = l.map (fun p => .string p.1) →
    Instr.findNow .string (.string k) es i = some ((aidx l k).map fun j => (i + j, ((es[j]?).map (·.val)).getD undef))
  | [], [], i, _ => by simp [Instr.findNow, aidx]
  | [], _ :: _, _, h => by simp at h
  | _ :: _, [], _, h => by simp at h
  | e :: es, p :: l, i, h => by
    obtain ⟨k', v⟩ := p
    simp only [List.map_cons, List.cons.injEq] at h
    obtain ⟨h1, h2⟩ := h
    have ih := run_findNow k es l (i + 1) h2
    simp only [Instr.findNow, h1, Instr.sameNow]
    by_cases hk : k' = k
    · subst hk
      simp [aidx, beq_bytes]
    · have hk' : ¬ k = k' := fun e => hk e.symm
      have : (k == k') = false := by rw [beq_bytes]; simp [hk']
      simp only [this, ih, aidx, hk, if_false]
      cases aidx l k with
      | none => rfl
      | some j => simp [Nat.add_assoc, Nat.add_comm 1 j]

theorem key_string {V : Type} : KeyTy (V := V) Try.prog 9 Value.string where
  check em k w := by kernel_rfl
  find k es l w h := by
    simp only [Instr.findKey, Sem.run_bind, run_underlying und_string, Result.andThen_ok, run_findNow k es l 0 h, Sem.run_pure]
    cases aidx l k <;> simp
  stays k w := by simp [Instr.keyThatStays, Instr.sameBits, beq_toListBytes]

end Go.Proofs.Ytmlaojfhmaamcaa
