/- Stamps as a map's keys; equal bytes. -/
import Derived.Test.YtilonmpcifohiaaKeys
import Derived.Test.YtilonmpcifohiaaStamp
namespace Go.Proofs.Ytilonmpcifohiaa
open Go.RowKit
set_option linter.unusedSimpArgs false
set_option linter.unusedVariables false

theorem und_stamp : Try.prog.underlying 24 = some (.struct (Try.prog.fieldsOf 24)) := by kernel_rfl

theorem eq_stamp (a b : St) (w : World) : (Op.equal 24 a.val b.val).run Try.prog w = .ok (decide (a = b)) w := by
  obtain ⟨a1, a2⟩ := a
  obtain ⟨b1, b2⟩ := b
  unfold Op.equal Op.maxDepth St.val
  go_simp
  by_cases h1 : a1 = b1 <;> by_cases h2 : a2 = b2 <;> simp [h1, h2]

theorem check_stamp (em : Bool) (a : St) (w : World) : (Instr.checkKey em 10000 24 a.val).run Try.prog w = .ok () w := by
  obtain ⟨a1, a2⟩ := a
  kernel_rfl

theorem key_stamp {V : Type} : KeyTy (V := V) Try.prog 24 St.val :=
  KeyTy.of_equal und_stamp (fun a => ⟨_, rfl⟩) check_stamp eq_stamp (fun a => by simp [St.val, Instr.sameBits])

theorem eq_bytes (a b : ByteArray) : a.toList = b.toList ↔ a = b := by
  rw [ByteArray.toList_eq, ByteArray.toList_eq]
  constructor
  · intro h
    obtain ⟨x⟩ := a
    obtain ⟨y⟩ := b
    exact congrArg ByteArray.mk (Array.toList_inj.1 h)
  · intro h; rw [h]

end Go.Proofs.Ytilonmpcifohiaa
