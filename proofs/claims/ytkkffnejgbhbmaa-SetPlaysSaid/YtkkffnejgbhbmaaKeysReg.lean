/- The keys of the registers' maps. -/
import Derived.Test.YtkkffnejgbhbmaaKeys
import Derived.Test.YtkkffnejgbhbmaaStamp
namespace Go.Proofs.Ytkkffnejgbhbmaa
open Go.RowKit
set_option linter.unusedSimpArgs false
set_option linter.unusedVariables false

theorem und_stamp : Try.prog.underlying 30 = some (.struct (Try.prog.fieldsOf 30)) := by kernel_rfl

theorem eq_stamp (a b : St) (w : World) : (Op.equal 30 a.val b.val).run Try.prog w = .ok (decide (a = b)) w := by
  obtain ⟨a1, a2⟩ := a
  obtain ⟨b1, b2⟩ := b
  unfold Op.equal Op.maxDepth St.val
  go_simp
  by_cases h1 : a1 = b1 <;> by_cases h2 : a2 = b2 <;> simp [h1, h2]

theorem check_stamp (em : Bool) (a : St) (w : World) : (Instr.checkKey em 10000 30 a.val).run Try.prog w = .ok () w := by
  obtain ⟨a1, a2⟩ := a
  kernel_rfl

theorem key_stamp {V : Type} : KeyTy (V := V) Try.prog 30 St.val :=
  KeyTy.of_equal und_stamp (fun a => ⟨_, rfl⟩) check_stamp eq_stamp (fun a => by simp [St.val, Instr.sameBits])


/-- A name of a block. -/
structure Pl where
  blk : St
  name : ByteArray
  deriving DecidableEq

def Pl.val (p : Pl) : Value := .agg #[.int .i64 p.blk.n, .int .i64 p.blk.r, .string p.name]

theorem und_place : Try.prog.underlying 53 = some (.struct (Try.prog.fieldsOf 53)) := by kernel_rfl

theorem eq_bytes (a b : ByteArray) : a.toList = b.toList ↔ a = b := by
  rw [ByteArray.toList_eq, ByteArray.toList_eq]
  constructor
  · intro h
    obtain ⟨x⟩ := a
    obtain ⟨y⟩ := b
    exact congrArg ByteArray.mk (Array.toList_inj.1 h)
  · intro h; rw [h]

theorem eq_place (a b : Pl) (w : World) : (Op.equal 53 a.val b.val).run Try.prog w = .ok (decide (a = b)) w := by
  obtain ⟨⟨a1, a2⟩, a3⟩ := a
  obtain ⟨⟨b1, b2⟩, b3⟩ := b
  unfold Op.equal Op.maxDepth Pl.val
  go_simp
  have h3 := eq_bytes a3 b3
  by_cases h1 : a1 = b1 <;> by_cases h2 : a2 = b2 <;> by_cases h4 : a3 = b3 <;> simp [h1, h2, h4, h3]

theorem check_place (em : Bool) (a : Pl) (w : World) : (Instr.checkKey em 10000 53 a.val).run Try.prog w = .ok () w := by
  obtain ⟨⟨a1, a2⟩, a3⟩ := a
  kernel_rfl

theorem key_place {V : Type} : KeyTy (V := V) Try.prog 53 Pl.val :=
  KeyTy.of_equal und_place (fun a => ⟨_, rfl⟩) check_place eq_place (fun a => by simp [Pl.val, Instr.sameBits, beq_toListBytes])

end Go.Proofs.Ytkkffnejgbhbmaa
