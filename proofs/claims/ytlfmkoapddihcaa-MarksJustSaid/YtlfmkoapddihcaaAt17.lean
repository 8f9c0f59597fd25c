/- Layer 17: found's own closure: where an anchor stands. -/
import Derived.Test.YtlfmkoapddihcaaOp17
import Derived.Test.YtlfmkoapddihcaaKeySt
namespace Go.Proofs.Ytlfmkoapddihcaa
open Go.RowKit
set_option linter.unusedSimpArgs false
set_option linter.unusedVariables false

def intV (i : Int) : Value := .int .i64 i
theorem und_places : Try.prog.underlying 68 = some (.map 31 3) := by kernel_rfl
theorem zero_int (w : World) : (zeroValue 3).run Try.prog w = .ok (.int .i64 0) w := by kernel_rfl
attribute [local go_sem] MapIs.alloc MapIs.drew MapIs.setCell

/-- Where an anchor stands, by the places that are noted. -/
def atI (hl : List (St × Int)) (a : St) (aft : Bool) : Int := (aget hl a).getD 0 + if aft = true then 1 else 0

set_option maxHeartbeats 1000000 in
theorem at_any (pb mh : Nat) (hl : List (St × Int)) (a : St) (aft : Bool) (w : World) (hc : w.cell? ⟨pb, 0, none⟩ = some (.map (some mh))) (hm : MapIs St.val intV w mh hl) (hb : ∀ k i, aget hl k = some i → 0 ≤ i ∧ i ≤ 1000) :
    Calls Try.prog 29 #[.agg #[.int .i64 a.n, .int .i64 a.r, .bool aft], .pointer (some ⟨pb, 0, none⟩)] w
      fun e w' => e = .returned (.tuple #[.int .i64 (atI hl a aft), .bool (aget hl a).isSome]) ∧ Below w.heap.size w w' := by
  have hlt := cell_lt hc
  have hi : 0 ≤ (aget hl a).getD 0 ∧ (aget hl a).getD 0 ≤ 1000 := by
    cases h : aget hl a with
    | none => simp
    | some i => exact hb a i h
  have hlk : ∀ W, MapIs St.val intV W mh hl → (Instr.lookup 68 (.map (some mh)) (.agg #[.int .i64 a.n, .int .i64 a.r]) true).run Try.prog W = .ok (.tuple #[.int .i64 ((aget hl a).getD 0), .bool (aget hl a).isSome]) W := fun W hW => by
    have := hW.lookupOk key_stamp und_places zero_int a
    rw [show ((aget hl a).map intV).getD (.int .i64 0) = .int .i64 ((aget hl a).getD 0) from by cases aget hl a <;> rfl] at this
    exact this
  unfold atI
  generalize (aget hl a).getD 0 = i at *
  generalize (aget hl a).isSome = is at *
  obtain ⟨i0, i1⟩ := hi
  clear hb
  cases aft with
  | false =>
    go_enter Try.func29, Try.ntmps29
    go_wp2_with fail
    go_ret2
    exact ⟨by simp, (Below.refl _ _).alloc (Nat.le_refl _) _⟩
  | true =>
    go_enter Try.func29, Try.ntmps29
    go_wp2_with fail
    go_ret2
    exact ⟨by simp, (Below.refl _ _).alloc (Nat.le_refl _) _⟩

end Go.Proofs.Ytlfmkoapddihcaa
