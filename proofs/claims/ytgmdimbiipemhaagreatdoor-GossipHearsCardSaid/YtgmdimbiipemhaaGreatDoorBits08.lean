/- Bits of numbers; contracts of varint.Zig, varint.Zag, and the document's. -/
import Derived.Test.YtgmdimbiipemhaaGreatDoorColP08
import Derived.WalkKit
import Derived.WalkSpells
import Derived.WalkLawsBesides
import Derived.Lib.Hide
import Derived.IntWalk
namespace Go.Proofs.YtgmdimbiipemhaaGreatDoor
open Go.RowKit
set_option linter.unusedSimpArgs false
set_option linter.unusedVariables false

theorem wrap64_wrapI (n : Int) : wrap64 n = wrapI n := by unfold wrap64 wrapI; rfl
theorem u64_wrap (n : Int) : IntKind.u64.wrap n = n % 18446744073709551616 := by
  unfold IntKind.wrap
  simp [IntKind.bits, IntKind.signed]
theorem u8_wrap (n : Int) : IntKind.u8.wrap n = n % 256 := by
  unfold IntKind.wrap
  simp [IntKind.bits, IntKind.signed]
theorem bits_or_u8 (n : Nat) (h : n < 256) : bits .or .u8 (n : Int) 128 = ((n % 128 + 128 : Nat) : Int) := by
  have key : ∀ m : Fin 256, bits .or .u8 ((m.val : Nat) : Int) 128 = ((m.val % 128 + 128 : Nat) : Int) := by decide +kernel
  exact key ⟨n, h⟩
theorem bits_and_u8 (n : Nat) (h : n < 256) : bits .and .u8 (n : Int) 127 = ((n % 128 : Nat) : Int) := by
  have key : ∀ m : Fin 256, bits .and .u8 ((m.val : Nat) : Int) 127 = ((m.val % 128 : Nat) : Int) := by decide +kernel
  exact key ⟨n, h⟩
theorem ofInt_nat (k n : Nat) : BitVec.ofInt k (n : Int) = BitVec.ofNat k n := by
  apply BitVec.eq_of_toInt_eq
  simp [BitVec.toInt_ofInt, BitVec.toInt_ofNat]
theorem bits_u64 (op : BinOp) (a b c : Nat) (ha : a < 18446744073709551616) (hb : b < 18446744073709551616) (hc : c < 18446744073709551616)
    (h : (match op with | .and => a &&& b | .or => a ||| b | .xor => a ^^^ b | _ => c) = c) (ho : op = .and ∨ op = .or ∨ op = .xor) : bits op .u64 (a : Int) (b : Int) = (c : Int) := by
  unfold bits
  dsimp only
  rw [u64_wrap]
  have e64 : IntKind.u64.bits = 64 := rfl
  rcases ho with rfl | rfl | rfl
  · simp only at h ⊢
    rw [ofInt_nat, ofInt_nat, e64, BitVec.toNat_and, BitVec.toNat_ofNat, BitVec.toNat_ofNat, Nat.mod_eq_of_lt (by omega), Nat.mod_eq_of_lt (by omega), h]
    omega
  · simp only at h ⊢
    rw [ofInt_nat, ofInt_nat, e64, BitVec.toNat_or, BitVec.toNat_ofNat, BitVec.toNat_ofNat, Nat.mod_eq_of_lt (by omega), Nat.mod_eq_of_lt (by omega), h]
    omega
  · simp only at h ⊢
    rw [ofInt_nat, ofInt_nat, e64, BitVec.toNat_xor, BitVec.toNat_ofNat, BitVec.toNat_ofNat, Nat.mod_eq_of_lt (by omega), Nat.mod_eq_of_lt (by omega), h]
    omega
theorem bits_and_one (n : Nat) (h : n < 18446744073709551616) : bits .and .u64 (n : Int) 1 = ((n % 2 : Nat) : Int) :=
  bits_u64 .and n 1 (n % 2) h (by omega) (by omega) (Nat.and_one_is_mod n) (.inl rfl)
theorem bits_or_shift (a x i : Nat) (ha : a < 2 ^ i) (h : a + x * 2 ^ i < 18446744073709551616) : bits .or .u64 (a : Int) ((x * 2 ^ i : Nat) : Int) = ((a + x * 2 ^ i : Nat) : Int) := by
  refine bits_u64 .or a (x * 2 ^ i) _ (by omega) (by omega) h ?_ (.inr (.inl rfl))
  show a ||| x * 2 ^ i = _
  rw [Nat.or_comm, Nat.mul_comm x, ← Nat.two_pow_add_eq_or_of_lt ha, Nat.add_comm]
theorem xor_ones (a : Nat) (h : a < 18446744073709551616) : a ^^^ 18446744073709551615 = 18446744073709551615 - a := by
  have := congrArg BitVec.toNat (BitVec.xor_allOnes (x := BitVec.ofNat 64 a))
  rw [BitVec.toNat_xor, BitVec.toNat_not, BitVec.toNat_ofNat, BitVec.toNat_allOnes, Nat.mod_eq_of_lt (by omega)] at this
  simpa using this
theorem zig_bits {n : Int} (h1 : -9223372036854775808 ≤ n) (h2 : n ≤ 9223372036854775807) : bits .xor .u64 (IntKind.u64.wrap (IntKind.u64.wrap n * 2)) (IntKind.u64.wrap (n / 9223372036854775808)) = (zigN n : Int) := by
  rw [u64_wrap, u64_wrap, u64_wrap]
  by_cases h : 0 ≤ n
  · have e1 : n % 18446744073709551616 * 2 % 18446744073709551616 = ((2 * n).toNat : Int) := by omega
    have e2 : n / 9223372036854775808 % 18446744073709551616 = ((0 : Nat) : Int) := by omega
    rw [e1, e2]
    unfold zigN
    rw [if_pos h]
    exact bits_u64 .xor _ 0 _ (by omega) (by omega) (by omega) (Nat.xor_zero _) (.inr (.inr rfl))
  · have e1 : n % 18446744073709551616 * 2 % 18446744073709551616 = ((18446744073709551616 + 2 * n).toNat : Int) := by omega
    have e2 : n / 9223372036854775808 % 18446744073709551616 = ((18446744073709551615 : Nat) : Int) := by omega
    rw [e1, e2]
    unfold zigN
    rw [if_neg h]
    refine bits_u64 .xor _ 18446744073709551615 _ (by omega) (by omega) (by omega) ?_ (.inr (.inr rfl))
    show _ ^^^ _ = _
    rw [xor_ones _ (by omega)]
    omega
theorem i64_wrap (n : Int) : IntKind.i64.wrap n = wrapI n := by
  rw [← wrap64_wrapI]; exact IntWalk.i64_left n
theorem zag_bits {n : Nat} (h : n < 18446744073709551616) : bits .xor .i64 ((n : Int) / 2) (wrap64 (-wrap64 (bits .and .u64 (n : Int) 1))) = zagI n := by
  rw [bits_and_one n h, wrap64_wrapI, wrap64_wrapI]
  unfold bits
  dsimp only
  rw [i64_wrap]
  have e64 : IntKind.i64.bits = 64 := rfl
  have e0 : ((n : Int) / 2) = ((n / 2 : Nat) : Int) := by omega
  by_cases hp : n % 2 = 0
  · have e1 : wrapI (-wrapI ((n % 2 : Nat) : Int)) = ((0 : Nat) : Int) := by rw [hp]; decide
    rw [e1, e0, ofInt_nat, ofInt_nat, e64, BitVec.toNat_xor, BitVec.toNat_ofNat, BitVec.toNat_ofNat, Nat.mod_eq_of_lt (show n / 2 < 2 ^ 64 by omega), Nat.zero_mod, Nat.xor_zero]
    unfold zagI wrapI
    rw [if_pos hp]
    omega
  · have e1 : wrapI (-wrapI ((n % 2 : Nat) : Int)) = -1 := by rw [show n % 2 = 1 by omega]; decide
    have e2 : (BitVec.ofInt 64 (-1)).toNat = 18446744073709551615 := by decide
    rw [e1, e0, ofInt_nat, e64, BitVec.toNat_xor, BitVec.toNat_ofNat, e2, Nat.mod_eq_of_lt (show n / 2 < 2 ^ 64 by omega), xor_ones _ (by omega)]
    unfold zagI wrapI
    rw [if_neg hp]
    omega

set_option maxHeartbeats 800000 in
theorem zig_any (n : Int) (w : World) (h1 : -9223372036854775808 ≤ n) (h2 : n ≤ 9223372036854775807) : Calls Tryz.prog 148 #[.int .i64 n] w fun e w' => e = .returned (.int .u64 (zigN n)) ∧ w = w' := by
  have hz := zig_bits h1 h2
  have HZ := Lib.hid hz
  clear hz
  go_enter Tryz.func148, Tryz.ntmps148
  go_wp2
  go_ret
  exact ⟨congrArg (fun x => Ending.returned (.int .u64 x)) HZ.out, rfl⟩
set_option maxHeartbeats 800000 in
theorem zag_any (n : Nat) (w : World) (h : n < 18446744073709551616) : Calls Tryz.prog 180 #[.int .u64 n] w fun e w' => e = .returned (.int .i64 (zagI n)) ∧ w = w' := by
  have HZ := Lib.hid (zag_bits h)
  go_enter Tryz.func180, Tryz.ntmps180
  go_wp2
  go_ret
  exact ⟨congrArg (fun x => Ending.returned (.int .i64 x)) HZ.out, rfl⟩
set_option maxHeartbeats 800000 in
theorem rzig_any (n : Int) (w : World) (h1 : -9223372036854775808 ≤ n) (h2 : n ≤ 9223372036854775807) : Calls Tryz.prog 157 #[.int .i64 n] w fun e w' => e = .returned (.int .u64 (zigN n)) ∧ w = w' := by
  by_cases h : 0 ≤ n
  · have hz : zigN n = (2 * n).toNat := by unfold zigN; rw [if_pos h]
    have HZ := Lib.hid hz
    clear hz
    go_enter Tryz.func157, Tryz.ntmps157
    go_wp2
    go_ret
    refine ⟨congrArg (fun x => Ending.returned (.int .u64 x)) ?_, rfl⟩
    rw [HZ.out]
    first | omega | (simp only [u64_wrap]; omega)
  · have hz : zigN n = (-2 * n - 1).toNat := by unfold zigN; rw [if_neg h]
    have HZ := Lib.hid hz
    clear hz
    go_enter Tryz.func157, Tryz.ntmps157
    go_wp2
    go_ret
    refine ⟨congrArg (fun x => Ending.returned (.int .u64 x)) ?_, rfl⟩
    rw [HZ.out]
    first | omega | (simp only [u64_wrap]; omega)
set_option maxHeartbeats 800000 in
theorem rzag_any (n : Nat) (w : World) (h : n < 18446744073709551616) : Calls Tryz.prog 107 #[.int .u64 n] w fun e w' => e = .returned (.int .i64 (zagI n)) ∧ w = w' := by
  by_cases hp : n % 2 = 0
  · have hz : zagI n = ((n / 2 : Nat) : Int) := by unfold zagI; rw [if_pos hp]
    have HZ := Lib.hid hz
    have hp' : (n : Int) % 2 = 0 := by omega
    clear hz hp
    go_enter Tryz.func107, Tryz.ntmps107
    go_wp2
    go_ret
    refine ⟨congrArg (fun x => Ending.returned (.int .i64 x)) ?_, rfl⟩
    rw [HZ.out]
    omega
  · have hz : zagI n = -((n / 2 : Nat) : Int) - 1 := by unfold zagI; rw [if_neg hp]
    have HZ := Lib.hid hz
    have hp' : ¬ (n : Int) % 2 = 0 := by omega
    clear hz hp
    go_enter Tryz.func107, Tryz.ntmps107
    go_wp2
    go_ret
    refine ⟨congrArg (fun x => Ending.returned (.int .i64 x)) ?_, rfl⟩
    rw [HZ.out]
    omega

end Go.Proofs.YtgmdimbiipemhaaGreatDoor
