/- Contracts of varint.Put, stemmaref03.Put. -/
import Derived.Test.YtgmdimbiipemhaaGreatDoorBits08
import Derived.Test.YtgmdimbiipemhaaGreatDoorU8
import Derived.Deep.LoopGhost
import Derived.Deep.CutBlock
import Derived.Deep.DeepCutAuto
namespace Go.Proofs.YtgmdimbiipemhaaGreatDoor
open Go.RowKit
set_option linter.unusedSimpArgs false
set_option linter.unusedVariables false

/-- What Put answers. -/
def BytesPost (w : World) (l : List UInt8) (e : Ending) (w' : World) : Prop := ∃ v, e = .returned v ∧ Own u8c 1 5 w.heap.size w' v l ∧ Below w.heap.size w w'
theorem putB_le10 {n : Nat} (h : n < 18446744073709551616) : (putB n).length ≤ 10 := (putB_len n 10 (by omega)).2 (by omega)

set_option maxRecDepth 20000 in
set_option maxHeartbeats 2000000 in
theorem put_any (n : Nat) (w : World) (h : n < 18446744073709551616) : Calls Tryz.prog 64 #[.int .u64 n] w fun e w' => BytesPost w (putB n) e w' := by
  obtain ⟨i0, hi, hz0, hz1, hz2⟩ := info_parts info_u8
  have HL := Lib.hid (putB_le10 h)
  go_enter Tryz.func64, Tryz.ntmps64
  go_wp2_with fail
  go_loopg [0, 3] n (fun g nv ov wr => ∃ (m : Nat) (s : Sl) (l : List UInt8), g = m ∧ nv = .int .u64 m ∧ ov = .slice s.a s.n s.cap ∧ m < 18446744073709551616 ∧ Hid (putB n = l ++ putB m) ∧ Hid (Own u8c 1 5 w.heap.size wr (.slice s.a s.n s.cap) l ∧ Below w.heap.size w wr))
  case atStart => exact ⟨n, ⟨none, 0, 0⟩, [], rfl, rfl, rfl, h, Lib.hid rfl, Lib.hid ⟨Own.nil, Below.refl _ _⟩⟩
  case round =>
    obtain ⟨m, ⟨sa, sn, sc⟩, l, hg, rfl, rfl, hm, HE, HU⟩ := hrel
    dsimp only at HU ⊢
    have HG := Lib.hid hg
    clear hg
    have hll : l.length ≤ 9 := by
      have h1 := HL.out
      have h2 := List.length_pos_iff.2 (putB_ne m)
      rw [HE.out, List.length_append] at h1
      omega
    have hws := HU.out.2.size
    by_cases h128 : m < 128
    · obtain ⟨y, rfl⟩ : ∃ y : UInt8, m = y.toNat := ⟨UInt8.ofNat m, (u8_nat (by omega)).symm⟩
      have hy := y.toNat_lt
      have hle : ¬ (128 : Int) ≤ (y.toNat : Int) := by omega
      have HEE : Hid (l ++ [y] = putB n) := Lib.hid (by rw [HE.out, putB_lt h128]; simp)
      clear h128
      go_wp2_with (at_builtin; refine wpList_append_struct rfl _ _ _ rfl i0 _ 1 Tryz.underlying22 hi hz0 hz1 hz2 rfl (by omega) u8c_len u8c_one rfl (HU.out.1.alloc _) y wr.heap.size 1 rfl (u8_new _ y) (by unfold maxLen; omega) (by omega) (by simp; omega) ?_)
      intro v' w3 hown3 hx3
      have hB3 := Ext.new (HU.out.2.alloc HU.out.2.size (.cells #[.int .u8 y.toNat] 5)) hx3 (fun i hi _ e => by have := (HU.out.1.blk i e).1; omega) (by simp; omega)
      rw [HEE.out] at hown3
      have HN := Lib.hid (And.intro hown3 hB3)
      clear hown3 hx3 hB3
      go_wp2_with fail
      go_ret
      exact ⟨_, rfl, HN.out.1, HN.out.2⟩
    · have hle : (128 : Int) ≤ (m : Int) := by omega
      obtain ⟨y, hy⟩ : ∃ y : UInt8, y = UInt8.ofNat (m % 128 + 128) := ⟨_, rfl⟩
      have hy2 : y.toNat = m % 128 + 128 := by rw [hy]; exact u8_nat (by omega)
      have HEE : Hid (putB n = (l ++ [y]) ++ putB (m / 128)) := Lib.hid (by rw [HE.out, putB_ge h128, ← hy]; simp)
      have hq : bits .or .u8 ((m : Int) % 256) 128 = (y.toNat : Int) := by
        rw [show (m : Int) % 256 = ((m % 256 : Nat) : Int) by omega, bits_or_u8 _ (by omega), hy2]
        omega
      have hmd : ((m / 128 : Nat) : Int) = (m : Int) / 128 := by omega
      have HMD := Lib.hid hmd
      have hlt : m / 128 < m := by omega
      have HLT := Lib.hid hlt
      clear hy hy2 h128 hmd hlt
      go_wp2_with (at_builtin; refine wpList_append_struct rfl _ _ _ rfl i0 _ 1 Tryz.underlying22 hi hz0 hz1 hz2 rfl (by omega) u8c_len u8c_one rfl (HU.out.1.alloc _) y wr.heap.size 1 rfl (u8_new _ y) (by unfold maxLen; omega) (by omega) (by simp; omega) ?_)
      intro v' w3 hown3 hx3
      have hB3 := Ext.new (HU.out.2.alloc HU.out.2.size (.cells #[.int .u8 y.toNat] 5)) hx3 (fun i hi _ e => by have := (HU.out.1.blk i e).1; omega) (by simp; omega)
      obtain ⟨⟨ua, un, uc⟩, e3⟩ := hown3.sl
      dsimp only at e3
      subst e3
      have HN := Lib.hid (And.intro hown3 hB3)
      clear hown3 hx3 hB3 hq
      go_wp2_with fail
      go_roundg (m / 128)
      case measure => rw [HG.out]; exact HLT.out
      case rel => exact ⟨m / 128, ⟨ua, un, uc⟩, _, rfl, by first | rfl | simp, rfl, by omega, HEE, HN⟩
  
set_option maxRecDepth 20000 in
set_option maxHeartbeats 2000000 in
theorem rput_any (n : Nat) (w : World) (h : n < 18446744073709551616) : Calls Tryz.prog 66 #[.int .u64 n] w fun e w' => BytesPost w (putB n) e w' := by
  obtain ⟨i0, hi, hz0, hz1, hz2⟩ := info_parts info_u8
  have HL := Lib.hid (putB_le10 h)
  go_enter Tryz.func66, Tryz.ntmps66
  go_wp2_with fail
  go_loopg [0, 3] n (fun g nv ov wr => ∃ (m : Nat) (s : Sl) (l : List UInt8), g = m ∧ nv = .int .u64 m ∧ ov = .slice s.a s.n s.cap ∧ m < 18446744073709551616 ∧ Hid (putB n = l ++ putB m) ∧ Hid (Own u8c 1 5 w.heap.size wr (.slice s.a s.n s.cap) l ∧ Below w.heap.size w wr))
  case atStart => exact ⟨n, ⟨none, 0, 0⟩, [], rfl, rfl, rfl, h, Lib.hid rfl, Lib.hid ⟨Own.nil, Below.refl _ _⟩⟩
  case round =>
    obtain ⟨m, ⟨sa, sn, sc⟩, l, hg, rfl, rfl, hm, HE, HU⟩ := hrel
    dsimp only at HU ⊢
    have HG := Lib.hid hg
    clear hg
    have hll : l.length ≤ 9 := by
      have h1 := HL.out
      have h2 := List.length_pos_iff.2 (putB_ne m)
      rw [HE.out, List.length_append] at h1
      omega
    have hws := HU.out.2.size
    by_cases h128 : m < 128
    · obtain ⟨y, rfl⟩ : ∃ y : UInt8, m = y.toNat := ⟨UInt8.ofNat m, (u8_nat (by omega)).symm⟩
      have hy := y.toNat_lt
      have hle : ¬ (128 : Int) ≤ (y.toNat : Int) := by omega
      have HEE : Hid (l ++ [y] = putB n) := Lib.hid (by rw [HE.out, putB_lt h128]; simp)
      clear h128
      go_wp2_with (at_builtin; refine wpList_append_struct rfl _ _ _ rfl i0 _ 1 Tryz.underlying22 hi hz0 hz1 hz2 rfl (by omega) u8c_len u8c_one rfl (HU.out.1.alloc _) y wr.heap.size 1 rfl (u8_new _ y) (by unfold maxLen; omega) (by omega) (by simp; omega) ?_)
      intro v' w3 hown3 hx3
      have hB3 := Ext.new (HU.out.2.alloc HU.out.2.size (.cells #[.int .u8 y.toNat] 5)) hx3 (fun i hi _ e => by have := (HU.out.1.blk i e).1; omega) (by simp; omega)
      rw [HEE.out] at hown3
      have HN := Lib.hid (And.intro hown3 hB3)
      clear hown3 hx3 hB3
      go_wp2_with fail
      go_ret
      exact ⟨_, rfl, HN.out.1, HN.out.2⟩
    · have hle : (128 : Int) ≤ (m : Int) := by omega
      obtain ⟨y, hy⟩ : ∃ y : UInt8, y = UInt8.ofNat (m % 128 + 128) := ⟨_, rfl⟩
      have hy2 : y.toNat = m % 128 + 128 := by rw [hy]; exact u8_nat (by omega)
      have HEE : Hid (putB n = (l ++ [y]) ++ putB (m / 128)) := Lib.hid (by rw [HE.out, putB_ge h128, ← hy]; simp)
      have hq : (m : Int) % 128 + 128 = (y.toNat : Int) := by
        omega
      have hmd : ((m / 128 : Nat) : Int) = (m : Int) / 128 := by omega
      have HMD := Lib.hid hmd
      have hlt : m / 128 < m := by omega
      have HLT := Lib.hid hlt
      clear hy hy2 h128 hmd hlt
      go_wp2_with (at_builtin; refine wpList_append_struct rfl _ _ _ rfl i0 _ 1 Tryz.underlying22 hi hz0 hz1 hz2 rfl (by omega) u8c_len u8c_one rfl (HU.out.1.alloc _) y wr.heap.size 1 rfl (u8_new _ y) (by unfold maxLen; omega) (by omega) (by simp; omega) ?_)
      intro v' w3 hown3 hx3
      have hB3 := Ext.new (HU.out.2.alloc HU.out.2.size (.cells #[.int .u8 y.toNat] 5)) hx3 (fun i hi _ e => by have := (HU.out.1.blk i e).1; omega) (by simp; omega)
      obtain ⟨⟨ua, un, uc⟩, e3⟩ := hown3.sl
      dsimp only at e3
      subst e3
      have HN := Lib.hid (And.intro hown3 hB3)
      clear hown3 hx3 hB3 hq
      go_wp2_with fail
      go_roundg (m / 128)
      case measure => rw [HG.out]; exact HLT.out
      case rel => exact ⟨m / 128, ⟨ua, un, uc⟩, _, rfl, by first | rfl | simp, rfl, by omega, HEE, HN⟩
  

/-- What Take answers. -/
noncomputable def takeR (b : List UInt8) : Value := match takeV b with
  | some n => .tuple #[.int .u64 n, .int .i64 (putB n).length, .int .i64 0]
  | none => .tuple #[.int .u64 0, .int .i64 0, .int .i64 31]
theorem takeR_some {b : List UInt8} {n : Nat} (h : TakeIs b n) : takeR b = .tuple #[.int .u64 n, .int .i64 (putB n).length, .int .i64 0] := by unfold takeR; rw [takeV_some.2 h]
theorem takeR_none {b : List UInt8} (h : ∀ n, ¬ TakeIs b n) : takeR b = .tuple #[.int .u64 0, .int .i64 0, .int .i64 31] := by unfold takeR; rw [takeV_none.2 h]
theorem valB_take {b : List UInt8} {i : Nat} {x : UInt8} (hx : b[i]? = some x) : valB (b.take (i + 1)) = valB (b.take i) + x.toNat % 128 * 128 ^ i := by
  rw [take_snocU hx, valB_snoc, List.length_take, Nat.min_eq_left (by have := (List.getElem?_eq_some_iff.1 hx).1; omega)]
theorem or_step {vk xl k : Nat} (hv : vk < 128 ^ k) (h : (xl < 128 ∧ k ≤ 8) ∨ (xl ≤ 1 ∧ k = 9)) : bits .or .u64 (vk : Int) (IntKind.u64.wrap ((xl : Int) * 2 ^ (7 * k))) = ((vk + xl * 128 ^ k : Nat) : Int) ∧ vk + xl * 128 ^ k < 18446744073709551616 := by
  have e : 128 ^ k = 2 ^ (7 * k) := by rw [Nat.pow_mul]
  have hs : vk + xl * 128 ^ k < 18446744073709551616 := by
    rcases h with ⟨h1, h2⟩ | ⟨h1, rfl⟩
    · have h3 : 128 ^ k ≤ 128 ^ 8 := Nat.pow_le_pow_right (by omega) h2
      have h4 : xl * 128 ^ k ≤ 127 * 128 ^ k := Nat.mul_le_mul_right _ (by omega)
      omega
    · have h4 : xl * 128 ^ 9 ≤ 1 * 128 ^ 9 := Nat.mul_le_mul_right _ h1
      omega
  refine ⟨?_, hs⟩
  rw [e] at hs hv ⊢
  have e2 : ((xl : Int) * 2 ^ (7 * k)) = ((xl * 2 ^ (7 * k) : Nat) : Int) := by push_cast; rfl
  rw [e2, u64_wrap, show ((xl * 2 ^ (7 * k) : Nat) : Int) % 18446744073709551616 = ((xl * 2 ^ (7 * k) : Nat) : Int) by omega]
  exact bits_or_shift vk xl (7 * k) hv hs
theorem pow128 (i : Nat) : 128 ^ i = 2 ^ (7 * i) := by rw [Nat.pow_mul]

set_option maxRecDepth 20000 in
set_option maxHeartbeats 2000000 in
theorem take_any (v : Value) (b : List UInt8) (w : World) (h : SliceIs u8c 1 w v b) : Calls Tryz.prog 103 #[v] w fun e w' => e = .returned (takeR b) ∧ w = w' := by
  obtain ⟨a, cap, rfl, hcap, hmax, -⟩ := id h
  unfold maxLen at hmax
  have HH := Lib.hid h
  obtain ⟨mn, hmn⟩ : ∃ mn : Nat, mn = min b.length 10 := ⟨_, rfl⟩
  have hmn1 : mn ≤ b.length := by omega
  have hmn2 : mn ≤ 10 := by omega
  have HMN := Lib.hid (show mn = b.length ∨ mn = 10 by omega)
  clear h hmn
  have h3 : b.length < 10 ∨ b.length = 10 ∨ 10 < b.length := by omega
  go_enter Tryz.func103, Tryz.ntmps103
  rcases h3 with h3 | h3 | h3
  · have hi1 : (b.length : Int) < 10 := by omega
    have hi2 : (b.length : Int) ≤ 10 := by omega
    obtain rfl : mn = b.length := by rcases HMN.out with e | e <;> omega
    go_wp2_with fail
    go_loopg [5, 11] (b.length) (fun g nv iv wr => ∃ k : Nat, g = (b.length) - k ∧ k ≤ (b.length) ∧ nv = .int .u64 (valB (b.take k)) ∧ iv = .int .i64 k ∧ Hid (Goes b k) ∧ w = wr)
    case atStart => exact ⟨0, rfl, Nat.zero_le _, by simp [valB], rfl, Lib.hid (goes_zero b), rfl⟩
    case round =>
      obtain ⟨k, hg, hk, rfl, rfl, HGO, rfl⟩ := hrel
      have HG := Lib.hid hg
      clear hg
      by_cases hlt : k < (b.length)
      · obtain ⟨c, hc⟩ : ∃ c, b[k]? = some c := ⟨_, List.getElem?_eq_getElem (by omega)⟩
        obtain ⟨bb, o, rfl, c0⟩ := HH.out.at1 hc rfl
        have hcl := c.toNat_lt
        have hk1 : (k : Int) < (b.length : Int) := by omega
        have hk2 : (k : Int) < 10 := by omega
        have hk3 : (k : Int) ≤ 9 := by omega
        have HC := Lib.hid hc
        obtain ⟨xl, hxl⟩ : ∃ xl, c.toNat % 128 = xl := ⟨_, rfl⟩
        have hand : bits .and .u8 (c.toNat : Int) 127 = (xl : Int) := by rw [bits_and_u8 _ (by omega), hxl]
        have hx128 : xl < 128 := by omega
        have HXL := Lib.hid hxl
        have HV := Lib.hid (valB_take hc)
        have HVL := Lib.hid (valB_lt (b.take k))
        obtain ⟨vk, hvk⟩ : ∃ vk, valB (b.take k) = vk := ⟨_, rfl⟩
        rw [hvk]
        have HVK := Lib.hid hvk
        clear hc hxl hvk
        have hvk2 : vk < 128 ^ k := by rw [← HVK.out]; have := valB_lt (b.take k); rwa [List.length_take, Nat.min_eq_left (by omega)] at this
        have HVK2 := Lib.hid hvk2
        clear hvk2
        by_cases h9 : k = 9
        · exfalso; omega
        · have hk9 : (k : Int) < 9 := by omega
          have hk91 : ¬ (k : Int) = 9 := by omega
          have hk92 : ((k : Int) == 9) = false := by simpa using hk91
          obtain ⟨hor, hnb⟩ := or_step (xl := xl) HVK2.out (.inl ⟨hx128, by omega⟩)
          obtain ⟨nn, hnn⟩ : ∃ nn, valB (b.take (k + 1)) = nn := ⟨_, rfl⟩
          have hnv : vk + xl * 128 ^ k = nn := by rw [← hnn, HV.out, HVK.out, HXL.out]
          rw [hnv] at hor hnb
          have HNN := Lib.hid hnn
          have HOR := Lib.hid hor
          have hor1 := HOR.out
          clear hor hnv hnn
          by_cases hc128 : c.toNat < 128
          · have hcl1 : (c.toNat : Int) < 128 := by omega
            have hxc : xl = c.toNat := by rw [← HXL.out]; exact Nat.mod_eq_of_lt hc128
            by_cases h0 : 0 < k ∧ xl = 0
            · obtain ⟨h01, rfl⟩ := h0
              have hk0 : (0 : Int) < (k : Int) := by omega
              have HR := Lib.hid (takeR_none (fun n => HGO.out.bad HC.out (.inl ⟨h01, hxc.symm⟩)))
              clear h01 hxc hc128
              go_wp2_with fail
              go_ret3
              exact ⟨by rw [HR.out]; rfl, rfl⟩
            · have hst := HGO.out.stop HC.out hc128 (fun h1 h2 => h0 ⟨h1, hxc.trans h2⟩) (by rw [HNN.out]; exact hnb)
              rw [HNN.out] at hst
              have HR := Lib.hid (takeR_some hst.1)
              have HL := Lib.hid hst.2
              have h0k : ¬ 0 < k ∨ (0 < k ∧ ¬ xl = 0) := by
                by_cases h01 : 0 < k
                · exact .inr ⟨h01, fun e => h0 ⟨h01, e⟩⟩
                · exact .inl h01
              clear hxc hc128 h0 hst
              rcases h0k with h0k | ⟨h0k, h0x⟩
              · have hk0 : ¬ (0 : Int) < (k : Int) := by omega
                go_wp2_with fail
                go_ret3
                exact ⟨by rw [HR.out, HL.out]; simp, rfl⟩
              · have hk0 : (0 : Int) < (k : Int) := by omega
                have hx0 : ¬ (xl : Int) = 0 := by omega
                have hx02 : ((xl : Int) == 0) = false := by simpa using hx0
                clear h0x
                go_wp2_with fail
                go_ret3
                exact ⟨by rw [HR.out, HL.out]; simp, rfl⟩
          · have hcl1 : ¬ (c.toNat : Int) < 128 := by omega
            have HGO2 := Lib.hid (HGO.out.succ HC.out (by omega))
            clear hc128
            go_wp2_with fail
            go_roundg ((b.length) - (k + 1))
            case measure => rw [HG.out]; omega
            case rel => exact ⟨k + 1, rfl, by omega, by first | rw [HNN.out] | (simp; exact HNN.out.symm), by simp, HGO2, rfl⟩
      · obtain rfl : k = (b.length) := by omega
        have hkk : ¬ (b.length : Int) < (b.length : Int) := by omega
        have HR := Lib.hid (takeR_none (fun n => HGO.out.over (.inl rfl)))
        clear hlt hk
        go_wp2_with fail
        go_ret3
        exact ⟨by rw [HR.out]; rfl, rfl⟩
  · have hi1 : ¬ (b.length : Int) < 10 := by omega
    have hi2 : (b.length : Int) ≤ 10 := by omega
    have hi3 : ¬ (10 : Int) < (b.length : Int) := by omega
    obtain rfl : mn = 10 := by rcases HMN.out with e | e <;> omega
    go_wp2_with fail
    go_loopg [5, 11] (10) (fun g nv iv wr => ∃ k : Nat, g = (10) - k ∧ k ≤ (10) ∧ nv = .int .u64 (valB (b.take k)) ∧ iv = .int .i64 k ∧ Hid (Goes b k) ∧ w = wr)
    case atStart => exact ⟨0, rfl, Nat.zero_le _, by simp [valB], rfl, Lib.hid (goes_zero b), rfl⟩
    case round =>
      obtain ⟨k, hg, hk, rfl, rfl, HGO, rfl⟩ := hrel
      have HG := Lib.hid hg
      clear hg
      by_cases hlt : k < (10)
      · obtain ⟨c, hc⟩ : ∃ c, b[k]? = some c := ⟨_, List.getElem?_eq_getElem (by omega)⟩
        obtain ⟨bb, o, rfl, c0⟩ := HH.out.at1 hc rfl
        have hcl := c.toNat_lt
        have hk1 : (k : Int) < (b.length : Int) := by omega
        have hk2 : (k : Int) < 10 := by omega
        have hk3 : (k : Int) ≤ 9 := by omega
        have HC := Lib.hid hc
        obtain ⟨xl, hxl⟩ : ∃ xl, c.toNat % 128 = xl := ⟨_, rfl⟩
        have hand : bits .and .u8 (c.toNat : Int) 127 = (xl : Int) := by rw [bits_and_u8 _ (by omega), hxl]
        have hx128 : xl < 128 := by omega
        have HXL := Lib.hid hxl
        have HV := Lib.hid (valB_take hc)
        have HVL := Lib.hid (valB_lt (b.take k))
        obtain ⟨vk, hvk⟩ : ∃ vk, valB (b.take k) = vk := ⟨_, rfl⟩
        rw [hvk]
        have HVK := Lib.hid hvk
        clear hc hxl hvk
        have hvk2 : vk < 128 ^ k := by rw [← HVK.out]; have := valB_lt (b.take k); rwa [List.length_take, Nat.min_eq_left (by omega)] at this
        have HVK2 := Lib.hid hvk2
        clear hvk2
        by_cases h9 : k = 9
        · subst h9
          by_cases hx : 1 < xl
          · have hx1 : (1 : Int) < (xl : Int) := by omega
            have HR := Lib.hid (takeR_none (fun n => HGO.out.bad HC.out (.inr ⟨rfl, by rw [HXL.out]; exact hx⟩)))
            clear hx
            go_wp2_with fail
            go_ret3
            exact ⟨by rw [HR.out]; rfl, rfl⟩
          · have hx1 : ¬ (1 : Int) < (xl : Int) := by omega
            obtain ⟨hor, hnb⟩ := or_step (xl := xl) HVK2.out (.inr ⟨by omega, rfl⟩)
            obtain ⟨nn, hnn⟩ : ∃ nn, valB (b.take (9 + 1)) = nn := ⟨_, rfl⟩
            have hnv : vk + xl * 128 ^ 9 = nn := by rw [← hnn, HV.out, HVK.out, HXL.out]
            rw [hnv] at hor hnb
            have HNN := Lib.hid hnn
            have HOR := Lib.hid hor
            have hor1 := HOR.out
            clear hor hnv hnn
            have hor2 : bits .or .u64 (vk : Int) (IntKind.u64.wrap ((xl : Int) * 9223372036854775808)) = (nn : Int) := HOR.out
            have hor3 : bits .or .u64 (vk : Int) ((xl : Int) * 9223372036854775808) = (nn : Int) := by rw [← hor2, u64_wrap, show (xl : Int) * 9223372036854775808 % 18446744073709551616 = (xl : Int) * 9223372036854775808 by omega]
            by_cases hc128 : c.toNat < 128
            · have hcl1 : (c.toNat : Int) < 128 := by omega
              have hxc : xl = c.toNat := by rw [← HXL.out]; exact Nat.mod_eq_of_lt hc128
              by_cases h0 : 0 < 9 ∧ xl = 0
              · obtain ⟨h01, rfl⟩ := h0
                have hk0 : (0 : Int) < (9 : Int) := by omega
                have HR := Lib.hid (takeR_none (fun n => HGO.out.bad HC.out (.inl ⟨h01, hxc.symm⟩)))
                clear h01 hxc hc128
                go_wp2_with fail
                go_ret3
                exact ⟨by rw [HR.out]; rfl, rfl⟩
              · have hst := HGO.out.stop HC.out hc128 (fun h1 h2 => h0 ⟨h1, hxc.trans h2⟩) (by rw [HNN.out]; exact hnb)
                rw [HNN.out] at hst
                have HR := Lib.hid (takeR_some hst.1)
                have HL := Lib.hid hst.2
                have h0k : ¬ 0 < 9 ∨ (0 < 9 ∧ ¬ xl = 0) := by
                  by_cases h01 : 0 < 9
                  · exact .inr ⟨h01, fun e => h0 ⟨h01, e⟩⟩
                  · exact .inl h01
                clear hxc hc128 h0 hst
                rcases h0k with h0k | ⟨h0k, h0x⟩
                · have hk0 : ¬ (0 : Int) < (9 : Int) := by omega
                  go_wp2_with fail
                  go_ret3
                  exact ⟨by rw [HR.out, HL.out]; simp, rfl⟩
                · have hk0 : (0 : Int) < (9 : Int) := by omega
                  have hx0 : ¬ (xl : Int) = 0 := by omega
                  have hx02 : ((xl : Int) == 0) = false := by simpa using hx0
                  clear h0x
                  go_wp2_with fail
                  go_ret3
                  exact ⟨by rw [HR.out, HL.out]; simp, rfl⟩
            · have hcl1 : ¬ (c.toNat : Int) < 128 := by omega
              have HGO2 := Lib.hid (HGO.out.succ HC.out (by omega))
              clear hc128
              go_wp2_with fail
              go_roundg ((10) - (9 + 1))
              case measure => rw [HG.out]; omega
              case rel => exact ⟨9 + 1, rfl, by omega, by first | rw [HNN.out] | (simp; exact HNN.out.symm), by simp, HGO2, rfl⟩
        · have hk9 : (k : Int) < 9 := by omega
          have hk91 : ¬ (k : Int) = 9 := by omega
          have hk92 : ((k : Int) == 9) = false := by simpa using hk91
          obtain ⟨hor, hnb⟩ := or_step (xl := xl) HVK2.out (.inl ⟨hx128, by omega⟩)
          obtain ⟨nn, hnn⟩ : ∃ nn, valB (b.take (k + 1)) = nn := ⟨_, rfl⟩
          have hnv : vk + xl * 128 ^ k = nn := by rw [← hnn, HV.out, HVK.out, HXL.out]
          rw [hnv] at hor hnb
          have HNN := Lib.hid hnn
          have HOR := Lib.hid hor
          have hor1 := HOR.out
          clear hor hnv hnn
          by_cases hc128 : c.toNat < 128
          · have hcl1 : (c.toNat : Int) < 128 := by omega
            have hxc : xl = c.toNat := by rw [← HXL.out]; exact Nat.mod_eq_of_lt hc128
            by_cases h0 : 0 < k ∧ xl = 0
            · obtain ⟨h01, rfl⟩ := h0
              have hk0 : (0 : Int) < (k : Int) := by omega
              have HR := Lib.hid (takeR_none (fun n => HGO.out.bad HC.out (.inl ⟨h01, hxc.symm⟩)))
              clear h01 hxc hc128
              go_wp2_with fail
              go_ret3
              exact ⟨by rw [HR.out]; rfl, rfl⟩
            · have hst := HGO.out.stop HC.out hc128 (fun h1 h2 => h0 ⟨h1, hxc.trans h2⟩) (by rw [HNN.out]; exact hnb)
              rw [HNN.out] at hst
              have HR := Lib.hid (takeR_some hst.1)
              have HL := Lib.hid hst.2
              have h0k : ¬ 0 < k ∨ (0 < k ∧ ¬ xl = 0) := by
                by_cases h01 : 0 < k
                · exact .inr ⟨h01, fun e => h0 ⟨h01, e⟩⟩
                · exact .inl h01
              clear hxc hc128 h0 hst
              rcases h0k with h0k | ⟨h0k, h0x⟩
              · have hk0 : ¬ (0 : Int) < (k : Int) := by omega
                go_wp2_with fail
                go_ret3
                exact ⟨by rw [HR.out, HL.out]; simp, rfl⟩
              · have hk0 : (0 : Int) < (k : Int) := by omega
                have hx0 : ¬ (xl : Int) = 0 := by omega
                have hx02 : ((xl : Int) == 0) = false := by simpa using hx0
                clear h0x
                go_wp2_with fail
                go_ret3
                exact ⟨by rw [HR.out, HL.out]; simp, rfl⟩
          · have hcl1 : ¬ (c.toNat : Int) < 128 := by omega
            have HGO2 := Lib.hid (HGO.out.succ HC.out (by omega))
            clear hc128
            go_wp2_with fail
            go_roundg ((10) - (k + 1))
            case measure => rw [HG.out]; omega
            case rel => exact ⟨k + 1, rfl, by omega, by first | rw [HNN.out] | (simp; exact HNN.out.symm), by simp, HGO2, rfl⟩
      · obtain rfl : k = (10) := by omega
        have hkk : ¬ (10 : Int) < (10 : Int) := by omega
        have HR := Lib.hid (takeR_none (fun n => HGO.out.over (.inr rfl)))
        clear hlt hk
        go_wp2_with fail
        go_ret3
        exact ⟨by rw [HR.out]; rfl, rfl⟩
  · have hi1 : ¬ (b.length : Int) < 10 := by omega
    have hi2 : ¬ (b.length : Int) ≤ 10 := by omega
    have hi3 : (10 : Int) < (b.length : Int) := by omega
    obtain rfl : mn = 10 := by rcases HMN.out with e | e <;> omega
    go_wp2_with fail
    go_loopg [5, 11] (10) (fun g nv iv wr => ∃ k : Nat, g = (10) - k ∧ k ≤ (10) ∧ nv = .int .u64 (valB (b.take k)) ∧ iv = .int .i64 k ∧ Hid (Goes b k) ∧ w = wr)
    case atStart => exact ⟨0, rfl, Nat.zero_le _, by simp [valB], rfl, Lib.hid (goes_zero b), rfl⟩
    case round =>
      obtain ⟨k, hg, hk, rfl, rfl, HGO, rfl⟩ := hrel
      have HG := Lib.hid hg
      clear hg
      by_cases hlt : k < (10)
      · obtain ⟨c, hc⟩ : ∃ c, b[k]? = some c := ⟨_, List.getElem?_eq_getElem (by omega)⟩
        obtain ⟨bb, o, rfl, c0⟩ := HH.out.at1 hc rfl
        have hcl := c.toNat_lt
        have hk1 : (k : Int) < (b.length : Int) := by omega
        have hk2 : (k : Int) < 10 := by omega
        have hk3 : (k : Int) ≤ 9 := by omega
        have HC := Lib.hid hc
        obtain ⟨xl, hxl⟩ : ∃ xl, c.toNat % 128 = xl := ⟨_, rfl⟩
        have hand : bits .and .u8 (c.toNat : Int) 127 = (xl : Int) := by rw [bits_and_u8 _ (by omega), hxl]
        have hx128 : xl < 128 := by omega
        have HXL := Lib.hid hxl
        have HV := Lib.hid (valB_take hc)
        have HVL := Lib.hid (valB_lt (b.take k))
        obtain ⟨vk, hvk⟩ : ∃ vk, valB (b.take k) = vk := ⟨_, rfl⟩
        rw [hvk]
        have HVK := Lib.hid hvk
        clear hc hxl hvk
        have hvk2 : vk < 128 ^ k := by rw [← HVK.out]; have := valB_lt (b.take k); rwa [List.length_take, Nat.min_eq_left (by omega)] at this
        have HVK2 := Lib.hid hvk2
        clear hvk2
        by_cases h9 : k = 9
        · subst h9
          by_cases hx : 1 < xl
          · have hx1 : (1 : Int) < (xl : Int) := by omega
            have HR := Lib.hid (takeR_none (fun n => HGO.out.bad HC.out (.inr ⟨rfl, by rw [HXL.out]; exact hx⟩)))
            clear hx
            go_wp2_with fail
            go_ret3
            exact ⟨by rw [HR.out]; rfl, rfl⟩
          · have hx1 : ¬ (1 : Int) < (xl : Int) := by omega
            obtain ⟨hor, hnb⟩ := or_step (xl := xl) HVK2.out (.inr ⟨by omega, rfl⟩)
            obtain ⟨nn, hnn⟩ : ∃ nn, valB (b.take (9 + 1)) = nn := ⟨_, rfl⟩
            have hnv : vk + xl * 128 ^ 9 = nn := by rw [← hnn, HV.out, HVK.out, HXL.out]
            rw [hnv] at hor hnb
            have HNN := Lib.hid hnn
            have HOR := Lib.hid hor
            have hor1 := HOR.out
            clear hor hnv hnn
            have hor2 : bits .or .u64 (vk : Int) (IntKind.u64.wrap ((xl : Int) * 9223372036854775808)) = (nn : Int) := HOR.out
            have hor3 : bits .or .u64 (vk : Int) ((xl : Int) * 9223372036854775808) = (nn : Int) := by rw [← hor2, u64_wrap, show (xl : Int) * 9223372036854775808 % 18446744073709551616 = (xl : Int) * 9223372036854775808 by omega]
            by_cases hc128 : c.toNat < 128
            · have hcl1 : (c.toNat : Int) < 128 := by omega
              have hxc : xl = c.toNat := by rw [← HXL.out]; exact Nat.mod_eq_of_lt hc128
              by_cases h0 : 0 < 9 ∧ xl = 0
              · obtain ⟨h01, rfl⟩ := h0
                have hk0 : (0 : Int) < (9 : Int) := by omega
                have HR := Lib.hid (takeR_none (fun n => HGO.out.bad HC.out (.inl ⟨h01, hxc.symm⟩)))
                clear h01 hxc hc128
                go_wp2_with fail
                go_ret3
                exact ⟨by rw [HR.out]; rfl, rfl⟩
              · have hst := HGO.out.stop HC.out hc128 (fun h1 h2 => h0 ⟨h1, hxc.trans h2⟩) (by rw [HNN.out]; exact hnb)
                rw [HNN.out] at hst
                have HR := Lib.hid (takeR_some hst.1)
                have HL := Lib.hid hst.2
                have h0k : ¬ 0 < 9 ∨ (0 < 9 ∧ ¬ xl = 0) := by
                  by_cases h01 : 0 < 9
                  · exact .inr ⟨h01, fun e => h0 ⟨h01, e⟩⟩
                  · exact .inl h01
                clear hxc hc128 h0 hst
                rcases h0k with h0k | ⟨h0k, h0x⟩
                · have hk0 : ¬ (0 : Int) < (9 : Int) := by omega
                  go_wp2_with fail
                  go_ret3
                  exact ⟨by rw [HR.out, HL.out]; simp, rfl⟩
                · have hk0 : (0 : Int) < (9 : Int) := by omega
                  have hx0 : ¬ (xl : Int) = 0 := by omega
                  have hx02 : ((xl : Int) == 0) = false := by simpa using hx0
                  clear h0x
                  go_wp2_with fail
                  go_ret3
                  exact ⟨by rw [HR.out, HL.out]; simp, rfl⟩
            · have hcl1 : ¬ (c.toNat : Int) < 128 := by omega
              have HGO2 := Lib.hid (HGO.out.succ HC.out (by omega))
              clear hc128
              go_wp2_with fail
              go_roundg ((10) - (9 + 1))
              case measure => rw [HG.out]; omega
              case rel => exact ⟨9 + 1, rfl, by omega, by first | rw [HNN.out] | (simp; exact HNN.out.symm), by simp, HGO2, rfl⟩
        · have hk9 : (k : Int) < 9 := by omega
          have hk91 : ¬ (k : Int) = 9 := by omega
          have hk92 : ((k : Int) == 9) = false := by simpa using hk91
          obtain ⟨hor, hnb⟩ := or_step (xl := xl) HVK2.out (.inl ⟨hx128, by omega⟩)
          obtain ⟨nn, hnn⟩ : ∃ nn, valB (b.take (k + 1)) = nn := ⟨_, rfl⟩
          have hnv : vk + xl * 128 ^ k = nn := by rw [← hnn, HV.out, HVK.out, HXL.out]
          rw [hnv] at hor hnb
          have HNN := Lib.hid hnn
          have HOR := Lib.hid hor
          have hor1 := HOR.out
          clear hor hnv hnn
          by_cases hc128 : c.toNat < 128
          · have hcl1 : (c.toNat : Int) < 128 := by omega
            have hxc : xl = c.toNat := by rw [← HXL.out]; exact Nat.mod_eq_of_lt hc128
            by_cases h0 : 0 < k ∧ xl = 0
            · obtain ⟨h01, rfl⟩ := h0
              have hk0 : (0 : Int) < (k : Int) := by omega
              have HR := Lib.hid (takeR_none (fun n => HGO.out.bad HC.out (.inl ⟨h01, hxc.symm⟩)))
              clear h01 hxc hc128
              go_wp2_with fail
              go_ret3
              exact ⟨by rw [HR.out]; rfl, rfl⟩
            · have hst := HGO.out.stop HC.out hc128 (fun h1 h2 => h0 ⟨h1, hxc.trans h2⟩) (by rw [HNN.out]; exact hnb)
              rw [HNN.out] at hst
              have HR := Lib.hid (takeR_some hst.1)
              have HL := Lib.hid hst.2
              have h0k : ¬ 0 < k ∨ (0 < k ∧ ¬ xl = 0) := by
                by_cases h01 : 0 < k
                · exact .inr ⟨h01, fun e => h0 ⟨h01, e⟩⟩
                · exact .inl h01
              clear hxc hc128 h0 hst
              rcases h0k with h0k | ⟨h0k, h0x⟩
              · have hk0 : ¬ (0 : Int) < (k : Int) := by omega
                go_wp2_with fail
                go_ret3
                exact ⟨by rw [HR.out, HL.out]; simp, rfl⟩
              · have hk0 : (0 : Int) < (k : Int) := by omega
                have hx0 : ¬ (xl : Int) = 0 := by omega
                have hx02 : ((xl : Int) == 0) = false := by simpa using hx0
                clear h0x
                go_wp2_with fail
                go_ret3
                exact ⟨by rw [HR.out, HL.out]; simp, rfl⟩
          · have hcl1 : ¬ (c.toNat : Int) < 128 := by omega
            have HGO2 := Lib.hid (HGO.out.succ HC.out (by omega))
            clear hc128
            go_wp2_with fail
            go_roundg ((10) - (k + 1))
            case measure => rw [HG.out]; omega
            case rel => exact ⟨k + 1, rfl, by omega, by first | rw [HNN.out] | (simp; exact HNN.out.symm), by simp, HGO2, rfl⟩
      · obtain rfl : k = (10) := by omega
        have hkk : ¬ (10 : Int) < (10 : Int) := by omega
        have HR := Lib.hid (takeR_none (fun n => HGO.out.over (.inr rfl)))
        clear hlt hk
        go_wp2_with fail
        go_ret3
        exact ⟨by rw [HR.out]; rfl, rfl⟩

end Go.Proofs.YtgmdimbiipemhaaGreatDoor
