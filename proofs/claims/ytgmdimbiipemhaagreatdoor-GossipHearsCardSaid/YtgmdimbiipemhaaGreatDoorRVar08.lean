/- The document's Take: a contract. -/
import Derived.Test.YtgmdimbiipemhaaGreatDoorVar08
import Derived.Test.YtgmdimbiipemhaaGreatDoorCnv08
import Derived.Test.YtgmdimbiipemhaaGreatDoorHeldT
namespace Go.Proofs.YtgmdimbiipemhaaGreatDoor
open Go.RowKit Go.Deep
set_option linter.unusedSimpArgs false
set_option linter.unusedVariables false

theorem rtake_pow {xl k : Nat} : (xl : Int) * 2 ^ (7 * k) = ((xl * 128 ^ k : Nat) : Int) := by
  rw [pow128]
  push_cast
  rfl
theorem rtake_eq {vb xl k : Nat} : IntKind.u64.wrap (((vb % 18446744073709551616 : Nat) : Int) + IntKind.u64.wrap ((xl : Int) * 2 ^ (7 * k))) = (((vb + xl * 128 ^ k) % 18446744073709551616 : Nat) : Int) := by
  rw [u64_wrap, u64_wrap, rtake_pow]
  generalize xl * 128 ^ k = p
  omega

set_option maxRecDepth 20000 in
set_option maxHeartbeats 2000000 in
theorem rtake_any (v : Value) (b : List UInt8) (w : World) (h : SliceIs u8c 1 w v b) : Calls Tryz.prog 54 #[v] w fun e w' => e = .returned (takeR b) ∧ Below w.heap.size w w' := by
  obtain ⟨a, cap, rfl, hcap, hmax, -⟩ := id h
  unfold maxLen at hmax
  have HH := Lib.hid h
  clear h
  go_enter Tryz.func54, Tryz.ntmps54
  go_wp2_with fail
  go_loopg [5, 6] 10 (fun g nv iv wr => ∃ k : Nat, g = 10 - k ∧ k ≤ 10 ∧ k ≤ b.length ∧ nv = .int .u64 ((valB (b.take k) % 18446744073709551616 : Nat) : Int) ∧ iv = .int .i64 k ∧ Hid (Goes b k) ∧ Hid (Below w.heap.size w wr))
  case atStart => exact ⟨0, rfl, by omega, Nat.zero_le _, by simp [valB], rfl, Lib.hid (goes_zero b), Lib.hid (Below.refl _ _)⟩
  case round =>
    obtain ⟨k, hg, hk, hkb, rfl, rfl, HGO, HB⟩ := hrel
    have HG := Lib.hid hg
    clear hg
    by_cases hlt : k < b.length
    · have hk1 : (k : Int) < (b.length : Int) := by omega
      by_cases hlt2 : k < 10
      · have hk2 : (k : Int) < 10 := by omega
        obtain ⟨c, hc⟩ : ∃ c, b[k]? = some c := ⟨_, List.getElem?_eq_getElem (by omega)⟩
        obtain ⟨bb, o, rfl, c0⟩ := (HH.out.below HB.out).at1 hc rfl
        have hcl := c.toNat_lt
        have HC := Lib.hid hc
        obtain ⟨xl, hxl⟩ : ∃ xl, c.toNat % 128 = xl := ⟨_, rfl⟩
        have hrem : (c.toNat : Int) % 128 = (xl : Int) := by omega
        have hx128 : xl < 128 := by omega
        have HXL := Lib.hid hxl
        have HV := Lib.hid (valB_take hc)
        obtain ⟨vb, hvb⟩ : ∃ vb, valB (b.take k) = vb := ⟨_, rfl⟩
        obtain ⟨nn, hnn⟩ : ∃ nn, valB (b.take (k + 1)) % 18446744073709551616 = nn := ⟨_, rfl⟩
        have hn64 : nn < 18446744073709551616 := by rw [← hnn]; exact Nat.mod_lt _ (by omega)
        rw [hvb]
        have hsum := rtake_eq (vb := vb) (xl := xl) (k := k)
        rw [← HXL.out, ← hvb, ← HV.out, hnn, hvb, HXL.out] at hsum
        obtain ⟨vm, hvm⟩ : ∃ vm, vb % 18446744073709551616 = vm := ⟨_, rfl⟩
        have hvm64 : vm < 18446744073709551616 := by rw [← hvm]; exact Nat.mod_lt _ (by omega)
        rw [hvm] at hsum ⊢
        have HNN := Lib.hid hnn
        have HVB := Lib.hid hvb
        clear hc hxl hvb hnn hvm hlt hlt2
        by_cases hc128 : c.toNat < 128
        · have hcl1 : (c.toNat : Int) < 128 := by omega
          have HCL := Lib.hid hc128
          clear hc128
          go_upto_region 7 with fail
          clear hsum hrem hcl1
          have hwk : IntKind.i64.wrap ((k : Int) + 1) = (k : Int) + 1 := IntWalk.i64_in _ (by omega)
          have hs1 : (0 : Int) ≤ (k : Int) + 1 := by omega
          have hs2 : ¬ (cap : Int) < (k : Int) + 1 := by omega
          have hs3 : (k : Int) + 1 ≤ (cap : Int) := by omega
          have hsz := HB.out.size
          have b1 : Below w.heap.size w wr.drew := HB.out.drew
          have b2 : Below wr.heap.size wr wr.drew := (Below.refl _ _).drew
          have hS0 : (fun W => SliceIs u8c 1 W (.slice (some ⟨bb, o, none⟩) b.length cap) b) wr.drew := HH.out.below b1
          refine wp_region_s (fun W => SliceIs u8c 1 W (.slice (some ⟨bb, o, none⟩) b.length cap) b) (fun _ => false) (by kernel_rfl) ?_
          generalize wr.drew = W1 at b1 b2 hS0 ⊢
          refine wpAnyS_take (i := 0) (d := some 34) rfl rfl rfl (by kernel_rfl) (by kernel_rfl) (by kernel_rfl) (by kernel_rfl) (fun _ _ _ h => h) (.inl ⟨by rfl, fun W hW => by go_simp; rfl⟩) hS0 ?_
          try simp only [Act.put, List.setIfInBounds_toArray, List.set_cons_zero, List.set_cons_succ]
          refine wpAnyS_take (i := 3) (d := some 37) rfl rfl rfl (by kernel_rfl) (by kernel_rfl) (by kernel_rfl) (by kernel_rfl) (fun _ _ _ h => h) (.inl ⟨by rfl, fun W hW => by go_simp; rfl⟩) hS0 ?_
          try simp only [Act.put, List.setIfInBounds_toArray, List.set_cons_zero, List.set_cons_succ]
          refine wpAnyS_take (i := 4) (d := some 38) rfl rfl rfl (by kernel_rfl) (by kernel_rfl) (by kernel_rfl) (by kernel_rfl) (fun _ _ _ h => h) (.inl ⟨by rfl, fun W hW => by go_simp; rfl⟩) hS0 ?_
          try simp only [Act.put, List.setIfInBounds_toArray, List.set_cons_zero, List.set_cons_succ]
          refine wpAnyS_take (i := 5) (d := some 39) (v := .int .i64 ((k + 1 : Nat) : Int)) rfl rfl rfl (by kernel_rfl) (by kernel_rfl) (by kernel_rfl) (by kernel_rfl) (fun _ _ _ h => h) (.inl ⟨by rfl, fun W hW => by go_simp; try rfl⟩) hS0 ?_
          try simp only [Act.put, List.setIfInBounds_toArray, List.set_cons_zero, List.set_cons_succ]
          refine wpAnyS_take (i := 6) (d := some 40) (v := .slice (some ⟨bb, o, none⟩) ((k + 1 : Nat)) cap) rfl rfl rfl (by kernel_rfl) (by kernel_rfl) (by kernel_rfl) (by kernel_rfl) (fun _ _ _ h => h) (.inl ⟨by rfl, fun W hW => by go_simp; try rfl⟩) hS0 ?_
          try simp only [Act.put, List.setIfInBounds_toArray, List.set_cons_zero, List.set_cons_succ]
          refine wpAnyS_take (i := 7) (d := some 41) (v := .string ⟨(b.take (k + 1)).toArray⟩) rfl rfl rfl (by kernel_rfl) (by kernel_rfl) (by kernel_rfl) (by kernel_rfl) (fun _ _ _ h => h) (.inl ⟨by rfl, fun W hW => by have hcv := conv_bytes (hW.take1 (k := k + 1) (by omega)); go_simp⟩) hS0 ?_
          try simp only [Act.put, List.setIfInBounds_toArray, List.set_cons_zero, List.set_cons_succ]
          refine wpAnyS_call (i := 1) (d := some 35) (f := 66) (args := #[.int .u64 nn]) (w' := W1) (by kernel_rfl) rfl rfl (by rfl) (by go_simp; try rfl) ?_
          refine (rput_any nn _ hn64).mono ?_
          rintro e w5 ⟨v5, rfl, hown, b5⟩
          refine ⟨_, rfl, fun _ => SliceIs.below hS0 b5, ?_⟩
          try simp only [Act.put, List.setIfInBounds_toArray, List.set_cons_zero, List.set_cons_succ]
          have hS5 := SliceIs.below hS0 b5
          have hcv := conv_bytes (hown.slice u8c_len)
          obtain ⟨⟨sa, sn, sc⟩, e5⟩ := hown.sl
          dsimp only at e5
          subst e5
          refine wpAnyS_ran (i := 2) (d := some 36) (v := .string ⟨(putB nn).toArray⟩) (w' := w5) (by kernel_rfl) rfl rfl (by rfl) (by go_simp; try rfl) (fun _ => hS5) ?_
          try simp only [Act.put, List.setIfInBounds_toArray, List.set_cons_zero, List.set_cons_succ]
          refine wpAnyS_ran (i := 8) (d := some 42) (v := .bool (decide (putB nn = b.take (k + 1)))) (w' := w5) (by kernel_rfl) rfl rfl (by rfl) (by
            by_cases hq : putB nn = b.take (k + 1)
            · rw [hq, decide_eq_true rfl]
              have he := beq_bytes ⟨(b.take (k + 1)).toArray⟩ ⟨(b.take (k + 1)).toArray⟩
              rw [decide_eq_true rfl] at he
              go_simp
              try rfl
            · obtain ⟨n1, n2⟩ := str_ne hq
              rw [decide_eq_false hq]
              go_simp
              try rfl) (fun _ => hS5) ?_
          try simp only [Act.put, List.setIfInBounds_toArray, List.set_cons_zero, List.set_cons_succ]
          refine wpAnyS_done (by kernel_rfl) ?_ _
          have HB5 := Lib.hid (b1.trans (b5.mono b1.size))
          clear hS0 hS5 hcv hown b5 b1 b2
          have HB5b := Lib.hid (HB5.out.size)
          by_cases heq : putB nn = b.take (k + 1)
          · have hd : decide (putB nn = b.take (k + 1)) = true := decide_eq_true heq
            have hln : (putB nn).length = k + 1 := by rw [heq, List.length_take]; omega
            have HR := Lib.hid (takeR_some (b := b) ⟨hn64, by rw [heq]; exact List.take_prefix _ _⟩)
            rw [hd]
            clear heq hd
            have HLN := Lib.hid hln
            clear hln
            go_wp2_with fail
            go_ret3
            exact ⟨by rw [HR.out, HLN.out]; simp, HB5.out⟩
          · have hd : decide (putB nn = b.take (k + 1)) = false := decide_eq_false heq
            have HR := Lib.hid (takeR_none (b := b) (fun n hn => heq (by
              obtain ⟨g1, g2⟩ := HGO.out.only HC.out HCL.out hn
              have g3 := HNN.out
              rw [g2, Nat.mod_eq_of_lt hn.1] at g3
              rw [← g3]
              exact g1)))
            rw [hd]
            clear heq hd
            go_wp2_with fail
            go_ret3
            exact ⟨by rw [HR.out]; rfl, HB5.out⟩
        · have hcl1 : ¬ (c.toNat : Int) < 128 := by omega
          have HGO2 := Lib.hid (HGO.out.succ HC.out (by omega))
          clear hc128
          go_wp2_with fail
          go_roundg (10 - (k + 1))
          case measure => rw [HG.out]; omega
          case rel => exact ⟨k + 1, rfl, by omega, by omega, by first | rw [HNN.out] | (simp; exact HNN.out.symm), by simp, HGO2, HB⟩
      · have hk2 : ¬ (k : Int) < 10 := by omega
        have HR := Lib.hid (takeR_none (fun n => HGO.out.over (by omega)))
        clear hlt
        go_wp2_with fail
        go_ret3
        exact ⟨by rw [HR.out]; rfl, HB.out⟩
    · have hk1 : ¬ (k : Int) < (b.length : Int) := by omega
      have HR := Lib.hid (takeR_none (fun n => HGO.out.over (by omega)))
      clear hlt
      go_wp2_with fail
      go_ret3
      exact ⟨by rw [HR.out]; rfl, HB.out⟩

end Go.Proofs.YtgmdimbiipemhaaGreatDoor
