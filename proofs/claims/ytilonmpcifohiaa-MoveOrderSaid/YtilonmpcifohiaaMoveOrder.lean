/- The law MoveOrder: the same moves, added in any other order, come to the same tree, and the same ones took effect; for every input. -/
import Derived.Test.YtilonmpcifohiaaSame14
import Derived.Test.YtilonmpcifohiaaAppend
import Derived.Test.YtilonmpcifohiaaOpenInt
import Derived.Test.YtilonmpcifohiaaRows
import Derived.Test.YtilonmpcifohiaaOpenSt
import Derived.Test.YtilonmpcifohiaaHand
import Derived.Deep.CutBlock
import Derived.Deep.DeepCutAuto
import Derived.IntWalk
import Derived.BigQuiet
import Derived.Deep.QuietTactic
import Derived.Deep.RegionHeld3
import Derived.ProofKit
import Derived.OpenShut
import Derived.ShutString
import Derived.ChangeOld
import Derived.Below
namespace Go.Proofs.Ytilonmpcifohiaa
open Go.ChangeShapes Go.WideShapes Go.ChangeAt Go.RowKit
set_option linter.unusedSimpArgs false
set_option linter.unusedVariables false


set_option maxRecDepth 100000 in
set_option maxHeartbeats 4000000 in
theorem moveOrder_walk (v ov : Value) (l : List RMv) (ord : List Int) (w : World) (hv : SliceIs RMv.cells 7 w v l) (ho : SliceIs intC 1 w ov ord) (hord : ∀ z ∈ ord, -9223372036854775808 ≤ z ∧ z ≤ 9223372036854775807) :
    Calls Try.prog 6 #[v, ov] w fun e w' => e = .returned (.bool true) ∧ Below w.heap.size w w' := by
  have hK := addAll_kept (l.take 60)
  have hlen := addAll_len (l.take 60)
  rw [List.length_take] at hlen
  have hmv := moved_any v l w hv
  generalize (addAll (l.take 60)).1 = c at *
  generalize (addAll (l.take 60)).2 = all at *
  have hcl : c.length ≤ 60 := by omega
  have hal : all.length ≤ 60 := by omega
  have HK := Lib.hid hK
  obtain ⟨va0, vc0, rfl, hvcap, hvmax, hd0⟩ := id hv
  obtain ⟨oa, oc, rfl, hocap, homax, hd1⟩ := id ho
  unfold maxLen at hvmax homax
  clear hlen hK hd0 hd1
  have HV := Lib.hid hv
  have HO := Lib.hid ho
  have HR := Lib.hid hord
  clear hv ho hord
  go_enter Try.func6, Try.ntmps6
  go_wp2_with fail
  refine hmv.mono ?_
  rintro e w1 ⟨vo, rfl, hT, hOw, hB⟩
  clear hmv
  have HT := Lib.hid hT
  have HB := Lib.hid hB
  clear hT hB
  obtain ⟨va, vc, rfl, hcap, hmax, hd⟩ := hOw.slice RMv.len
  clear hd
  unfold maxLen at hmax
  go_wp2_with fail
  refine (new_tree _).mono ?_
  rintro e w2 ⟨rfl, hU, b2, z2⟩
  clear z2
  replace hOw := hOw.ext (Ext.of_below (S := fun _ => False) b2) (fun _ _ => id)
  go_wp2_with fail
  refine (alive_any _).mono ?_
  rintro e w3 ⟨rfl, b3⟩
  replace hU := hU.below b3
  replace hOw := hOw.ext (Ext.of_below (S := fun _ => False) b3) (fun _ _ => id)
  have hB3 := b2.trans (b3.mono b2.size)
  clear b2 b3
  go_wp2_with fail
  go_loopg [6, 9] all.length (fun g lv iv wx => ∃ (i : Nat) (D Lf : List RMv) (cu : List (St × Ch)), g = all.length - i ∧ i ≤ all.length ∧ Lf.length + i = all.length ∧ iv = .int .i64 i ∧ Own RMv.cells 7 26 w.heap.size wx lv Lf ∧ TreeHas w1.heap.size wx (w1.heap.size + 1) w1.heap.size cu ∧ Hid (Kept cu D) ∧ Hid ((D ++ Lf).Perm all) ∧ Below w1.heap.size w1 wx)
  case atStart => exact ⟨0, [], all, [], rfl, Nat.zero_le _, rfl, rfl, hOw, hU, Lib.hid ⟨List.Pairwise.nil, fun z => by simp, fun x hx => by simp at hx, List.Pairwise.nil, rfl⟩, Lib.hid (List.Perm.refl _), hB3⟩
  case round =>
    clear hOw hU hB3
    obtain ⟨i, D, Lf, cu, hg, hi, hLl, rfl, hOw, hU, hKu, hPm, hB⟩ := hrel
    have HG := Lib.hid hg
    clear hg
    by_cases hlt : i < all.length
    · rcases hOw.eq_slice with ⟨_, e0⟩ | ⟨g, lc, rfl, hgb, hgw⟩
      · rw [e0] at hLl; simp at hLl; omega
      have hL0 : (0 : Int) < (Lf.length : Int) := by omega
      have hlcap : Lf.length ≤ lc ∧ lc ≤ 9223372036854775807 := by
        obtain ⟨a', c', e1, h1, h2, _⟩ := hOw.slice RMv.len
        cases e1
        exact ⟨h1, by unfold maxLen at h2; omega⟩
      obtain ⟨hlc, hlm⟩ := hlcap
      go_upto_if 41 with fail
      go_cut [10] (fun kv wx => ∃ k : Nat, k < Lf.length ∧ kv = .int .i64 k ∧ wr = wx)
      case first =>
        by_cases hio : i < ord.length
        · obtain ⟨z, hz⟩ : ∃ z, ord[i]? = some z := ⟨_, List.getElem?_eq_getElem hio⟩
          obtain ⟨z1, z2⟩ := HR.out z (List.mem_of_getElem? hz)
          obtain ⟨_, _, e1, _, _, h4⟩ := (HO.out.below (HB.out.trans (hB.mono HB.out.size)))
          cases e1
          obtain ⟨b, o, rfl, h6⟩ := h4 (by intro e; rw [e] at hio; simp at hio)
          have zc : wr.cell? ⟨b, o + i, none⟩ = some (.int .i64 z) := by simpa using h6 i z hz 0 _ rfl
          clear h4 h6 hz
          by_cases hneg : z < 0
          · obtain ⟨y, hy⟩ : ∃ y : Nat, (y : Int) = -(z + 1) := ⟨(-(z + 1)).toNat, by omega⟩
            have hy2 : IntKind.i64.wrap (-(z + 1)) = (y : Int) := by rw [← hy]; exact IntWalk.i64_in _ (by omega)
            have hym : (y : Int) % (Lf.length : Int) = ((y % Lf.length : Nat) : Int) := by omega
            have hyv : Value.int .i64 (-(z + 1).tmod (Lf.length : Int)) = .int .i64 ((y % Lf.length : Nat) : Int) := by rw [← Int.neg_tmod, ← hy, Int.tmod_eq_emod_of_nonneg (by omega), hym]
            have HYV := Lib.hid hyv
            clear hyv
            go_wp2_with fail
            go_meet
            case rel => exact ⟨y % Lf.length, Nat.mod_lt _ (by omega), HYV.out, rfl⟩
          · obtain ⟨y, rfl⟩ : ∃ y : Nat, z = (y : Int) := ⟨z.toNat, by omega⟩
            have hym : (y : Int) % (Lf.length : Int) = ((y % Lf.length : Nat) : Int) := by omega
            go_wp2_with fail
            go_meet
            case rel => exact ⟨y % Lf.length, Nat.mod_lt _ (by omega), by first | rfl | (rw [← hym]) | (congr 1; rw [← Int.neg_tmod, ← hy, Int.tmod_eq_emod_of_nonneg (by omega), hym]) | (simp [hym]) | go_num, rfl⟩
        · go_wp2_with fail
          go_meet
          case rel => exact ⟨0, by omega, rfl, rfl⟩
      case rest =>
        obtain ⟨k, hk, rfl, rfl⟩ := hcut
        obtain ⟨x, hx⟩ : ∃ x, Lf[k]? = some x := ⟨_, List.getElem?_eq_getElem hk⟩
        obtain ⟨b, o, cp, hve, hcs⟩ := (hOw.slice RMv.len).rcells (by intro e; rw [e] at hk; simp at hk)
        cases hve
        have hxa := hcs k x hx
        rw [Nat.zero_add] at hxa
        obtain ⟨x0, x1, x2, x3, x4, x5, x6⟩ := hxa
        obtain ⟨hm, hKn, hPn⟩ := kept_next HK.out hPm.out hKu.out hx
        have hcul : cu.length ≤ 60 := by
          have h1 := hKu.out.len
          have h2 := hPm.out.length_eq
          rw [List.length_append] at h2
          omega
        have HX := Lib.hid hx
        have HKn := Lib.hid hKn
        have HPn := Lib.hid hPn
        clear hcs hx hKn hPn hKu hPm
        go_upto_region 16 with fail
        have hxb : RMvAt (wr.alloc (.cells #[.int .i64 x.at_.n, .int .i64 x.at_.r, .int .i64 x.block.n, .int .i64 x.block.r, .int .i64 x.under.n, .int .i64 x.under.r, .string x.key] 26)) wr.heap.size 0 x := ⟨by go_simp, by go_simp, by go_simp, by go_simp, by go_simp, by go_simp, by go_simp⟩
        replace hOw := hOw.alloc (.cells #[.int .i64 x.at_.n, .int .i64 x.at_.r, .int .i64 x.block.n, .int .i64 x.block.r, .int .i64 x.under.n, .int .i64 x.under.r, .string x.key] 26)
        replace hU := hU.alloc (.cells #[.int .i64 x.at_.n, .int .i64 x.at_.r, .int .i64 x.block.n, .int .i64 x.block.r, .int .i64 x.under.n, .int .i64 x.under.r, .string x.key] 26)
        replace hB := hB.alloc hB.size (.cells #[.int .i64 x.at_.n, .int .i64 x.at_.r, .int .i64 x.block.n, .int .i64 x.block.r, .int .i64 x.under.n, .int .i64 x.under.r, .string x.key] 26)
        generalize wr.alloc (.cells #[.int .i64 x.at_.n, .int .i64 x.at_.r, .int .i64 x.block.n, .int .i64 x.block.r, .int .i64 x.under.n, .int .i64 x.under.r, .string x.key] 26) = w6 at *
        generalize wr.heap.size = zb at *
        obtain ⟨c0, c1, c2, c3, c4, c5, c6⟩ := hxb
        have hmv := move_any (w1.heap.size + 1) x.at_ x.block x.under x.key w6 hU hB.size (by omega)
        rw [hm] at hmv
        have HM := Lib.hid hmv
        clear hmv x0 x1 x2 x3 x4 x5 x6 hm
        go_wp2_with fail
        refine HM.out.mono ?_
        rintro e w7 ⟨rfl, hU7, hx7⟩
        clear HM c0 c1 c2 c3 c4 c5 c6
        have hO7 := hOw.ext hx7 (own_touch hU hOw)
        have hB7 := touch_below hB hU hx7 (Nat.le_refl _)
        clear hOw hU hB hx7
        obtain ⟨i0, hi, hi0, hi1, hi2⟩ := info_parts info_rmove
        have hS7 : SliceIs RMv.cells 7 w7 (.slice (some ⟨g, 0, none⟩) k lc) (Lf.take k) := (hO7.slice RMv.len).take (by omega)
        obtain ⟨v8, w8, hr8, o8, x8⟩ := append_structs (P := Try.prog) (base := w7.heap.size) (w := w7) (v := .slice none 0 0) (l := []) 22 22 i0 _ 64 Try.underlying22 hi hi0 hi1 hi2 rfl (by omega) RMv.len RMv.one Own.nil hS7 (by unfold maxLen; simp; omega) (by simp; omega) (Nat.le_refl _)
        rw [List.nil_append] at o8
        have b8 : Below w7.heap.size w7 w8 := Ext.below (x8.mono (fun b _ e => by cases e))
        have hU8 := hU7.below b8
        have HI := Lib.hid (And.intro hi0 (And.intro hi1 hi2))
        clear hS7 hi0 hi1 hi2
        have hk0 : (0 : Int) ≤ (k : Int) := by omega
        have hk1 : (k : Int) ≤ (lc : Int) := by omega
        have hk2 : (k : Int) + 1 ≤ (Lf.length : Int) := by omega
        have hk3 : (k : Int) + 1 ≤ (lc : Int) := by omega
        have hk4 : (0 : Int) ≤ (k : Int) + 1 := by omega
        have HR8 := Lib.hid hr8
        clear hr8
        go_upto_region 20 with (at_builtin; refine wpList_append_run rfl _ _ _ rfl rfl rfl HR8.out ?_)
        have hpe2 : Lf.take k ++ Lf.drop (k + 1) = Lf.eraseIdx k := (List.eraseIdx_eq_take_drop_succ ..).symm
        have HPE := Lib.hid hpe2
        clear hpe2
        have hlen8 : (Lf.take k).length ≤ 60 := by rw [List.length_take]; omega
        have hlen9 : (Lf.drop (k + 1)).length ≤ 60 := by rw [List.length_drop]; omega
        have O8 := Lib.hid o8
        have U8 := Lib.hid hU8
        have HB8 := Lib.hid (hB7.trans (b8.mono hB7.size))
        have hz7 := hB7.size
        have hz8 := b8.size
        have hS8 := Lib.hid ((hO7.slice RMv.len).below b8)
        clear o8 hU8 hB7 hO7 hU7 HR8 x8 b8
        by_cases hkc : lc = k + 1
        · have hS9 : SliceIs RMv.cells 7 w8 (.slice (some ⟨g, 0, none⟩) (Lf.length - (k + 1)) (lc - (k + 1))) (Lf.drop (k + 1)) := by
              have : Lf.drop (k + 1) = [] := List.drop_eq_nil_of_le (by omega)
              rw [this]
              exact ⟨_, _, by rw [show Lf.length - (k + 1) = 0 by omega]; rfl, Nat.zero_le _, by unfold maxLen; omega, fun h => absurd rfl h⟩
          have hkz : (lc : Int) = (k : Int) + 1 := by omega
          obtain ⟨v9, w9, hr9, o9, x9⟩ := append_structs (P := Try.prog) (base := w7.heap.size) (w := w8) (v := v8) (l := Lf.take k) (ys := Lf.drop (k + 1)) 22 22 i0 (.agg #[.int .i64 0, .int .i64 0, .int .i64 0, .int .i64 0, .int .i64 0, .int .i64 0, .string ⟨#[]⟩]) 64 Try.underlying22 hi HI.out.1 HI.out.2.1 HI.out.2.2 rfl (by omega) RMv.len RMv.one O8.out hS9 (by unfold maxLen; omega) (by omega) hz8
          rw [HPE.out] at o9
          have HR9 := Lib.hid hr9
          have hne : ∀ b, v8.ownBlock = some b → w7.heap.size ≤ b := fun b hb => (O8.out.blk b hb).1
          have U9 := U8.out.own O8.out x9
          have B9 := Ext.new HB8.out x9 (fun b hb _ e => by have := hne b e; omega) (by have := HB8.out.size; omega)
          clear hr9 hne hS9 x9
          go_wp2_with (at_builtin; refine wpList_append_run rfl _ _ _ rfl rfl rfl HR9.out ?_)
          go_roundg (all.length - (i + 1))
          case measure => rw [HG.out]; omega
          case rel => exact ⟨i + 1, _, _, _, rfl, by omega, by have := List.length_eraseIdx_of_lt hk; omega, by go_num, o9.mono (by have := HB.out.size; omega), U9, HKn, HPn, B9⟩
        · have hS9 : SliceIs RMv.cells 7 w8 (.slice (some ⟨g, (k + 1) * 7, none⟩) (Lf.length - (k + 1)) (lc - (k + 1))) (Lf.drop (k + 1)) := by
              have := hS8.out.drop (n := k + 1) (by omega)
              rwa [Nat.zero_add] at this
          have hkz : ¬ (lc : Int) = (k : Int) + 1 := by omega
          obtain ⟨v9, w9, hr9, o9, x9⟩ := append_structs (P := Try.prog) (base := w7.heap.size) (w := w8) (v := v8) (l := Lf.take k) (ys := Lf.drop (k + 1)) 22 22 i0 (.agg #[.int .i64 0, .int .i64 0, .int .i64 0, .int .i64 0, .int .i64 0, .int .i64 0, .string ⟨#[]⟩]) 64 Try.underlying22 hi HI.out.1 HI.out.2.1 HI.out.2.2 rfl (by omega) RMv.len RMv.one O8.out hS9 (by unfold maxLen; omega) (by omega) hz8
          rw [HPE.out] at o9
          have HR9 := Lib.hid hr9
          have hne : ∀ b, v8.ownBlock = some b → w7.heap.size ≤ b := fun b hb => (O8.out.blk b hb).1
          have U9 := U8.out.own O8.out x9
          have B9 := Ext.new HB8.out x9 (fun b hb _ e => by have := hne b e; omega) (by have := HB8.out.size; omega)
          clear hr9 hne hS9 x9
          go_wp2_with (at_builtin; refine wpList_append_run rfl _ _ _ rfl rfl rfl HR9.out ?_)
          go_roundg (all.length - (i + 1))
          case measure => rw [HG.out]; omega
          case rel => exact ⟨i + 1, _, _, _, rfl, by omega, by have := List.length_eraseIdx_of_lt hk; omega, by go_num, o9.mono (by have := HB.out.size; omega), U9, HKn, HPn, B9⟩
    · obtain rfl : Lf = [] := List.eq_nil_of_length_eq_zero (by omega)
      have hcu : cu = c := kept_unique hKu.out HK.out (by have := hPm.out; rwa [List.append_nil] at this)
      subst hcu
      clear hOw hKu hPm HG hLl
      obtain ⟨wo, hwo⟩ : ∃ wo : World, wo = wr := ⟨_, rfl⟩
      subst hwo
      go_wp2_with fail
      clear hlt hi
      go_loopg [13] (min l.length 60) (fun g iv wx => ∃ i : Nat, g = min l.length 60 - i ∧ i ≤ min l.length 60 ∧ iv = .int .i64 i ∧ TreeHas w1.heap.size wx (w1.heap.size + 1) w1.heap.size cu ∧ Below w1.heap.size w1 wx)
      case atStart => exact ⟨0, rfl, Nat.zero_le _, rfl, hU, hB⟩
      case round =>
        clear hU hB
        obtain ⟨i, hg, hi, rfl, hU, hB⟩ := hrel
        have HG := Lib.hid hg
        clear hg
        by_cases hlt : i < min l.length 60
        · obtain ⟨hl1, hl2⟩ : i < l.length ∧ i < 60 := by omega
          obtain ⟨x, hx⟩ : ∃ x, l[i]? = some x := ⟨_, List.getElem?_eq_getElem hl1⟩
          obtain ⟨b, o, cp, hve, hcs⟩ := (HV.out.below (HB.out.trans (hB.mono HB.out.size))).rcells (by intro e; rw [e] at hl1; simp at hl1)
          cases hve
          obtain ⟨x0, x1, _, _, x4, x5, _⟩ := hcs i x hx
          have hT := HT.out.below hB
          clear hcs hx hlt
          go_upto_region 25 with fail
          go_cut [14] (fun bv wx => bv = .bool true ∧ Below wr.heap.size wr wx)
          case first =>
            have hS0 : (fun W => W.cell? ⟨b, o + i * 7 + 4, none⟩ = some (.int .i64 x.under.n) ∧ W.cell? ⟨b, o + i * 7 + 5, none⟩ = some (.int .i64 x.under.r) ∧ TreeHas w.heap.size W (w.heap.size + 1) w.heap.size cu ∧ TreeHas w1.heap.size W (w1.heap.size + 1) w1.heap.size cu) wr.drew := ⟨x4, x5, hT.drew, hU.drew⟩
            have b00 : Below wr.heap.size wr wr.drew := (Below.refl _ _).drew
            refine wp_region_held_drew (S := (fun W => W.cell? ⟨b, o + i * 7 + 4, none⟩ = some (.int .i64 x.under.n) ∧ W.cell? ⟨b, o + i * 7 + 5, none⟩ = some (.int .i64 x.under.r) ∧ TreeHas w.heap.size W (w.heap.size + 1) w.heap.size cu ∧ TreeHas w1.heap.size W (w1.heap.size + 1) w1.heap.size cu)) (by kernel_rfl) hS0 (fun _ => ?_)
            generalize wr.drew = W1 at *
            clear x0 x1 x4 x5 hT hU hB
            refine held_take (i := 0) (d := some 92) rfl rfl (by kernel_rfl) (by kernel_rfl) (by kernel_rfl) (fun _ _ _ h => h) (.inl ⟨by rfl, fun W hW => by go_simp; rfl⟩) hS0 ?_
            try simp only [Act.put, List.setIfInBounds_toArray, List.set_cons_zero, List.set_cons_succ]
            refine held_take (i := 1) (d := some 93) rfl rfl (by kernel_rfl) (by kernel_rfl) (by kernel_rfl) (fun _ _ _ h => h) (.inl ⟨by rfl, fun W hW => by go_simp; rfl⟩) hS0 ?_
            try simp only [Act.put, List.setIfInBounds_toArray, List.set_cons_zero, List.set_cons_succ]
            refine held_take (i := 2) (d := some 94) rfl rfl (by kernel_rfl) (by kernel_rfl) (by kernel_rfl) (fun _ _ _ h => h) (.inl ⟨by rfl, fun W hW => by go_simp; rfl⟩) hS0 ?_
            try simp only [Act.put, List.setIfInBounds_toArray, List.set_cons_zero, List.set_cons_succ]
            refine held_take (i := 3) (d := some 95) rfl rfl (by kernel_rfl) (by kernel_rfl) (by kernel_rfl) (fun _ _ _ h => h) (.inl ⟨by rfl, fun W hW => by go_simp; rfl⟩) hS0 ?_
            try simp only [Act.put, List.setIfInBounds_toArray, List.set_cons_zero, List.set_cons_succ]
            refine held_take (i := 4) (d := some 96) rfl rfl (by kernel_rfl) (by kernel_rfl) (by kernel_rfl) (fun _ _ _ h => h) (.inl ⟨by rfl, fun W hW => by go_simp; rfl⟩) hS0 ?_
            try simp only [Act.put, List.setIfInBounds_toArray, List.set_cons_zero, List.set_cons_succ]
            refine held_take (i := 5) (d := some 97) rfl rfl (by kernel_rfl) (by kernel_rfl) (by kernel_rfl) (fun _ _ _ h => h) (.inl ⟨by rfl, fun W hW => by obtain ⟨q0, q1, _, _⟩ := hW; go_simp; rfl⟩) hS0 ?_
            try simp only [Act.put, List.setIfInBounds_toArray, List.set_cons_zero, List.set_cons_succ]
            refine held_take (i := 7) (d := some 99) rfl rfl (by kernel_rfl) (by kernel_rfl) (by kernel_rfl) (fun _ _ _ h => h) (.inl ⟨by rfl, fun W hW => by go_simp; rfl⟩) hS0 ?_
            try simp only [Act.put, List.setIfInBounds_toArray, List.set_cons_zero, List.set_cons_succ]
            refine held_take (i := 8) (d := some 100) rfl rfl (by kernel_rfl) (by kernel_rfl) (by kernel_rfl) (fun _ _ _ h => h) (.inl ⟨by rfl, fun W hW => by go_simp; rfl⟩) hS0 ?_
            try simp only [Act.put, List.setIfInBounds_toArray, List.set_cons_zero, List.set_cons_succ]
            refine held_take (i := 9) (d := some 101) rfl rfl (by kernel_rfl) (by kernel_rfl) (by kernel_rfl) (fun _ _ _ h => h) (.inl ⟨by rfl, fun W hW => by go_simp; rfl⟩) hS0 ?_
            try simp only [Act.put, List.setIfInBounds_toArray, List.set_cons_zero, List.set_cons_succ]
            refine held_take (i := 10) (d := some 102) rfl rfl (by kernel_rfl) (by kernel_rfl) (by kernel_rfl) (fun _ _ _ h => h) (.inl ⟨by rfl, fun W hW => by go_simp; rfl⟩) hS0 ?_
            try simp only [Act.put, List.setIfInBounds_toArray, List.set_cons_zero, List.set_cons_succ]
            refine held_take (i := 11) (d := some 103) rfl rfl (by kernel_rfl) (by kernel_rfl) (by kernel_rfl) (fun _ _ _ h => h) (.inl ⟨by rfl, fun W hW => by go_simp; rfl⟩) hS0 ?_
            try simp only [Act.put, List.setIfInBounds_toArray, List.set_cons_zero, List.set_cons_succ]
            refine held_take (i := 12) (d := some 104) rfl rfl (by kernel_rfl) (by kernel_rfl) (by kernel_rfl) (fun _ _ _ h => h) (.inl ⟨by rfl, fun W hW => by obtain ⟨q0, q1, _, _⟩ := hW; go_simp; rfl⟩) hS0 ?_
            try simp only [Act.put, List.setIfInBounds_toArray, List.set_cons_zero, List.set_cons_succ]
            refine held_one (i := 6) (by kernel_rfl) ?_
            refine op_call (i := 6) (d := some 98) rfl rfl (by rfl) (by go_simp; first | rfl | exact ⟨rfl, rfl⟩ | exact ⟨⟨rfl, rfl⟩, rfl⟩) ?_
            refine (kids_any (w.heap.size + 1) x.under.n x.under.r hS0.2.2.1 (by omega)).mono ?_
            rintro e w5 ⟨v5, K5, rfl, o5, k5, b5⟩
            have hS5 : (fun W => W.cell? ⟨b, o + i * 7 + 4, none⟩ = some (.int .i64 x.under.n) ∧ W.cell? ⟨b, o + i * 7 + 5, none⟩ = some (.int .i64 x.under.r) ∧ TreeHas w.heap.size W (w.heap.size + 1) w.heap.size cu ∧ TreeHas w1.heap.size W (w1.heap.size + 1) w1.heap.size cu) w5 := ⟨keepB b5 hS0.1, keepB b5 hS0.2.1, hS0.2.2.1.below b5, hS0.2.2.2.below b5⟩
            have b05 := b00.trans (b5.mono b00.size)
            refine ⟨_, rfl, hS5, ?_⟩
            try simp only [Act.put, List.setIfInBounds_toArray, List.set_cons_zero, List.set_cons_succ]
            clear hS0 b00
            refine held_one (i := 13) (by kernel_rfl) ?_
            refine op_call (i := 13) (d := some 105) rfl rfl (by rfl) (by go_simp; first | rfl | exact ⟨rfl, rfl⟩ | exact ⟨⟨rfl, rfl⟩, rfl⟩) ?_
            refine (kids_any (w1.heap.size + 1) x.under.n x.under.r hS5.2.2.2 (by omega)).mono ?_
            rintro e w6 ⟨v6, K6, rfl, o6, k6, b6⟩
            obtain rfl := k5.unique k6
            have hS6 : (fun W => W.cell? ⟨b, o + i * 7 + 4, none⟩ = some (.int .i64 x.under.n) ∧ W.cell? ⟨b, o + i * 7 + 5, none⟩ = some (.int .i64 x.under.r) ∧ TreeHas w.heap.size W (w.heap.size + 1) w.heap.size cu ∧ TreeHas w1.heap.size W (w1.heap.size + 1) w1.heap.size cu) w6 := ⟨keepB b6 hS5.1, keepB b6 hS5.2.1, hS5.2.2.1.below b6, hS5.2.2.2.below b6⟩
            have b06 := b05.trans (b6.mono b05.size)
            refine ⟨_, rfl, hS6, ?_⟩
            try simp only [Act.put, List.setIfInBounds_toArray, List.set_cons_zero, List.set_cons_succ]
            have s5 := (o5.slice (fun _ => rfl)).below b6
            have s6 := o6.slice (fun _ => rfl)
            have hkl := k5.length
            clear hS5 b05 b5 b6 o5 o6
            refine held_one (i := 14) (by kernel_rfl) ?_
            refine op_call (i := 14) (d := some 106) rfl rfl (by rfl) (by go_simp; first | rfl | exact ⟨rfl, rfl⟩ | exact ⟨⟨rfl, rfl⟩, rfl⟩) ?_
            refine (sameStamps_any v5 v6 (K5.map Ch.block) w6 s5 s6 (by rw [List.length_map]; omega)).mono ?_
            rintro e w7 ⟨rfl, b7⟩
            have hS7 : (fun W => W.cell? ⟨b, o + i * 7 + 4, none⟩ = some (.int .i64 x.under.n) ∧ W.cell? ⟨b, o + i * 7 + 5, none⟩ = some (.int .i64 x.under.r) ∧ TreeHas w.heap.size W (w.heap.size + 1) w.heap.size cu ∧ TreeHas w1.heap.size W (w1.heap.size + 1) w1.heap.size cu) w7 := ⟨keepB b7 hS6.1, keepB b7 hS6.2.1, hS6.2.2.1.below b7, hS6.2.2.2.below b7⟩
            have b07 := b06.trans (b7.mono b06.size)
            refine ⟨_, rfl, hS7, ?_⟩
            try simp only [Act.put, List.setIfInBounds_toArray, List.set_cons_zero, List.set_cons_succ]
            clear hS6 b06 b7 s5 s6
            refine held_take (i := 15) (d := some 14) rfl rfl (by kernel_rfl) (by kernel_rfl) (by kernel_rfl) (fun _ _ _ h => h) (.inl ⟨by rfl, fun W hW => by go_simp; rfl⟩) hS7 ?_
            try simp only [Act.put, List.setIfInBounds_toArray, List.set_cons_zero, List.set_cons_succ]
            refine wpAnyH_done (by kernel_rfl) ?_ _
            go_wp2_with fail
            go_meet
            case rel => exact ⟨rfl, b07⟩
          case rest =>
            obtain ⟨rfl, bc⟩ := hcut
            replace hT := hT.below bc
            replace hU := hU.below bc
            replace hB := hB.trans (bc.mono hB.size)
            replace x0 := keepB bc x0
            replace x1 := keepB bc x1
            clear x4 x5 bc
            go_upto_region 26 with fail
            go_cut [125] (fun bv wx => bv = .bool false ∧ Below wc.heap.size wc wx)
            case first =>
              have hS0 : (fun W => W.cell? ⟨b, o + i * 7, none⟩ = some (.int .i64 x.at_.n) ∧ W.cell? ⟨b, o + i * 7 + 1, none⟩ = some (.int .i64 x.at_.r) ∧ TreeHas w.heap.size W (w.heap.size + 1) w.heap.size cu ∧ TreeHas w1.heap.size W (w1.heap.size + 1) w1.heap.size cu) wc.drew := ⟨x0, x1, hT.drew, hU.drew⟩
              have b00 : Below wc.heap.size wc wc.drew := (Below.refl _ _).drew
              refine wp_region_held_drew (S := (fun W => W.cell? ⟨b, o + i * 7, none⟩ = some (.int .i64 x.at_.n) ∧ W.cell? ⟨b, o + i * 7 + 1, none⟩ = some (.int .i64 x.at_.r) ∧ TreeHas w.heap.size W (w.heap.size + 1) w.heap.size cu ∧ TreeHas w1.heap.size W (w1.heap.size + 1) w1.heap.size cu)) (by kernel_rfl) hS0 (fun _ => ?_)
              generalize wc.drew = W1 at *
              clear x0 x1 hT hU hB
              refine held_take (i := 0) (d := some 107) rfl rfl (by kernel_rfl) (by kernel_rfl) (by kernel_rfl) (fun _ _ _ h => h) (.inl ⟨by rfl, fun W hW => by go_simp; rfl⟩) hS0 ?_
              try simp only [Act.put, List.setIfInBounds_toArray, List.set_cons_zero, List.set_cons_succ]
              refine held_take (i := 1) (d := some 108) rfl rfl (by kernel_rfl) (by kernel_rfl) (by kernel_rfl) (fun _ _ _ h => h) (.inl ⟨by rfl, fun W hW => by go_simp; rfl⟩) hS0 ?_
              try simp only [Act.put, List.setIfInBounds_toArray, List.set_cons_zero, List.set_cons_succ]
              refine held_take (i := 2) (d := some 109) rfl rfl (by kernel_rfl) (by kernel_rfl) (by kernel_rfl) (fun _ _ _ h => h) (.inl ⟨by rfl, fun W hW => by go_simp; rfl⟩) hS0 ?_
              try simp only [Act.put, List.setIfInBounds_toArray, List.set_cons_zero, List.set_cons_succ]
              refine held_take (i := 3) (d := some 110) rfl rfl (by kernel_rfl) (by kernel_rfl) (by kernel_rfl) (fun _ _ _ h => h) (.inl ⟨by rfl, fun W hW => by go_simp; rfl⟩) hS0 ?_
              try simp only [Act.put, List.setIfInBounds_toArray, List.set_cons_zero, List.set_cons_succ]
              refine held_take (i := 4) (d := some 111) rfl rfl (by kernel_rfl) (by kernel_rfl) (by kernel_rfl) (fun _ _ _ h => h) (.inl ⟨by rfl, fun W hW => by go_simp; rfl⟩) hS0 ?_
              try simp only [Act.put, List.setIfInBounds_toArray, List.set_cons_zero, List.set_cons_succ]
              refine held_take (i := 5) (d := some 112) rfl rfl (by kernel_rfl) (by kernel_rfl) (by kernel_rfl) (fun _ _ _ h => h) (.inl ⟨by rfl, fun W hW => by obtain ⟨q0, q1, _, _⟩ := hW; go_simp; rfl⟩) hS0 ?_
              try simp only [Act.put, List.setIfInBounds_toArray, List.set_cons_zero, List.set_cons_succ]
              refine held_take (i := 7) (d := some 114) rfl rfl (by kernel_rfl) (by kernel_rfl) (by kernel_rfl) (fun _ _ _ h => h) (.inl ⟨by rfl, fun W hW => by go_simp; rfl⟩) hS0 ?_
              try simp only [Act.put, List.setIfInBounds_toArray, List.set_cons_zero, List.set_cons_succ]
              refine held_take (i := 8) (d := some 115) rfl rfl (by kernel_rfl) (by kernel_rfl) (by kernel_rfl) (fun _ _ _ h => h) (.inl ⟨by rfl, fun W hW => by go_simp; rfl⟩) hS0 ?_
              try simp only [Act.put, List.setIfInBounds_toArray, List.set_cons_zero, List.set_cons_succ]
              refine held_take (i := 9) (d := some 116) rfl rfl (by kernel_rfl) (by kernel_rfl) (by kernel_rfl) (fun _ _ _ h => h) (.inl ⟨by rfl, fun W hW => by go_simp; rfl⟩) hS0 ?_
              try simp only [Act.put, List.setIfInBounds_toArray, List.set_cons_zero, List.set_cons_succ]
              refine held_take (i := 10) (d := some 117) rfl rfl (by kernel_rfl) (by kernel_rfl) (by kernel_rfl) (fun _ _ _ h => h) (.inl ⟨by rfl, fun W hW => by go_simp; rfl⟩) hS0 ?_
              try simp only [Act.put, List.setIfInBounds_toArray, List.set_cons_zero, List.set_cons_succ]
              refine held_take (i := 11) (d := some 118) rfl rfl (by kernel_rfl) (by kernel_rfl) (by kernel_rfl) (fun _ _ _ h => h) (.inl ⟨by rfl, fun W hW => by go_simp; rfl⟩) hS0 ?_
              try simp only [Act.put, List.setIfInBounds_toArray, List.set_cons_zero, List.set_cons_succ]
              refine held_take (i := 12) (d := some 119) rfl rfl (by kernel_rfl) (by kernel_rfl) (by kernel_rfl) (fun _ _ _ h => h) (.inl ⟨by rfl, fun W hW => by obtain ⟨q0, q1, _, _⟩ := hW; go_simp; rfl⟩) hS0 ?_
              try simp only [Act.put, List.setIfInBounds_toArray, List.set_cons_zero, List.set_cons_succ]
              have HK1 := fun (W : World) (h : TreeHas w.heap.size W (w.heap.size + 1) w.heap.size cu) => took_any (w.heap.size + 1) x.at_.n x.at_.r W h (by omega)
              have HK2 := fun (W : World) (h : TreeHas w1.heap.size W (w1.heap.size + 1) w1.heap.size cu) => took_any (w1.heap.size + 1) x.at_.n x.at_.r W h (by omega)
              generalize tookC cu ⟨x.at_.n, x.at_.r⟩ = tk at HK1 HK2
              have H1 := Lib.hid HK1
              have H2 := Lib.hid HK2
              clear HK1 HK2
              refine held_one (i := 6) (by kernel_rfl) ?_
              refine op_call (i := 6) (d := some 113) rfl rfl (by rfl) (by go_simp; first | rfl | exact ⟨rfl, rfl⟩ | exact ⟨⟨rfl, rfl⟩, rfl⟩) ?_
              refine (H1.out _ hS0.2.2.1).mono ?_
              rintro e w5 ⟨rfl, b5⟩
              have hS5 : (fun W => W.cell? ⟨b, o + i * 7, none⟩ = some (.int .i64 x.at_.n) ∧ W.cell? ⟨b, o + i * 7 + 1, none⟩ = some (.int .i64 x.at_.r) ∧ TreeHas w.heap.size W (w.heap.size + 1) w.heap.size cu ∧ TreeHas w1.heap.size W (w1.heap.size + 1) w1.heap.size cu) w5 := ⟨keepB b5 hS0.1, keepB b5 hS0.2.1, hS0.2.2.1.below b5, hS0.2.2.2.below b5⟩
              have b05 := b00.trans (b5.mono b00.size)
              refine ⟨_, rfl, hS5, ?_⟩
              try simp only [Act.put, List.setIfInBounds_toArray, List.set_cons_zero, List.set_cons_succ]
              clear hS0 b00
              refine held_one (i := 13) (by kernel_rfl) ?_
              refine op_call (i := 13) (d := some 120) rfl rfl (by rfl) (by go_simp; first | rfl | exact ⟨rfl, rfl⟩ | exact ⟨⟨rfl, rfl⟩, rfl⟩) ?_
              refine (H2.out _ hS5.2.2.2).mono ?_
              rintro e w6 ⟨rfl, b6⟩
              have hS6 : (fun W => W.cell? ⟨b, o + i * 7, none⟩ = some (.int .i64 x.at_.n) ∧ W.cell? ⟨b, o + i * 7 + 1, none⟩ = some (.int .i64 x.at_.r) ∧ TreeHas w.heap.size W (w.heap.size + 1) w.heap.size cu ∧ TreeHas w1.heap.size W (w1.heap.size + 1) w1.heap.size cu) w6 := ⟨keepB b6 hS5.1, keepB b6 hS5.2.1, hS5.2.2.1.below b6, hS5.2.2.2.below b6⟩
              have b06 := b05.trans (b6.mono b05.size)
              refine ⟨_, rfl, hS6, ?_⟩
              try simp only [Act.put, List.setIfInBounds_toArray, List.set_cons_zero, List.set_cons_succ]
              clear hS5 b05 b5 b6
              cases tk
              · skip
                refine held_take (i := 14) (d := some 121) rfl rfl (by kernel_rfl) (by kernel_rfl) (by kernel_rfl) (fun _ _ _ h => h) (.inl ⟨by rfl, fun W hW => by go_simp; rfl⟩) hS6 ?_
                try simp only [Act.put, List.setIfInBounds_toArray, List.set_cons_zero, List.set_cons_succ]
                refine held_take (i := 15) (d := some 122) rfl rfl (by kernel_rfl) (by kernel_rfl) (by kernel_rfl) (fun _ _ _ h => h) (.inl ⟨by rfl, fun W hW => by go_simp; rfl⟩) hS6 ?_
                try simp only [Act.put, List.setIfInBounds_toArray, List.set_cons_zero, List.set_cons_succ]
                refine held_take (i := 16) (d := some 123) rfl rfl (by kernel_rfl) (by kernel_rfl) (by kernel_rfl) (fun _ _ _ h => h) (.inl ⟨by rfl, fun W hW => by go_simp; rfl⟩) hS6 ?_
                try simp only [Act.put, List.setIfInBounds_toArray, List.set_cons_zero, List.set_cons_succ]
                refine held_take (i := 17) (d := some 124) rfl rfl (by kernel_rfl) (by kernel_rfl) (by kernel_rfl) (fun _ _ _ h => h) (.inl ⟨by rfl, fun W hW => by go_simp; rfl⟩) hS6 ?_
                try simp only [Act.put, List.setIfInBounds_toArray, List.set_cons_zero, List.set_cons_succ]
                refine held_take (i := 18) (d := some 125) rfl rfl (by kernel_rfl) (by kernel_rfl) (by kernel_rfl) (fun _ _ _ h => h) (.inl ⟨by rfl, fun W hW => by go_simp; rfl⟩) hS6 ?_
                try simp only [Act.put, List.setIfInBounds_toArray, List.set_cons_zero, List.set_cons_succ]
                refine wpAnyH_done (by kernel_rfl) ?_ _
                go_wp2_with fail
                go_meet
                case rel => exact ⟨rfl, b06⟩
              · skip
                refine held_take (i := 14) (d := some 121) rfl rfl (by kernel_rfl) (by kernel_rfl) (by kernel_rfl) (fun _ _ _ h => h) (.inl ⟨by rfl, fun W hW => by go_simp; rfl⟩) hS6 ?_
                try simp only [Act.put, List.setIfInBounds_toArray, List.set_cons_zero, List.set_cons_succ]
                refine held_take (i := 15) (d := some 122) rfl rfl (by kernel_rfl) (by kernel_rfl) (by kernel_rfl) (fun _ _ _ h => h) (.inl ⟨by rfl, fun W hW => by go_simp; rfl⟩) hS6 ?_
                try simp only [Act.put, List.setIfInBounds_toArray, List.set_cons_zero, List.set_cons_succ]
                refine held_take (i := 16) (d := some 123) rfl rfl (by kernel_rfl) (by kernel_rfl) (by kernel_rfl) (fun _ _ _ h => h) (.inl ⟨by rfl, fun W hW => by go_simp; rfl⟩) hS6 ?_
                try simp only [Act.put, List.setIfInBounds_toArray, List.set_cons_zero, List.set_cons_succ]
                refine held_take (i := 17) (d := some 124) rfl rfl (by kernel_rfl) (by kernel_rfl) (by kernel_rfl) (fun _ _ _ h => h) (.inl ⟨by rfl, fun W hW => by go_simp; rfl⟩) hS6 ?_
                try simp only [Act.put, List.setIfInBounds_toArray, List.set_cons_zero, List.set_cons_succ]
                refine held_take (i := 18) (d := some 125) rfl rfl (by kernel_rfl) (by kernel_rfl) (by kernel_rfl) (fun _ _ _ h => h) (.inl ⟨by rfl, fun W hW => by go_simp; rfl⟩) hS6 ?_
                try simp only [Act.put, List.setIfInBounds_toArray, List.set_cons_zero, List.set_cons_succ]
                refine wpAnyH_done (by kernel_rfl) ?_ _
                go_wp2_with fail
                go_meet
                case rel => exact ⟨rfl, b06⟩
            case rest =>
              obtain ⟨rfl, bc⟩ := hcut
              replace hU := hU.below bc
              replace hB := hB.trans (bc.mono hB.size)
              clear x0 x1 hT bc
              go_wp2_with fail
              go_roundg (min l.length 60 - (i + 1))
              case measure => rw [HG.out]; omega
              case rel => exact ⟨i + 1, rfl, by omega, by go_num, hU, hB⟩
        · have hT := HT.out.below hB
          have hstop : l.length ≤ i ∨ 60 ≤ i := by omega
          have HBB := Lib.hid (HB.out.trans (hB.mono HB.out.size))
          clear hlt hi hB
          obtain ⟨st, hst⟩ : ∃ st : Nat, st = i := ⟨_, rfl⟩
          by_cases hl1 : i < l.length
          · have h60 : ¬ i < 60 := by omega
            go_wp2_with fail
            refine (all_any _ hT (by omega)).mono ?_
            rintro e w5 ⟨v5, l5, rfl, o5, a5, b5⟩
            replace hU := hU.below b5
            have B5 := Lib.hid (HBB.out.trans (b5.mono HBB.out.size))
            have s5 := o5.slice (fun _ => rfl)
            have A5 := Lib.hid a5
            clear hT o5 a5 b5
            go_wp2_with fail
            refine (all_any _ hU (by omega)).mono ?_
            rintro e w6 ⟨v6, l6, rfl, o6, a6, b6⟩
            obtain rfl := A5.out.unique a6
            have s6 := o6.slice (fun _ => rfl)
            replace s5 := s5.below b6
            have B6 := Lib.hid (B5.out.trans (b6.mono B5.out.size))
            have hl5 := a6.length
            rw [List.length_map] at hl5
            clear o6 a6 b6 hU B5
            go_wp2_with fail
            refine (same_any _ _ _ _ s5 s6 (by omega)).mono ?_
            rintro e w7 ⟨rfl, b7⟩
            have B7 := Lib.hid (B6.out.trans (b7.mono B6.out.size))
            clear b7 s5 s6
            go_wp2_with fail
            go_ret
            exact ⟨rfl, B7.out⟩
          · skip
            go_wp2_with fail
            refine (all_any _ hT (by omega)).mono ?_
            rintro e w5 ⟨v5, l5, rfl, o5, a5, b5⟩
            replace hU := hU.below b5
            have B5 := Lib.hid (HBB.out.trans (b5.mono HBB.out.size))
            have s5 := o5.slice (fun _ => rfl)
            have A5 := Lib.hid a5
            clear hT o5 a5 b5
            go_wp2_with fail
            refine (all_any _ hU (by omega)).mono ?_
            rintro e w6 ⟨v6, l6, rfl, o6, a6, b6⟩
            obtain rfl := A5.out.unique a6
            have s6 := o6.slice (fun _ => rfl)
            replace s5 := s5.below b6
            have B6 := Lib.hid (B5.out.trans (b6.mono B5.out.size))
            have hl5 := a6.length
            rw [List.length_map] at hl5
            clear o6 a6 b6 hU B5
            go_wp2_with fail
            refine (same_any _ _ _ _ s5 s6 (by omega)).mono ?_
            rintro e w7 ⟨rfl, b7⟩
            have B7 := Lib.hid (B6.out.trans (b7.mono B6.out.size))
            clear b7 s5 s6
            go_wp2_with fail
            go_ret
            exact ⟨rfl, B7.out⟩

set_option maxRecDepth 100000 in
theorem moveOrder_lifted (os : Os) (started : os.Started) (H : Type) (enc : TypeId × Value → H) :
    ReturnsInHanded {} Try.checked os 6 .any (Rows.moveOrderSpec.pre6 enc Try.prog Try.f6 Rows.moveOrderRow.domain false) (Rows.moveOrderSpec.post enc Try.prog Try.f6 false true false false) := by
  refine returnsInHanded_of_change (C := Try.checked) Try.own started (by kernel_rfl) Try.func6
    (ChangeSpec.witness6 (enc := enc) (C := Try.checked) false ⟨#[], #[.slice none 0 0, .slice none 0 0], []⟩ 8 (by kernel_rfl) (by kernel_rfl) (by kernel_rfl) (by kernel_rfl)) ?_
  intro W base args ds gs before hval0 hW hcnd _
  have hval : ∀ (j : Nat) t v, Try.f6.params[j]? = some t → args[j]? = some v → Value.okWide Try.prog W .any base t v := hval0
  have hW' := hW
  obtain ⟨p, q, hA0, hV, rfl, hfz, hnd⟩ := hW
  have hA : DataW.TrodAll enc Try.prog W 0 (fun _ => true) true Try.f6.params.toList args.toList ds p := hA0
  rw [Try.params6] at hA hval
  obtain ⟨v0, vs0, d0, ds0, p0, q0, hargs, rfl, rfl, h0, r0⟩ := trodAll_cons hA
  obtain ⟨v1, vs1, d1, ds1, p1, q1, rfl, rfl, rfl, h1, r1⟩ := trodAll_cons r0
  obtain ⟨rfl, rfl, rfl⟩ := trodAll_nil r1
  obtain rfl : args = #[v0, v1] := by cases args; simp_all
  obtain ⟨rfl, rfl⟩ := trodVars_none hV
  have k0 := h0
  have lt0 : ∀ x ∈ p0, x.block < W.heap.size := by obtain ⟨m, hm⟩ := k0; exact DataW.trod_lt m _ _ _ hm
  have k1 := h1
  have lt1 : ∀ x ∈ p1, x.block < W.heap.size := by obtain ⟨m, hm⟩ := k1; exact DataW.trod_lt m _ _ _ hm
  obtain ⟨l, hv⟩ := open_rmoves (hval 0 22 v0 rfl rfl) h0
  obtain ⟨ord, ho, hord⟩ := open_ints1 (hval 1 51 v1 rfl rfl) h1
  clear hA0 hval0
  refine (moveOrder_walk v0 v1 l ord W hv ho hord).mono fun e W' ⟨he, bel⟩ => ?_
  subst he
  exact ⟨_, rfl, _, _, _, [], _, [], hW', trodAll_mk1 (shut_bool Try.underlying4 _), (trodAll_cons_mk (Below.trod Try.laidOut (by kernel_rfl) (of_decide_eq_true (by kernel_rfl)) k0 bel lt0) (trodAll_cons_mk (Below.trod Try.laidOut (by kernel_rfl) (of_decide_eq_true (by kernel_rfl)) k1 bel lt1) trodAll_mk0)), rfl, bel.frame _, fun h => by cases h⟩

theorem moveOrder_holds : Rows.MoveOrderSaid :=
  OpenClaim.holds_of_wide 6 Try.f6 rfl rfl rfl rfl rfl rfl rfl ⟨rfl, rfl, rfl, rfl, rfl⟩ rfl rfl rfl rfl rfl (by kernel_rfl) Try.func6 (by kernel_rfl)
    (of_decide_eq_true (by kernel_rfl)) (by unfold Func.isWrapper; first | (rw [if_pos (by decide +kernel)]; kernel_rfl) | (rw [if_neg (by decide +kernel)]; exact ⟨rfl, rfl⟩))
    (fun os started H enc _ => moveOrder_lifted os started H enc)

#print axioms moveOrder_holds

end Go.Proofs.Ytilonmpcifohiaa
