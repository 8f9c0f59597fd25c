/- The document's TakeBools: a contract. stemmaref08.truths: a contract. The document's TakeRuns: a contract. stemmaref08.texts: a contract. The document's TakeDeltas: a contract. The document's Deltas: a contract. stemmaref08.raw: a contract. stemmaref08.Encode: a contract. stemmaref08.Decode: a contract. -/
import Derived.Test.YtgmdimbiipemhaaGreatDoorTkP08
import Derived.Test.YtgmdimbiipemhaaGreatDoorHeUB
import Derived.Test.YtgmdimbiipemhaaGreatDoorFldR08
import Derived.Test.YtgmdimbiipemhaaGreatDoorRRuns08
import Derived.Test.YtgmdimbiipemhaaGreatDoorHeUA
import Derived.Test.YtgmdimbiipemhaaGreatDoorDiffP08
import Derived.Test.YtgmdimbiipemhaaGreatDoorHeldT
import Derived.Deep.LoopGhost
import Derived.Deep.QuietTactic
import Derived.Deep.CutBlock
import Derived.Deep.DeepCutAuto
import Derived.IntWalk
import Derived.Lib.AppendZeros
import Derived.Test.YtgmdimbiipemhaaGreatDoorHeUC
import Derived.Test.YtgmdimbiipemhaaGreatDoorRBools08
import Derived.Laws.Concat
import Derived.Test.YtgmdimbiipemhaaGreatDoorRRight08
import Derived.Test.YtgmdimbiipemhaaGreatDoorPut08
import Derived.Test.YtgmdimbiipemhaaGreatDoorHeUD
namespace Go.Proofs.YtgmdimbiipemhaaGreatDoor
open Go.RowKit Go.Deep
set_option linter.unusedSimpArgs false
set_option linter.unusedVariables false
set_option maxRecDepth 20000 in
set_option maxHeartbeats 1000000 in
theorem rtakebools_any (v : Value) (b : List UInt8) (n : Nat) (w : World) (h : SliceIs u8c 1 w v b) (hn0 : n ≤ 65536) : Calls Tryz.prog 109 #[v, .int .i64 n] w fun e w' => TbPost w b n e w' := by
  obtain ⟨a, cap, rfl, hcap, hmax, hca⟩ := id h
  unfold maxLen at hmax
  obtain ⟨i0, hi, hy0, hy1, hy2⟩ := info_parts info_bt
  have HNA := Lib.hid (fun (e : a = none) => show b = [] from Classical.byContradiction fun hne => by obtain ⟨_, _, e2, _⟩ := hca hne; rw [e] at e2; cases e2)
  have HH := Lib.hid h
  clear h hca
  have hn1 : ¬ (n : Int) < 0 := by omega
  have hn2 : ¬ (65536 : Int) < (n : Int) := by omega
  go_enter Tryz.func109, Tryz.ntmps109
  go_wp2_with fail
  go_loopg [7, 8, 9] (2 * n + 1) (fun g lv pv vv wr => ∃ (s : Sl) (l : List Bool) (p : Nat) (v : Bool), g = 2 * (n - l.length) + (if p = 0 then 1 else 0) ∧ lv = .slice s.a s.n s.cap ∧ pv = .int .i64 p ∧ vv = .bool v ∧ s.n = l.length ∧ l.length ≤ n ∧ p ≤ b.length ∧ Hid (TB b n l p v) ∧ Hid (Own btc 1 4 w.heap.size wr (.slice s.a s.n s.cap) l ∧ Below w.heap.size w wr))
  case atStart => exact ⟨⟨none, 0, 0⟩, [], 0, false, by simp, rfl, rfl, rfl, rfl, Nat.zero_le _, Nat.zero_le _, Lib.hid (TB.zero b n), Lib.hid ⟨Own.nil, Below.refl _ _⟩⟩
  case round =>
    obtain ⟨⟨sa, sn, sc⟩, l, p, v, hg, rfl, rfl, rfl, hsn, hln, hpb, HT, HU⟩ := hrel
    dsimp only at hsn HU ⊢
    subst hsn
    have HG := Lib.hid hg
    clear hg
    by_cases hlt : l.length < n
    · have hl1 : (l.length : Int) < (n : Int) := by omega
      have hp1 : ¬ (cap : Int) < (p : Int) := by omega
      have hp2 : ¬ (b.length : Int) < (p : Int) := by omega
      have hp3 : (p : Int) ≤ (b.length : Int) := by omega
      cases a with
      | none =>
        have hb : b = [] := HNA.out rfl
        have hp0 : p = 0 := by rw [hb] at hpb; exact Nat.le_zero.1 hpb
        have HD := Lib.hid (HT.out.bad hlt (.inl (by rw [hb]; simp only [List.drop_nil]; exact takeV_nil)))
        have hr0 : takeR ([] : List UInt8) = .tuple #[.int .u64 0, .int .i64 0, .int .i64 31] := by unfold takeR; rw [takeV_nil]
        have HR0 := Lib.hid hr0
        subst hb hp0
        clear hr0
        go_wp2_with fail
        all_goals
          refine (rtake_any _ ([] : List UInt8) _ ⟨none, _, rfl, Nat.zero_le _, by unfold maxLen; omega, fun h => absurd rfl h⟩).mono ?_
          rintro e w5 ⟨rfl, b5⟩
          have HB5 := Lib.hid (HU.out.2.trans (b5.mono HU.out.2.size))
          rw [HR0.out]
          clear b5 HU HR0
          go_wp2_with fail
          go_ret3
          exact .inr ⟨HD.out, rfl, HB5.out⟩
      | some ad =>
        by_cases hcp : cap = p
        · have hdr : b.drop p = [] := List.drop_eq_nil_of_le (by omega)
          have HD := Lib.hid (HT.out.bad hlt (.inl (by rw [hdr]; exact takeV_nil)))
          have hr0 : takeR ([] : List UInt8) = .tuple #[.int .u64 0, .int .i64 0, .int .i64 31] := by unfold takeR; rw [takeV_nil]
          have HR0 := Lib.hid hr0
          have HS : Hid (SliceIs u8c 1 wr (.slice (some ad) (b.length - p) 0) ([] : List UInt8)) := Lib.hid ⟨some ad, 0, by rw [show b.length - p = 0 by omega]; rfl, Nat.le_refl _, by unfold maxLen; omega, fun h => absurd rfl h⟩
          clear hdr hr0
          go_wp2_with fail
          refine (rtake_any _ _ _ HS.out).mono ?_
          rintro e w5 ⟨rfl, b5⟩
          have HB5 := Lib.hid (HU.out.2.trans (b5.mono HU.out.2.size))
          rw [HR0.out]
          clear b5 HU HS HR0
          go_wp2_with fail
          go_ret3
          exact .inr ⟨HD.out, rfl, HB5.out⟩
        have HS := Lib.hid ((HH.out.below HU.out.2).drop1 hpb)
        go_wp2_with fail
        have HC := Lib.hid (rtake_any (.slice (some (ad.add p)) (b.length - p) (cap - p)) (b.drop p) wr HS.out)
        refine Calls.mono HC.out ?_
        rintro e w5 ⟨rfl, b5⟩
        have HB5 := Lib.hid (HU.out.2.trans (b5.mono HU.out.2.size))
        have HO5 := Lib.hid (HU.out.1.below1 b5)
        clear b5 HU HS
        cases hk : takeV (b.drop p) with
        | none =>
          have hr : takeR (b.drop p) = .tuple #[.int .u64 0, .int .i64 0, .int .i64 31] := by unfold takeR; rw [hk]
          have HD := Lib.hid (HT.out.bad hlt (.inl hk))
          rw [hr]
          clear hk hr
          go_wp2_with fail
          go_ret3
          exact .inr ⟨HD.out, rfl, HB5.out⟩
        | some k =>
          have hr : takeR (b.drop p) = .tuple #[.int .u64 k, .int .i64 (putB k).length, .int .i64 0] := by unfold takeR; rw [hk]
          have hk64 := (takeV_some.1 hk).1
          rw [hr]
          obtain ⟨q, hq⟩ : ∃ q, (putB k).length = q := ⟨_, rfl⟩
          rw [hq]
          obtain ⟨r, hrr⟩ : ∃ r : Nat, r = n - l.length := ⟨_, rfl⟩
          have hsub : (n : Int) - (l.length : Int) = (r : Int) := by omega
          by_cases hkn : r < k
          · have hk1 : (r : Int) < (k : Int) := by omega
            have HD := Lib.hid (HT.out.bad hlt (.inr ⟨k, hk, .inr (by omega)⟩))
            clear hk hr hq hrr hkn
            go_wp2_with fail
            go_ret3
            exact .inr ⟨HD.out, rfl, HB5.out⟩
          · have hk1 : ¬ (r : Int) < (k : Int) := by omega
            by_cases hz : k = 0 ∧ p ≠ 0
            · obtain ⟨rfl, hp0⟩ := hz
              have hpz : ¬ (p : Int) = 0 := by omega
              have hp4 : (0 : Int) < (p : Int) := by omega
              have HD := Lib.hid (HT.out.bad hlt (.inr ⟨0, hk, .inl ⟨rfl, hp0⟩⟩))
              clear hk hr hq hrr hkn hp0
              go_wp2_with fail
              go_ret3
              exact .inr ⟨HD.out, rfl, HB5.out⟩
            · have HNX := Lib.hid (HT.out.step hlt hk hz (by omega))
              rw [hq] at HNX
              have hqp := (takeV_some.1 hk).2.length_le
              rw [hq, List.length_drop] at hqp
              have hq0 : 0 < q := by rw [← hq]; exact List.length_pos_iff.2 (putB_ne k)
              have HQ : Hid (0 < q ∧ p + q ≤ b.length) := Lib.hid ⟨hq0, by omega⟩
              have HKN : Hid (k ≤ n - l.length ∧ (k = 0 → p = 0)) := Lib.hid ⟨by omega, fun e => Classical.byContradiction fun h => hz ⟨e, h⟩⟩
              have hgo : ¬ k = 0 ∨ (k = 0 ∧ p = 0) := by by_cases e : k = 0; exact .inr ⟨e, HKN.out.2 e⟩; exact .inl e
              clear hk hr hq hqp hq0 hkn hz
              have hdk : decide (n - l.length < k) = false := decide_eq_false (by have := HKN.out.1; omega)
              rcases hgo with hgo | hgo
              · have hz1 : ¬ (k : Int) = 0 := by omega
                have hz2 : ((k : Int) == 0) = false := by simpa using hz1
                go_wp2_with fail
                go_loopg [7, 13] k (fun g lv mv wx => ∃ (m : Nat) (s : Sl), g = k - m ∧ lv = .slice s.a s.n s.cap ∧ mv = .int .u64 m ∧ m ≤ k ∧ Hid (Own btc 1 4 w.heap.size wx (.slice s.a s.n s.cap) (l ++ List.replicate m v) ∧ Below w.heap.size w wx))
                case atStart => exact ⟨0, ⟨sa, l.length, sc⟩, rfl, rfl, rfl, Nat.zero_le _, Lib.hid ⟨by rw [List.replicate_zero, List.append_nil]; exact HO5.out, HB5.out⟩⟩
                case round =>
                  obtain ⟨m, ⟨ta, tn, tc⟩, hg2, rfl, rfl, hmk, HX⟩ := hrel
                  dsimp only at HX ⊢
                  have HG2 := Lib.hid hg2
                  clear hg2
                  by_cases hm : m < k
                  · have hm1 : (m : Int) < (k : Int) := by omega
                    have hsz := HX.out.2.size
                    have hll : (l ++ List.replicate m v).length = l.length + m := by simp
                    have hkn2 := HKN.out.1
                    have hbd : (l ++ List.replicate m v).length + 1 ≤ maxLen ∧ ((l ++ List.replicate m v).length + 1) * 1 ≤ 140737488355328 := by rw [hll]; unfold maxLen; omega
                    have HBD := Lib.hid hbd
                    clear hll hkn2 hbd hm
                    go_wp2_with (at_builtin; refine wpList_append_struct rfl _ _ _ rfl i0 _ 1 Tryz.underlying75 hi hy0 hy1 hy2 rfl (by omega) btc_len btc_one rfl (HX.out.1.alloc _) v wr.heap.size 1 rfl (bt_new _ v) HBD.out.1 HBD.out.2 (by simp; omega) ?_)
                    intro v' w3 hown3 hx3
                    have hB3 := Ext.new (HX.out.2.alloc HX.out.2.size (.cells #[.bool v] 4)) hx3 (fun i hi _ e => by have := (HX.out.1.blk i e).1; omega) (by simp; omega)
                    rw [show l ++ (List.replicate m v ++ [v]) = l ++ List.replicate (m + 1) v by rw [List.replicate_succ']] at hown3
                    obtain ⟨⟨ua, un, uc⟩, e3⟩ := hown3.sl
                    dsimp only at e3
                    subst e3
                    have HN := Lib.hid (And.intro hown3 hB3)
                    clear hown3 hx3 hB3
                    go_wp2_with fail
                    go_roundg (k - (m + 1))
                    case measure => rw [HG2.out]; omega
                    case rel => exact ⟨m + 1, ⟨ua, un, uc⟩, rfl, rfl, by simp, by omega, HN⟩
                  · have hm1 : ¬ (m : Int) < (k : Int) := by omega
                    have hmk2 : m = k := by omega
                    have HX2 : Hid (Own btc 1 4 w.heap.size wr (.slice ta tn tc) (l ++ List.replicate k v) ∧ Below w.heap.size w wr) := Lib.hid (by rw [← hmk2]; exact HX.out)
                    have hpq : ((p + q : Nat) : Int) = (p : Int) + (q : Int) := by omega
                    have htn := (HX2.out.1.nlen btc_len).1
                    have HTN := Lib.hid htn
                    have HMK := Lib.hid hmk2
                    have HPB := Lib.hid hpb
                    have hq3 := HQ.out
                    clear hm hmk2 hpq htn HX
                    go_wp2_with fail
                    go_roundg (2 * (n - (l ++ List.replicate k v).length) + (if p + q = 0 then 1 else 0))
                    case measure => rw [HG.out, List.length_append, List.length_replicate, if_neg (by omega)]; have h1 := HKN.out; split <;> omega
                    case rel => exact ⟨⟨ta, tn, tc⟩, l ++ List.replicate k v, p + q, !v, rfl, rfl, by simp, rfl, HTN.out, by rw [List.length_append, List.length_replicate]; have h1 := HKN.out.1; omega, by omega, HNX, HX2⟩
              · have hz2 : ((k : Int) == 0) = true := by rw [hgo.1]; rfl
                have hp4 : ¬ (0 : Int) < (p : Int) := by omega
                have hdp : decide (0 < p) = false := decide_eq_false (by omega)
                clear hgo
                go_wp2_with fail
                go_loopg [7, 13] k (fun g lv mv wx => ∃ (m : Nat) (s : Sl), g = k - m ∧ lv = .slice s.a s.n s.cap ∧ mv = .int .u64 m ∧ m ≤ k ∧ Hid (Own btc 1 4 w.heap.size wx (.slice s.a s.n s.cap) (l ++ List.replicate m v) ∧ Below w.heap.size w wx))
                case atStart => exact ⟨0, ⟨sa, l.length, sc⟩, rfl, rfl, rfl, Nat.zero_le _, Lib.hid ⟨by rw [List.replicate_zero, List.append_nil]; exact HO5.out, HB5.out⟩⟩
                case round =>
                  obtain ⟨m, ⟨ta, tn, tc⟩, hg2, rfl, rfl, hmk, HX⟩ := hrel
                  dsimp only at HX ⊢
                  have HG2 := Lib.hid hg2
                  clear hg2
                  by_cases hm : m < k
                  · have hm1 : (m : Int) < (k : Int) := by omega
                    have hsz := HX.out.2.size
                    have hll : (l ++ List.replicate m v).length = l.length + m := by simp
                    have hkn2 := HKN.out.1
                    have hbd : (l ++ List.replicate m v).length + 1 ≤ maxLen ∧ ((l ++ List.replicate m v).length + 1) * 1 ≤ 140737488355328 := by rw [hll]; unfold maxLen; omega
                    have HBD := Lib.hid hbd
                    clear hll hkn2 hbd hm
                    go_wp2_with (at_builtin; refine wpList_append_struct rfl _ _ _ rfl i0 _ 1 Tryz.underlying75 hi hy0 hy1 hy2 rfl (by omega) btc_len btc_one rfl (HX.out.1.alloc _) v wr.heap.size 1 rfl (bt_new _ v) HBD.out.1 HBD.out.2 (by simp; omega) ?_)
                    intro v' w3 hown3 hx3
                    have hB3 := Ext.new (HX.out.2.alloc HX.out.2.size (.cells #[.bool v] 4)) hx3 (fun i hi _ e => by have := (HX.out.1.blk i e).1; omega) (by simp; omega)
                    rw [show l ++ (List.replicate m v ++ [v]) = l ++ List.replicate (m + 1) v by rw [List.replicate_succ']] at hown3
                    obtain ⟨⟨ua, un, uc⟩, e3⟩ := hown3.sl
                    dsimp only at e3
                    subst e3
                    have HN := Lib.hid (And.intro hown3 hB3)
                    clear hown3 hx3 hB3
                    go_wp2_with fail
                    go_roundg (k - (m + 1))
                    case measure => rw [HG2.out]; omega
                    case rel => exact ⟨m + 1, ⟨ua, un, uc⟩, rfl, rfl, by simp, by omega, HN⟩
                  · have hm1 : ¬ (m : Int) < (k : Int) := by omega
                    have hmk2 : m = k := by omega
                    have HX2 : Hid (Own btc 1 4 w.heap.size wr (.slice ta tn tc) (l ++ List.replicate k v) ∧ Below w.heap.size w wr) := Lib.hid (by rw [← hmk2]; exact HX.out)
                    have hpq : ((p + q : Nat) : Int) = (p : Int) + (q : Int) := by omega
                    have htn := (HX2.out.1.nlen btc_len).1
                    have HTN := Lib.hid htn
                    have HMK := Lib.hid hmk2
                    have HPB := Lib.hid hpb
                    have hq3 := HQ.out
                    clear hm hmk2 hpq htn HX
                    go_wp2_with fail
                    go_roundg (2 * (n - (l ++ List.replicate k v).length) + (if p + q = 0 then 1 else 0))
                    case measure => rw [HG.out, List.length_append, List.length_replicate, if_neg (by omega)]; have h1 := HKN.out; split <;> omega
                    case rel => exact ⟨⟨ta, tn, tc⟩, l ++ List.replicate k v, p + q, !v, rfl, rfl, by simp, rfl, HTN.out, by rw [List.length_append, List.length_replicate]; have h1 := HKN.out.1; omega, by omega, HNX, HX2⟩
    · have hll : l.length = n := by omega
      have hl1 : ¬ (l.length : Int) < (n : Int) := by omega
      have HP := Lib.hid (HT.out.puts hll (by omega))
      have HD := Lib.hid (HT.out.done hll)
      clear hll hlt
      cases a with
      | none =>
        have hb : b = [] := HNA.out rfl
        have hp0 : p = 0 := by rw [hb] at hpb; exact Nat.le_zero.1 hpb
        subst hb hp0
        go_upto_region 16 with fail
        have hs2 : ¬ (cap : Int) < (0 : Int) := by omega
        have hs3 : (0 : Int) ≤ (cap : Int) := by omega
        have b1 : Below w.heap.size w wr.drew := HU.out.2.drew
        have hS0 : (fun W : World => SliceIs u8c 1 W (.slice none ([] : List UInt8).length cap) ([] : List UInt8)) wr.drew := HH.out.below b1
        have HU1 : Hid (Own btc 1 4 w.heap.size wr.drew (.slice sa l.length sc) l ∧ Below w.heap.size w wr.drew) := Lib.hid ⟨HU.out.1.drew, HU.out.2.drew⟩
        clear HU b1
        refine wp_region_s (fun W : World => SliceIs u8c 1 W (.slice none ([] : List UInt8).length cap) ([] : List UInt8)) (fun _ => false) (by kernel_rfl) ?_
        generalize wr.drew = W1 at hS0 HU1 ⊢
        refine wpAnyS_take (i := 0) (d := some 65) rfl rfl rfl (by kernel_rfl) (by kernel_rfl) (by kernel_rfl) (by kernel_rfl) (fun _ _ _ h => h) (.inl ⟨by rfl, fun W hW => by go_simp; try rfl⟩) hS0 ?_
        try simp only [Act.put, List.setIfInBounds_toArray, List.set_cons_zero, List.set_cons_succ]
        refine wpAnyS_take (i := 3) (d := some 68) rfl rfl rfl (by kernel_rfl) (by kernel_rfl) (by kernel_rfl) (by kernel_rfl) (fun _ _ _ h => h) (.inl ⟨by rfl, fun W hW => by go_simp; try rfl⟩) hS0 ?_
        try simp only [Act.put, List.setIfInBounds_toArray, List.set_cons_zero, List.set_cons_succ]
        refine wpAnyS_take (i := 4) (d := some 69) rfl rfl rfl (by kernel_rfl) (by kernel_rfl) (by kernel_rfl) (by kernel_rfl) (fun _ _ _ h => h) (.inl ⟨by rfl, fun W hW => by go_simp; try rfl⟩) hS0 ?_
        try simp only [Act.put, List.setIfInBounds_toArray, List.set_cons_zero, List.set_cons_succ]
        refine wpAnyS_take (i := 5) (d := some 70) (v := .slice none 0 cap) rfl rfl rfl (by kernel_rfl) (by kernel_rfl) (by kernel_rfl) (by kernel_rfl) (fun _ _ _ h => h) (.inl ⟨by rfl, fun W hW => by go_simp; try rfl⟩) hS0 ?_
        try simp only [Act.put, List.setIfInBounds_toArray, List.set_cons_zero, List.set_cons_succ]
        refine wpAnyS_take (i := 6) (d := some 71) (v := .string ⟨(([] : List UInt8).take 0).toArray⟩) rfl rfl rfl (by kernel_rfl) (by kernel_rfl) (by kernel_rfl) (by kernel_rfl) (fun _ _ _ h => h) (.inl ⟨by rfl, fun W hW => by have hcv := conv_bytes (SliceIs.take1 (k := 0) hW (by omega)); go_simp⟩) hS0 ?_
        try simp only [Act.put, List.setIfInBounds_toArray, List.set_cons_zero, List.set_cons_succ]
        refine wpAnyS_call (i := 1) (d := some 66) (f := 158) (args := #[.slice sa l.length sc]) (w' := W1) (by kernel_rfl) rfl rfl (by rfl) (by go_simp; try rfl) ?_
        refine (rbools_any _ l _ (HU1.out.1.slice btc_len) (by omega)).mono ?_
        rintro e w5 ⟨v5, rfl, hown, b5⟩
        refine ⟨_, rfl, fun _ => SliceIs.below hS0 b5, ?_⟩
        try simp only [Act.put, List.setIfInBounds_toArray, List.set_cons_zero, List.set_cons_succ]
        have hS5 := SliceIs.below hS0 b5
        have hcv := conv_bytes (hown.slice u8c_len)
        obtain ⟨⟨ra, rn, rc⟩, e5⟩ := hown.sl
        dsimp only at e5
        subst e5
        rw [HP.out.1] at hcv
        refine wpAnyS_ran (i := 2) (d := some 67) (v := .string ⟨(([] : List UInt8).take 0).toArray⟩) (w' := w5) (by kernel_rfl) rfl rfl (by rfl) (by go_simp; try rfl) (fun _ => hS5) ?_
        try simp only [Act.put, List.setIfInBounds_toArray, List.set_cons_zero, List.set_cons_succ]
        have he := beq_bytes ⟨(([] : List UInt8).take 0).toArray⟩ ⟨(([] : List UInt8).take 0).toArray⟩
        rw [decide_eq_true rfl] at he
        refine wpAnyS_ran (i := 7) (d := some 72) (v := .bool false) (w' := w5) (by kernel_rfl) rfl rfl (by rfl) (by go_simp; try rfl) (fun _ => hS5) ?_
        try simp only [Act.put, List.setIfInBounds_toArray, List.set_cons_zero, List.set_cons_succ]
        refine wpAnyS_done (by kernel_rfl) ?_ _
        have HB5 := Lib.hid (HU1.out.2.trans (b5.mono HU1.out.2.size))
        have HO5 := Lib.hid (HU1.out.1.below1 b5)
        clear hS0 hS5 hcv hown b5 HU1 he
        go_wp2_with fail
        go_ret3
        exact .inl ⟨l, 0, _, HD.out, rfl, HO5.out, HB5.out⟩
      | some ad =>
        go_upto_region 16 with fail
        have hs2 : ¬ (cap : Int) < (p : Int) := by omega
        have hs3 : (p : Int) ≤ (cap : Int) := by omega
        have b1 : Below w.heap.size w wr.drew := HU.out.2.drew
        have hS0 : (fun W : World => SliceIs u8c 1 W (.slice (some ad) b.length cap) b) wr.drew := HH.out.below b1
        have HU1 : Hid (Own btc 1 4 w.heap.size wr.drew (.slice sa l.length sc) l ∧ Below w.heap.size w wr.drew) := Lib.hid ⟨HU.out.1.drew, HU.out.2.drew⟩
        clear HU b1
        refine wp_region_s (fun W : World => SliceIs u8c 1 W (.slice (some ad) b.length cap) b) (fun _ => false) (by kernel_rfl) ?_
        generalize wr.drew = W1 at hS0 HU1 ⊢
        refine wpAnyS_take (i := 0) (d := some 65) rfl rfl rfl (by kernel_rfl) (by kernel_rfl) (by kernel_rfl) (by kernel_rfl) (fun _ _ _ h => h) (.inl ⟨by rfl, fun W hW => by go_simp; try rfl⟩) hS0 ?_
        try simp only [Act.put, List.setIfInBounds_toArray, List.set_cons_zero, List.set_cons_succ]
        refine wpAnyS_take (i := 3) (d := some 68) rfl rfl rfl (by kernel_rfl) (by kernel_rfl) (by kernel_rfl) (by kernel_rfl) (fun _ _ _ h => h) (.inl ⟨by rfl, fun W hW => by go_simp; try rfl⟩) hS0 ?_
        try simp only [Act.put, List.setIfInBounds_toArray, List.set_cons_zero, List.set_cons_succ]
        refine wpAnyS_take (i := 4) (d := some 69) rfl rfl rfl (by kernel_rfl) (by kernel_rfl) (by kernel_rfl) (by kernel_rfl) (fun _ _ _ h => h) (.inl ⟨by rfl, fun W hW => by go_simp; try rfl⟩) hS0 ?_
        try simp only [Act.put, List.setIfInBounds_toArray, List.set_cons_zero, List.set_cons_succ]
        refine wpAnyS_take (i := 5) (d := some 70) (v := .slice (some ad) p cap) rfl rfl rfl (by kernel_rfl) (by kernel_rfl) (by kernel_rfl) (by kernel_rfl) (fun _ _ _ h => h) (.inl ⟨by rfl, fun W hW => by go_simp; try rfl⟩) hS0 ?_
        try simp only [Act.put, List.setIfInBounds_toArray, List.set_cons_zero, List.set_cons_succ]
        refine wpAnyS_take (i := 6) (d := some 71) (v := .string ⟨(b.take p).toArray⟩) rfl rfl rfl (by kernel_rfl) (by kernel_rfl) (by kernel_rfl) (by kernel_rfl) (fun _ _ _ h => h) (.inl ⟨by rfl, fun W hW => by have hcv := conv_bytes (SliceIs.take1 (k := p) hW (by omega)); go_simp⟩) hS0 ?_
        try simp only [Act.put, List.setIfInBounds_toArray, List.set_cons_zero, List.set_cons_succ]
        refine wpAnyS_call (i := 1) (d := some 66) (f := 158) (args := #[.slice sa l.length sc]) (w' := W1) (by kernel_rfl) rfl rfl (by rfl) (by go_simp; try rfl) ?_
        refine (rbools_any _ l _ (HU1.out.1.slice btc_len) (by omega)).mono ?_
        rintro e w5 ⟨v5, rfl, hown, b5⟩
        refine ⟨_, rfl, fun _ => SliceIs.below hS0 b5, ?_⟩
        try simp only [Act.put, List.setIfInBounds_toArray, List.set_cons_zero, List.set_cons_succ]
        have hS5 := SliceIs.below hS0 b5
        have hcv := conv_bytes (hown.slice u8c_len)
        obtain ⟨⟨ra, rn, rc⟩, e5⟩ := hown.sl
        dsimp only at e5
        subst e5
        rw [HP.out.1] at hcv
        refine wpAnyS_ran (i := 2) (d := some 67) (v := .string ⟨(b.take p).toArray⟩) (w' := w5) (by kernel_rfl) rfl rfl (by rfl) (by go_simp; try rfl) (fun _ => hS5) ?_
        try simp only [Act.put, List.setIfInBounds_toArray, List.set_cons_zero, List.set_cons_succ]
        have he := beq_bytes ⟨(b.take p).toArray⟩ ⟨(b.take p).toArray⟩
        rw [decide_eq_true rfl] at he
        refine wpAnyS_ran (i := 7) (d := some 72) (v := .bool false) (w' := w5) (by kernel_rfl) rfl rfl (by rfl) (by go_simp; try rfl) (fun _ => hS5) ?_
        try simp only [Act.put, List.setIfInBounds_toArray, List.set_cons_zero, List.set_cons_succ]
        refine wpAnyS_done (by kernel_rfl) ?_ _
        have HB5 := Lib.hid (HU1.out.2.trans (b5.mono HU1.out.2.size))
        have HO5 := Lib.hid (HU1.out.1.below1 b5)
        clear hS0 hS5 hcv hown b5 HU1 he
        go_wp2_with fail
        go_ret3
        exact .inl ⟨l, p, _, HD.out, rfl, HO5.out, HB5.out⟩
end Go.Proofs.YtgmdimbiipemhaaGreatDoor
namespace Go.Proofs.YtgmdimbiipemhaaGreatDoor
open Go.RowKit Go.Deep
set_option linter.unusedSimpArgs false
set_option linter.unusedVariables false
def RtPost (w0 : World) (v : Value) (r : List UInt8) (res : Option (List OpD × List UInt8)) (e : Ending) (w' : World) : Prop :=
  (∃ l2 p, p ≤ r.length ∧ res = some (l2, r.drop p) ∧ e = .returned (.int .i64 (p : Nat)) ∧ Own OpD.cells 26 68 w0.heap.size w' v l2 ∧ Below w0.heap.size w0 w') ∨
  (res = none ∧ e = .returned (.int .i64 (-1)) ∧ Below w0.heap.size w0 w')
theorem mixG_two (f g : Nat → OpD → OpD) (n : Nat) (ls : List OpD) : mixG g n (mixG f n ls) = mixG (fun j o => g j (f j o)) n ls := by
  apply List.ext_getElem?
  intro j
  simp only [mixG, List.getElem?_mapIdx, Option.map_map]
  congr 1
  funext o
  show (if j < n then g j (if j < n then f j o else o) else (if j < n then f j o else o)) = _
  by_cases h : j < n
  · simp [h]
  · simp [h]
theorem below_setCell8 {B g : Nat} {w0 w : World} (h : Below B w0 w) (hg : B ≤ g) (o : Nat) (u : Value) : Below B w0 (w.setCell ⟨g, o, none⟩ u) := h.setCell hg _
def twoT (V0 V1 : List Bool) (j : Nat) (o : OpD) : OpD := (o.setT 0 (V0.getD j false)).setT 1 (V1.getD j false)
set_option maxRecDepth 20000 in
set_option maxHeartbeats 2000000 in
theorem rtruths_any (w0 w : World) (v tb : Value) (r : List UInt8) (ls : List OpD) (ho : Own OpD.cells 26 68 w0.heap.size w v ls) (hb : Below w0.heap.size w0 w) (hs : SliceIs u8c 1 w0 tb r) (hn : ls.length ≤ 200) : Calls Tryz.prog 59 #[v, tb] w fun e w' => RtPost w0 v r (tkT ls.length 2 (ls, r)) e w' := by
  obtain ⟨⟨la, ln, lc⟩, el⟩ := ho.sl
  dsimp only at el
  subst el
  obtain rfl : ln = ls.length := (ho.nlen OpD.len).1
  obtain ⟨a, cap, rfl, hcap, hmax, -⟩ := id hs
  unfold maxLen at hmax
  obtain ⟨n, hn'⟩ : ∃ n, n = ls.length := ⟨_, rfl⟩
  have HH := Lib.hid hs
  have HB := Lib.hid hb
  have HLN := Lib.hid hn'
  rw [← hn'] at hn ho ⊢
  have HO := Lib.hid ho
  clear ho hb hs hn'
  go_enter Tryz.func59, Tryz.ntmps59
  go_wp2_with fail
  refine (rtakebools_any _ r n w (HH.out.below HB.out) (by omega)).mono ?_
  rintro e w5 (⟨V0, u, v5, hd, rfl, hown, hb5⟩ | ⟨hd, rfl, hb5⟩)
  · have HB5 := Lib.hid (HB.out.trans (hb5.mono HB.out.size))
    have HO5 := Lib.hid (HO.out.below1 (hb5.mono (Nat.le_refl _)))
    have hcf := decT_facts (by omega) hd
    have hul := hcf.2
    obtain ⟨⟨pa, pn, pc⟩, ep⟩ := hown.sl
    dsimp only at ep
    subst ep
    obtain rfl : pn = n := by have h := (hown.nlen btc_len).1; rw [hcf.1] at h; exact h
    have HV0 : Hid (V0.length = pn ∧ Own btc 1 4 w0.heap.size w5 (.slice pa pn pc) V0) := Lib.hid ⟨hcf.1, hown.mono HB.out.size⟩
    have HD := Lib.hid (tkT_step (n := pn) (c := 0) (p := (ls, r)) (q := (ls, r)) rfl hd)
    obtain ⟨a1, c1, hsl, hS1, -⟩ := slice_from (P := Tryz.prog) (ea := u8c) Tryz.underlying22 size_u8 a r.length cap u hcap hul
    have HS := Lib.hid (hS1 w0 r rfl HH.out)
    clear hd hcf hown hb5 hS1 HO HB
    go_wp2_with fail
    refine (rtakebools_any _ (r.drop u) pn w5 ?_ (by omega)).mono ?_
    · have h := HS.out.below HB5.out; first | exact h | (rw [List.length_drop] at h; exact h)
    rintro e w6 (⟨V1, u1, v6, hd, rfl, hown, hb6⟩ | ⟨hd, rfl, hb6⟩)
    · have HB6 := Lib.hid (HB5.out.trans (hb6.mono HB5.out.size))
      have HO6 := Lib.hid (HO5.out.below1 hb6)
      have hcf := decT_facts (by omega) hd
      have hul1 := hcf.2
      rw [List.length_drop] at hul1
      obtain ⟨⟨qa, qn, qc⟩, ep⟩ := hown.sl
      dsimp only at ep
      subst ep
      obtain rfl : qn = pn := by have h := (hown.nlen btc_len).1; rw [hcf.1] at h; exact h
      have HV6 := Lib.hid (HV0.out.2.below1 hb6)
      have HV1 : Hid (V1.length = qn ∧ Own btc 1 4 w0.heap.size w6 (.slice qa qn qc) V1) := Lib.hid ⟨hcf.1, hown.mono HB5.out.size⟩
      have HVL := Lib.hid HV0.out.1
      have HD2 := Lib.hid (tkT_step HD.out hd)
      clear hd hcf hown hb6 HD HO5 HB5 HV0 HS hsl
      go_wp2_with fail
      go_loopg [11] qn (fun g iv wr => ∃ i : Nat, g = qn - i ∧ iv = .int .i64 i ∧ i ≤ qn ∧ Hid (Own OpD.cells 26 68 w0.heap.size wr (.slice la qn lc) (mixG (twoT V0 V1) i ls) ∧ Own btc 1 4 w0.heap.size wr (.slice pa qn pc) V0 ∧ Own btc 1 4 w0.heap.size wr (.slice qa qn qc) V1 ∧ Below w0.heap.size w0 wr))
      case atStart => exact ⟨0, rfl, rfl, Nat.zero_le _, Lib.hid ⟨by rw [mixG_zero]; exact HO6.out, HV6.out, HV1.out.2, HB6.out⟩⟩
      case round =>
        clear HB6 HO6 HV6
        obtain ⟨i, hg, rfl, hi, HI⟩ := hrel
        have HG := Lib.hid hg
        clear hg
        by_cases hlt : i < qn
        · have hi1 : (i : Int) < (qn : Int) := by omega
          have hi0 : (0 : Int) ≤ (i : Int) := by omega
          obtain ⟨x, hx⟩ : ∃ x, ls[i]? = some x := ⟨_, List.getElem?_eq_getElem (by rw [← HLN.out]; exact hlt)⟩
          obtain ⟨y0, hy0⟩ : ∃ y, V0[i]? = some y := ⟨_, List.getElem?_eq_getElem (by rw [HVL.out]; exact hlt)⟩
          obtain ⟨y1, hy1⟩ : ∃ y, V1[i]? = some y := ⟨_, List.getElem?_eq_getElem (by rw [HV1.out.1]; exact hlt)⟩
          have hmx := mixG_at (twoT V0 V1) i hx
          have HMX := Lib.hid hmx
          obtain ⟨g, gcap, e, hg1, hg3⟩ := HI.out.1.eq_slice.resolve_left (fun e => by rw [e.2] at hmx; simp at hmx)
          injection e with e1 e2 e3
          subst e1 e3
          clear e2
          have hln : (mixG (twoT V0 V1) i ls).length = qn := by rw [mixG_len]; exact HLN.out.symm
          have ho1 := HI.out.1
          rw [← hln] at ho1
          have c22 := ho1.cellAt OpD.len hmx (j := 22) rfl
          have f22 := ho1.free (i * 26 + 22)
          have h1 := ho1.setAt OpD.len hmx (j := 22) (y := x.setT 0 y0) (u := .bool y0) (by omega) (setT_cells x 0 y0)
          have hln1 : ((mixG (twoT V0 V1) i ls).set i (x.setT 0 y0)).length = qn := by rw [List.length_set]; exact hln
          rw [hln] at h1
          have HI1 : Hid (Own OpD.cells 26 68 w0.heap.size (wr.setCell ⟨g, i * 26 + 22, none⟩ (.bool y0)) (.slice (some ⟨g, 0, none⟩) qn lc) ((mixG (twoT V0 V1) i ls).set i (x.setT 0 y0)) ∧ Own btc 1 4 w0.heap.size (wr.setCell ⟨g, i * 26 + 22, none⟩ (.bool y0)) (.slice pa qn pc) V0 ∧ Own btc 1 4 w0.heap.size (wr.setCell ⟨g, i * 26 + 22, none⟩ (.bool y0)) (.slice qa qn qc) V1 ∧ Below w0.heap.size w0 (wr.setCell ⟨g, i * 26 + 22, none⟩ (.bool y0))) := Lib.hid ⟨h1, HI.out.2.1.notg ho1 (by decide) rfl _ _, HI.out.2.2.1.notg ho1 (by decide) rfl _ _, below_setCell8 HI.out.2.2.2 (ho1.blk g rfl).1 _ _⟩
          obtain ⟨vb, vo, ev, cv⟩ := (HI.out.2.1.slice btc_len).at1 hy0 rfl
          cases ev
          have HX := Lib.hid hx
          have HY0 := Lib.hid hy0
          have HY1 := Lib.hid hy1
          have HLL := Lib.hid hln1
          clear h1 ho1 hx hy0 hy1 hmx hln hln1 HI hg1 hg3
          go_upto_region 11 with fail
          generalize wr.setCell ⟨g, i * 26 + 22, none⟩ (.bool y0) = W2 at HI1 ⊢
          clear c22 f22 cv
          have ho1 := HI1.out.1
          rw [← HLL.out] at ho1
          have hmx : ((mixG (twoT V0 V1) i ls).set i (x.setT 0 y0))[i]? = some (x.setT 0 y0) := List.getElem?_set_self (by rw [mixG_len, ← HLN.out]; exact hlt)
          have c25 := ho1.cellAt OpD.len hmx (j := 25) rfl
          have f25 := ho1.free (i * 26 + 25)
          have h1 := ho1.setAt OpD.len hmx (j := 25) (y := (x.setT 0 y0).setT 1 y1) (u := .bool y1) (by omega) (setT_cells (x.setT 0 y0) 1 y1)
          have e9 : ((mixG (twoT V0 V1) i ls).set i (x.setT 0 y0)).set i ((x.setT 0 y0).setT 1 y1) = mixG (twoT V0 V1) (i + 1) ls := by
            rw [List.set_set, mixG_succ (twoT V0 V1) (twoT V0 V1) i HX.out (fun _ _ => rfl)]
            unfold twoT
            rw [List.getD_eq_getElem?_getD, List.getD_eq_getElem?_getD, HY0.out, HY1.out]
            rfl
          rw [e9, HLL.out] at h1
          have HI2 : Hid (Own OpD.cells 26 68 w0.heap.size (W2.setCell ⟨g, i * 26 + 25, none⟩ (.bool y1)) (.slice (some ⟨g, 0, none⟩) qn lc) (mixG (twoT V0 V1) (i + 1) ls) ∧ Own btc 1 4 w0.heap.size (W2.setCell ⟨g, i * 26 + 25, none⟩ (.bool y1)) (.slice (some ⟨vb, vo, none⟩) qn pc) V0 ∧ Own btc 1 4 w0.heap.size (W2.setCell ⟨g, i * 26 + 25, none⟩ (.bool y1)) (.slice qa qn qc) V1 ∧ Below w0.heap.size w0 (W2.setCell ⟨g, i * 26 + 25, none⟩ (.bool y1))) := Lib.hid ⟨h1, HI1.out.2.1.notg ho1 (by decide) rfl _ _, HI1.out.2.2.1.notg ho1 (by decide) rfl _ _, below_setCell8 HI1.out.2.2.2 (ho1.blk g rfl).1 _ _⟩
          obtain ⟨zb, zo, ev, cv⟩ := (HI1.out.2.2.1.slice btc_len).at1 HY1.out rfl
          cases ev
          clear h1 e9 ho1 hmx HI1
          go_upto_region 9 with fail
          generalize W2.setCell ⟨g, i * 26 + 25, none⟩ (.bool y1) = W3 at HI2 ⊢
          clear c25 f25 cv
          go_wp2_with fail
          go_roundg (qn - (i + 1))
          case measure => rw [HG.out]; omega
          case rel => exact ⟨i + 1, rfl, by simp, by omega, HI2⟩
        · obtain rfl : i = qn := by omega
          have hi1 : ¬ (i : Int) < (i : Int) := by omega
          have HE : Hid (mixT 1 V1 i (mixT 0 V0 i ls) = mixG (twoT V0 V1) i ls) := Lib.hid (by unfold mixT; rw [mixG_two]; rfl)
          have HI3 := Lib.hid (And.intro HI.out.1 HI.out.2.2.2)
          clear HI
          go_wp2_with fail
          go_ret
          refine .inl ⟨mixG (twoT V0 V1) i ls, u + u1, by omega, ?_, by simp, HI3.out.1, HI3.out.2⟩
          have h := HD2.out
          rw [HE.out, List.drop_drop] at h
          exact h
    · have HBAD : Hid (tkT pn 2 (ls, r) = none) := Lib.hid (tkT_bad HD.out hd (by omega))
      have HB6 := Lib.hid (HB5.out.trans (hb6.mono HB5.out.size))
      clear hd hb6
      go_wp2_with fail
      go_ret
      exact .inr ⟨HBAD.out, rfl, HB6.out⟩
  · have HBAD : Hid (tkT n 2 (ls, r) = none) := Lib.hid (tkT_bad (c := 0) (q := (ls, r)) rfl hd (by omega))
    have HB6 := Lib.hid (HB.out.trans (hb5.mono HB.out.size))
    clear hd hb5
    go_wp2_with fail
    go_ret
    exact .inr ⟨HBAD.out, rfl, HB6.out⟩
end Go.Proofs.YtgmdimbiipemhaaGreatDoor
namespace Go.Proofs.YtgmdimbiipemhaaGreatDoor
open Go.RowKit Go.Deep
set_option linter.unusedSimpArgs false
set_option linter.unusedVariables false
theorem zigN_in9 {x : Int} (h : zigN x < 18446744073709551616) : -9223372036854775808 ≤ x ∧ x ≤ 9223372036854775807 := by
  have := zagI_in h
  rwa [zag_zig] at this
theorem runsB_bytes {l : List Int} {p : Nat} {b : List UInt8} : (ByteArray.mk (runsB l).toArray = ByteArray.mk (b.take p).toArray) ↔ runsB l = b.take p := by
  constructor
  · intro h
    have := congrArg (fun x => x.data.toList) h
    simpa using this
  · intro h; rw [h]
set_option maxRecDepth 20000 in
set_option maxHeartbeats 2000000 in
theorem rtakeruns_any (v : Value) (b : List UInt8) (n : Nat) (w : World) (h : SliceIs u8c 1 w v b) (hn0 : n ≤ 65536) : Calls Tryz.prog 55 #[v, .int .i64 n] w fun e w' => TrPost w b n e w' := by
  obtain ⟨a, cap, rfl, hcap, hmax, -⟩ := id h
  unfold maxLen at hmax
  obtain ⟨i0, hi, hy0, hy1, hy2⟩ := info_parts info_int
  have HH := Lib.hid h
  clear h
  have hn1 : ¬ (n : Int) < 0 := by omega
  have hn2 : ¬ (65536 : Int) < (n : Int) := by omega
  go_enter Tryz.func55, Tryz.ntmps55
  go_wp2_with fail
  go_loopg [7, 8] n (fun g lv pv wr => ∃ (s : Sl) (l : List Int) (p : Nat), g = n - l.length ∧ lv = .slice s.a s.n s.cap ∧ pv = .int .i64 p ∧ s.n = l.length ∧ l.length ≤ n ∧ p ≤ b.length ∧ Hid (TRd b n l p) ∧ Hid (Own intc 1 3 w.heap.size wr (.slice s.a s.n s.cap) l ∧ Below w.heap.size w wr))
  case atStart => exact ⟨⟨none, 0, 0⟩, [], 0, rfl, rfl, rfl, rfl, Nat.zero_le _, Nat.zero_le _, Lib.hid (TRd.zero b n), Lib.hid ⟨Own.nil, Below.refl _ _⟩⟩
  case round =>
    obtain ⟨⟨sa, sn, sc⟩, l, p, hg, rfl, rfl, hsn, hln, hpb, HT, HU⟩ := hrel
    dsimp only at hsn HU ⊢
    subst hsn
    have HG := Lib.hid hg
    clear hg
    by_cases hlt : l.length < n
    · have hl1 : (l.length : Int) < (n : Int) := by omega
      obtain ⟨a1, c1, hsl, hS1, -⟩ := slice_from (P := Tryz.prog) (ea := u8c) Tryz.underlying22 size_u8 a b.length cap p hcap hpb
      have HS := Lib.hid (hS1 wr b rfl (HH.out.below HU.out.2))
      clear hS1
      go_wp2_with fail
      refine (rtake_any _ _ _ HS.out).mono ?_
      rintro e w5 ⟨rfl, b5⟩
      have HB5 := Lib.hid (HU.out.2.trans (b5.mono HU.out.2.size))
      have HO5 := Lib.hid (HU.out.1.below1 b5)
      clear b5 HU
      cases hk : takeV (b.drop p) with
      | none =>
        have hr : takeR (b.drop p) = .tuple #[.int .u64 0, .int .i64 0, .int .i64 31] := by unfold takeR; rw [hk]
        have HD := Lib.hid (HT.out.bad hlt (.inl hk))
        rw [hr]
        have HR := Lib.hid hr
        have HS5 := Lib.hid (show SliceIs u8c 1 w5 _ (b.drop p) from by obtain ⟨a3, c3, hsl3, hS3, -⟩ := slice_from (P := Tryz.prog) (ea := u8c) Tryz.underlying22 size_u8 a b.length cap p hcap hpb; have e := (hsl w5).symm.trans (hsl3 w5); cases e; exact hS3 w5 b rfl (HH.out.below HB5.out))
        clear hk hr HS
        have hp00 : (p : Int) + 0 = (p : Int) := by omega
        go_wp2_with fail
        refine (rtake_any _ _ _ HS5.out).mono ?_
        rintro e w6 ⟨rfl, b6⟩
        have HB6 := Lib.hid (HB5.out.trans (b6.mono HB5.out.size))
        rw [HR.out]
        clear b6 HB5 HO5 HS5 hsl
        go_wp2_with fail
        go_ret3
        exact .inr ⟨HD.out, rfl, HB6.out⟩
      | some k =>
        have hr : takeR (b.drop p) = .tuple #[.int .u64 k, .int .i64 (putB k).length, .int .i64 0] := by unfold takeR; rw [hk]
        have hk64 := (takeV_some.1 hk).1
        have hqp := (takeV_some.1 hk).2.length_le
        rw [List.length_drop] at hqp
        have hq0 : 0 < (putB k).length := List.length_pos_iff.2 (putB_ne k)
        rw [hr]
        obtain ⟨q, hq⟩ : ∃ q, (putB k).length = q := ⟨_, rfl⟩
        rw [hq] at hqp hq0 ⊢
        obtain ⟨a2, c2, hsl2, hS2, -⟩ := slice_from (P := Tryz.prog) (ea := u8c) Tryz.underlying22 size_u8 a b.length cap (p + q) hcap (by omega)
        have HS2 := Lib.hid (hS2 w5 b rfl (HH.out.below HB5.out))
        simp only [Int.natCast_add] at hsl2
        clear hS2 hr HS hsl
        go_wp2_with fail
        refine (rtake_any _ _ _ HS2.out).mono ?_
        rintro e w6 ⟨rfl, b6⟩
        have HB6 := Lib.hid (HB5.out.trans (b6.mono HB5.out.size))
        have HO6 := Lib.hid (HO5.out.below1 b6)
        clear b6 HS2 HB5 HO5
        cases hv : takeV (b.drop (p + q)) with
        | none =>
          have hr : takeR (b.drop (p + q)) = .tuple #[.int .u64 0, .int .i64 0, .int .i64 31] := by unfold takeR; rw [hv]
          have HD := Lib.hid (HT.out.bad hlt (.inr ⟨k, hk, .inl (by rw [hq]; exact hv)⟩))
          rw [hr]
          clear hk hr hv hsl2 hq
          go_wp2_with fail
          go_ret3
          exact .inr ⟨HD.out, rfl, HB6.out⟩
        | some v =>
          have hr : takeR (b.drop (p + q)) = .tuple #[.int .u64 v, .int .i64 (putB v).length, .int .i64 0] := by unfold takeR; rw [hv]
          have hv64 := (takeV_some.1 hv).1
          have hqp2 := (takeV_some.1 hv).2.length_le
          rw [List.length_drop] at hqp2
          rw [hr]
          have HBAD := Lib.hid (fun h => HT.out.bad hlt (.inr ⟨k, hk, .inr ⟨v, by rw [hq]; exact hv, h⟩⟩))
          have HSTEP := Lib.hid (fun h0 h1 => HT.out.step hlt hk (by rw [hq]; exact hv) h0 h1)
          rw [hq] at HSTEP
          obtain ⟨q2, hq2⟩ : ∃ q2, (putB v).length = q2 := ⟨_, rfl⟩
          rw [hq2] at hqp2 HSTEP ⊢
          obtain ⟨x, hx⟩ : ∃ x, zagI v = x := ⟨_, rfl⟩
          rw [hx] at HSTEP
          have hQ : 0 < q ∧ p + q + q2 ≤ b.length := ⟨hq0, by omega⟩
          have HQ := Lib.hid hQ
          have hxin := zagI_in hv64
          rw [hx] at hxin
          have HZAG := Lib.hid hx
          clear hr hsl2 hk hv hq hq2 hqp hqp2 hq0 hQ hx
          obtain ⟨r, hrr⟩ : ∃ r : Nat, r = n - l.length := ⟨_, rfl⟩
          have hsub : (n : Int) - (l.length : Int) = (r : Int) := by omega
          by_cases hkn : r < k
          · have hk1 : (r : Int) < (k : Int) := by omega
            have HD := Lib.hid (HBAD.out (.inr (by omega)))
            have hdk : decide (r < k) = true := decide_eq_true (by omega)
            clear hkn hrr HBAD HSTEP HT
            go_wp2_with fail
            go_ret3
            exact .inr ⟨HD.out, rfl, HB6.out⟩
          · have hk1 : ¬ (r : Int) < (k : Int) := by omega
            have hdk : decide (r < k) = false := decide_eq_false (by omega)
            have HKN : Hid (k ≤ n - l.length) := Lib.hid (by omega)
            clear hkn hrr HT
            go_wp2_with fail
            go_loopg [7, 15] k (fun g lv mv wx => ∃ (m : Nat) (s : Sl), g = k - m ∧ lv = .slice s.a s.n s.cap ∧ mv = .int .u64 m ∧ m ≤ k ∧ Hid (Own intc 1 3 w.heap.size wx (.slice s.a s.n s.cap) (l ++ List.replicate m x) ∧ Below w.heap.size w wx))
            case atStart => exact ⟨0, ⟨sa, l.length, sc⟩, rfl, rfl, rfl, Nat.zero_le _, Lib.hid ⟨by rw [List.replicate_zero, List.append_nil]; exact HO6.out, HB6.out⟩⟩
            case round =>
              obtain ⟨m, ⟨ta, tn, tc⟩, hg2, rfl, rfl, hmk, HX⟩ := hrel
              dsimp only at HX ⊢
              have HG2 := Lib.hid hg2
              clear hg2
              by_cases hm : m < k
              · have hm1 : (m : Int) < (k : Int) := by omega
                have hsz := HX.out.2.size
                have hll : (l ++ List.replicate m x).length = l.length + m := by simp
                have hkn2 := HKN.out
                have hbd : (l ++ List.replicate m x).length + 1 ≤ maxLen ∧ ((l ++ List.replicate m x).length + 1) * 8 ≤ 140737488355328 := by rw [hll]; unfold maxLen; omega
                have HBD := Lib.hid hbd
                clear hll hkn2 hbd hm
                go_wp2_with fail
                refine (rzag_any v _ hv64).mono ?_
                rintro e w7 ⟨rfl, e7⟩
                rw [← e7, HZAG.out]
                clear e7 w7
                go_wp2_with (at_builtin; refine wpList_append_struct rfl _ _ _ rfl i0 _ 8 Tryz.underlying100 hi hy0 hy1 hy2 rfl (by omega) intc_len intc_one rfl (HX.out.1.alloc _) x wr.heap.size 1 rfl (int_new _ x) HBD.out.1 HBD.out.2 (by simp; omega) ?_)
                intro v' w3 hown3 hx3
                have hB3 := Ext.new (HX.out.2.alloc HX.out.2.size (.cells #[.int .i64 x] 3)) hx3 (fun i hi _ e => by have := (HX.out.1.blk i e).1; omega) (by simp; omega)
                rw [show l ++ (List.replicate m x ++ [x]) = l ++ List.replicate (m + 1) x by rw [List.replicate_succ']] at hown3
                obtain ⟨⟨ua, un, uc⟩, e3⟩ := hown3.sl
                dsimp only at e3
                subst e3
                have HN := Lib.hid (And.intro hown3 hB3)
                clear hown3 hx3 hB3
                go_wp2_with fail
                go_roundg (k - (m + 1))
                case measure => rw [HG2.out]; omega
                case rel => exact ⟨m + 1, ⟨ua, un, uc⟩, rfl, rfl, by simp, by omega, HN⟩
              · have hm1 : ¬ (m : Int) < (k : Int) := by omega
                have hmk2 : m = k := by omega
                have HX2 : Hid (Own intc 1 3 w.heap.size wr (.slice ta tn tc) (l ++ List.replicate k x) ∧ Below w.heap.size w wr) := Lib.hid (by rw [← hmk2]; exact HX.out)
                have hpq : ((p + q : Nat) : Int) = (p : Int) + (q : Int) := by omega
                have htn := (HX2.out.1.nlen intc_len).1
                have HTN := Lib.hid htn
                have HPB := Lib.hid hpb
                have hq3 := HQ.out
                clear hm hmk2 htn HX
                by_cases hz : k = 0
                · have hz2 : ((k : Int) == 0) = true := by rw [hz]; rfl
                  have HD := Lib.hid (HBAD.out (.inl hz))
                  clear hz HBAD HSTEP hpq
                  go_wp2_with fail
                  go_ret3
                  exact .inr ⟨HD.out, rfl, HX2.out.2⟩
                · have hz1 : ¬ (k : Int) = 0 := by omega
                  have hz2 : ((k : Int) == 0) = false := by simpa using hz1
                  have HNX := Lib.hid (HSTEP.out hz HKN.out)
                  have HZ := Lib.hid hz
                  clear hz hz1 HBAD HSTEP hpq
                  go_wp2_with fail
                  go_roundg (n - (l ++ List.replicate k x).length)
                  case measure => rw [HG.out, List.length_append, List.length_replicate]; have h1 := HKN.out; have h2 := HZ.out; omega
                  case rel => exact ⟨⟨ta, tn, tc⟩, l ++ List.replicate k x, p + q + q2, rfl, rfl, by simp <;> omega, HTN.out, by rw [List.length_append, List.length_replicate]; have h1 := HKN.out; omega, HQ.out.2, HNX, HX2⟩
    · have hll : l.length = n := by omega
      have hl1 : ¬ (l.length : Int) < (n : Int) := by omega
      have HLL := Lib.hid hll
      obtain ⟨a2, hsl, hS2⟩ := slice_to (P := Tryz.prog) (ea := u8c) Tryz.underlying22 size_u8 a b.length cap p hcap hpb
      have HPB := Lib.hid hpb
      clear hll hlt
      go_upto_region 17 with fail
      have hS0 : (fun W : World => SliceIs u8c 1 W (.slice a b.length cap) b) wr.drew := HH.out.below HU.out.2.drew
      have HU1 : Hid (Own intc 1 3 w.heap.size wr.drew (.slice sa l.length sc) l ∧ Below w.heap.size w wr.drew) := Lib.hid ⟨HU.out.1.drew, HU.out.2.drew⟩
      clear HU
      refine wp_region_s (fun W : World => SliceIs u8c 1 W (.slice a b.length cap) b) (fun _ => false) (by kernel_rfl) ?_
      generalize wr.drew = W1 at hS0 HU1 ⊢
      refine wpAnyS_take (i := 0) (d := some 76) rfl rfl rfl (by kernel_rfl) (by kernel_rfl) (by kernel_rfl) (by kernel_rfl) (fun _ _ _ h => h) (.inl ⟨by rfl, fun W hW => by go_simp; try rfl⟩) hS0 ?_
      try simp only [Act.put, List.setIfInBounds_toArray, List.set_cons_zero, List.set_cons_succ]
      refine wpAnyS_take (i := 3) (d := some 79) rfl rfl rfl (by kernel_rfl) (by kernel_rfl) (by kernel_rfl) (by kernel_rfl) (fun _ _ _ h => h) (.inl ⟨by rfl, fun W hW => by go_simp; try rfl⟩) hS0 ?_
      try simp only [Act.put, List.setIfInBounds_toArray, List.set_cons_zero, List.set_cons_succ]
      refine wpAnyS_take (i := 4) (d := some 80) rfl rfl rfl (by kernel_rfl) (by kernel_rfl) (by kernel_rfl) (by kernel_rfl) (fun _ _ _ h => h) (.inl ⟨by rfl, fun W hW => by go_simp; try rfl⟩) hS0 ?_
      try simp only [Act.put, List.setIfInBounds_toArray, List.set_cons_zero, List.set_cons_succ]
      refine wpAnyS_take (i := 5) (d := some 81) (v := .slice a2 p cap) rfl rfl rfl (by kernel_rfl) (by kernel_rfl) (by kernel_rfl) (by kernel_rfl) (fun _ _ _ h => h) (.inl ⟨by rfl, fun W hW => by first | exact hsl W | (go_simp; try rfl)⟩) hS0 ?_
      try simp only [Act.put, List.setIfInBounds_toArray, List.set_cons_zero, List.set_cons_succ]
      refine wpAnyS_take (i := 6) (d := some 82) (v := .string ⟨(b.take p).toArray⟩) rfl rfl rfl (by kernel_rfl) (by kernel_rfl) (by kernel_rfl) (by kernel_rfl) (fun _ _ _ h => h) (.inl ⟨by rfl, fun W hW => by have hcv := conv_bytes (hS2 W b rfl hW); go_simp; try rfl⟩) hS0 ?_
      try simp only [Act.put, List.setIfInBounds_toArray, List.set_cons_zero, List.set_cons_succ]
      refine wpAnyS_call (i := 1) (d := some 77) (f := 108) (args := #[.slice sa l.length sc]) (w' := W1) (by kernel_rfl) rfl rfl (by rfl) (by go_simp; try rfl) ?_
      refine (rruns_any _ l _ (HU1.out.1.slice intc_len) (by have := HLL.out; omega) (fun x hx => zigN_in9 (HT.out.2 x hx))).mono ?_
      rintro e w5 ⟨v5, rfl, hown, b5⟩
      refine ⟨_, rfl, fun _ => SliceIs.below hS0 b5, ?_⟩
      try simp only [Act.put, List.setIfInBounds_toArray, List.set_cons_zero, List.set_cons_succ]
      have hS5 := SliceIs.below hS0 b5
      have hcv := conv_bytes (hown.slice u8c_len)
      obtain ⟨⟨ra, rn, rc⟩, e5⟩ := hown.sl
      dsimp only at e5
      subst e5
      refine wpAnyS_ran (i := 2) (d := some 78) (v := .string ⟨(runsB l).toArray⟩) (w' := w5) (by kernel_rfl) rfl rfl (by rfl) (by go_simp; try rfl) (fun _ => hS5) ?_
      try simp only [Act.put, List.setIfInBounds_toArray, List.set_cons_zero, List.set_cons_succ]
      have he := beq_bytes ⟨(runsB l).toArray⟩ ⟨(b.take p).toArray⟩
      have HB5 := Lib.hid (HU1.out.2.trans (b5.mono HU1.out.2.size))
      have HO5 := Lib.hid (HU1.out.1.below1 b5)
      by_cases hrb : runsB l = b.take p
      · rw [decide_eq_true (runsB_bytes.2 hrb)] at he
        refine wpAnyS_ran (i := 7) (d := some 83) (v := .bool false) (w' := w5) (by kernel_rfl) rfl rfl (by rfl) (by go_simp; try rfl) (fun _ => hS5) ?_
        try simp only [Act.put, List.setIfInBounds_toArray, List.set_cons_zero, List.set_cons_succ]
        refine wpAnyS_done (by kernel_rfl) ?_ _
        have HRB := Lib.hid hrb
        clear hS0 hS5 hcv hown b5 HU1 he hrb hsl hS2
        go_wp2_with fail
        go_ret3
        exact .inl ⟨l, p, _, HT.out.good HLL.out (by omega) HPB.out HRB.out, rfl, HO5.out, HB5.out⟩
      · rw [decide_eq_false (fun e => hrb (runsB_bytes.1 e))] at he
        refine wpAnyS_ran (i := 7) (d := some 83) (v := .bool true) (w' := w5) (by kernel_rfl) rfl rfl (by rfl) (by go_simp; try rfl) (fun _ => hS5) ?_
        try simp only [Act.put, List.setIfInBounds_toArray, List.set_cons_zero, List.set_cons_succ]
        refine wpAnyS_done (by kernel_rfl) ?_ _
        have HRB := Lib.hid hrb
        clear hS0 hS5 hcv hown b5 HU1 he hrb hsl hS2
        go_wp2_with fail
        go_ret3
        exact .inr ⟨HT.out.wrong HLL.out (by omega) HRB.out, rfl, HB5.out⟩
end Go.Proofs.YtgmdimbiipemhaaGreatDoor
namespace Go.Proofs.YtgmdimbiipemhaaGreatDoor
open Go.RowKit Go.Deep
set_option linter.unusedSimpArgs false
set_option linter.unusedVariables false
theorem slice_mid {P : Program} {α : Type} {ea : α → List Value} {z : Nat} {t e : TypeId} (ht : P.underlying t = some (.slice e)) (hsz : (P.info? e).map (·.size) = some z) (a : Option Addr) (n cap p q : Nat) (hn : n ≤ cap) (hp : p ≤ q) (hq : q ≤ n) :
    ∃ a' c', (∀ W, (Instr.slice t (.slice a n cap) (some (.int .i64 (p : Int))) (some (.int .i64 (q : Int))) none).run P W = .ok (.slice a' (q - p) c') W) ∧ (∀ W (l : List α), l.length = n → SliceIs ea z W (.slice a n cap) l → SliceIs ea z W (.slice a' (q - p) c') ((l.drop p).take (q - p))) := by
  obtain ⟨i, hi, hz⟩ : ∃ i, P.info? e = some i ∧ i.size = z := by
    cases h : P.info? e with
    | none => rw [h] at hsz; cases hsz
    | some i => rw [h] at hsz; exact ⟨i, rfl, Option.some.inj hsz⟩
  have hqc : q ≤ cap := by omega
  refine ⟨if cap = p then a else a.map (·.add (p * z)), cap - p, fun W => ?_, fun W l hl h => ?_⟩
  · simp [Instr.slice, Instr.sliceBounds, Instr.sliceBound, asIntOf, run_underlying ht, sizeOf, typeInfo, hi, hz, hp, hqc]
  · obtain ⟨a2, c2, h1, h2, -⟩ := slice_from (P := P) (ea := ea) ht hsz a n cap p hn (by omega)
    have h3 := h2 W l hl h
    have h4 : (Instr.slice t (.slice a n cap) (some (.int .i64 (p : Int))) none none).run P W = .ok (.slice (if cap = p then a else a.map (·.add (p * z))) (n - p) (cap - p)) W := by
      have hpn : p ≤ n := by omega
      simp [Instr.slice, Instr.sliceBounds, Instr.sliceBound, asIntOf, run_underlying ht, sizeOf, typeInfo, hi, hz, hpn, hn]
    have h5 := (h1 W).symm.trans h4
    cases h5
    exact h3.take1 (by rw [List.length_drop]; omega)
theorem tkX1_of {n c p : Nat} {ls : List OpD} {r r2 : List UInt8} {V : List Int} {X : List ByteArray} (h : decR n none r = some (V, p)) (h2 : cutX V n (r.drop p) = some (X, r2)) : tkX1 n c (ls, r) = some (mixX c X n ls, r2) := by
  unfold tkX1
  simp only [h, Option.bind_some, h2, Option.map_some]
theorem tkX1_no1 {n c : Nat} {ls : List OpD} {r : List UInt8} (h : decR n none r = none) : tkX1 n c (ls, r) = none := by
  unfold tkX1
  simp only [h]
  rfl
theorem tkX1_no2 {n c p : Nat} {ls : List OpD} {r : List UInt8} {V : List Int} (h : decR n none r = some (V, p)) (h2 : cutX V n (r.drop p) = none) : tkX1 n c (ls, r) = none := by
  unfold tkX1
  simp only [h, Option.bind_some, h2, Option.map_none]
set_option maxRecDepth 20000 in
set_option maxHeartbeats 2000000 in
theorem rtexts_0 (w0 w : World) (v tb : Value) (r : List UInt8) (ls : List OpD) (ho : Own OpD.cells 26 68 w0.heap.size w v ls) (hb : Below w0.heap.size w0 w) (hs : SliceIs u8c 1 w0 tb r) (hn : ls.length ≤ 200) : Calls Tryz.prog 60 #[v, tb, .int .i64 0] w fun e w' => RtPost w0 v r (tkX1 ls.length 0 (ls, r)) e w' := by
  obtain ⟨⟨la, ln, lc⟩, el⟩ := ho.sl
  dsimp only at el
  subst el
  obtain rfl : ln = ls.length := (ho.nlen OpD.len).1
  obtain ⟨a, cap, rfl, hcap, hmax, -⟩ := id hs
  unfold maxLen at hmax
  obtain ⟨n, hn'⟩ : ∃ n, n = ls.length := ⟨_, rfl⟩
  have HH := Lib.hid hs
  have HB := Lib.hid hb
  have HLN := Lib.hid hn'
  rw [← hn'] at hn ho ⊢
  have HO := Lib.hid ho
  clear ho hb hs hn'
  go_enter Tryz.func60, Tryz.ntmps60
  go_wp2_with fail
  refine (rtakeruns_any _ r n w (HH.out.below HB.out) (by omega)).mono ?_
  rintro e w5 (⟨V, u, v5, hd, rfl, hown, hb5⟩ | ⟨hd, rfl, hb5⟩)
  · have HB5 := Lib.hid (HB.out.trans (hb5.mono HB.out.size))
    have HO5 := Lib.hid (HO.out.below1 hb5)
    have hcf := decR_facts (by omega) hd
    have hul := hcf.2
    obtain ⟨⟨pa, pn, pc⟩, ep⟩ := hown.sl
    dsimp only at ep
    subst ep
    obtain rfl : pn = n := by have h := (hown.nlen intc_len).1; rw [hcf.1] at h; exact h
    have HVL : Hid (V.length = pn) := Lib.hid hcf.1
    have HV : Hid (Own intc 1 3 w0.heap.size w5 (.slice pa pn pc) V) := Lib.hid (hown.mono HB.out.size)
    have HD := Lib.hid hd
    clear hd hcf hown hb5 HO HB
    go_wp2_with fail
    go_loopg [8, 10] pn (fun g pv iv wr => ∃ (i : Nat) (p : Nat) (X : List ByteArray), g = pn - i ∧ pv = .int .i64 p ∧ iv = .int .i64 i ∧ i ≤ pn ∧ p ≤ r.length ∧ Hid (cutX V i (r.drop u) = some (X, r.drop p) ∧ Own OpD.cells 26 68 w0.heap.size wr (.slice la pn lc) (mixX 0 X i ls) ∧ Own intc 1 3 w0.heap.size wr (.slice pa pn pc) V ∧ Below w0.heap.size w0 wr))
    case atStart => exact ⟨0, u, [], rfl, rfl, rfl, Nat.zero_le _, hul, Lib.hid ⟨rfl, by unfold mixX; rw [mixG_zero]; exact HO5.out, HV.out, HB5.out⟩⟩
    case round =>
      clear HB5 HO5 HV hul
      obtain ⟨i, p, X, hg, rfl, rfl, hi, hpr, HI⟩ := hrel
      have HG := Lib.hid hg
      clear hg
      by_cases hlt : i < pn
      · have hi1 : (i : Int) < (pn : Int) := by omega
        have hi0 : (0 : Int) ≤ (i : Int) := by omega
        obtain ⟨x, hx⟩ : ∃ x, ls[i]? = some x := ⟨_, List.getElem?_eq_getElem (by rw [← HLN.out]; exact hlt)⟩
        obtain ⟨y, hy⟩ : ∃ y, V[i]? = some y := ⟨_, List.getElem?_eq_getElem (by rw [HVL.out]; exact hlt)⟩
        obtain ⟨vb, vo, ev, cv⟩ := (HI.out.2.2.1.slice intc_len).at1 hy rfl
        cases ev
        have HX := Lib.hid hx
        have HY := Lib.hid hy
        by_cases hneg : y < 0
        · have HBAD : Hid (tkX1 pn 0 (ls, r) = none) := Lib.hid (tkX1_no2 HD.out (cutX_bad HI.out.1 hy (.inl hneg) hlt))
          have HB9 := Lib.hid HI.out.2.2.2
          clear hx hy HI
          go_wp2_with fail
          go_ret
          exact .inr ⟨HBAD.out, rfl, HB9.out⟩
        · obtain ⟨k, rfl⟩ : ∃ k : Nat, y = (k : Int) := ⟨y.toNat, by omega⟩
          have hneg0 : ¬ (k : Int) < 0 := hneg
          obtain ⟨m, hm⟩ : ∃ m : Nat, m = r.length - p := ⟨_, rfl⟩
          have hsub : (r.length : Int) - (p : Int) = (m : Int) := by omega
          by_cases hgt : m < k
          · have hgt1 : (m : Int) < (k : Int) := by omega
            have HBAD : Hid (tkX1 pn 0 (ls, r) = none) := Lib.hid (tkX1_no2 HD.out (cutX_bad HI.out.1 hy (.inr (by rw [List.length_drop]; omega)) hlt))
            have HB9 := Lib.hid HI.out.2.2.2
            clear hx hy HI hm hneg hgt
            go_wp2_with fail
            go_ret
            exact .inr ⟨HBAD.out, rfl, HB9.out⟩
          · have hgt1 : ¬ (m : Int) < (k : Int) := by omega
            have hpk : p + k ≤ r.length := by omega
            obtain ⟨a1, c1, hsl, hS1⟩ := slice_mid (P := Tryz.prog) (ea := u8c) Tryz.underlying22 size_u8 a r.length cap p (p + k) hcap (by omega) hpk
            have hpk0 : p + k - p = k := by omega
            rw [hpk0] at hS1
            simp only [hpk0, Int.natCast_add] at hsl
            have hcv := fun W hW => conv_bytes (hS1 W r rfl hW)
            obtain ⟨s, hsE⟩ : ∃ s : ByteArray, s = ⟨((r.drop p).take k).toArray⟩ := ⟨_, rfl⟩
            rw [← hsE] at hcv
            have hcv1 := hcv wr (HH.out.below HI.out.2.2.2)
            have hmx := mixG_at (fun j o => o.setX 0 (X.getD j noText)) i hx
            obtain ⟨g, gcap, e, hg1, hg3⟩ := HI.out.2.1.eq_slice.resolve_left (fun e => by have e2 := e.2; unfold mixX at e2; rw [e2] at hmx; simp at hmx)
            injection e with e1 e2 e3
            subst e1 e3
            clear e2
            have hln : (mixX 0 X i ls).length = pn := by unfold mixX; rw [mixG_len]; exact HLN.out.symm
            have ho1 := HI.out.2.1
            rw [← hln] at ho1
            have c17 := ho1.cellAt OpD.len hmx (j := 17) rfl
            have f17 := ho1.free (i * 26 + 17)
            have h1 := ho1.setAt OpD.len hmx (j := 17) (y := x.setX 0 s) (u := .string s) (by omega) (setX_cells x 0 s)
            have hXl := (cutX_len HI.out.1).1
            rw [hln, ← mixX_succ 0 i hXl hx (s := s)] at h1
            have HC := Lib.hid (cutX_step HI.out.1 hy (by rw [List.length_drop]; omega))
            rw [List.drop_drop, ← hsE] at HC
            have HI2 : Hid (Own OpD.cells 26 68 w0.heap.size (wr.setCell ⟨g, i * 26 + 17, none⟩ (.string s)) (.slice (some ⟨g, 0, none⟩) pn lc) (mixX 0 (X ++ [s]) (i + 1) ls) ∧ Own intc 1 3 w0.heap.size (wr.setCell ⟨g, i * 26 + 17, none⟩ (.string s)) (.slice (some ⟨vb, vo, none⟩) pn pc) V ∧ Below w0.heap.size w0 (wr.setCell ⟨g, i * 26 + 17, none⟩ (.string s))) := Lib.hid ⟨h1, HI.out.2.2.1.notg ho1 (by decide) rfl _ _, below_setCell8 HI.out.2.2.2 (ho1.blk g rfl).1 _ _⟩
            clear h1 ho1 hx hy hmx hln HI hg1 hg3 hS1 hcv hsE hXl hneg hgt hm
            go_upto_region 17 with fail
            generalize wr.setCell ⟨g, i * 26 + 17, none⟩ (.string s) = W2 at HI2 ⊢
            clear c17 f17 cv hcv1 hsl
            obtain ⟨zb, zo, ev, cv⟩ := (HI2.out.2.1.slice intc_len).at1 HY.out rfl
            cases ev
            go_wp2_with fail
            go_roundg (pn - (i + 1))
            case measure => rw [HG.out]; omega
            case rel => exact ⟨i + 1, p + k, X ++ [s], rfl, by simp, by simp, by omega, by omega, Lib.hid ⟨HC.out, HI2.out⟩⟩
      · obtain rfl : i = pn := by omega
        have hi1 : ¬ (i : Int) < (i : Int) := by omega
        have HI3 := Lib.hid HI.out
        clear HI
        go_wp2_with fail
        go_ret
        exact .inl ⟨mixX 0 X i ls, p, hpr, tkX1_of HD.out HI3.out.1, rfl, HI3.out.2.1, HI3.out.2.2.2⟩
  · have HBAD : Hid (tkX1 n 0 (ls, r) = none) := Lib.hid (tkX1_no1 hd)
    have HB6 := Lib.hid (HB.out.trans (hb5.mono HB.out.size))
    clear hd hb5
    go_wp2_with fail
    go_ret
    exact .inr ⟨HBAD.out, rfl, HB6.out⟩
set_option maxRecDepth 20000 in
set_option maxHeartbeats 2000000 in
theorem rtexts_1 (w0 w : World) (v tb : Value) (r : List UInt8) (ls : List OpD) (ho : Own OpD.cells 26 68 w0.heap.size w v ls) (hb : Below w0.heap.size w0 w) (hs : SliceIs u8c 1 w0 tb r) (hn : ls.length ≤ 200) : Calls Tryz.prog 60 #[v, tb, .int .i64 1] w fun e w' => RtPost w0 v r (tkX1 ls.length 1 (ls, r)) e w' := by
  obtain ⟨⟨la, ln, lc⟩, el⟩ := ho.sl
  dsimp only at el
  subst el
  obtain rfl : ln = ls.length := (ho.nlen OpD.len).1
  obtain ⟨a, cap, rfl, hcap, hmax, -⟩ := id hs
  unfold maxLen at hmax
  obtain ⟨n, hn'⟩ : ∃ n, n = ls.length := ⟨_, rfl⟩
  have HH := Lib.hid hs
  have HB := Lib.hid hb
  have HLN := Lib.hid hn'
  rw [← hn'] at hn ho ⊢
  have HO := Lib.hid ho
  clear ho hb hs hn'
  go_enter Tryz.func60, Tryz.ntmps60
  go_wp2_with fail
  refine (rtakeruns_any _ r n w (HH.out.below HB.out) (by omega)).mono ?_
  rintro e w5 (⟨V, u, v5, hd, rfl, hown, hb5⟩ | ⟨hd, rfl, hb5⟩)
  · have HB5 := Lib.hid (HB.out.trans (hb5.mono HB.out.size))
    have HO5 := Lib.hid (HO.out.below1 hb5)
    have hcf := decR_facts (by omega) hd
    have hul := hcf.2
    obtain ⟨⟨pa, pn, pc⟩, ep⟩ := hown.sl
    dsimp only at ep
    subst ep
    obtain rfl : pn = n := by have h := (hown.nlen intc_len).1; rw [hcf.1] at h; exact h
    have HVL : Hid (V.length = pn) := Lib.hid hcf.1
    have HV : Hid (Own intc 1 3 w0.heap.size w5 (.slice pa pn pc) V) := Lib.hid (hown.mono HB.out.size)
    have HD := Lib.hid hd
    clear hd hcf hown hb5 HO HB
    go_wp2_with fail
    go_loopg [8, 10] pn (fun g pv iv wr => ∃ (i : Nat) (p : Nat) (X : List ByteArray), g = pn - i ∧ pv = .int .i64 p ∧ iv = .int .i64 i ∧ i ≤ pn ∧ p ≤ r.length ∧ Hid (cutX V i (r.drop u) = some (X, r.drop p) ∧ Own OpD.cells 26 68 w0.heap.size wr (.slice la pn lc) (mixX 1 X i ls) ∧ Own intc 1 3 w0.heap.size wr (.slice pa pn pc) V ∧ Below w0.heap.size w0 wr))
    case atStart => exact ⟨0, u, [], rfl, rfl, rfl, Nat.zero_le _, hul, Lib.hid ⟨rfl, by unfold mixX; rw [mixG_zero]; exact HO5.out, HV.out, HB5.out⟩⟩
    case round =>
      clear HB5 HO5 HV hul
      obtain ⟨i, p, X, hg, rfl, rfl, hi, hpr, HI⟩ := hrel
      have HG := Lib.hid hg
      clear hg
      by_cases hlt : i < pn
      · have hi1 : (i : Int) < (pn : Int) := by omega
        have hi0 : (0 : Int) ≤ (i : Int) := by omega
        obtain ⟨x, hx⟩ : ∃ x, ls[i]? = some x := ⟨_, List.getElem?_eq_getElem (by rw [← HLN.out]; exact hlt)⟩
        obtain ⟨y, hy⟩ : ∃ y, V[i]? = some y := ⟨_, List.getElem?_eq_getElem (by rw [HVL.out]; exact hlt)⟩
        obtain ⟨vb, vo, ev, cv⟩ := (HI.out.2.2.1.slice intc_len).at1 hy rfl
        cases ev
        have HX := Lib.hid hx
        have HY := Lib.hid hy
        by_cases hneg : y < 0
        · have HBAD : Hid (tkX1 pn 1 (ls, r) = none) := Lib.hid (tkX1_no2 HD.out (cutX_bad HI.out.1 hy (.inl hneg) hlt))
          have HB9 := Lib.hid HI.out.2.2.2
          clear hx hy HI
          go_wp2_with fail
          go_ret
          exact .inr ⟨HBAD.out, rfl, HB9.out⟩
        · obtain ⟨k, rfl⟩ : ∃ k : Nat, y = (k : Int) := ⟨y.toNat, by omega⟩
          have hneg0 : ¬ (k : Int) < 0 := hneg
          obtain ⟨m, hm⟩ : ∃ m : Nat, m = r.length - p := ⟨_, rfl⟩
          have hsub : (r.length : Int) - (p : Int) = (m : Int) := by omega
          by_cases hgt : m < k
          · have hgt1 : (m : Int) < (k : Int) := by omega
            have HBAD : Hid (tkX1 pn 1 (ls, r) = none) := Lib.hid (tkX1_no2 HD.out (cutX_bad HI.out.1 hy (.inr (by rw [List.length_drop]; omega)) hlt))
            have HB9 := Lib.hid HI.out.2.2.2
            clear hx hy HI hm hneg hgt
            go_wp2_with fail
            go_ret
            exact .inr ⟨HBAD.out, rfl, HB9.out⟩
          · have hgt1 : ¬ (m : Int) < (k : Int) := by omega
            have hpk : p + k ≤ r.length := by omega
            obtain ⟨a1, c1, hsl, hS1⟩ := slice_mid (P := Tryz.prog) (ea := u8c) Tryz.underlying22 size_u8 a r.length cap p (p + k) hcap (by omega) hpk
            have hpk0 : p + k - p = k := by omega
            rw [hpk0] at hS1
            simp only [hpk0, Int.natCast_add] at hsl
            have hcv := fun W hW => conv_bytes (hS1 W r rfl hW)
            obtain ⟨s, hsE⟩ : ∃ s : ByteArray, s = ⟨((r.drop p).take k).toArray⟩ := ⟨_, rfl⟩
            rw [← hsE] at hcv
            have hcv1 := hcv wr (HH.out.below HI.out.2.2.2)
            have hmx := mixG_at (fun j o => o.setX 1 (X.getD j noText)) i hx
            obtain ⟨g, gcap, e, hg1, hg3⟩ := HI.out.2.1.eq_slice.resolve_left (fun e => by have e2 := e.2; unfold mixX at e2; rw [e2] at hmx; simp at hmx)
            injection e with e1 e2 e3
            subst e1 e3
            clear e2
            have hln : (mixX 1 X i ls).length = pn := by unfold mixX; rw [mixG_len]; exact HLN.out.symm
            have ho1 := HI.out.2.1
            rw [← hln] at ho1
            have c17 := ho1.cellAt OpD.len hmx (j := 18) rfl
            have f17 := ho1.free (i * 26 + 18)
            have h1 := ho1.setAt OpD.len hmx (j := 18) (y := x.setX 1 s) (u := .string s) (by omega) (setX_cells x 1 s)
            have hXl := (cutX_len HI.out.1).1
            rw [hln, ← mixX_succ 1 i hXl hx (s := s)] at h1
            have HC := Lib.hid (cutX_step HI.out.1 hy (by rw [List.length_drop]; omega))
            rw [List.drop_drop, ← hsE] at HC
            have HI2 : Hid (Own OpD.cells 26 68 w0.heap.size (wr.setCell ⟨g, i * 26 + 18, none⟩ (.string s)) (.slice (some ⟨g, 0, none⟩) pn lc) (mixX 1 (X ++ [s]) (i + 1) ls) ∧ Own intc 1 3 w0.heap.size (wr.setCell ⟨g, i * 26 + 18, none⟩ (.string s)) (.slice (some ⟨vb, vo, none⟩) pn pc) V ∧ Below w0.heap.size w0 (wr.setCell ⟨g, i * 26 + 18, none⟩ (.string s))) := Lib.hid ⟨h1, HI.out.2.2.1.notg ho1 (by decide) rfl _ _, below_setCell8 HI.out.2.2.2 (ho1.blk g rfl).1 _ _⟩
            clear h1 ho1 hx hy hmx hln HI hg1 hg3 hS1 hcv hsE hXl hneg hgt hm
            go_upto_region 17 with fail
            generalize wr.setCell ⟨g, i * 26 + 18, none⟩ (.string s) = W2 at HI2 ⊢
            clear c17 f17 cv hcv1 hsl
            obtain ⟨zb, zo, ev, cv⟩ := (HI2.out.2.1.slice intc_len).at1 HY.out rfl
            cases ev
            go_wp2_with fail
            go_roundg (pn - (i + 1))
            case measure => rw [HG.out]; omega
            case rel => exact ⟨i + 1, p + k, X ++ [s], rfl, by simp, by simp, by omega, by omega, Lib.hid ⟨HC.out, HI2.out⟩⟩
      · obtain rfl : i = pn := by omega
        have hi1 : ¬ (i : Int) < (i : Int) := by omega
        have HI3 := Lib.hid HI.out
        clear HI
        go_wp2_with fail
        go_ret
        exact .inl ⟨mixX 1 X i ls, p, hpr, tkX1_of HD.out HI3.out.1, rfl, HI3.out.2.1, HI3.out.2.2.2⟩
  · have HBAD : Hid (tkX1 n 1 (ls, r) = none) := Lib.hid (tkX1_no1 hd)
    have HB6 := Lib.hid (HB.out.trans (hb5.mono HB.out.size))
    clear hd hb5
    go_wp2_with fail
    go_ret
    exact .inr ⟨HBAD.out, rfl, HB6.out⟩
set_option maxRecDepth 20000 in
set_option maxHeartbeats 2000000 in
theorem rtexts_2 (w0 w : World) (v tb : Value) (r : List UInt8) (ls : List OpD) (ho : Own OpD.cells 26 68 w0.heap.size w v ls) (hb : Below w0.heap.size w0 w) (hs : SliceIs u8c 1 w0 tb r) (hn : ls.length ≤ 200) : Calls Tryz.prog 60 #[v, tb, .int .i64 2] w fun e w' => RtPost w0 v r (tkX1 ls.length 2 (ls, r)) e w' := by
  obtain ⟨⟨la, ln, lc⟩, el⟩ := ho.sl
  dsimp only at el
  subst el
  obtain rfl : ln = ls.length := (ho.nlen OpD.len).1
  obtain ⟨a, cap, rfl, hcap, hmax, -⟩ := id hs
  unfold maxLen at hmax
  obtain ⟨n, hn'⟩ : ∃ n, n = ls.length := ⟨_, rfl⟩
  have HH := Lib.hid hs
  have HB := Lib.hid hb
  have HLN := Lib.hid hn'
  rw [← hn'] at hn ho ⊢
  have HO := Lib.hid ho
  clear ho hb hs hn'
  go_enter Tryz.func60, Tryz.ntmps60
  go_wp2_with fail
  refine (rtakeruns_any _ r n w (HH.out.below HB.out) (by omega)).mono ?_
  rintro e w5 (⟨V, u, v5, hd, rfl, hown, hb5⟩ | ⟨hd, rfl, hb5⟩)
  · have HB5 := Lib.hid (HB.out.trans (hb5.mono HB.out.size))
    have HO5 := Lib.hid (HO.out.below1 hb5)
    have hcf := decR_facts (by omega) hd
    have hul := hcf.2
    obtain ⟨⟨pa, pn, pc⟩, ep⟩ := hown.sl
    dsimp only at ep
    subst ep
    obtain rfl : pn = n := by have h := (hown.nlen intc_len).1; rw [hcf.1] at h; exact h
    have HVL : Hid (V.length = pn) := Lib.hid hcf.1
    have HV : Hid (Own intc 1 3 w0.heap.size w5 (.slice pa pn pc) V) := Lib.hid (hown.mono HB.out.size)
    have HD := Lib.hid hd
    clear hd hcf hown hb5 HO HB
    go_wp2_with fail
    go_loopg [8, 10] pn (fun g pv iv wr => ∃ (i : Nat) (p : Nat) (X : List ByteArray), g = pn - i ∧ pv = .int .i64 p ∧ iv = .int .i64 i ∧ i ≤ pn ∧ p ≤ r.length ∧ Hid (cutX V i (r.drop u) = some (X, r.drop p) ∧ Own OpD.cells 26 68 w0.heap.size wr (.slice la pn lc) (mixX 2 X i ls) ∧ Own intc 1 3 w0.heap.size wr (.slice pa pn pc) V ∧ Below w0.heap.size w0 wr))
    case atStart => exact ⟨0, u, [], rfl, rfl, rfl, Nat.zero_le _, hul, Lib.hid ⟨rfl, by unfold mixX; rw [mixG_zero]; exact HO5.out, HV.out, HB5.out⟩⟩
    case round =>
      clear HB5 HO5 HV hul
      obtain ⟨i, p, X, hg, rfl, rfl, hi, hpr, HI⟩ := hrel
      have HG := Lib.hid hg
      clear hg
      by_cases hlt : i < pn
      · have hi1 : (i : Int) < (pn : Int) := by omega
        have hi0 : (0 : Int) ≤ (i : Int) := by omega
        obtain ⟨x, hx⟩ : ∃ x, ls[i]? = some x := ⟨_, List.getElem?_eq_getElem (by rw [← HLN.out]; exact hlt)⟩
        obtain ⟨y, hy⟩ : ∃ y, V[i]? = some y := ⟨_, List.getElem?_eq_getElem (by rw [HVL.out]; exact hlt)⟩
        obtain ⟨vb, vo, ev, cv⟩ := (HI.out.2.2.1.slice intc_len).at1 hy rfl
        cases ev
        have HX := Lib.hid hx
        have HY := Lib.hid hy
        by_cases hneg : y < 0
        · have HBAD : Hid (tkX1 pn 2 (ls, r) = none) := Lib.hid (tkX1_no2 HD.out (cutX_bad HI.out.1 hy (.inl hneg) hlt))
          have HB9 := Lib.hid HI.out.2.2.2
          clear hx hy HI
          go_wp2_with fail
          go_ret
          exact .inr ⟨HBAD.out, rfl, HB9.out⟩
        · obtain ⟨k, rfl⟩ : ∃ k : Nat, y = (k : Int) := ⟨y.toNat, by omega⟩
          have hneg0 : ¬ (k : Int) < 0 := hneg
          obtain ⟨m, hm⟩ : ∃ m : Nat, m = r.length - p := ⟨_, rfl⟩
          have hsub : (r.length : Int) - (p : Int) = (m : Int) := by omega
          by_cases hgt : m < k
          · have hgt1 : (m : Int) < (k : Int) := by omega
            have HBAD : Hid (tkX1 pn 2 (ls, r) = none) := Lib.hid (tkX1_no2 HD.out (cutX_bad HI.out.1 hy (.inr (by rw [List.length_drop]; omega)) hlt))
            have HB9 := Lib.hid HI.out.2.2.2
            clear hx hy HI hm hneg hgt
            go_wp2_with fail
            go_ret
            exact .inr ⟨HBAD.out, rfl, HB9.out⟩
          · have hgt1 : ¬ (m : Int) < (k : Int) := by omega
            have hpk : p + k ≤ r.length := by omega
            obtain ⟨a1, c1, hsl, hS1⟩ := slice_mid (P := Tryz.prog) (ea := u8c) Tryz.underlying22 size_u8 a r.length cap p (p + k) hcap (by omega) hpk
            have hpk0 : p + k - p = k := by omega
            rw [hpk0] at hS1
            simp only [hpk0, Int.natCast_add] at hsl
            have hcv := fun W hW => conv_bytes (hS1 W r rfl hW)
            obtain ⟨s, hsE⟩ : ∃ s : ByteArray, s = ⟨((r.drop p).take k).toArray⟩ := ⟨_, rfl⟩
            rw [← hsE] at hcv
            have hcv1 := hcv wr (HH.out.below HI.out.2.2.2)
            have hmx := mixG_at (fun j o => o.setX 2 (X.getD j noText)) i hx
            obtain ⟨g, gcap, e, hg1, hg3⟩ := HI.out.2.1.eq_slice.resolve_left (fun e => by have e2 := e.2; unfold mixX at e2; rw [e2] at hmx; simp at hmx)
            injection e with e1 e2 e3
            subst e1 e3
            clear e2
            have hln : (mixX 2 X i ls).length = pn := by unfold mixX; rw [mixG_len]; exact HLN.out.symm
            have ho1 := HI.out.2.1
            rw [← hln] at ho1
            have c17 := ho1.cellAt OpD.len hmx (j := 19) rfl
            have f17 := ho1.free (i * 26 + 19)
            have h1 := ho1.setAt OpD.len hmx (j := 19) (y := x.setX 2 s) (u := .string s) (by omega) (setX_cells x 2 s)
            have hXl := (cutX_len HI.out.1).1
            rw [hln, ← mixX_succ 2 i hXl hx (s := s)] at h1
            have HC := Lib.hid (cutX_step HI.out.1 hy (by rw [List.length_drop]; omega))
            rw [List.drop_drop, ← hsE] at HC
            have HI2 : Hid (Own OpD.cells 26 68 w0.heap.size (wr.setCell ⟨g, i * 26 + 19, none⟩ (.string s)) (.slice (some ⟨g, 0, none⟩) pn lc) (mixX 2 (X ++ [s]) (i + 1) ls) ∧ Own intc 1 3 w0.heap.size (wr.setCell ⟨g, i * 26 + 19, none⟩ (.string s)) (.slice (some ⟨vb, vo, none⟩) pn pc) V ∧ Below w0.heap.size w0 (wr.setCell ⟨g, i * 26 + 19, none⟩ (.string s))) := Lib.hid ⟨h1, HI.out.2.2.1.notg ho1 (by decide) rfl _ _, below_setCell8 HI.out.2.2.2 (ho1.blk g rfl).1 _ _⟩
            clear h1 ho1 hx hy hmx hln HI hg1 hg3 hS1 hcv hsE hXl hneg hgt hm
            go_upto_region 17 with fail
            generalize wr.setCell ⟨g, i * 26 + 19, none⟩ (.string s) = W2 at HI2 ⊢
            clear c17 f17 cv hcv1 hsl
            obtain ⟨zb, zo, ev, cv⟩ := (HI2.out.2.1.slice intc_len).at1 HY.out rfl
            cases ev
            go_wp2_with fail
            go_roundg (pn - (i + 1))
            case measure => rw [HG.out]; omega
            case rel => exact ⟨i + 1, p + k, X ++ [s], rfl, by simp, by simp, by omega, by omega, Lib.hid ⟨HC.out, HI2.out⟩⟩
      · obtain rfl : i = pn := by omega
        have hi1 : ¬ (i : Int) < (i : Int) := by omega
        have HI3 := Lib.hid HI.out
        clear HI
        go_wp2_with fail
        go_ret
        exact .inl ⟨mixX 2 X i ls, p, hpr, tkX1_of HD.out HI3.out.1, rfl, HI3.out.2.1, HI3.out.2.2.2⟩
  · have HBAD : Hid (tkX1 n 2 (ls, r) = none) := Lib.hid (tkX1_no1 hd)
    have HB6 := Lib.hid (HB.out.trans (hb5.mono HB.out.size))
    clear hd hb5
    go_wp2_with fail
    go_ret
    exact .inr ⟨HBAD.out, rfl, HB6.out⟩
theorem rtexts_any (w0 w : World) (v tb : Value) (r : List UInt8) (ls : List OpD) (c : Nat) (hc : c < 3) (ho : Own OpD.cells 26 68 w0.heap.size w v ls) (hb : Below w0.heap.size w0 w) (hs : SliceIs u8c 1 w0 tb r) (hn : ls.length ≤ 200) : Calls Tryz.prog 60 #[v, tb, .int .i64 c] w fun e w' => RtPost w0 v r (tkX1 ls.length c (ls, r)) e w' := by
  rcases (by omega : c = 0 ∨ c = 1 ∨ c = 2) with rfl | rfl | rfl
  · exact rtexts_0 w0 w v tb r ls ho hb hs hn
  · exact rtexts_1 w0 w v tb r ls ho hb hs hn
  · exact rtexts_2 w0 w v tb r ls ho hb hs hn
end Go.Proofs.YtgmdimbiipemhaaGreatDoor
namespace Go.Proofs.YtgmdimbiipemhaaGreatDoor
open Go.RowKit Go.Deep
set_option linter.unusedSimpArgs false
set_option linter.unusedVariables false
def SumAt (d : List Int) (i : Nat) (S : Int) : Prop := (i = 0 ∧ S = 0) ∨ ∃ j, i = j + 1 ∧ (sumsB d)[j]? = some (wrapI S)
theorem SumAt.next {d : List Int} {i : Nat} {S x : Int} (h : SumAt d i S) (hx : d[i]? = some x) (hin : -9223372036854775808 ≤ x ∧ x ≤ 9223372036854775807) : (sumsB d)[i]? = some (IntKind.i64.wrap (IntKind.u64.wrap (S + IntKind.u64.wrap x))) := by
  rw [i64_wrap, u64_wrap, u64_wrap]
  rcases h with ⟨rfl, rfl⟩ | ⟨j, rfl, h⟩
  · rw [show wrapI ((0 + x % 18446744073709551616) % 18446744073709551616) = x by unfold wrapI; omega]
    exact sumsB_head hx
  · rw [sumsB_get hx h]
    congr 1
    unfold wrapI
    omega
theorem Own.lower8 {α : Type} {ea : α → List Value} {k : Nat} {e : TypeId} {B C : Nat} {w : World} {v : Value} {l : List α} (h : Own ea k e C w v l) (hb : B ≤ C) : Own ea k e B w v l := by
  obtain ⟨h1, h2⟩ := h
  refine ⟨h1, ?_⟩
  rcases h2 with h2 | ⟨g, c, cs, e1, h3, h4⟩
  · exact .inl h2
  · exact .inr ⟨g, c, cs, e1, Nat.le_trans hb h3, h4⟩
set_option maxRecDepth 20000 in
set_option maxHeartbeats 1000000 in
theorem rtakedeltas_any (v : Value) (b : List UInt8) (n : Nat) (w : World) (h : SliceIs u8c 1 w v b) (hn0 : n ≤ 65536) : Calls Tryz.prog 57 #[v, .int .i64 n] w fun e w' => TdPost w b n e w' := by
  have HC := Lib.hid (rtakeruns_any v b n w h hn0)
  clear h
  obtain ⟨i0, hi, hy0, hy1, hy2⟩ := info_parts info_int
  go_enter Tryz.func57, Tryz.ntmps57
  go_wp2_with fail
  refine HC.out.mono ?_
  rintro e w5 (⟨d, u, v5, hd, rfl, hown, hb⟩ | ⟨hd, rfl, hb⟩)
  · obtain ⟨⟨sa, sn, sc⟩, e5⟩ := hown.sl
    dsimp only at e5
    subst e5
    obtain rfl := (hown.nlen intc_len).1
    have hdl := (decR_iff n (by omega) none b d u).1 hd
    have hdn : d.length ≤ 65536 := by rcases hdl with ⟨h, _⟩ | ⟨_, rfl, _⟩; omega; simp
    have HIN : Hid (∀ x ∈ d, -9223372036854775808 ≤ x ∧ x ≤ 9223372036854775807) := Lib.hid (fun x hx => by
      rcases hdl with ⟨_, _, h, _⟩ | ⟨_, rfl, _⟩
      · exact zigN_in9 (h x hx)
      · simp at hx)
    have HD := Lib.hid (show decD n b = some (sumsB d, u) from by unfold decD; rw [hd]; rfl)
    have hsl := sumsB_len d
    have HSL := Lib.hid hsl
    have HU := Lib.hid (And.intro hown hb)
    clear hd hdl hown hb hsl HC hn0
    go_wp2_with fail
    go_loopg [10, 11, 12] d.length (fun g lv sv iv wr => ∃ (i : Nat) (S : Int) (s : Sl), g = d.length - i ∧ lv = .slice s.a s.n s.cap ∧ sv = .int .u64 S ∧ iv = .int .i64 i ∧ i ≤ d.length ∧ Hid (SumAt d i S) ∧ Hid (Own intc 1 3 w5.heap.size wr (.slice s.a s.n s.cap) ((sumsB d).take i) ∧ Below w5.heap.size w5 wr))
    case atStart => exact ⟨0, 0, ⟨none, 0, 0⟩, rfl, rfl, rfl, rfl, Nat.zero_le _, Lib.hid (.inl ⟨rfl, rfl⟩), Lib.hid ⟨Own.nil, Below.refl _ _⟩⟩
    case round =>
      obtain ⟨HW, HW0⟩ : ∃ hw : Hid (Own intc 1 3 w.heap.size w5 (.slice sa d.length sc) d ∧ Below w.heap.size w w5), True := ⟨HU, trivial⟩
      clear HU HW0
      obtain ⟨i, S, ⟨ta, tn, tc⟩, hg, rfl, rfl, rfl, hil, HS, HU⟩ := hrel
      dsimp only at HU ⊢
      have HG := Lib.hid hg
      clear hg
      by_cases hlt : i < d.length
      · have hi1 : (i : Int) < (d.length : Int) := by omega
        obtain ⟨x, hx⟩ : ∃ x, d[i]? = some x := ⟨_, List.getElem?_eq_getElem hlt⟩
        obtain ⟨bb, oo, rfl, c0⟩ := ((HW.out.1.slice intc_len).below HU.out.2).at1 hx rfl
        obtain ⟨xu, hxu⟩ : ∃ xu, IntKind.u64.wrap x = xu := ⟨_, rfl⟩
        obtain ⟨S2, hS2⟩ : ∃ S2, IntKind.u64.wrap (S + xu) = S2 := ⟨_, rfl⟩
        obtain ⟨z, hz⟩ : ∃ z, IntKind.i64.wrap S2 = z := ⟨_, rfl⟩
        have hnx : (sumsB d)[i]? = some z := by rw [HS.out.next hx (HIN.out x (List.mem_of_getElem? hx)), hxu, hS2, hz]
        have HNS : Hid (SumAt d (i + 1) S2) := Lib.hid (.inr ⟨i, rfl, by rw [hnx, ← hz, i64_wrap]⟩)
        have htk : (sumsB d).take i ++ [z] = (sumsB d).take (i + 1) := by rw [List.take_add_one, hnx]; rfl
        have HTK := Lib.hid htk
        have hbd : ((sumsB d).take i).length + 1 ≤ maxLen ∧ (((sumsB d).take i).length + 1) * 8 ≤ 140737488355328 := by rw [List.length_take]; unfold maxLen; omega
        have HBD := Lib.hid hbd
        have hsz := HU.out.2.size
        clear hnx htk hbd hx hlt
        go_wp2_with (at_builtin; refine wpList_append_struct rfl _ _ _ rfl i0 _ 8 Tryz.underlying100 hi hy0 hy1 hy2 rfl (by omega) intc_len intc_one rfl (HU.out.1.alloc _) z wr.heap.size 1 rfl (int_new _ z) HBD.out.1 HBD.out.2 (by simp; omega) ?_)
        intro v' w3 hown3 hx3
        have hB3 := Ext.new (HU.out.2.alloc HU.out.2.size (.cells #[.int .i64 z] 3)) hx3 (fun i hi _ e => by have := (HU.out.1.blk i e).1; omega) (by simp; omega)
        rw [HTK.out] at hown3
        obtain ⟨⟨ua, un, uc⟩, e3⟩ := hown3.sl
        dsimp only at e3
        subst e3
        have HN := Lib.hid (And.intro hown3 hB3)
        clear hown3 hx3 hB3
        go_wp2_with fail
        go_roundg (d.length - (i + 1))
        case measure => rw [HG.out]; omega
        case rel => exact ⟨i + 1, S2, ⟨ua, un, uc⟩, rfl, rfl, rfl, by simp, by omega, HNS, HN⟩
      · obtain rfl : i = d.length := by omega
        have hi1 : ¬ (d.length : Int) < (d.length : Int) := by omega
        have HO : Hid (Own intc 1 3 w.heap.size wr (.slice ta tn tc) (sumsB d) ∧ Below w.heap.size w wr) := Lib.hid (by have h := HU.out; rw [← HSL.out, List.take_length] at h; exact ⟨h.1.lower8 HW.out.2.size, HW.out.2.trans (h.2.mono HW.out.2.size)⟩)
        clear hlt HU
        go_wp2_with fail
        go_ret3
        exact .inl ⟨sumsB d, u, _, HD.out, rfl, HO.out.1, HO.out.2⟩
  · have HD := Lib.hid (show decD n b = none from by unfold decD; rw [hd]; rfl)
    have HB := Lib.hid hb
    clear hd hb
    go_wp2_with fail
    go_ret3
    exact .inr ⟨HD.out, rfl, HB.out⟩
end Go.Proofs.YtgmdimbiipemhaaGreatDoor
namespace Go.Proofs.YtgmdimbiipemhaaGreatDoor
open Go.RowKit Go.Deep
set_option linter.unusedSimpArgs false
set_option linter.unusedVariables false
set_option maxRecDepth 20000 in
set_option maxHeartbeats 1000000 in
theorem rdeltas_any (v : Value) (l : List Int) (w : World) (h : SliceIs intc 1 w v l) (hn : l.length ≤ 1000000000000) (hin : ∀ x ∈ l, -9223372036854775808 ≤ x ∧ x ≤ 9223372036854775807) : Calls Tryz.prog 160 #[v] w fun e w' => BytesPost w (runsB (diffsB l)) e w' := by
  obtain ⟨a, cap, rfl, hcap, hmax, -⟩ := id h
  unfold maxLen at hmax
  have HH := Lib.hid h
  have HIN := Lib.hid hin
  obtain ⟨i0, hi, hz0, hz1, hz2⟩ := info_parts info_int
  clear h hin
  go_enter Tryz.func160, Tryz.ntmps160
  go_wp2_with fail
  go_loopg [3, 4] l.length (fun g ov iv wr => ∃ (i : Nat) (s : Sl), g = l.length - i ∧ ov = .slice s.a s.n s.cap ∧ iv = .int .i64 i ∧ i ≤ l.length ∧ Hid (Own intc 1 3 w.heap.size wr (.slice s.a s.n s.cap) (diffsB (l.take i)) ∧ Below w.heap.size w wr))
  case atStart => exact ⟨0, ⟨none, 0, 0⟩, rfl, rfl, rfl, Nat.zero_le _, Lib.hid ⟨Own.nil, Below.refl _ _⟩⟩
  case round =>
    obtain ⟨i, ⟨sa, sn, sc⟩, hg, rfl, rfl, hil, HU⟩ := hrel
    dsimp only at HU ⊢
    have HG := Lib.hid hg
    clear hg
    have hsz := HU.out.2.size
    have hdl : (diffsB (l.take i)).length = i := by rw [diffsB_length, List.length_take]; omega
    by_cases hlt : i < l.length
    · have hi1 : (i : Int) < (l.length : Int) := by omega
      obtain ⟨x, hx⟩ : ∃ x, l[i]? = some x := ⟨_, List.getElem?_eq_getElem (by omega)⟩
      obtain ⟨bb, o, rfl, c0⟩ := (HH.out.below HU.out.2).at1 hx rfl
      cases i with
      | zero =>
        have HD : Hid (diffsB [] ++ [x] = diffsB (l.take 1)) := Lib.hid (by rw [List.take_add_one, hx]; simp [diffsB, diffsF])
        have c00 : wr.cell? ⟨bb, o, none⟩ = some (.int .i64 x) := c0
        clear hx
        go_wp2_with (at_builtin; refine wpList_append_struct rfl _ _ _ rfl i0 _ 8 Tryz.underlying100 hi hz0 hz1 hz2 rfl (by omega) intc_len intc_one rfl (HU.out.1.alloc _) x wr.heap.size 1 rfl (int_new _ x) (by unfold maxLen; omega) (by omega) (by simp; omega) ?_)
        intro v' w3 hown3 hx3
        have hB3 := Ext.new (HU.out.2.alloc HU.out.2.size (.cells #[.int .i64 x] 3)) hx3 (fun i hi _ e => by have := (HU.out.1.blk i e).1; omega) (by simp; omega)
        rw [HD.out] at hown3
        obtain ⟨⟨ua, un, uc⟩, e3⟩ := hown3.sl
        dsimp only at e3
        subst e3
        have HN := Lib.hid (And.intro hown3 hB3)
        clear hown3 hx3 hB3
        go_wp2_with fail
        go_roundg (l.length - 1)
        case measure => rw [HG.out]; omega
        case rel => exact ⟨1, ⟨ua, un, uc⟩, rfl, rfl, by simp, by omega, HN⟩
      | succ j =>
        obtain ⟨y, hy⟩ : ∃ y, l[j]? = some y := ⟨_, List.getElem?_eq_getElem (by omega)⟩
        obtain ⟨bb2, o2, e2, c1⟩ := (HH.out.below HU.out.2).at1 hy rfl
        cases e2
        have hbb : bb < w.heap.size := by
          obtain ⟨b3, o3, e3, c3⟩ := HH.out.at1 hy rfl
          cases e3
          exact cell_lt c3
        have hds := diffsB_take hx hy
        obtain ⟨d, hd⟩ : ∃ d, d = wrapI (x - y) := ⟨_, rfl⟩
        rw [← hd] at hds
        have hin1 := HIN.out x (List.mem_of_getElem? hx)
        have hin2 := HIN.out y (List.mem_of_getElem? hy)
        obtain ⟨xu, hxu⟩ : ∃ xu, IntKind.u64.wrap x = xu := ⟨_, rfl⟩
        obtain ⟨yu, hyu⟩ : ∃ yu, IntKind.u64.wrap y = yu := ⟨_, rfl⟩
        obtain ⟨du, hdu⟩ : ∃ du, IntKind.u64.wrap (xu - yu) = du := ⟨_, rfl⟩
        have hdd : IntKind.i64.wrap du = d := by rw [← hdu, ← hxu, ← hyu, hd, i64_wrap, u64_wrap, u64_wrap, u64_wrap]; unfold wrapI; omega
        have hj1 : IntKind.i64.wrap (((j + 1 : Nat) : Int) - 1) = (j : Int) := by rw [IntWalk.i64_in _ (by omega)]; omega
        have hj0 : IntKind.i64.wrap (j : Int) = (j : Int) := IntWalk.i64_in _ (by omega)
        have hj2 : (j : Int) < (l.length : Int) := by omega
        have HDS := Lib.hid hds
        clear hd hds hx hy hin1 hin2
        go_upto_region 7 with fail
        have hS0 : (fun W : World => W.cell? ⟨bb, o + (j + 1), none⟩ = some (.int .i64 x) ∧ W.cell? ⟨bb, o + j, none⟩ = some (.int .i64 y)) wr.drew := ⟨c0, c1⟩
        refine wp_region_s (fun W : World => W.cell? ⟨bb, o + (j + 1), none⟩ = some (.int .i64 x) ∧ W.cell? ⟨bb, o + j, none⟩ = some (.int .i64 y)) (fun _ => false) (by kernel_rfl) ?_
        have HU1 : Hid (Own intc 1 3 w.heap.size wr.drew (.slice sa sn sc) (diffsB (l.take (j + 1))) ∧ Below w.heap.size w wr.drew) := Lib.hid ⟨HU.out.1.drew, HU.out.2.drew⟩
        clear HU c0 c1 hsz
        generalize wr.drew = W1 at hS0 HU1 ⊢
        refine wpAnyS_take (i := 0) (d := some 20) rfl rfl rfl (by kernel_rfl) (by kernel_rfl) (by kernel_rfl) (by kernel_rfl) (fun _ _ _ h => h) (.inl ⟨by rfl, fun W hW => by go_simp; try rfl⟩) hS0 ?_
        try simp only [Act.put, List.setIfInBounds_toArray, List.set_cons_zero, List.set_cons_succ]
        refine wpAnyS_take (i := 1) (d := some 21) rfl rfl rfl (by kernel_rfl) (by kernel_rfl) (by kernel_rfl) (by kernel_rfl) (fun _ _ _ h => h) (.inl ⟨by rfl, fun W hW => by go_simp; try rfl⟩) hS0 ?_
        try simp only [Act.put, List.setIfInBounds_toArray, List.set_cons_zero, List.set_cons_succ]
        refine wpAnyS_take (i := 2) (d := some 22) rfl rfl rfl (by kernel_rfl) (by kernel_rfl) (by kernel_rfl) (by kernel_rfl) (fun _ _ _ h => h) (.inl ⟨by rfl, fun W hW => by go_simp; try rfl⟩) hS0 ?_
        try simp only [Act.put, List.setIfInBounds_toArray, List.set_cons_zero, List.set_cons_succ]
        refine wpAnyS_take (i := 3) (d := some 23) rfl rfl rfl (by kernel_rfl) (by kernel_rfl) (by kernel_rfl) (by kernel_rfl) (fun _ _ _ h => h) (.inl ⟨by rfl, fun W hW => by go_simp; try rfl⟩) hS0 ?_
        try simp only [Act.put, List.setIfInBounds_toArray, List.set_cons_zero, List.set_cons_succ]
        refine wpAnyS_take (i := 4) (d := some 24) (v := .int .i64 x) rfl rfl rfl (by kernel_rfl) (by kernel_rfl) (by kernel_rfl) (by kernel_rfl) (fun _ _ _ h => h) (.inl ⟨by rfl, fun W hW => by obtain ⟨q0, q1⟩ := hW; go_simp; try rfl⟩) hS0 ?_
        try simp only [Act.put, List.setIfInBounds_toArray, List.set_cons_zero, List.set_cons_succ]
        refine wpAnyS_take (i := 5) (d := some 25) (v := .int .u64 xu) rfl rfl rfl (by kernel_rfl) (by kernel_rfl) (by kernel_rfl) (by kernel_rfl) (fun _ _ _ h => h) (.inl ⟨by rfl, fun W hW => by go_simp; try rfl⟩) hS0 ?_
        try simp only [Act.put, List.setIfInBounds_toArray, List.set_cons_zero, List.set_cons_succ]
        refine wpAnyS_take (i := 6) (d := some 26) rfl rfl rfl (by kernel_rfl) (by kernel_rfl) (by kernel_rfl) (by kernel_rfl) (fun _ _ _ h => h) (.inl ⟨by rfl, fun W hW => by go_simp; try rfl⟩) hS0 ?_
        try simp only [Act.put, List.setIfInBounds_toArray, List.set_cons_zero, List.set_cons_succ]
        refine wpAnyS_take (i := 7) (d := some 27) rfl rfl rfl (by kernel_rfl) (by kernel_rfl) (by kernel_rfl) (by kernel_rfl) (fun _ _ _ h => h) (.inl ⟨by rfl, fun W hW => by go_simp; try rfl⟩) hS0 ?_
        try simp only [Act.put, List.setIfInBounds_toArray, List.set_cons_zero, List.set_cons_succ]
        refine wpAnyS_take (i := 8) (d := some 28) (v := .int .i64 j) rfl rfl rfl (by kernel_rfl) (by kernel_rfl) (by kernel_rfl) (by kernel_rfl) (fun _ _ _ h => h) (.inl ⟨by rfl, fun W hW => by go_simp; try rfl⟩) hS0 ?_
        try simp only [Act.put, List.setIfInBounds_toArray, List.set_cons_zero, List.set_cons_succ]
        refine wpAnyS_take (i := 9) (d := some 29) rfl rfl rfl (by kernel_rfl) (by kernel_rfl) (by kernel_rfl) (by kernel_rfl) (fun _ _ _ h => h) (.inl ⟨by rfl, fun W hW => by go_simp; try rfl⟩) hS0 ?_
        try simp only [Act.put, List.setIfInBounds_toArray, List.set_cons_zero, List.set_cons_succ]
        refine wpAnyS_take (i := 10) (d := some 30) (v := .int .i64 y) rfl rfl rfl (by kernel_rfl) (by kernel_rfl) (by kernel_rfl) (by kernel_rfl) (fun _ _ _ h => h) (.inl ⟨by rfl, fun W hW => by obtain ⟨q0, q1⟩ := hW; go_simp; try rfl⟩) hS0 ?_
        try simp only [Act.put, List.setIfInBounds_toArray, List.set_cons_zero, List.set_cons_succ]
        refine wpAnyS_take (i := 11) (d := some 31) (v := .int .u64 yu) rfl rfl rfl (by kernel_rfl) (by kernel_rfl) (by kernel_rfl) (by kernel_rfl) (fun _ _ _ h => h) (.inl ⟨by rfl, fun W hW => by go_simp; try rfl⟩) hS0 ?_
        try simp only [Act.put, List.setIfInBounds_toArray, List.set_cons_zero, List.set_cons_succ]
        refine wpAnyS_take (i := 12) (d := some 32) (v := .int .u64 du) rfl rfl rfl (by kernel_rfl) (by kernel_rfl) (by kernel_rfl) (by kernel_rfl) (fun _ _ _ h => h) (.inl ⟨by rfl, fun W hW => by go_simp; try rfl⟩) hS0 ?_
        try simp only [Act.put, List.setIfInBounds_toArray, List.set_cons_zero, List.set_cons_succ]
        refine wpAnyS_take (i := 13) (d := some 33) (v := .int .i64 d) rfl rfl rfl (by kernel_rfl) (by kernel_rfl) (by kernel_rfl) (by kernel_rfl) (fun _ _ _ h => h) (.inl ⟨by rfl, fun W hW => by go_simp; try rfl⟩) hS0 ?_
        try simp only [Act.put, List.setIfInBounds_toArray, List.set_cons_zero, List.set_cons_succ]
        have hsz1 := HU1.out.2.size
        obtain ⟨v', w3, hr3, hown3, hx3, -⟩ := append_struct_run (P := Tryz.prog) 100 100 i0 _ 8 Tryz.underlying100 hi hz0 hz1 hz2 rfl (by omega) intc_len intc_one (HU1.out.1.alloc (.cells #[.int .i64 d] 3)) d W1.heap.size 1 (int_new W1 d) (by unfold maxLen; omega) (by omega) (by simp; omega)
        obtain ⟨⟨ua, un, uc⟩, e3⟩ := hown3.sl
        dsimp only at e3
        subst e3
        have hSa : (W1.alloc (.cells #[.int .i64 d] 3)).cell? ⟨bb, o + (j + 1), none⟩ = some (.int .i64 x) ∧ (W1.alloc (.cells #[.int .i64 d] 3)).cell? ⟨bb, o + j, none⟩ = some (.int .i64 y) := ⟨cell_alloc hS0.1 _, cell_alloc hS0.2 _⟩
        have hnb : ¬ (Value.slice sa sn sc).ownBlock = some bb := fun e => by have := (HU1.out.1.blk bb e).1; omega
        have hS3 : w3.cell? ⟨bb, o + (j + 1), none⟩ = some (.int .i64 x) ∧ w3.cell? ⟨bb, o + j, none⟩ = some (.int .i64 y) := ⟨hx3.keep hSa.1 hnb, hx3.keep hSa.2 hnb⟩
        have hB3 := Ext.new (HU1.out.2.alloc HU1.out.2.size (.cells #[.int .i64 d] 3)) hx3 (fun i hi _ e => by have := (HU1.out.1.blk i e).1; omega) (by simp; omega)
        rw [← HDS.out] at hown3
        have HN := Lib.hid (And.intro hown3 hB3)
        refine wpAnyS_ran (i := 14) (d := some 34) (v := .slice (some ⟨W1.heap.size, 0, none⟩) 1 1) (w' := W1.alloc (.cells #[.int .i64 d] 3)) (by kernel_rfl) rfl rfl (by rfl) (by go_simp; try rfl) (fun _ => hSa) ?_
        try simp only [Act.put, List.setIfInBounds_toArray, List.set_cons_zero, List.set_cons_succ]
        refine wpAnyS_ran (i := 15) (d := some 35) (v := .slice ua un uc) (w' := w3) (by kernel_rfl) rfl rfl (by rfl) (exec_append rfl rfl rfl hr3) (fun _ => hS3) ?_
        try simp only [Act.put, List.setIfInBounds_toArray, List.set_cons_zero, List.set_cons_succ]
        refine wpAnyS_ran (i := 16) (d := some 3) (v := .slice ua un uc) (w' := w3) (by kernel_rfl) rfl rfl (by rfl) (by go_simp; try rfl) (fun _ => hS3) ?_
        try simp only [Act.put, List.setIfInBounds_toArray, List.set_cons_zero, List.set_cons_succ]
        refine wpAnyS_done (by kernel_rfl) ?_ _
        clear hS0 hSa hS3 hr3 hx3 hown3 hB3 HU1 hsz1
        go_wp2_with fail
        go_roundg (l.length - (j + 2))
        case measure => rw [HG.out]; omega
        case rel => exact ⟨j + 2, ⟨ua, un, uc⟩, rfl, rfl, by first | rfl | (simp; omega), by omega, HN⟩
    · obtain rfl : i = l.length := by omega
      have hi1 : ¬ (l.length : Int) < (l.length : Int) := by omega
      have HO : Hid (Own intc 1 3 w.heap.size wr (.slice sa sn sc) (diffsB l) ∧ Below w.heap.size w wr) := Lib.hid ⟨by have h1 := HU.out.1; rw [List.take_length] at h1; exact h1, HU.out.2⟩
      clear hlt HU hdl
      go_wp2_with fail
      refine (rruns_any _ (diffsB l) _ (HO.out.1.slice intc_len) (by rw [diffsB_length]; exact hn) (diffsB_in HIN.out)).mono ?_
      rintro e w5 ⟨v5, rfl, hown5, b5⟩
      have HN5 := Lib.hid (And.intro (hown5.mono HO.out.2.size) (HO.out.2.trans (b5.mono HO.out.2.size)))
      clear hown5 b5
      go_wp2_with fail
      go_ret
      exact ⟨_, rfl, HN5.out.1, HN5.out.2⟩
end Go.Proofs.YtgmdimbiipemhaaGreatDoor
namespace Go.Proofs.YtgmdimbiipemhaaGreatDoor
open Go.RowKit Go.Deep
set_option linter.unusedSimpArgs false
set_option linter.unusedVariables false
theorem numC_len (l : List OpD) (c : Nat) : (numC l c).length = l.length := by simp [numC]
theorem numC_take {l : List OpD} {k : Nat} {x : OpD} (hx : l[k]? = some x) (c : Nat) : numC (l.take (k + 1)) c = numC (l.take k) c ++ [fld x c] := by
  unfold numC
  rw [List.take_add_one, hx, Option.toList_some, List.map_append]
  rfl
def catT (l : List OpD) (c : Nat) : ByteArray := ⟨(catC l c).toArray⟩
theorem catT_size (l : List OpD) (c : Nat) : (catT l c).size = (catC l c).length := by
  show (catC l c).toArray.size = _
  simp
theorem catT_take {l : List OpD} {k : Nat} {x : OpD} (hx : l[k]? = some x) (c : Nat) : catT (l.take k) c ++ txt x c = catT (l.take (k + 1)) c := by
  unfold catT
  rw [catC_take hx]
  apply ByteArray.ext
  simp
theorem op_cell {W : World} {b o n cap : Nat} {l : List OpD} (h : SliceIs OpD.cells 26 W (.slice (some ⟨b, o, none⟩) n cap) l) {k : Nat} {x : OpD} (hx : l[k]? = some x) {j : Nat} {u : Value} (hu : x.cells[j]? = some u) : W.cell? ⟨b, o + k * 26 + j, none⟩ = some u := by
  obtain ⟨_, _, e, _, _, h4⟩ := h
  cases e
  obtain ⟨b2, o2, e2, h5⟩ := h4 (by rintro rfl; simp at hx)
  cases e2
  exact h5 k x hx j u hu
set_option maxRecDepth 20000 in
set_option maxHeartbeats 8000000 in
theorem rraw_any (v : Value) (l : List OpD) (w : World) (h : SliceIs OpD.cells 26 w v l) (hwf : ∀ x ∈ l, x.wf) (hn : l.length ≤ 200) (hall : ∀ x ∈ l, x.right = true) :
    Calls Tryz.prog 110 #[v] w fun e w' => ∃ v', e = .returned v' ∧ Own u8c 1 5 w.heap.size w' v' (encB l) ∧ Below w.heap.size w w' := by
  obtain ⟨a, cap, rfl, hcap, hmax, -⟩ := id h
  unfold maxLen at hmax
  have HH := Lib.hid h
  have HWF := Lib.hid hwf
  have HALL := Lib.hid hall
  clear h hwf hall
  have hlw : IntKind.u64.wrap (l.length : Int) = (l.length : Int) := by rw [u64_wrap]; omega
  go_enter Tryz.func110, Tryz.ntmps110
  go_wp2_with fail
  refine (rput_any l.length _ (by omega)).mono ?_
  rintro e w4 ⟨v4, rfl, hown4, b4⟩
  obtain ⟨⟨pa, pn, pc⟩, e4⟩ := hown4.sl
  dsimp only at e4
  subst e4
  have HO : Hid (R4 w w4 (.slice pa pn pc) (putB l.length ++ numsB l 0)) := Lib.hid (by rw [show numsB l 0 = [] from rfl, List.append_nil]; exact ⟨hown4, b4⟩)
  clear hown4 b4 hlw
  go_wp2_with fail
  go_loopg [4, 3] 21 (fun g kv ov wx => ∃ (k : Nat) (s : Sl), g = 21 - k ∧ kv = .int .i64 k ∧ ov = .slice s.a s.n s.cap ∧ k ≤ 21 ∧ Hid (R4 w wx (.slice s.a s.n s.cap) (putB l.length ++ numsB l k)))
  case atStart => exact ⟨0, ⟨pa, pn, pc⟩, rfl, rfl, rfl, by omega, HO⟩
  case round =>
    clear HO
    obtain ⟨k, ⟨ta, tn, tc⟩, hg, rfl, rfl, hk, HR⟩ := hrel
    dsimp only at HR ⊢
    have HG := Lib.hid hg
    clear hg
    obtain ⟨w9, rfl⟩ : ∃ w9, w9 = wr := ⟨_, rfl⟩
    by_cases hlk : k < 21
    · have hk20 : (k : Int) ≤ 20 := by omega
      obtain ⟨i0, hi, hy0, hy1, hy2⟩ := info_parts info_int
      go_wp2_with fail
      go_loopg [6, 5] l.length (fun g kv nv wx => ∃ (j : Nat) (s : Sl), g = l.length - j ∧ kv = .int .i64 j ∧ nv = .slice s.a s.n s.cap ∧ j ≤ l.length ∧ Hid (Own intc 1 3 w9.heap.size wx (.slice s.a s.n s.cap) (numC (l.take j) k) ∧ Below w9.heap.size w9 wx))
      case atStart => exact ⟨0, ⟨none, 0, 0⟩, rfl, rfl, rfl, Nat.zero_le _, Lib.hid ⟨Own.nil, Below.refl _ _⟩⟩
      case round =>
        obtain ⟨j, ⟨sa, sn, sc⟩, hg, rfl, rfl, hj, HI⟩ := hrel
        dsimp only at HI ⊢
        have HG2 := Lib.hid hg
        clear hg
        by_cases hlt : j < l.length
        · have hk1 : (j : Int) < (l.length : Int) := by omega
          have hj0 : (0 : Int) ≤ (j : Int) := by omega
          obtain ⟨x, hx⟩ : ∃ x, l[j]? = some x := ⟨_, List.getElem?_eq_getElem hlt⟩
          have hsl := HH.out.below (HR.out.bel.trans (HI.out.2.mono HR.out.bel.size))
          obtain ⟨b0, o0, rfl⟩ := hsl.some8 (by rintro rfl; simp at hlt)
          have HLD := Lib.hid (sl_load hsl hx)
          have HX := Lib.hid hx
          clear hsl hx
          go_wp2_with ((with_reducible_and_instances refine wpList_ranG (o := ⟨some 32, _, _, _, _, _⟩) (v := .agg x.cells.toArray) ?_ ?_ ?_); rfl; exact exec_load rfl rfl HLD.out)
          refine (rfield_any x k hlk _).mono ?_
          rintro e w3 ⟨rfl, b3⟩
          have HI2 := Lib.hid (HI.out.1.below1 b3)
          have HB3 : Hid (Below w9.heap.size w9 w3) := Lib.hid (HI.out.2.trans (b3.mono HI.out.2.size))
          have HBD : Hid ((numC (l.take j) k).length + 1 ≤ maxLen ∧ ((numC (l.take j) k).length + 1) * 8 ≤ 140737488355328) := Lib.hid (by rw [numC_len, List.length_take]; unfold maxLen; omega)
          obtain ⟨F, hF⟩ : ∃ F, fld x k = F := ⟨_, rfl⟩
          rw [hF]
          have HF := Lib.hid hF
          clear b3 HLD HI hF
          go_wp2_with (at_builtin; refine wpList_append_struct2 rfl _ _ _ rfl i0 _ 8 Tryz.underlying100 hi hy0 hy1 hy2 rfl (by omega) intc_len intc_one rfl (HI2.out.alloc _) F w3.heap.size 1 rfl (int_new _ F) HBD.out.1 HBD.out.2 (by have := HB3.out.size; simp; omega) ?_)
          intro v' w4 hown4 hx4 hn4
          rw [← HF.out, ← numC_take HX.out] at hown4
          obtain ⟨⟨ua, un, uc⟩, e4⟩ := hown4.sl
          dsimp only at e4
          subst e4
          have HN : Hid (Own intc 1 3 w9.heap.size w4 (.slice ua un uc) (numC (l.take (j + 1)) k) ∧ Below w9.heap.size w9 w4) := Lib.hid ⟨hown4, Ext.new (HB3.out.alloc HB3.out.size _) hx4 (fun i hi _ e => by have := (HI2.out.blk i e).1; omega) (by have := HB3.out.size; simp; omega)⟩
          clear hown4 hx4 hn4 HI2 HB3
          go_wp2_with fail
          go_roundg (l.length - (j + 1))
          case measure => rw [HG2.out]; omega
          case rel => exact ⟨j + 1, ⟨ua, un, uc⟩, rfl, by simp, rfl, by omega, HN⟩
        · obtain rfl : j = l.length := by omega
          have hk1 : ¬ (l.length : Int) < (l.length : Int) := by omega
          have HBL : Hid (SliceIs intc 1 wr (.slice sa sn sc) (numC l k)) := Lib.hid (by have := HI.out.1.slice intc_len; rwa [List.take_length] at this)
          have HRR : Hid (R4 w wr (.slice ta tn tc) (putB l.length ++ numsB l k)) := Lib.hid (HR.out.below HI.out.2 (Nat.le_refl _))
          have HCL := Lib.hid (colB_len HWF.out hn hlk)
          have HLEN : Hid ((putB l.length ++ numsB l k).length + (colB l k).length ≤ 140737488355328) := Lib.hid (by have h1 := numsB_len HWF.out hn k (by omega); have h3 := putB_le10 (n := l.length) (by omega); have h4 := HCL.out.1; rw [List.length_append]; omega)
          clear HI HR hlt hj
          go_wp2_with fail
          refine (rdeltas8_any k hlk _).mono ?_
          rintro e w5 ⟨rfl, rfl⟩
          cases hd : dlt k with
          | false =>
            have HCB : Hid (colB l k = runsB (numC l k)) := Lib.hid (by unfold colB; rw [hd]; rfl)
            clear hd
            go_wp2_with fail
            refine (rruns_any _ (numC l k) _ HBL.out (by rw [numC_len]; omega) HCL.out.2).mono ?_
            rintro e w7 ⟨v7, rfl, hown7, b7⟩
            obtain ⟨⟨ua, un, uc⟩, w8, hr8, h8, -⟩ := R4.app (HRR.out.below b7 (Nat.le_refl _)) (hown7.slice u8c_len) (by have := HLEN.out; rw [HCB.out] at this; exact this)
            rw [← HCB.out, List.append_assoc, ← numsB_succ] at h8
            have HN := Lib.hid h8
            clear h8 hown7 b7 HBL HRR HLEN HCL
            go_wp2_with (at_builtin; refine Lib.wpList_append_run _ rfl _ _ _ _ rfl _ _ rfl rfl _ _ hr8 ?_)
            go_roundg (21 - (k + 1))
            case measure => rw [HG.out]; omega
            case rel => exact ⟨k + 1, ⟨ua, un, uc⟩, rfl, by simp, rfl, by omega, HN⟩
          | true =>
            have HCB : Hid (colB l k = runsB (diffsB (numC l k))) := Lib.hid (by unfold colB; rw [hd]; rfl)
            clear hd
            go_wp2_with fail
            refine (rdeltas_any _ (numC l k) _ HBL.out (by rw [numC_len]; omega) HCL.out.2).mono ?_
            rintro e w7 ⟨v7, rfl, hown7, b7⟩
            obtain ⟨⟨ua, un, uc⟩, w8, hr8, h8, -⟩ := R4.app (HRR.out.below b7 (Nat.le_refl _)) (hown7.slice u8c_len) (by have := HLEN.out; rw [HCB.out] at this; exact this)
            rw [← HCB.out, List.append_assoc, ← numsB_succ] at h8
            have HN := Lib.hid h8
            clear h8 hown7 b7 HBL HRR HLEN HCL
            go_wp2_with (at_builtin; refine Lib.wpList_append_run _ rfl _ _ _ _ rfl _ _ rfl rfl _ _ hr8 ?_)
            go_roundg (21 - (k + 1))
            case measure => rw [HG.out]; omega
            case rel => exact ⟨k + 1, ⟨ua, un, uc⟩, rfl, by simp, rfl, by omega, HN⟩
    · obtain rfl : k = 21 := by omega
      have hk20 : ¬ (21 : Int) ≤ 20 := by omega
      have HO : Hid (R4 w w9 (.slice ta tn tc) (putB l.length ++ numsB l 21)) := Lib.hid HR.out
      clear HR hlk hk HG
      obtain ⟨i0, hi, hy0, hy1, hy2⟩ := info_parts info_bt
      go_wp2_with fail
      go_loopg [9, 7, 8] l.length (fun g kv fv tv wx => ∃ (j : Nat) (s r : Sl), g = l.length - j ∧ kv = .int .i64 j ∧ fv = .slice s.a s.n s.cap ∧ tv = .slice r.a r.n r.cap ∧ j ≤ l.length ∧ Hid (Own btc 1 4 w9.heap.size wx (.slice s.a s.n s.cap) (truC (l.take j) 0) ∧ Own btc 1 4 w9.heap.size wx (.slice r.a r.n r.cap) (truC (l.take j) 1) ∧ Below w9.heap.size w9 wx ∧ ∀ b, (Value.slice s.a s.n s.cap).ownBlock = some b → (Value.slice r.a r.n r.cap).ownBlock = some b → False))
      case atStart => exact ⟨0, ⟨none, 0, 0⟩, ⟨none, 0, 0⟩, rfl, rfl, rfl, rfl, Nat.zero_le _, Lib.hid ⟨Own.nil, Own.nil, Below.refl _ _, fun b h => by cases h⟩⟩
      case round =>
        obtain ⟨j, ⟨sa, sn, sc⟩, ⟨ra, rn, rc⟩, hg, rfl, rfl, rfl, hj, HI⟩ := hrel
        dsimp only at HI ⊢
        have HG2 := Lib.hid hg
        clear hg
        by_cases hlt : j < l.length
        · have hk1 : (j : Int) < (l.length : Int) := by omega
          have hj0 : (0 : Int) ≤ (j : Int) := by omega
          obtain ⟨x, hx⟩ : ∃ x, l[j]? = some x := ⟨_, List.getElem?_eq_getElem hlt⟩
          have hsl := HH.out.below (HO.out.bel.trans (HI.out.2.2.1.mono HO.out.bel.size))
          obtain ⟨b0, o0, rfl⟩ := hsl.some8 (by rintro rfl; simp at hlt)
          have cf : wr.cell? ⟨b0, o0 + j * 26 + 22, none⟩ = some (.bool (tru x 0)) := op_cell hsl hx rfl
          have HX := Lib.hid hx
          have HBD : Hid ((truC (l.take j) 0).length + 1 ≤ maxLen ∧ ((truC (l.take j) 0).length + 1) * 1 ≤ 140737488355328) := Lib.hid (by rw [truC_len, List.length_take]; unfold maxLen; omega)
          have HBE : Hid ((truC (l.take j) 1).length + 1 ≤ maxLen ∧ ((truC (l.take j) 1).length + 1) * 1 ≤ 140737488355328) := Lib.hid (by rw [truC_len, List.length_take]; unfold maxLen; omega)
          clear hsl hx
          go_wp2_with (at_builtin; refine wpList_append_struct2 rfl _ _ _ rfl i0 _ 1 Tryz.underlying75 hi hy0 hy1 hy2 rfl (by omega) btc_len btc_one rfl (HI.out.1.alloc _) (tru x 0) wr.heap.size 1 rfl (bt_new _ (tru x 0)) HBD.out.1 HBD.out.2 (by have := HI.out.2.2.1.size; simp; omega) ?_)
          intro v' w4 hown4 hx4 hn4
          rw [← truC_take HX.out] at hown4
          obtain ⟨⟨ua, un, uc⟩, e4⟩ := hown4.sl
          dsimp only at e4
          subst e4
          have HT4 := Lib.hid ((HI.out.2.1.alloc (.cells #[.bool (tru x 0)] 4)).ext hx4 (fun b hb e => HI.out.2.2.2 b e hb))
          have HB4 : Hid (Below w9.heap.size w9 w4) := Lib.hid (Ext.new (HI.out.2.2.1.alloc HI.out.2.2.1.size _) hx4 (fun i hi _ e => by have := (HI.out.1.blk i e).1; omega) (by have := HI.out.2.2.1.size; simp; omega))
          have HO4 := Lib.hid hown4
          have HAP : Hid (∀ b, (Value.slice ua un uc).ownBlock = some b → (Value.slice ra rn rc).ownBlock = some b → False) := Lib.hid (fun b h1 h2 => by
            rcases hn4 b h1 with h3 | h3
            · exact HI.out.2.2.2 b h3 h2
            · have h4 := (HI.out.2.1.blk b h2).2
              try simp at h3
              omega)
          have hsl4 := HH.out.below (HO.out.bel.trans (HB4.out.mono HO.out.bel.size))
          have ct : w4.cell? ⟨b0, o0 + j * 26 + 25, none⟩ = some (.bool (tru x 1)) := op_cell hsl4 HX.out rfl
          clear hown4 hx4 hn4 HI cf hsl4
          go_wp2_with (at_builtin; refine wpList_append_struct2 rfl _ _ _ rfl i0 _ 1 Tryz.underlying75 hi hy0 hy1 hy2 rfl (by omega) btc_len btc_one rfl (HT4.out.alloc _) (tru x 1) w4.heap.size 1 rfl (bt_new _ (tru x 1)) HBE.out.1 HBE.out.2 (by have := HB4.out.size; simp; omega) ?_)
          intro v' w5 hown5 hx5 hn5
          rw [← truC_take HX.out] at hown5
          obtain ⟨⟨qa, qn, qc⟩, e5⟩ := hown5.sl
          dsimp only at e5
          subst e5
          have HN : Hid (Own btc 1 4 w9.heap.size w5 (.slice ua un uc) (truC (l.take (j + 1)) 0) ∧ Own btc 1 4 w9.heap.size w5 (.slice qa qn qc) (truC (l.take (j + 1)) 1) ∧ Below w9.heap.size w9 w5 ∧ ∀ b, (Value.slice ua un uc).ownBlock = some b → (Value.slice qa qn qc).ownBlock = some b → False) := Lib.hid ⟨(HO4.out.alloc _).ext hx5 (fun b hb e => HAP.out b hb e), hown5, Ext.new (HB4.out.alloc HB4.out.size _) hx5 (fun i hi _ e => by have := (HT4.out.blk i e).1; omega) (by have := HB4.out.size; simp; omega), fun b h1 h2 => by
            rcases hn5 b h2 with h3 | h3
            · exact HAP.out b h1 h3
            · have h4 := (HO4.out.blk b h1).2
              try simp at h3
              omega⟩
          clear hown5 hx5 hn5 HT4 HB4 HO4 HAP ct
          go_wp2_with fail
          go_roundg (l.length - (j + 1))
          case measure => rw [HG2.out]; omega
          case rel => exact ⟨j + 1, ⟨ua, un, uc⟩, ⟨qa, qn, qc⟩, rfl, by simp, rfl, rfl, by omega, HN⟩
        · obtain rfl : j = l.length := by omega
          have hk1 : ¬ (l.length : Int) < (l.length : Int) := by omega
          have HF : Hid (SliceIs btc 1 wr (.slice sa sn sc) (truC l 0) ∧ SliceIs btc 1 wr (.slice ra rn rc) (truC l 1) ∧ Own btc 1 4 w9.heap.size wr (.slice ra rn rc) (truC l 1)) := Lib.hid (by have h1 := HI.out.1.slice btc_len; have h2 := HI.out.2.1.slice btc_len; have h3 := HI.out.2.1; rw [List.take_length] at h1 h2 h3; exact ⟨h1, h2, h3⟩)
          have HRR : Hid (R4 w wr (.slice ta tn tc) (putB l.length ++ numsB l 21)) := Lib.hid (HO.out.below HI.out.2.2.1 (Nat.le_refl _))
          have HLEN : Hid ((putB l.length ++ numsB l 21).length + (boolsB (truC l 0)).length + (boolsB (truC l 1)).length ≤ 140737488355328) := Lib.hid (by have h1 := numsB_len HWF.out hn 21 (by omega); have h2 := boolsB_len (l := truC l 0) (by rw [truC_len]; omega); rw [truC_len] at h2; have h4 := boolsB_len (l := truC l 1) (by rw [truC_len]; omega); rw [truC_len] at h4; have h3 := putB_le10 (n := l.length) (by omega); rw [List.length_append]; omega)
          have HAP : Hid (∀ b, (Value.slice ra rn rc).ownBlock = some b → (Value.slice ta tn tc).ownBlock = some b → False) := Lib.hid (fun b h1 h2 => by have h3 := (HF.out.2.2.blk b h1).1; have h4 := (HO.out.own.blk b h2).2; omega)
          clear HI HO hlt hj
          go_wp2_with fail
          refine (rbools_any _ (truC l 0) _ HF.out.1 (by rw [truC_len]; omega)).mono ?_
          rintro e w7 ⟨v7, rfl, hown7, b7⟩
          obtain ⟨⟨ua, un, uc⟩, w8, hr8, h8, hx8⟩ := R4.app (HRR.out.below b7 (Nat.le_refl _)) (hown7.slice u8c_len) (by have := HLEN.out; omega)
          have H8 := Lib.hid h8
          have HT8 := Lib.hid (((HF.out.2.2.below1 b7).ext hx8 (fun b hb e => HAP.out b hb e)).slice btc_len)
          clear h8 hx8 hown7 b7 HF HRR HAP
          go_wp2_with (at_builtin; refine Lib.wpList_append_run _ rfl _ _ _ _ rfl _ _ rfl rfl _ _ hr8 ?_)
          clear hr8
          refine (rbools_any _ (truC l 1) _ HT8.out (by rw [truC_len]; omega)).mono ?_
          rintro e w10 ⟨v10, rfl, hown10, b10⟩
          obtain ⟨⟨za, zn, zc⟩, w11, hr11, h11, -⟩ := R4.app (H8.out.below b10 (Nat.le_refl _)) (hown10.slice u8c_len) (by have := HLEN.out; rw [List.length_append]; omega)
          have HT0 : Hid (R4 w w11 (.slice za zn zc) (putB l.length ++ numsB l 21 ++ trusB l 2 ++ txtsB l 0)) := Lib.hid (by
            have e : trusB l 2 = boolsB (truC l 0) ++ boolsB (truC l 1) := by rw [trusB_succ, trusB_succ]; rfl
            rw [e, show txtsB l 0 = [] from rfl, List.append_nil, ← List.append_assoc]
            exact h11)
          clear h11 hown10 b10 H8 HT8 HLEN hi hy0 hy1 hy2
          go_wp2_with (at_builtin; refine Lib.wpList_append_run _ rfl _ _ _ _ rfl _ _ rfl rfl _ _ hr11 ?_)
          clear hr11
          go_loopg [10, 3] 3 (fun g kv ov wx => ∃ (k : Nat) (s : Sl), g = 3 - k ∧ kv = .int .i64 k ∧ ov = .slice s.a s.n s.cap ∧ k ≤ 3 ∧ Hid (R4 w wx (.slice s.a s.n s.cap) (putB l.length ++ numsB l 21 ++ trusB l 2 ++ txtsB l k)))
          case atStart => exact ⟨0, ⟨za, zn, zc⟩, rfl, rfl, rfl, by omega, HT0⟩
          case round =>
            clear HT0 HG2
            obtain ⟨k, ⟨ta, tn, tc⟩, hg, rfl, rfl, hk, HR⟩ := hrel
            dsimp only at HR ⊢
            have HG := Lib.hid hg
            clear hg
            obtain ⟨w9, rfl⟩ : ∃ w9, w9 = wr := ⟨_, rfl⟩
            by_cases hlk : k < 3
            · have hk3 : (k : Int) < 3 := by omega
              obtain ⟨i0, hi, hy0, hy1, hy2⟩ := info_parts info_int
              go_wp2_with fail
              go_loopg [13, 11, 12] l.length (fun g kv nv sv wx => ∃ (j : Nat) (s : Sl), g = l.length - j ∧ kv = .int .i64 j ∧ nv = .slice s.a s.n s.cap ∧ sv = .string (catT (l.take j) k) ∧ j ≤ l.length ∧ Hid (Own intc 1 3 w9.heap.size wx (.slice s.a s.n s.cap) (lenC (l.take j) k) ∧ Below w9.heap.size w9 wx))
              case atStart => exact ⟨0, ⟨none, 0, 0⟩, rfl, rfl, rfl, rfl, Nat.zero_le _, Lib.hid ⟨Own.nil, Below.refl _ _⟩⟩
              case round =>
                obtain ⟨j, ⟨sa, sn, sc⟩, hg, rfl, rfl, rfl, hj, HI⟩ := hrel
                dsimp only at HI ⊢
                have HG2 := Lib.hid hg
                clear hg
                by_cases hlt : j < l.length
                · have hk1 : (j : Int) < (l.length : Int) := by omega
                  have hj0 : (0 : Int) ≤ (j : Int) := by omega
                  obtain ⟨x, hx⟩ : ∃ x, l[j]? = some x := ⟨_, List.getElem?_eq_getElem hlt⟩
                  have hsl := HH.out.below (HR.out.bel.trans (HI.out.2.mono HR.out.bel.size))
                  obtain ⟨b0, o0, rfl⟩ := hsl.some8 (by rintro rfl; simp at hlt)
                  have HLD := Lib.hid (sl_load hsl hx)
                  have HX := Lib.hid hx
                  have HTX := Lib.hid (OpD.right_txt (HALL.out x (List.mem_of_getElem? hx)) k)
                  have HCT : Hid ((catT (l.take j) k).size ≤ 12800) := Lib.hid (by rw [catT_size]; have := catC_len (l := l.take j) (fun y hy => HALL.out y (List.mem_of_mem_take hy)) k; rw [List.length_take] at this; omega)
                  have HBD : Hid ((lenC (l.take j) k).length + 1 ≤ maxLen ∧ ((lenC (l.take j) k).length + 1) * 8 ≤ 140737488355328) := Lib.hid (by rw [lenC_len, List.length_take]; unfold maxLen; omega)
                  obtain ⟨T, hT⟩ : ∃ T, txt x k = T := ⟨_, rfl⟩
                  obtain ⟨C, hC⟩ : ∃ C, catT (l.take j) k = C := ⟨_, rfl⟩
                  have HT := Lib.hid hT
                  have HC := Lib.hid hC
                  have hsum : ∀ W, (Op.stringOp .add C T).run Tryz.prog W = .ok (.string (C ++ T)) W := fun W => run_string_add_sum W _ _ (by rw [← hC, ← hT]; have := HTX.out; have := HCT.out; omega)
                  rw [hC]
                  clear hsl hx hC
                  go_wp2_with ((with_reducible_and_instances refine wpList_ranG (o := ⟨some 93, _, _, _, _, _⟩) (v := .agg x.cells.toArray) ?_ ?_ ?_); rfl; exact exec_load rfl rfl HLD.out)
                  refine (rtext_any x k hlk _).mono ?_
                  rintro e w3 ⟨rfl, b3⟩
                  rw [hT]
                  have htl : T.size ≤ 64 := by rw [← hT]; exact HTX.out
                  clear hT
                  have HI2 := Lib.hid (HI.out.1.below1 b3)
                  have HB3 : Hid (Below w9.heap.size w9 w3) := Lib.hid (HI.out.2.trans (b3.mono HI.out.2.size))
                  clear b3 HLD HI
                  go_wp2_with (at_builtin; refine wpList_append_struct2 rfl _ _ _ rfl i0 _ 8 Tryz.underlying100 hi hy0 hy1 hy2 rfl (by omega) intc_len intc_one rfl (HI2.out.alloc _) (T.size : Int) w3.heap.size 1 rfl (int_new _ (T.size : Int)) HBD.out.1 HBD.out.2 (by have := HB3.out.size; simp; omega) ?_)
                  intro v' w4 hown4 hx4 hn4
                  rw [← HT.out, ← lenC_take HX.out] at hown4
                  obtain ⟨⟨ua, un, uc⟩, e4⟩ := hown4.sl
                  dsimp only at e4
                  subst e4
                  have HN4 : Hid (Own intc 1 3 w9.heap.size w4 (.slice ua un uc) (lenC (l.take (j + 1)) k) ∧ Below w9.heap.size w9 w4) := Lib.hid ⟨hown4, Ext.new (HB3.out.alloc HB3.out.size _) hx4 (fun i hi _ e => by have := (HI2.out.blk i e).1; omega) (by have := HB3.out.size; simp; omega)⟩
                  have hsl4 := HH.out.below (HR.out.bel.trans (HN4.out.2.mono HR.out.bel.size))
                  have HLD4 := Lib.hid (sl_load hsl4 HX.out)
                  clear hown4 hx4 hn4 HI2 HB3 hsl4
                  go_wp2_with ((with_reducible_and_instances refine wpList_ranG (o := ⟨some 103, _, _, _, _, _⟩) (v := .agg x.cells.toArray) ?_ ?_ ?_); rfl; exact exec_load rfl rfl HLD4.out)
                  refine (rtext_any x k hlk _).mono ?_
                  rintro e w5 ⟨rfl, b5⟩
                  rw [HT.out]
                  have HN : Hid (Own intc 1 3 w9.heap.size w5 (.slice ua un uc) (lenC (l.take (j + 1)) k) ∧ Below w9.heap.size w9 w5) := Lib.hid ⟨HN4.out.1.below1 b5, HN4.out.2.trans (b5.mono HN4.out.2.size)⟩
                  have HCC : Hid (C ++ T = catT (l.take (j + 1)) k) := Lib.hid (by rw [← HC.out, ← HT.out]; exact catT_take HX.out k)
                  clear b5 HN4 HLD4
                  go_wp2_with fail
                  go_roundg (l.length - (j + 1))
                  case measure => rw [HG2.out]; omega
                  case rel => exact ⟨j + 1, ⟨ua, un, uc⟩, rfl, by simp, rfl, by rw [HCC.out], by omega, HN⟩
                · obtain rfl : j = l.length := by omega
                  have hk1 : ¬ (l.length : Int) < (l.length : Int) := by omega
                  have HBL : Hid (SliceIs intc 1 wr (.slice sa sn sc) (lenC l k)) := Lib.hid (by have h1 := HI.out.1.slice intc_len; rw [List.take_length] at h1; exact h1)
                  have HRR : Hid (R4 w wr (.slice ta tn tc) (putB l.length ++ numsB l 21 ++ trusB l 2 ++ txtsB l k)) := Lib.hid (HR.out.below HI.out.2 (Nat.le_refl _))
                  have HLEN : Hid ((putB l.length ++ numsB l 21 ++ trusB l 2 ++ txtsB l k).length + (runsB (lenC l k)).length + (catC l k).length ≤ 140737488355328) := Lib.hid (by have h1 := numsB_len HWF.out hn 21 (by omega); have h2 := trusB_len (l := l) hn 2; have h3 := putB_le10 (n := l.length) (by omega); have h4 := txtsB_len HALL.out hn k; have h5 := lenB_len HALL.out hn k; have h6 := catC_len HALL.out k; rw [List.length_append, List.length_append, List.length_append]; omega)
                  obtain ⟨C, hC⟩ : ∃ C, catT l k = C := ⟨_, rfl⟩
                  have HC := Lib.hid hC
                  rw [List.take_length, hC]
                  clear HI HR hlt hj hC
                  go_wp2_with fail
                  refine (rruns_any _ (lenC l k) _ HBL.out (by rw [lenC_len]; omega) (lenC_in HALL.out k)).mono ?_
                  rintro e w7 ⟨v7, rfl, hown7, b7⟩
                  obtain ⟨⟨ua, un, uc⟩, w8, hr8, h8, -⟩ := R4.app (HRR.out.below b7 (Nat.le_refl _)) (hown7.slice u8c_len) (by have := HLEN.out; omega)
                  have hCs : C.size = (catC l k).length := by rw [← HC.out, catT_size]
                  obtain ⟨⟨xa, xn, xc⟩, w10, hr10, h10, hx10⟩ := app_string h8.own C h8.bel.size (by have := HLEN.out; rw [List.length_append, hCs]; omega)
                  have hCd : C.data.toList = catC l k := by rw [← HC.out]; rfl
                  rw [hCd, List.append_assoc, List.append_assoc, ← txtsB_succ] at h10
                  have HN : Hid (R4 w w10 (.slice xa xn xc) (putB l.length ++ numsB l 21 ++ trusB l 2 ++ txtsB l (k + 1))) := Lib.hid ⟨h10, Ext.new h8.bel hx10 (fun i hi _ e => by have := (h8.own.blk i e).1; omega) h8.bel.size⟩
                  clear h8 h10 hx10 hown7 b7 HBL HRR HLEN hCs hCd
                  go_wp2_with (at_builtin; first | (refine Lib.wpList_append_run _ rfl _ _ _ _ rfl _ _ rfl rfl _ _ hr8 ?_) | (refine Lib.wpList_append_run _ rfl _ _ _ _ rfl _ _ rfl rfl _ _ hr10 ?_))
                  go_roundg (3 - (k + 1))
                  case measure => rw [HG.out]; omega
                  case rel => exact ⟨k + 1, ⟨xa, xn, xc⟩, rfl, by simp, rfl, by omega, HN⟩
            · obtain rfl : k = 3 := by omega
              have hk3 : ¬ (3 : Int) < 3 := by omega
              go_wp2_with fail
              go_ret
              exact ⟨_, rfl, HR.out.own, HR.out.bel⟩
end Go.Proofs.YtgmdimbiipemhaaGreatDoor
namespace Go.Proofs.YtgmdimbiipemhaaGreatDoor
open Go.RowKit Go.Deep
set_option linter.unusedSimpArgs false
set_option linter.unusedVariables false
set_option maxRecDepth 20000 in
set_option maxHeartbeats 2000000 in
theorem rencode8_any (v : Value) (l : List OpD) (w : World) (h : SliceIs OpD.cells 26 w v l) (hwf : ∀ x ∈ l, x.wf) (hn : l.length ≤ 1000000) : Calls Tryz.prog 61 #[v] w fun e w' => EncPost w l e w' := by
  obtain ⟨a, cap, rfl, hcap, hmax, -⟩ := id h
  unfold maxLen at hmax
  have HH := Lib.hid h
  have HWF := Lib.hid hwf
  clear h hwf
  by_cases hbig : 200 < l.length
  · have hb1 : (200 : Int) < (l.length : Int) := by omega
    go_enter Tryz.func61, Tryz.ntmps61
    go_wp2_with fail
    go_ret2
    exact .inr (.inl ⟨hbig, rfl, Below.refl _ _⟩)
  have hb1 : ¬ (200 : Int) < (l.length : Int) := by omega
  go_enter Tryz.func61, Tryz.ntmps61
  go_wp2_with fail
  go_loopg [4] l.length (fun g kv wx => ∃ k : Nat, g = l.length - k ∧ kv = .int .i64 k ∧ k ≤ l.length ∧ Hid ((∀ x ∈ l.take k, x.right = true) ∧ Below w.heap.size w wx))
  case atStart => exact ⟨0, rfl, rfl, Nat.zero_le _, Lib.hid ⟨fun x hx => by simp at hx, Below.refl _ _⟩⟩
  case round =>
    obtain ⟨k, hg, rfl, hk, HR⟩ := hrel
    have HG := Lib.hid hg
    clear hg
    by_cases hlt : k < l.length
    · have hk1 : (k : Int) < (l.length : Int) := by omega
      have hk0 : (0 : Int) ≤ (k : Int) := by omega
      obtain ⟨x, hx⟩ : ∃ x, l[k]? = some x := ⟨_, List.getElem?_eq_getElem hlt⟩
      have hsl := HH.out.below HR.out.2
      obtain ⟨b0, o0, rfl⟩ := hsl.some8 (by rintro rfl; simp at hlt)
      have HLD := Lib.hid (sl_load hsl hx)
      have HX := Lib.hid hx
      have HFT : Hid x.fits := Lib.hid (HWF.out x (List.mem_of_getElem? hx)).1
      clear hsl hx
      go_wp2_with ((with_reducible_and_instances refine wpList_ranG (o := ⟨some 18, _, _, _, _, _⟩) (v := .agg x.cells.toArray) ?_ ?_ ?_); rfl; exact exec_load rfl rfl HLD.out)
      refine (rright7_any x _ HFT.out).mono ?_
      rintro e w3 ⟨rfl, b3⟩
      have HB3 : Hid (Below w.heap.size w w3) := Lib.hid (HR.out.2.trans (b3.mono HR.out.2.size))
      clear b3 HLD
      cases hr : x.right with
      | false =>
        have HBAD : Hid (∃ x ∈ l, x.right = false) := Lib.hid ⟨x, List.mem_of_getElem? HX.out, hr⟩
        clear hr
        go_wp2_with fail
        go_ret2
        exact .inr (.inr ⟨by omega, HBAD.out, rfl, HB3.out⟩)
      | true =>
        have HN : Hid ((∀ y ∈ l.take (k + 1), y.right = true) ∧ Below w.heap.size w w3) := Lib.hid ⟨fun y hy => by
          rw [List.take_add_one, HX.out, Option.toList_some] at hy
          rcases List.mem_append.1 hy with hy | hy
          · exact HR.out.1 y hy
          · rw [List.mem_singleton.1 hy]; exact hr, HB3.out⟩
        clear hr HR HB3
        go_wp2_with fail
        go_roundg (l.length - (k + 1))
        case measure => rw [HG.out]; omega
        case rel => exact ⟨k + 1, rfl, by simp, by omega, HN⟩
    · obtain rfl : k = l.length := by omega
      have hk1 : ¬ (l.length : Int) < (l.length : Int) := by omega
      have HALL : Hid (∀ x ∈ l, x.right = true) := Lib.hid (by have := HR.out.1; rwa [List.take_length] at this)
      have HB : Hid (Below w.heap.size w wr) := Lib.hid HR.out.2
      clear hlt HR hk
      go_wp2_with fail
      refine (rraw_any _ l _ (HH.out.below HB.out) HWF.out (by omega) HALL.out).mono ?_
      rintro e w5 ⟨v5, rfl, ho5, hb5⟩
      have HZ : Hid (Own u8c 1 5 w.heap.size w5 v5 (encB l) ∧ Below w.heap.size w w5) := Lib.hid ⟨ho5.mono HB.out.size, HB.out.trans (hb5.mono HB.out.size)⟩
      clear ho5 hb5
      obtain ⟨⟨qa, qn, qc⟩, eq⟩ := HZ.out.1.sl
      dsimp only at eq
      subst eq
      go_wp2_with fail
      go_ret2
      exact .inl ⟨by omega, HALL.out, _, rfl, HZ.out.1, HZ.out.2⟩
end Go.Proofs.YtgmdimbiipemhaaGreatDoor
namespace Go.Proofs.YtgmdimbiipemhaaGreatDoor
open Go.RowKit Go.Deep
set_option linter.unusedSimpArgs false
set_option linter.unusedVariables false
theorem withF_congr (o : OpD) {f g : Nat → Int} (h : ∀ c, c < 21 → f c = g c) : o.withF f = o.withF g := by
  unfold OpD.withF
  rw [h 0 (by omega), h 1 (by omega), h 2 (by omega), h 3 (by omega), h 4 (by omega), h 5 (by omega), h 6 (by omega), h 7 (by omega), h 8 (by omega), h 9 (by omega), h 10 (by omega), h 11 (by omega), h 12 (by omega), h 13 (by omega), h 14 (by omega), h 15 (by omega), h 16 (by omega), h 17 (by omega), h 18 (by omega), h 19 (by omega), h 20 (by omega)]
def opsL (n : Nat) (L : List (List Int)) : List OpD := mixN L n (List.replicate n zOp)
theorem opsL_len (n : Nat) (L : List (List Int)) : (opsL n L).length = n := by unfold opsL; rw [mixN_len, List.length_replicate]
theorem opsL_get {n i : Nat} (L : List (List Int)) (hi : i < n) : (opsL n L)[i]? = some (zOp.withF (colF L i)) := by
  unfold opsL
  rw [mixN_G, mixG_get _ hi, List.getElem?_replicate_of_lt hi]
  rfl
theorem opsL_nil (n : Nat) : opsL n [] = List.replicate n zOp := by
  apply List.ext_getElem?
  intro i
  by_cases hi : i < n
  · rw [opsL_get _ hi, List.getElem?_replicate_of_lt hi]
    rfl
  · rw [List.getElem?_eq_none (by rw [opsL_len]; omega), List.getElem?_eq_none (by rw [List.length_replicate]; omega)]
theorem opsL_put {n i : Nat} {L : List (List Int)} {V : List Int} {y : Int} (hi : i < n) (hy : V[i]? = some y) (hL : L.length < 21) : (opsL n (L ++ [V]))[i]? = some ((zOp.withF (colF L i)).putF L.length y) := by
  rw [opsL_get _ hi]
  congr 1
  unfold OpD.putF
  rw [show ∀ f g, (zOp.withF f).withF g = zOp.withF g from fun _ _ => rfl]
  refine withF_congr zOp fun c hc => ?_
  unfold colF
  by_cases e : c = L.length
  · subst e
    rw [if_pos rfl, getD_last, List.getD_eq_getElem?_getD, hy]
    rfl
  · rw [if_neg e]
    rw [fld_withF _ _ hc]
    by_cases h : c < L.length
    · rw [getD_snoc _ _ _ h]
    · have e1 : (L ++ [V]).getD c [] = [] := by rw [List.getD_eq_getElem?_getD, List.getElem?_eq_none (by simp; omega)]; rfl
      have e2 : L.getD c [] = [] := by rw [List.getD_eq_getElem?_getD, List.getElem?_eq_none (by omega)]; rfl
      rw [e1, e2]
def mixA {α : Type} (a b : List α) (i : Nat) : List α := a.take i ++ b.drop i
theorem mixA_zero {α : Type} (a b : List α) : mixA a b 0 = b := by simp [mixA]
theorem mixA_len {α : Type} {a b : List α} (h : a.length = b.length) {i : Nat} (hi : i ≤ b.length) : (mixA a b i).length = b.length := by simp [mixA]; omega
theorem mixA_all {α : Type} {a b : List α} (h : a.length = b.length) : mixA a b b.length = a := by simp [mixA, ← h]
theorem mixA_at {α : Type} {a b : List α} (h : a.length = b.length) {i : Nat} {x : α} (hx : b[i]? = some x) : (mixA a b i)[i]? = some x := by
  have hi := (List.getElem?_eq_some_iff.1 hx).1
  unfold mixA
  rw [List.getElem?_append_right (by simp; omega), List.length_take, Nat.min_eq_left (by omega), Nat.sub_self, List.getElem?_drop]
  exact hx
theorem mixA_step {α : Type} {a b : List α} (h : a.length = b.length) {i : Nat} {x : α} (hx : a[i]? = some x) : (mixA a b i).set i x = mixA a b (i + 1) := by
  have hi := (List.getElem?_eq_some_iff.1 hx).1
  unfold mixA
  rw [List.set_append_right _ _ (by simp; omega), List.length_take, Nat.min_eq_left (by omega), Nat.sub_self, List.take_add_one, hx, Option.toList_some, List.append_assoc]
  congr 1
  have : b.drop i = b[i] :: b.drop (i + 1) := List.drop_eq_getElem_cons (by omega)
  rw [this]
  rfl
theorem own_store {base g cap n : Nat} {W : World} {l : List OpD} (h : Own OpD.cells 26 68 base W (.slice (some ⟨g, 0, none⟩) n cap) l) (hn : l.length = n) {i : Nat} (hi : i < n) (x : OpD) :
    ∃ W', (Instr.storeAt 68 (.pointer (some ⟨g, i * 26, none⟩)) (.agg x.cells.toArray)).run Tryz.prog W = .ok () W' ∧ Own OpD.cells 26 68 base W' (.slice (some ⟨g, 0, none⟩) n cap) (l.set i x) ∧ Ext (· = g) W W' := by
  subst hn
  haveI : Inhabited OpD := ⟨zOp⟩
  obtain ⟨hs, hb, hc, hm⟩ := h.slab OpD.len
  obtain ⟨W', h1, h2, h3⟩ := hs.store OpD.len OpD.one op_ty hi x
  refine ⟨W', h1, ?_, h3⟩
  have h4 := h2.own OpD.len (by omega) hb hc hm
  have e : (List.range l.length).map (upd (fun i => l[i]!) i x) = l.set i x := by
    apply List.ext_getElem?
    intro j
    by_cases hj : j < l.length
    · rw [List.getElem?_map, List.getElem?_range hj, Option.map_some, List.getElem?_set]
      by_cases e : i = j
      · subst e
        rw [if_pos rfl, if_pos hj, upd_same]
      · rw [if_neg e, upd_other _ _ (Ne.symm e), List.getElem?_eq_getElem hj, getElem!_pos l j hj]
    · rw [List.getElem?_eq_none (by simp; omega), List.getElem?_eq_none (by simp; omega)]
  rw [e] at h4
  exact h4
theorem notg_ext {α β : Type} {ea : α → List Value} {q : Nat} {t : TypeId} {base base2 g : Nat} {W W' : World} {v v2 : Value} {m : List α} {eb : β → List Value} {q2 : Nat} {t2 : TypeId} {l : List β} (h : Own ea q t base W v m) (h2 : Own eb q2 t2 base2 W v2 l) (ht : t ≠ t2) (hg : v2.ownBlock = some g) (hx : Ext (· = g) W W') : Own ea q t base W' v m :=
  h.ext hx (fun b hb e => by
    obtain ⟨c1, g1⟩ := h.tag hb
    obtain ⟨c2, g2⟩ := h2.tag hg
    rw [e, g2] at g1
    cases g1
    exact ht rfl)
set_option maxRecDepth 100000 in
set_option maxHeartbeats 8000000 in
theorem rdecode8_any (v : Value) (b : List UInt8) (w : World) (h : SliceIs u8c 1 w v b) : Calls Tryz.prog 15 #[v] w fun e w' => DecPost w b e w' := by
  obtain ⟨a, cap, rfl, hcap, hmax, -⟩ := id h
  unfold maxLen at hmax
  have HH := Lib.hid h
  clear h
  cases hv : takeV b with
  | none =>
    have hR := takeR_none (takeV_none.1 hv)
    have HBAD := Lib.hid (decB_none1 hv)
    clear hv
    go_enter Tryz.func15, Tryz.ntmps15
    go_wp2_with fail
    refine (rtake_any _ b _ HH.out).mono ?_
    rintro e w5 ⟨rfl, b5⟩
    have HB5 := Lib.hid b5
    rw [hR]
    clear hR b5
    go_wp2_with fail
    go_ret2
    exact .inr ⟨HBAD.out, rfl, HB5.out⟩
  | some n =>
    have hR := takeR_some (takeV_some.1 hv)
    have HV := Lib.hid hv
    have hpb : (putB n).length ≤ b.length := (takeV_some.1 hv).2.length_le
    clear hv
    by_cases hbig : 200 < n
    · have hb1 : (200 : Int) < (n : Int) := by omega
      have HBAD := Lib.hid (decB_none2 HV.out hbig)
      go_enter Tryz.func15, Tryz.ntmps15
      go_wp2_with fail
      refine (rtake_any _ b _ HH.out).mono ?_
      rintro e w5 ⟨rfl, b5⟩
      have HB5 := Lib.hid b5
      rw [hR]
      clear hR b5
      go_wp2_with fail
      go_ret2
      exact .inr ⟨HBAD.out, rfl, HB5.out⟩
    · have hb1 : ¬ (200 : Int) < (n : Int) := by omega
      obtain ⟨i0, hi, hy0, hy1, hy2⟩ := info_parts info_op
      have hmk : ∀ W : World, (Instr.makeSlice 24 (.int .u64 (n : Int)) (.int .u64 (n : Int))).run Tryz.prog W = .ok (.slice (some ⟨W.heap.size, 0, none⟩) n n) (W.alloc (.cells (madeCells zOp.cells.toArray (n * 26)) 68)) := fun W => by
        have h := run_make (P := Tryz.prog) W 24 68 i0 _ Tryz.underlying24 hi hy0 .u64 .u64 (n : Int) (n : Int) (by omega) (by omega) (by rw [hy2]; omega) (by omega)
        rw [hy1, Int.toNat_natCast] at h
        exact h
      clear hi hy0 hy1 hy2
      obtain ⟨q0, hq0⟩ : ∃ q0, (putB n).length = q0 := ⟨_, rfl⟩
      rw [hq0] at hR hpb
      go_enter Tryz.func15, Tryz.ntmps15
      go_wp2_with fail
      refine (rtake_any _ b _ HH.out).mono ?_
      rintro e w5 ⟨rfl, b5⟩
      rw [hR]
      clear hR
      go_upto_region 5 with fail
      have ho5 := Own.made (W := w5) (base := w.heap.size) (n := n) b5.size (by omega)
      have hb5 := b5.alloc b5.size (.cells (madeCells zOp.cells.toArray (n * 26)) 68)
      generalize w5.alloc (.cells (madeCells zOp.cells.toArray (n * 26)) 68) = W5 at ho5 hb5 ⊢
      generalize w5.heap.size = g at ho5 ⊢
      have HN := Lib.hid (And.intro ho5 hb5)
      clear ho5 hb5 b5 hmk w5
      go_wp2_with fail
      have hn6 : n ≤ 65536 := by omega
      go_loopg [5, 8] 21 (fun z pv cv wr => ∃ (c p : Nat) (L : List (List Int)), z = 21 - c ∧ pv = .int .i64 p ∧ cv = .int .i64 c ∧ c ≤ 21 ∧ p ≤ b.length ∧ L.length = c ∧ Hid (decCols n c (b.drop q0) = some (L, b.drop p) ∧ Own OpD.cells 26 68 w.heap.size wr (.slice (some ⟨g, 0, none⟩) n n) (opsL n L) ∧ Below w.heap.size w wr))
      case atStart => exact ⟨0, q0, [], rfl, rfl, rfl, by omega, hpb, rfl, Lib.hid ⟨rfl, by rw [opsL_nil]; exact HN.out.1, HN.out.2⟩⟩
      case round =>
        clear HN hpb
        obtain ⟨c, p, L, hg, rfl, rfl, hc, hpr, hL, HI⟩ := hrel
        have HG := Lib.hid hg
        clear hg
        by_cases hlt : c < 21
        · have hc1 : (c : Int) ≤ 20 := by omega
          have hc2 : ¬ (20 : Int) < (c : Int) := by omega
          have hLL := Lib.hid hL
          clear hL
          obtain ⟨a1, c1, hsl, hS1, -⟩ := slice_from (P := Tryz.prog) (ea := u8c) Tryz.underlying22 size_u8 a b.length cap p hcap hpr
          have HS := Lib.hid (fun W (hW : Below w.heap.size w W) => hS1 W b rfl (HH.out.below hW))
          clear hS1
          go_wp2_with fail
          refine (rtakeruns_any _ (b.drop p) n wr (HS.out _ HI.out.2.2) hn6).mono ?_
          rintro e w6 (⟨V, u, v6, hd, rfl, hown, hb6⟩ | ⟨hd, rfl, hb6⟩)
          · have HI6 : Hid (Own OpD.cells 26 68 w.heap.size w6 (.slice (some ⟨g, 0, none⟩) n n) (opsL n L) ∧ Below w.heap.size w w6) := Lib.hid ⟨HI.out.2.1.below1 hb6, HI.out.2.2.trans (hb6.mono HI.out.2.2.size)⟩
            go_wp2_with fail
            refine (rdeltas8_any c hlt w6).mono ?_
            rintro e w7 ⟨rfl, rfl⟩
            cases hdl : dlt c with
            | false =>
              have HC : Hid (colD n (dlt c) (b.drop p) = some (V, u)) := Lib.hid (by rw [hdl]; exact hd)
              have HVO := Lib.hid (hown.mono HI.out.2.2.size)
              clear hd hown hdl hb6
              have hcf := colD_facts hn6 HC.out
              have hul := hcf.2
              rw [List.length_drop] at hul
              obtain ⟨⟨pa, pn, pc⟩, ep⟩ := HVO.out.sl
              dsimp only at ep
              subst ep
              obtain rfl : pn = n := by have h := (HVO.out.nlen intc_len).1; rw [hcf.1] at h; exact h
              have HVL : Hid (V.length = pn) := Lib.hid hcf.1
              have HST := Lib.hid (decCols_step HI.out.1 HC.out)
              clear hcf HI hsl HS HC
              go_wp2_with fail
              go_loopg [12] pn (fun z iv wx => ∃ i : Nat, z = pn - i ∧ iv = .int .i64 i ∧ i ≤ pn ∧ Hid (Own OpD.cells 26 68 w.heap.size wx (.slice (some ⟨g, 0, none⟩) pn pn) (mixA (opsL pn (L ++ [V])) (opsL pn L) i) ∧ Own intc 1 3 w.heap.size wx (.slice pa pn pc) V ∧ Below w.heap.size w wx))
              case atStart => exact ⟨0, rfl, rfl, Nat.zero_le _, Lib.hid ⟨by rw [mixA_zero]; exact HI6.out.1, HVO.out, HI6.out.2⟩⟩
              case round =>
                clear HI6 HVO
                obtain ⟨i, hg, rfl, hi, HI⟩ := hrel
                have HG2 := Lib.hid hg
                clear hg
                by_cases hli : i < pn
                · have hi1 : (i : Int) < (pn : Int) := by omega
                  have hi0 : (0 : Int) ≤ (i : Int) := by omega
                  obtain ⟨y, hy⟩ : ∃ y, V[i]? = some y := ⟨_, List.getElem?_eq_getElem (by rw [HVL.out]; exact hli)⟩
                  obtain ⟨x, hxd⟩ : ∃ x, zOp.withF (colF L i) = x := ⟨_, rfl⟩
                  have hln : (opsL pn (L ++ [V])).length = (opsL pn L).length := by rw [opsL_len, opsL_len]
                  have hln2 : (mixA (opsL pn (L ++ [V])) (opsL pn L) i).length = pn := by rw [mixA_len hln (by rw [opsL_len]; exact hi), opsL_len]
                  have hx : (mixA (opsL pn (L ++ [V])) (opsL pn L) i)[i]? = some x := mixA_at hln (by rw [opsL_get L hli, hxd])
                  have hpx := opsL_put (n := pn) (L := L) hli hy (by rw [hLL.out]; exact hlt)
                  rw [hxd, hLL.out] at hpx
                  have HPX := Lib.hid (mixA_step hln hpx)
                  obtain ⟨vb, vo, ev, cv⟩ := (HI.out.2.1.slice intc_len).at1 hy rfl
                  cases ev
                  have HLN2 := Lib.hid hln2
                  have hS0 : (fun W : World => SliceIs OpD.cells 26 W (.slice (some ⟨g, 0, none⟩) pn pn) (mixA (opsL pn (L ++ [V])) (opsL pn L) i) ∧ W.cell? ⟨vb, vo + i, none⟩ = some (.int .i64 y)) wr.drew := ⟨HI.out.1.slice OpD.len, cv⟩
                  have HX := Lib.hid hx
                  have HI1 : Hid (Own OpD.cells 26 68 w.heap.size wr.drew (.slice (some ⟨g, 0, none⟩) pn pn) (mixA (opsL pn (L ++ [V])) (opsL pn L) i) ∧ Own intc 1 3 w.heap.size wr.drew (.slice (some ⟨vb, vo, none⟩) pn pc) V ∧ Below w.heap.size w wr.drew) := Lib.hid ⟨HI.out.1.drew, HI.out.2.1.drew, HI.out.2.2.drew⟩
                  clear hx hpx hln hln2 cv hxd HI hy
                  go_upto_region 16 with fail
                  refine wp_region_s (fun W : World => SliceIs OpD.cells 26 W (.slice (some ⟨g, 0, none⟩) pn pn) (mixA (opsL pn (L ++ [V])) (opsL pn L) i) ∧ W.cell? ⟨vb, vo + i, none⟩ = some (.int .i64 y)) (fun i => i == 13) (by kernel_rfl) ?_
                  generalize wr.drew = W1 at hS0 HI1 ⊢
                  refine wpAnyS_take (i := 0) (d := some 65) (v := .slice (some ⟨g, 0, none⟩) pn pn) rfl rfl rfl (by kernel_rfl) (by kernel_rfl) (by kernel_rfl) (by kernel_rfl) (fun _ _ _ h => h) (.inl ⟨by rfl, fun W hW => by obtain ⟨q0, q1⟩ := hW; go_simp; try rfl⟩) hS0 ?_
                  try simp only [Act.put, List.setIfInBounds_toArray, List.set_cons_zero, List.set_cons_succ]
                  refine wpAnyS_take (i := 1) (d := some 66) (v := .int .i64 i) rfl rfl rfl (by kernel_rfl) (by kernel_rfl) (by kernel_rfl) (by kernel_rfl) (fun _ _ _ h => h) (.inl ⟨by rfl, fun W hW => by obtain ⟨q0, q1⟩ := hW; go_simp; try rfl⟩) hS0 ?_
                  try simp only [Act.put, List.setIfInBounds_toArray, List.set_cons_zero, List.set_cons_succ]
                  refine wpAnyS_take (i := 2) (d := some 67) (v := .slice (some ⟨g, 0, none⟩) pn pn) rfl rfl rfl (by kernel_rfl) (by kernel_rfl) (by kernel_rfl) (by kernel_rfl) (fun _ _ _ h => h) (.inl ⟨by rfl, fun W hW => by obtain ⟨q0, q1⟩ := hW; go_simp; try rfl⟩) hS0 ?_
                  try simp only [Act.put, List.setIfInBounds_toArray, List.set_cons_zero, List.set_cons_succ]
                  refine wpAnyS_take (i := 3) (d := some 68) (v := .int .i64 i) rfl rfl rfl (by kernel_rfl) (by kernel_rfl) (by kernel_rfl) (by kernel_rfl) (fun _ _ _ h => h) (.inl ⟨by rfl, fun W hW => by obtain ⟨q0, q1⟩ := hW; go_simp; try rfl⟩) hS0 ?_
                  try simp only [Act.put, List.setIfInBounds_toArray, List.set_cons_zero, List.set_cons_succ]
                  refine wpAnyS_take (i := 4) (d := some 69) (v := .pointer (some ⟨g, i * 26, none⟩)) rfl rfl rfl (by kernel_rfl) (by kernel_rfl) (by kernel_rfl) (by kernel_rfl) (fun _ _ _ h => h) (.inl ⟨by rfl, fun W hW => by obtain ⟨q0, q1⟩ := hW; go_simp; try rfl⟩) hS0 ?_
                  try simp only [Act.put, List.setIfInBounds_toArray, List.set_cons_zero, List.set_cons_succ]
                  refine wpAnyS_take (i := 5) (d := some 70) (v := .agg x.cells.toArray) rfl rfl rfl (by kernel_rfl) (by kernel_rfl) (by kernel_rfl) (by kernel_rfl) (fun _ _ _ h => h) (.inl ⟨by rfl, fun W hW => by have h := sl_load hW.1 HX.out; rw [Nat.zero_add] at h; exact exec_load rfl rfl h⟩) hS0 ?_
                  try simp only [Act.put, List.setIfInBounds_toArray, List.set_cons_zero, List.set_cons_succ]
                  refine wpAnyS_take (i := 6) (d := some 71) (v := .int .i64 c) rfl rfl rfl (by kernel_rfl) (by kernel_rfl) (by kernel_rfl) (by kernel_rfl) (fun _ _ _ h => h) (.inl ⟨by rfl, fun W hW => by obtain ⟨q0, q1⟩ := hW; go_simp; try rfl⟩) hS0 ?_
                  try simp only [Act.put, List.setIfInBounds_toArray, List.set_cons_zero, List.set_cons_succ]
                  refine wpAnyS_take (i := 7) (d := some 72) (v := .slice (some ⟨vb, vo, none⟩) pn pc) rfl rfl rfl (by kernel_rfl) (by kernel_rfl) (by kernel_rfl) (by kernel_rfl) (fun _ _ _ h => h) (.inl ⟨by rfl, fun W hW => by obtain ⟨q0, q1⟩ := hW; go_simp; try rfl⟩) hS0 ?_
                  try simp only [Act.put, List.setIfInBounds_toArray, List.set_cons_zero, List.set_cons_succ]
                  refine wpAnyS_take (i := 8) (d := some 73) (v := .int .i64 i) rfl rfl rfl (by kernel_rfl) (by kernel_rfl) (by kernel_rfl) (by kernel_rfl) (fun _ _ _ h => h) (.inl ⟨by rfl, fun W hW => by obtain ⟨q0, q1⟩ := hW; go_simp; try rfl⟩) hS0 ?_
                  try simp only [Act.put, List.setIfInBounds_toArray, List.set_cons_zero, List.set_cons_succ]
                  refine wpAnyS_take (i := 9) (d := some 74) (v := .pointer (some ⟨vb, vo + i, none⟩)) rfl rfl rfl (by kernel_rfl) (by kernel_rfl) (by kernel_rfl) (by kernel_rfl) (fun _ _ _ h => h) (.inl ⟨by rfl, fun W hW => by obtain ⟨q0, q1⟩ := hW; go_simp; try rfl⟩) hS0 ?_
                  try simp only [Act.put, List.setIfInBounds_toArray, List.set_cons_zero, List.set_cons_succ]
                  refine wpAnyS_take (i := 10) (d := some 75) (v := .int .i64 y) rfl rfl rfl (by kernel_rfl) (by kernel_rfl) (by kernel_rfl) (by kernel_rfl) (fun _ _ _ h => h) (.inl ⟨by rfl, fun W hW => by obtain ⟨q0, q1⟩ := hW; go_simp; try rfl⟩) hS0 ?_
                  try simp only [Act.put, List.setIfInBounds_toArray, List.set_cons_zero, List.set_cons_succ]
                  refine wpAnyS_call (i := 11) (d := some 76) (f := 58) (args := #[.agg x.cells.toArray, .int .i64 c, .int .i64 y]) (w' := W1) (by kernel_rfl) rfl rfl (by rfl) (by go_simp; try rfl) ?_
                  refine (rput8_any x c hlt y W1).mono ?_
                  rintro e w7 ⟨rfl, b7⟩
                  have hS7 : (fun W : World => SliceIs OpD.cells 26 W (.slice (some ⟨g, 0, none⟩) pn pn) (mixA (opsL pn (L ++ [V])) (opsL pn L) i) ∧ W.cell? ⟨vb, vo + i, none⟩ = some (.int .i64 y)) w7 := ⟨hS0.1.below b7, (b7.cell (p := ⟨vb, vo + i, none⟩) (cell_lt hS0.2)).trans hS0.2⟩
                  refine ⟨(x.putF c y).val, rfl, fun _ => hS7, ?_⟩
                  try simp only [Act.put, List.setIfInBounds_toArray, List.set_cons_zero, List.set_cons_succ]
                  have HI7 := Lib.hid (And.intro (HI1.out.1.below1 b7) (And.intro (HI1.out.2.1.below1 b7) (HI1.out.2.2.trans (b7.mono HI1.out.2.2.size))))
                  refine wpAnyS_take (i := 12) (d := some 77) (v := .pointer (some ⟨g, i * 26, none⟩)) rfl rfl rfl (by kernel_rfl) (by kernel_rfl) (by kernel_rfl) (by kernel_rfl) (fun _ _ _ h => h) (.inl ⟨by rfl, fun W hW => by obtain ⟨q0, q1⟩ := hW; go_simp; try rfl⟩) hS7 ?_
                  try simp only [Act.put, List.setIfInBounds_toArray, List.set_cons_zero, List.set_cons_succ]
                  have ho7 := HI7.out.1
                  obtain ⟨W8, hst, ho8, hx8⟩ := own_store ho7 HLN2.out (i := i) hli (x.putF c y)
                  rw [HPX.out] at ho8
                  have HN := Lib.hid (And.intro ho8 (And.intro (notg_ext HI7.out.2.1 HI7.out.1 (by decide) rfl hx8) (Ext.new HI7.out.2.2 hx8 (fun k hk _ e => by have := (ho7.blk g rfl).1; omega) HI7.out.2.2.size)))
                  refine wpAnyS_mute (i := 13) (d := none) (w' := W8) (by kernel_rfl) rfl rfl (by rfl) (exec_store rfl rfl rfl hst) (fun h => by cases h) ?_
                  try simp only [Act.put, List.setIfInBounds_toArray, List.set_cons_zero, List.set_cons_succ]
                  refine wpAnyS_done (by kernel_rfl) ?_ _
                  clear hst ho8 hx8 ho7 HI7 HI1 hS7 hS0 b7
                  go_wp2_with fail
                  go_roundg (pn - (i + 1))
                  case measure => rw [HG2.out]; omega
                  case rel => exact ⟨i + 1, rfl, by simp, by omega, HN⟩
                · obtain rfl : i = pn := by omega
                  have hi1 : ¬ (i : Int) < (i : Int) := by omega
                  have HN : Hid (decCols i (c + 1) (b.drop q0) = some (L ++ [V], b.drop (p + u)) ∧ Own OpD.cells 26 68 w.heap.size wr (.slice (some ⟨g, 0, none⟩) i i) (opsL i (L ++ [V])) ∧ Below w.heap.size w wr) := Lib.hid ⟨by have h := HST.out; rwa [List.drop_drop] at h, by have h := HI.out.1; have e := mixA_all (a := opsL i (L ++ [V])) (b := opsL i L) (by rw [opsL_len, opsL_len]); rw [opsL_len] at e; rw [e] at h; exact h, HI.out.2.2⟩
                  clear HI HST
                  go_wp2_with fail
                  go_roundg (21 - (c + 1))
                  case measure => rw [HG.out]; omega
                  case rel => exact ⟨c + 1, p + u, L ++ [V], rfl, by simp, by simp, by omega, by omega, by rw [List.length_append, hLL.out]; rfl, HN⟩
            | true =>
              clear hd hb6 hown
              go_wp2_with fail
              refine (rtakedeltas_any _ (b.drop p) n w7 (HS.out _ HI6.out.2) hn6).mono ?_
              rintro e w8 (⟨V2, u2, v8, hd, rfl, hown, hb8⟩ | ⟨hd, rfl, hb8⟩)
              · have HC : Hid (colD n (dlt c) (b.drop p) = some (V2, u2)) := Lib.hid (by rw [hdl]; exact hd)
                have HVO := Lib.hid (hown.mono HI6.out.2.size)
                have HI8 : Hid (Own OpD.cells 26 68 w.heap.size w8 (.slice (some ⟨g, 0, none⟩) n n) (opsL n L) ∧ Below w.heap.size w w8) := Lib.hid ⟨HI6.out.1.below1 hb8, HI6.out.2.trans (hb8.mono HI6.out.2.size)⟩
                clear hd hown hdl hb8 HI6
                have hcf := colD_facts hn6 HC.out
                have hul := hcf.2
                rw [List.length_drop] at hul
                obtain ⟨⟨pa, pn, pc⟩, ep⟩ := HVO.out.sl
                dsimp only at ep
                subst ep
                obtain rfl : pn = n := by have h := (HVO.out.nlen intc_len).1; rw [hcf.1] at h; exact h
                have HVL : Hid (V2.length = pn) := Lib.hid hcf.1
                have HST := Lib.hid (decCols_step HI.out.1 HC.out)
                clear hcf HI hsl HS HC
                go_wp2_with fail
                go_loopg [12] pn (fun z iv wx => ∃ i : Nat, z = pn - i ∧ iv = .int .i64 i ∧ i ≤ pn ∧ Hid (Own OpD.cells 26 68 w.heap.size wx (.slice (some ⟨g, 0, none⟩) pn pn) (mixA (opsL pn (L ++ [V2])) (opsL pn L) i) ∧ Own intc 1 3 w.heap.size wx (.slice pa pn pc) V2 ∧ Below w.heap.size w wx))
                case atStart => exact ⟨0, rfl, rfl, Nat.zero_le _, Lib.hid ⟨by rw [mixA_zero]; exact HI8.out.1, HVO.out, HI8.out.2⟩⟩
                case round =>
                  clear HI8 HVO
                  obtain ⟨i, hg, rfl, hi, HI⟩ := hrel
                  have HG2 := Lib.hid hg
                  clear hg
                  by_cases hli : i < pn
                  · have hi1 : (i : Int) < (pn : Int) := by omega
                    have hi0 : (0 : Int) ≤ (i : Int) := by omega
                    obtain ⟨y, hy⟩ : ∃ y, V2[i]? = some y := ⟨_, List.getElem?_eq_getElem (by rw [HVL.out]; exact hli)⟩
                    obtain ⟨x, hxd⟩ : ∃ x, zOp.withF (colF L i) = x := ⟨_, rfl⟩
                    have hln : (opsL pn (L ++ [V2])).length = (opsL pn L).length := by rw [opsL_len, opsL_len]
                    have hln2 : (mixA (opsL pn (L ++ [V2])) (opsL pn L) i).length = pn := by rw [mixA_len hln (by rw [opsL_len]; exact hi), opsL_len]
                    have hx : (mixA (opsL pn (L ++ [V2])) (opsL pn L) i)[i]? = some x := mixA_at hln (by rw [opsL_get L hli, hxd])
                    have hpx := opsL_put (n := pn) (L := L) hli hy (by rw [hLL.out]; exact hlt)
                    rw [hxd, hLL.out] at hpx
                    have HPX := Lib.hid (mixA_step hln hpx)
                    obtain ⟨vb, vo, ev, cv⟩ := (HI.out.2.1.slice intc_len).at1 hy rfl
                    cases ev
                    have HLN2 := Lib.hid hln2
                    have hS0 : (fun W : World => SliceIs OpD.cells 26 W (.slice (some ⟨g, 0, none⟩) pn pn) (mixA (opsL pn (L ++ [V2])) (opsL pn L) i) ∧ W.cell? ⟨vb, vo + i, none⟩ = some (.int .i64 y)) wr.drew := ⟨HI.out.1.slice OpD.len, cv⟩
                    have HX := Lib.hid hx
                    have HI1 : Hid (Own OpD.cells 26 68 w.heap.size wr.drew (.slice (some ⟨g, 0, none⟩) pn pn) (mixA (opsL pn (L ++ [V2])) (opsL pn L) i) ∧ Own intc 1 3 w.heap.size wr.drew (.slice (some ⟨vb, vo, none⟩) pn pc) V2 ∧ Below w.heap.size w wr.drew) := Lib.hid ⟨HI.out.1.drew, HI.out.2.1.drew, HI.out.2.2.drew⟩
                    clear hx hpx hln hln2 cv hxd HI hy
                    go_upto_region 16 with fail
                    refine wp_region_s (fun W : World => SliceIs OpD.cells 26 W (.slice (some ⟨g, 0, none⟩) pn pn) (mixA (opsL pn (L ++ [V2])) (opsL pn L) i) ∧ W.cell? ⟨vb, vo + i, none⟩ = some (.int .i64 y)) (fun i => i == 13) (by kernel_rfl) ?_
                    generalize wr.drew = W1 at hS0 HI1 ⊢
                    refine wpAnyS_take (i := 0) (d := some 65) (v := .slice (some ⟨g, 0, none⟩) pn pn) rfl rfl rfl (by kernel_rfl) (by kernel_rfl) (by kernel_rfl) (by kernel_rfl) (fun _ _ _ h => h) (.inl ⟨by rfl, fun W hW => by obtain ⟨q0, q1⟩ := hW; go_simp; try rfl⟩) hS0 ?_
                    try simp only [Act.put, List.setIfInBounds_toArray, List.set_cons_zero, List.set_cons_succ]
                    refine wpAnyS_take (i := 1) (d := some 66) (v := .int .i64 i) rfl rfl rfl (by kernel_rfl) (by kernel_rfl) (by kernel_rfl) (by kernel_rfl) (fun _ _ _ h => h) (.inl ⟨by rfl, fun W hW => by obtain ⟨q0, q1⟩ := hW; go_simp; try rfl⟩) hS0 ?_
                    try simp only [Act.put, List.setIfInBounds_toArray, List.set_cons_zero, List.set_cons_succ]
                    refine wpAnyS_take (i := 2) (d := some 67) (v := .slice (some ⟨g, 0, none⟩) pn pn) rfl rfl rfl (by kernel_rfl) (by kernel_rfl) (by kernel_rfl) (by kernel_rfl) (fun _ _ _ h => h) (.inl ⟨by rfl, fun W hW => by obtain ⟨q0, q1⟩ := hW; go_simp; try rfl⟩) hS0 ?_
                    try simp only [Act.put, List.setIfInBounds_toArray, List.set_cons_zero, List.set_cons_succ]
                    refine wpAnyS_take (i := 3) (d := some 68) (v := .int .i64 i) rfl rfl rfl (by kernel_rfl) (by kernel_rfl) (by kernel_rfl) (by kernel_rfl) (fun _ _ _ h => h) (.inl ⟨by rfl, fun W hW => by obtain ⟨q0, q1⟩ := hW; go_simp; try rfl⟩) hS0 ?_
                    try simp only [Act.put, List.setIfInBounds_toArray, List.set_cons_zero, List.set_cons_succ]
                    refine wpAnyS_take (i := 4) (d := some 69) (v := .pointer (some ⟨g, i * 26, none⟩)) rfl rfl rfl (by kernel_rfl) (by kernel_rfl) (by kernel_rfl) (by kernel_rfl) (fun _ _ _ h => h) (.inl ⟨by rfl, fun W hW => by obtain ⟨q0, q1⟩ := hW; go_simp; try rfl⟩) hS0 ?_
                    try simp only [Act.put, List.setIfInBounds_toArray, List.set_cons_zero, List.set_cons_succ]
                    refine wpAnyS_take (i := 5) (d := some 70) (v := .agg x.cells.toArray) rfl rfl rfl (by kernel_rfl) (by kernel_rfl) (by kernel_rfl) (by kernel_rfl) (fun _ _ _ h => h) (.inl ⟨by rfl, fun W hW => by have h := sl_load hW.1 HX.out; rw [Nat.zero_add] at h; exact exec_load rfl rfl h⟩) hS0 ?_
                    try simp only [Act.put, List.setIfInBounds_toArray, List.set_cons_zero, List.set_cons_succ]
                    refine wpAnyS_take (i := 6) (d := some 71) (v := .int .i64 c) rfl rfl rfl (by kernel_rfl) (by kernel_rfl) (by kernel_rfl) (by kernel_rfl) (fun _ _ _ h => h) (.inl ⟨by rfl, fun W hW => by obtain ⟨q0, q1⟩ := hW; go_simp; try rfl⟩) hS0 ?_
                    try simp only [Act.put, List.setIfInBounds_toArray, List.set_cons_zero, List.set_cons_succ]
                    refine wpAnyS_take (i := 7) (d := some 72) (v := .slice (some ⟨vb, vo, none⟩) pn pc) rfl rfl rfl (by kernel_rfl) (by kernel_rfl) (by kernel_rfl) (by kernel_rfl) (fun _ _ _ h => h) (.inl ⟨by rfl, fun W hW => by obtain ⟨q0, q1⟩ := hW; go_simp; try rfl⟩) hS0 ?_
                    try simp only [Act.put, List.setIfInBounds_toArray, List.set_cons_zero, List.set_cons_succ]
                    refine wpAnyS_take (i := 8) (d := some 73) (v := .int .i64 i) rfl rfl rfl (by kernel_rfl) (by kernel_rfl) (by kernel_rfl) (by kernel_rfl) (fun _ _ _ h => h) (.inl ⟨by rfl, fun W hW => by obtain ⟨q0, q1⟩ := hW; go_simp; try rfl⟩) hS0 ?_
                    try simp only [Act.put, List.setIfInBounds_toArray, List.set_cons_zero, List.set_cons_succ]
                    refine wpAnyS_take (i := 9) (d := some 74) (v := .pointer (some ⟨vb, vo + i, none⟩)) rfl rfl rfl (by kernel_rfl) (by kernel_rfl) (by kernel_rfl) (by kernel_rfl) (fun _ _ _ h => h) (.inl ⟨by rfl, fun W hW => by obtain ⟨q0, q1⟩ := hW; go_simp; try rfl⟩) hS0 ?_
                    try simp only [Act.put, List.setIfInBounds_toArray, List.set_cons_zero, List.set_cons_succ]
                    refine wpAnyS_take (i := 10) (d := some 75) (v := .int .i64 y) rfl rfl rfl (by kernel_rfl) (by kernel_rfl) (by kernel_rfl) (by kernel_rfl) (fun _ _ _ h => h) (.inl ⟨by rfl, fun W hW => by obtain ⟨q0, q1⟩ := hW; go_simp; try rfl⟩) hS0 ?_
                    try simp only [Act.put, List.setIfInBounds_toArray, List.set_cons_zero, List.set_cons_succ]
                    refine wpAnyS_call (i := 11) (d := some 76) (f := 58) (args := #[.agg x.cells.toArray, .int .i64 c, .int .i64 y]) (w' := W1) (by kernel_rfl) rfl rfl (by rfl) (by go_simp; try rfl) ?_
                    refine (rput8_any x c hlt y W1).mono ?_
                    rintro e w7 ⟨rfl, b7⟩
                    have hS7 : (fun W : World => SliceIs OpD.cells 26 W (.slice (some ⟨g, 0, none⟩) pn pn) (mixA (opsL pn (L ++ [V2])) (opsL pn L) i) ∧ W.cell? ⟨vb, vo + i, none⟩ = some (.int .i64 y)) w7 := ⟨hS0.1.below b7, (b7.cell (p := ⟨vb, vo + i, none⟩) (cell_lt hS0.2)).trans hS0.2⟩
                    refine ⟨(x.putF c y).val, rfl, fun _ => hS7, ?_⟩
                    try simp only [Act.put, List.setIfInBounds_toArray, List.set_cons_zero, List.set_cons_succ]
                    have HI7 := Lib.hid (And.intro (HI1.out.1.below1 b7) (And.intro (HI1.out.2.1.below1 b7) (HI1.out.2.2.trans (b7.mono HI1.out.2.2.size))))
                    refine wpAnyS_take (i := 12) (d := some 77) (v := .pointer (some ⟨g, i * 26, none⟩)) rfl rfl rfl (by kernel_rfl) (by kernel_rfl) (by kernel_rfl) (by kernel_rfl) (fun _ _ _ h => h) (.inl ⟨by rfl, fun W hW => by obtain ⟨q0, q1⟩ := hW; go_simp; try rfl⟩) hS7 ?_
                    try simp only [Act.put, List.setIfInBounds_toArray, List.set_cons_zero, List.set_cons_succ]
                    have ho7 := HI7.out.1
                    obtain ⟨W8, hst, ho8, hx8⟩ := own_store ho7 HLN2.out (i := i) hli (x.putF c y)
                    rw [HPX.out] at ho8
                    have HN := Lib.hid (And.intro ho8 (And.intro (notg_ext HI7.out.2.1 HI7.out.1 (by decide) rfl hx8) (Ext.new HI7.out.2.2 hx8 (fun k hk _ e => by have := (ho7.blk g rfl).1; omega) HI7.out.2.2.size)))
                    refine wpAnyS_mute (i := 13) (d := none) (w' := W8) (by kernel_rfl) rfl rfl (by rfl) (exec_store rfl rfl rfl hst) (fun h => by cases h) ?_
                    try simp only [Act.put, List.setIfInBounds_toArray, List.set_cons_zero, List.set_cons_succ]
                    refine wpAnyS_done (by kernel_rfl) ?_ _
                    clear hst ho8 hx8 ho7 HI7 HI1 hS7 hS0 b7
                    go_wp2_with fail
                    go_roundg (pn - (i + 1))
                    case measure => rw [HG2.out]; omega
                    case rel => exact ⟨i + 1, rfl, by simp, by omega, HN⟩
                  · obtain rfl : i = pn := by omega
                    have hi1 : ¬ (i : Int) < (i : Int) := by omega
                    have HN : Hid (decCols i (c + 1) (b.drop q0) = some (L ++ [V2], b.drop (p + u2)) ∧ Own OpD.cells 26 68 w.heap.size wr (.slice (some ⟨g, 0, none⟩) i i) (opsL i (L ++ [V2])) ∧ Below w.heap.size w wr) := Lib.hid ⟨by have h := HST.out; rwa [List.drop_drop] at h, by have h := HI.out.1; have e := mixA_all (a := opsL i (L ++ [V2])) (b := opsL i L) (by rw [opsL_len, opsL_len]); rw [opsL_len] at e; rw [e] at h; exact h, HI.out.2.2⟩
                    clear HI HST
                    go_wp2_with fail
                    go_roundg (21 - (c + 1))
                    case measure => rw [HG.out]; omega
                    case rel => exact ⟨c + 1, p + u2, L ++ [V2], rfl, by simp, by simp, by omega, by omega, by rw [List.length_append, hLL.out]; rfl, HN⟩
              · have HC : Hid (colD n (dlt c) (b.drop p) = none) := Lib.hid (by rw [hdl]; exact hd)
                have HI8 : Hid (Own OpD.cells 26 68 w.heap.size w8 (.slice (some ⟨g, 0, none⟩) n n) (opsL n L) ∧ Below w.heap.size w w8) := Lib.hid ⟨HI6.out.1.below1 hb8, HI6.out.2.trans (hb8.mono HI6.out.2.size)⟩
                clear hd hdl hb8 HI6
                have HBAD : Hid (decB b = none) := Lib.hid (decB_none3 HV.out hbig (by rw [hq0]; exact decCols_bad HI.out.1 HC.out hlt))
                have HB9 := Lib.hid HI8.out.2
                clear HI hsl HS HC HI8
                go_wp2_with fail
                go_ret2
                exact .inr ⟨HBAD.out, rfl, HB9.out⟩
          · have HI6 : Hid (Own OpD.cells 26 68 w.heap.size w6 (.slice (some ⟨g, 0, none⟩) n n) (opsL n L) ∧ Below w.heap.size w w6) := Lib.hid ⟨HI.out.2.1.below1 hb6, HI.out.2.2.trans (hb6.mono HI.out.2.2.size)⟩
            go_wp2_with fail
            refine (rdeltas8_any c hlt w6).mono ?_
            rintro e w7 ⟨rfl, rfl⟩
            cases hdl : dlt c with
            | false =>
              have HC : Hid (colD n (dlt c) (b.drop p) = none) := Lib.hid (by rw [hdl]; exact hd)
              clear hd hdl hb6
              have HBAD : Hid (decB b = none) := Lib.hid (decB_none3 HV.out hbig (by rw [hq0]; exact decCols_bad HI.out.1 HC.out hlt))
              have HB9 := Lib.hid HI6.out.2
              clear HI hsl HS HC HI6
              go_wp2_with fail
              go_ret2
              exact .inr ⟨HBAD.out, rfl, HB9.out⟩
            | true =>
              clear hd hb6
              go_wp2_with fail
              refine (rtakedeltas_any _ (b.drop p) n w7 (HS.out _ HI6.out.2) hn6).mono ?_
              rintro e w8 (⟨V2, u2, v8, hd, rfl, hown, hb8⟩ | ⟨hd, rfl, hb8⟩)
              · have HC : Hid (colD n (dlt c) (b.drop p) = some (V2, u2)) := Lib.hid (by rw [hdl]; exact hd)
                have HVO := Lib.hid (hown.mono HI6.out.2.size)
                have HI8 : Hid (Own OpD.cells 26 68 w.heap.size w8 (.slice (some ⟨g, 0, none⟩) n n) (opsL n L) ∧ Below w.heap.size w w8) := Lib.hid ⟨HI6.out.1.below1 hb8, HI6.out.2.trans (hb8.mono HI6.out.2.size)⟩
                clear hd hown hdl hb8 HI6
                have hcf := colD_facts hn6 HC.out
                have hul := hcf.2
                rw [List.length_drop] at hul
                obtain ⟨⟨pa, pn, pc⟩, ep⟩ := HVO.out.sl
                dsimp only at ep
                subst ep
                obtain rfl : pn = n := by have h := (HVO.out.nlen intc_len).1; rw [hcf.1] at h; exact h
                have HVL : Hid (V2.length = pn) := Lib.hid hcf.1
                have HST := Lib.hid (decCols_step HI.out.1 HC.out)
                clear hcf HI hsl HS HC
                go_wp2_with fail
                go_loopg [12] pn (fun z iv wx => ∃ i : Nat, z = pn - i ∧ iv = .int .i64 i ∧ i ≤ pn ∧ Hid (Own OpD.cells 26 68 w.heap.size wx (.slice (some ⟨g, 0, none⟩) pn pn) (mixA (opsL pn (L ++ [V2])) (opsL pn L) i) ∧ Own intc 1 3 w.heap.size wx (.slice pa pn pc) V2 ∧ Below w.heap.size w wx))
                case atStart => exact ⟨0, rfl, rfl, Nat.zero_le _, Lib.hid ⟨by rw [mixA_zero]; exact HI8.out.1, HVO.out, HI8.out.2⟩⟩
                case round =>
                  clear HI8 HVO
                  obtain ⟨i, hg, rfl, hi, HI⟩ := hrel
                  have HG2 := Lib.hid hg
                  clear hg
                  by_cases hli : i < pn
                  · have hi1 : (i : Int) < (pn : Int) := by omega
                    have hi0 : (0 : Int) ≤ (i : Int) := by omega
                    obtain ⟨y, hy⟩ : ∃ y, V2[i]? = some y := ⟨_, List.getElem?_eq_getElem (by rw [HVL.out]; exact hli)⟩
                    obtain ⟨x, hxd⟩ : ∃ x, zOp.withF (colF L i) = x := ⟨_, rfl⟩
                    have hln : (opsL pn (L ++ [V2])).length = (opsL pn L).length := by rw [opsL_len, opsL_len]
                    have hln2 : (mixA (opsL pn (L ++ [V2])) (opsL pn L) i).length = pn := by rw [mixA_len hln (by rw [opsL_len]; exact hi), opsL_len]
                    have hx : (mixA (opsL pn (L ++ [V2])) (opsL pn L) i)[i]? = some x := mixA_at hln (by rw [opsL_get L hli, hxd])
                    have hpx := opsL_put (n := pn) (L := L) hli hy (by rw [hLL.out]; exact hlt)
                    rw [hxd, hLL.out] at hpx
                    have HPX := Lib.hid (mixA_step hln hpx)
                    obtain ⟨vb, vo, ev, cv⟩ := (HI.out.2.1.slice intc_len).at1 hy rfl
                    cases ev
                    have HLN2 := Lib.hid hln2
                    have hS0 : (fun W : World => SliceIs OpD.cells 26 W (.slice (some ⟨g, 0, none⟩) pn pn) (mixA (opsL pn (L ++ [V2])) (opsL pn L) i) ∧ W.cell? ⟨vb, vo + i, none⟩ = some (.int .i64 y)) wr.drew := ⟨HI.out.1.slice OpD.len, cv⟩
                    have HX := Lib.hid hx
                    have HI1 : Hid (Own OpD.cells 26 68 w.heap.size wr.drew (.slice (some ⟨g, 0, none⟩) pn pn) (mixA (opsL pn (L ++ [V2])) (opsL pn L) i) ∧ Own intc 1 3 w.heap.size wr.drew (.slice (some ⟨vb, vo, none⟩) pn pc) V2 ∧ Below w.heap.size w wr.drew) := Lib.hid ⟨HI.out.1.drew, HI.out.2.1.drew, HI.out.2.2.drew⟩
                    clear hx hpx hln hln2 cv hxd HI hy
                    go_upto_region 16 with fail
                    refine wp_region_s (fun W : World => SliceIs OpD.cells 26 W (.slice (some ⟨g, 0, none⟩) pn pn) (mixA (opsL pn (L ++ [V2])) (opsL pn L) i) ∧ W.cell? ⟨vb, vo + i, none⟩ = some (.int .i64 y)) (fun i => i == 13) (by kernel_rfl) ?_
                    generalize wr.drew = W1 at hS0 HI1 ⊢
                    refine wpAnyS_take (i := 0) (d := some 65) (v := .slice (some ⟨g, 0, none⟩) pn pn) rfl rfl rfl (by kernel_rfl) (by kernel_rfl) (by kernel_rfl) (by kernel_rfl) (fun _ _ _ h => h) (.inl ⟨by rfl, fun W hW => by obtain ⟨q0, q1⟩ := hW; go_simp; try rfl⟩) hS0 ?_
                    try simp only [Act.put, List.setIfInBounds_toArray, List.set_cons_zero, List.set_cons_succ]
                    refine wpAnyS_take (i := 1) (d := some 66) (v := .int .i64 i) rfl rfl rfl (by kernel_rfl) (by kernel_rfl) (by kernel_rfl) (by kernel_rfl) (fun _ _ _ h => h) (.inl ⟨by rfl, fun W hW => by obtain ⟨q0, q1⟩ := hW; go_simp; try rfl⟩) hS0 ?_
                    try simp only [Act.put, List.setIfInBounds_toArray, List.set_cons_zero, List.set_cons_succ]
                    refine wpAnyS_take (i := 2) (d := some 67) (v := .slice (some ⟨g, 0, none⟩) pn pn) rfl rfl rfl (by kernel_rfl) (by kernel_rfl) (by kernel_rfl) (by kernel_rfl) (fun _ _ _ h => h) (.inl ⟨by rfl, fun W hW => by obtain ⟨q0, q1⟩ := hW; go_simp; try rfl⟩) hS0 ?_
                    try simp only [Act.put, List.setIfInBounds_toArray, List.set_cons_zero, List.set_cons_succ]
                    refine wpAnyS_take (i := 3) (d := some 68) (v := .int .i64 i) rfl rfl rfl (by kernel_rfl) (by kernel_rfl) (by kernel_rfl) (by kernel_rfl) (fun _ _ _ h => h) (.inl ⟨by rfl, fun W hW => by obtain ⟨q0, q1⟩ := hW; go_simp; try rfl⟩) hS0 ?_
                    try simp only [Act.put, List.setIfInBounds_toArray, List.set_cons_zero, List.set_cons_succ]
                    refine wpAnyS_take (i := 4) (d := some 69) (v := .pointer (some ⟨g, i * 26, none⟩)) rfl rfl rfl (by kernel_rfl) (by kernel_rfl) (by kernel_rfl) (by kernel_rfl) (fun _ _ _ h => h) (.inl ⟨by rfl, fun W hW => by obtain ⟨q0, q1⟩ := hW; go_simp; try rfl⟩) hS0 ?_
                    try simp only [Act.put, List.setIfInBounds_toArray, List.set_cons_zero, List.set_cons_succ]
                    refine wpAnyS_take (i := 5) (d := some 70) (v := .agg x.cells.toArray) rfl rfl rfl (by kernel_rfl) (by kernel_rfl) (by kernel_rfl) (by kernel_rfl) (fun _ _ _ h => h) (.inl ⟨by rfl, fun W hW => by have h := sl_load hW.1 HX.out; rw [Nat.zero_add] at h; exact exec_load rfl rfl h⟩) hS0 ?_
                    try simp only [Act.put, List.setIfInBounds_toArray, List.set_cons_zero, List.set_cons_succ]
                    refine wpAnyS_take (i := 6) (d := some 71) (v := .int .i64 c) rfl rfl rfl (by kernel_rfl) (by kernel_rfl) (by kernel_rfl) (by kernel_rfl) (fun _ _ _ h => h) (.inl ⟨by rfl, fun W hW => by obtain ⟨q0, q1⟩ := hW; go_simp; try rfl⟩) hS0 ?_
                    try simp only [Act.put, List.setIfInBounds_toArray, List.set_cons_zero, List.set_cons_succ]
                    refine wpAnyS_take (i := 7) (d := some 72) (v := .slice (some ⟨vb, vo, none⟩) pn pc) rfl rfl rfl (by kernel_rfl) (by kernel_rfl) (by kernel_rfl) (by kernel_rfl) (fun _ _ _ h => h) (.inl ⟨by rfl, fun W hW => by obtain ⟨q0, q1⟩ := hW; go_simp; try rfl⟩) hS0 ?_
                    try simp only [Act.put, List.setIfInBounds_toArray, List.set_cons_zero, List.set_cons_succ]
                    refine wpAnyS_take (i := 8) (d := some 73) (v := .int .i64 i) rfl rfl rfl (by kernel_rfl) (by kernel_rfl) (by kernel_rfl) (by kernel_rfl) (fun _ _ _ h => h) (.inl ⟨by rfl, fun W hW => by obtain ⟨q0, q1⟩ := hW; go_simp; try rfl⟩) hS0 ?_
                    try simp only [Act.put, List.setIfInBounds_toArray, List.set_cons_zero, List.set_cons_succ]
                    refine wpAnyS_take (i := 9) (d := some 74) (v := .pointer (some ⟨vb, vo + i, none⟩)) rfl rfl rfl (by kernel_rfl) (by kernel_rfl) (by kernel_rfl) (by kernel_rfl) (fun _ _ _ h => h) (.inl ⟨by rfl, fun W hW => by obtain ⟨q0, q1⟩ := hW; go_simp; try rfl⟩) hS0 ?_
                    try simp only [Act.put, List.setIfInBounds_toArray, List.set_cons_zero, List.set_cons_succ]
                    refine wpAnyS_take (i := 10) (d := some 75) (v := .int .i64 y) rfl rfl rfl (by kernel_rfl) (by kernel_rfl) (by kernel_rfl) (by kernel_rfl) (fun _ _ _ h => h) (.inl ⟨by rfl, fun W hW => by obtain ⟨q0, q1⟩ := hW; go_simp; try rfl⟩) hS0 ?_
                    try simp only [Act.put, List.setIfInBounds_toArray, List.set_cons_zero, List.set_cons_succ]
                    refine wpAnyS_call (i := 11) (d := some 76) (f := 58) (args := #[.agg x.cells.toArray, .int .i64 c, .int .i64 y]) (w' := W1) (by kernel_rfl) rfl rfl (by rfl) (by go_simp; try rfl) ?_
                    refine (rput8_any x c hlt y W1).mono ?_
                    rintro e w7 ⟨rfl, b7⟩
                    have hS7 : (fun W : World => SliceIs OpD.cells 26 W (.slice (some ⟨g, 0, none⟩) pn pn) (mixA (opsL pn (L ++ [V2])) (opsL pn L) i) ∧ W.cell? ⟨vb, vo + i, none⟩ = some (.int .i64 y)) w7 := ⟨hS0.1.below b7, (b7.cell (p := ⟨vb, vo + i, none⟩) (cell_lt hS0.2)).trans hS0.2⟩
                    refine ⟨(x.putF c y).val, rfl, fun _ => hS7, ?_⟩
                    try simp only [Act.put, List.setIfInBounds_toArray, List.set_cons_zero, List.set_cons_succ]
                    have HI7 := Lib.hid (And.intro (HI1.out.1.below1 b7) (And.intro (HI1.out.2.1.below1 b7) (HI1.out.2.2.trans (b7.mono HI1.out.2.2.size))))
                    refine wpAnyS_take (i := 12) (d := some 77) (v := .pointer (some ⟨g, i * 26, none⟩)) rfl rfl rfl (by kernel_rfl) (by kernel_rfl) (by kernel_rfl) (by kernel_rfl) (fun _ _ _ h => h) (.inl ⟨by rfl, fun W hW => by obtain ⟨q0, q1⟩ := hW; go_simp; try rfl⟩) hS7 ?_
                    try simp only [Act.put, List.setIfInBounds_toArray, List.set_cons_zero, List.set_cons_succ]
                    have ho7 := HI7.out.1
                    obtain ⟨W8, hst, ho8, hx8⟩ := own_store ho7 HLN2.out (i := i) hli (x.putF c y)
                    rw [HPX.out] at ho8
                    have HN := Lib.hid (And.intro ho8 (And.intro (notg_ext HI7.out.2.1 HI7.out.1 (by decide) rfl hx8) (Ext.new HI7.out.2.2 hx8 (fun k hk _ e => by have := (ho7.blk g rfl).1; omega) HI7.out.2.2.size)))
                    refine wpAnyS_mute (i := 13) (d := none) (w' := W8) (by kernel_rfl) rfl rfl (by rfl) (exec_store rfl rfl rfl hst) (fun h => by cases h) ?_
                    try simp only [Act.put, List.setIfInBounds_toArray, List.set_cons_zero, List.set_cons_succ]
                    refine wpAnyS_done (by kernel_rfl) ?_ _
                    clear hst ho8 hx8 ho7 HI7 HI1 hS7 hS0 b7
                    go_wp2_with fail
                    go_roundg (pn - (i + 1))
                    case measure => rw [HG2.out]; omega
                    case rel => exact ⟨i + 1, rfl, by simp, by omega, HN⟩
                  · obtain rfl : i = pn := by omega
                    have hi1 : ¬ (i : Int) < (i : Int) := by omega
                    have HN : Hid (decCols i (c + 1) (b.drop q0) = some (L ++ [V2], b.drop (p + u2)) ∧ Own OpD.cells 26 68 w.heap.size wr (.slice (some ⟨g, 0, none⟩) i i) (opsL i (L ++ [V2])) ∧ Below w.heap.size w wr) := Lib.hid ⟨by have h := HST.out; rwa [List.drop_drop] at h, by have h := HI.out.1; have e := mixA_all (a := opsL i (L ++ [V2])) (b := opsL i L) (by rw [opsL_len, opsL_len]); rw [opsL_len] at e; rw [e] at h; exact h, HI.out.2.2⟩
                    clear HI HST
                    go_wp2_with fail
                    go_roundg (21 - (c + 1))
                    case measure => rw [HG.out]; omega
                    case rel => exact ⟨c + 1, p + u2, L ++ [V2], rfl, by simp, by simp, by omega, by omega, by rw [List.length_append, hLL.out]; rfl, HN⟩
              · have HC : Hid (colD n (dlt c) (b.drop p) = none) := Lib.hid (by rw [hdl]; exact hd)
                have HI8 : Hid (Own OpD.cells 26 68 w.heap.size w8 (.slice (some ⟨g, 0, none⟩) n n) (opsL n L) ∧ Below w.heap.size w w8) := Lib.hid ⟨HI6.out.1.below1 hb8, HI6.out.2.trans (hb8.mono HI6.out.2.size)⟩
                clear hd hdl hb8 HI6
                have HBAD : Hid (decB b = none) := Lib.hid (decB_none3 HV.out hbig (by rw [hq0]; exact decCols_bad HI.out.1 HC.out hlt))
                have HB9 := Lib.hid HI8.out.2
                clear HI hsl HS HC HI8
                go_wp2_with fail
                go_ret2
                exact .inr ⟨HBAD.out, rfl, HB9.out⟩
        · obtain rfl : c = 21 := by omega
          have hc1 : ¬ (21 : Int) ≤ 20 := by omega
          have hc2 : (20 : Int) < 21 := by omega
          have HC : Hid (decCols n 21 (b.drop (putB n).length) = some (L, b.drop p)) := Lib.hid (by rw [hq0]; exact HI.out.1)
          have HI6 := Lib.hid HI.out.2
          obtain ⟨a1, c1, hsl, hS1, -⟩ := slice_from (P := Tryz.prog) (ea := u8c) Tryz.underlying22 size_u8 a b.length cap p hcap hpr
          have HS := Lib.hid (hS1 w b rfl HH.out)
          clear hS1 HI HG hlt hc hL
          simp only [show (((21 : Nat) : Int)) = 21 from rfl]
          go_wp2_with fail
          refine (rtruths_any w wr _ _ (b.drop p) (opsL n L) HI6.out.1 HI6.out.2 HS.out (by rw [opsL_len]; omega)).mono ?_
          rintro e w6 (⟨l3, p1, hp1, hdec, rfl, hk6⟩ | ⟨hdec, rfl, hb6⟩)
          rotate_left
          · rw [opsL_len] at hdec
            have HBAD := Lib.hid (decB_none4 HV.out hbig HC.out hdec)
            have HBL := Lib.hid hb6
            clear hdec hb6 HI6 HC HS hsl
            go_wp2_with fail
            go_ret2
            exact .inr ⟨HBAD.out, rfl, HBL.out⟩
          rw [opsL_len] at hdec
          rw [List.length_drop] at hp1
          have HCH := Lib.hid (decChain_all HV.out hbig HC.out hdec)
          have HL3 : Hid (l3.length = n) := Lib.hid ((tkT_len hdec).trans (opsL_len n L))
          have HN6 := Lib.hid hk6
          have HP1 := Lib.hid hp1
          have hneg1 : ¬ (p1 : Int) < 0 := by omega
          have hp1b : (p : Int) + (p1 : Int) ≤ (b.length : Int) := by omega
          clear hdec hk6 HI6 HC HS hsl hp1
          go_wp2_with fail
          rw [List.drop_drop] at HCH
          go_loopg [5, 14] 3 (fun z pv kv wx => ∃ (k p2 : Nat) (l4 : List OpD), z = 3 - k ∧ pv = .int .i64 p2 ∧ kv = .int .i64 k ∧ k ≤ 3 ∧ p2 ≤ b.length ∧ Hid (tkX n k (l3, b.drop (p + p1)) = some (l4, b.drop p2) ∧ l4.length = n ∧ Own OpD.cells 26 68 w.heap.size wx (.slice (some ⟨g, 0, none⟩) n n) l4 ∧ Below w.heap.size w wx))
          case atStart => exact ⟨0, p + p1, l3, rfl, by simp, rfl, by omega, by have := HP1.out; omega, Lib.hid ⟨rfl, HL3.out, HN6.out.1, HN6.out.2⟩⟩
          case round =>
            clear HN6 HL3 HP1 hneg1 hp1b
            obtain ⟨k, p2, l4, hg, rfl, rfl, hk, hp2, HR⟩ := hrel
            have HG := Lib.hid hg
            clear hg
            by_cases hlt : k < 3
            · have hk1 : (k : Int) < 3 := by omega
              have HLT := Lib.hid hlt
              clear hlt
              obtain ⟨a1, c1, hsl, hS1, -⟩ := slice_from (P := Tryz.prog) (ea := u8c) Tryz.underlying22 size_u8 a b.length cap p2 hcap hp2
              have HS := Lib.hid (hS1 w b rfl HH.out)
              clear hS1
              go_wp2_with fail
              refine (rtexts_any w wr _ _ (b.drop p2) l4 k HLT.out HR.out.2.2.1 HR.out.2.2.2 HS.out (by rw [HR.out.2.1]; omega)).mono ?_
              rintro e w7 (⟨l5, p3, hp3, hdec, rfl, hk7⟩ | ⟨hdec, rfl, hb7⟩)
              rotate_left
              · rw [HR.out.2.1] at hdec
                have HBAD := Lib.hid (decB_none (HCH.out.trans (tkX_bad HR.out.1 hdec HLT.out)))
                have HBL := Lib.hid hb7
                clear hdec hb7 HR HS hsl
                go_wp2_with fail
                go_ret2
                exact .inr ⟨HBAD.out, rfl, HBL.out⟩
              rw [HR.out.2.1] at hdec
              rw [List.length_drop] at hp3
              have hst := (tkX_step HR.out.1).trans hdec
              rw [List.drop_drop] at hst
              have HNN : Hid (tkX n (k + 1) (l3, b.drop (p + p1)) = some (l5, b.drop (p2 + p3)) ∧ l5.length = n ∧ Own OpD.cells 26 68 w.heap.size w7 (.slice (some ⟨g, 0, none⟩) n n) l5 ∧ Below w.heap.size w w7) := Lib.hid ⟨hst, (tkX1_len hdec).trans HR.out.2.1, hk7.1, hk7.2⟩
              have HP3 : Hid (p2 + p3 ≤ b.length) := Lib.hid (by omega)
              have hneg3 : ¬ (p3 : Int) < 0 := by omega
              have hp3b : (p2 : Int) + (p3 : Int) ≤ (b.length : Int) := by omega
              clear hdec hk7 HR hst HS hsl hp3
              go_wp2_with fail
              go_roundg (3 - (k + 1))
              case measure => rw [HG.out]; have := HLT.out; omega
              case rel => exact ⟨k + 1, p2 + p3, l5, rfl, by simp, by simp, by have := HLT.out; omega, HP3.out, HNN⟩
            · obtain rfl : k = 3 := by omega
              have hk1 : ¬ (3 : Int) < 3 := by omega
              have HD : Hid (decChain b = some (l4, b.drop p2)) := Lib.hid (HCH.out.trans HR.out.1)
              have HKS := Lib.hid HR.out.2.2
              have HL4 := Lib.hid HR.out.2.1
              clear HR hlt hk HCH HG HV
              simp only [show (((3 : Nat) : Int)) = 3 from rfl]
              go_wp2_with fail
              refine (rencode8_any _ l4 wr (HKS.out.1.slice OpD.len) (decChain_enc HD.out).2.2 (by rw [HL4.out]; omega)).mono ?_
              rintro e w7 (⟨h1, h2, v7, rfl, hown, hb7⟩ | ⟨h1, rfl, hb7⟩ | ⟨h1, ⟨x, hx, hxr⟩, rfl, hb7⟩)
              · have HO7 := Lib.hid (HKS.out.1.below1 hb7)
                have HB7 := Lib.hid (HKS.out.2.trans (hb7.mono HKS.out.2.size))
                have hcv := conv_bytes (hown.slice u8c_len)
                have hcv2 := conv_bytes (HH.out.below HB7.out)
                obtain ⟨⟨ra, rn, rc⟩, e5⟩ := hown.sl
                dsimp only at e5
                subst e5
                have he := beq_bytes ⟨(encB l4).toArray⟩ ⟨b.toArray⟩
                have H2 := Lib.hid h2
                by_cases hE : encB l4 = b
                · rw [decide_eq_true (by rw [hE])] at he
                  have he2 : (encB l4 == b) = true := by rw [hE]; exact beq_self_eq_true b
                  have hr4 : b.drop p2 = [] := by
                    have h := (decChain_enc HD.out).2.1
                    have e := congrArg List.length h
                    rw [hE, List.length_append] at e
                    exact List.eq_nil_of_length_eq_zero (by omega)
                  have HALL : Hid (decB b = some l4) := Lib.hid (decB_yes (by rw [← hr4]; exact HD.out) H2.out)
                  clear hE hr4 hown hb7 HKS h1 h2
                  go_wp2_with fail
                  go_ret2
                  exact .inl ⟨l4, _, HALL.out, rfl, HO7.out, HB7.out⟩
                · rw [decide_eq_false (fun e => hE (by have := congrArg (fun x => x.data.toList) e; simpa using this))] at he
                  have he2 : (encB l4 == b) = false := beq_false_of_ne hE
                  have HBAD : Hid (decB b = none) := Lib.hid (decB_of HD.out (fun h => hE (by have h3 := (decChain_enc HD.out).2.1; rw [h.1, List.append_nil] at h3; exact h3.symm)))
                  clear hE hown hb7 HKS h1 h2
                  go_wp2_with fail
                  go_ret2
                  exact .inr ⟨HBAD.out, rfl, HB7.out⟩
              · exact absurd h1 (by rw [HL4.out]; omega)
              · have HB7 := Lib.hid (HKS.out.2.trans (hb7.mono HKS.out.2.size))
                have HBAD : Hid (decB b = none) := Lib.hid (decB_of HD.out (fun h => by have := h.2 x hx; rw [hxr] at this; cases this))
                clear hx hxr h1 hb7 HKS
                go_wp2_with fail
                go_ret2
                exact .inr ⟨HBAD.out, rfl, HB7.out⟩
end Go.Proofs.YtgmdimbiipemhaaGreatDoor
