/- column.runs at bool: the iterator. -/
import Derived.Test.YtdlnokbeadkdfaaGreatDoorRangeQ
import Derived.Test.YtdlnokbeadkdfaaGreatDoorTkP08
import Derived.Test.YtdlnokbeadkdfaaGreatDoorRunP08
import Derived.Shelf.Abstract
import Derived.Shelf.RegionOpen
import Derived.WalkKit
import Derived.OwnWalkIn
import Derived.TacticsInMore
import Derived.LoopNIn
import Derived.LoopIn
import Derived.OneCell
import Derived.Deep.LoopGhost
import Derived.Deep.QuietTactic
import Derived.Deep.CutBlock
import Derived.Deep.DeepCutAuto
namespace Go.Proofs.YtdlnokbeadkdfaaGreatDoor
open Go.RowKit Go.Deep
set_option linter.unusedSimpArgs false
set_option linter.unusedVariables false
attribute [local go_sem] Oper.semAt_some

theorem runs_bool_any (va : Option Addr) (m vc : Nat) (w : World) : Calls Tryz.prog 51 #[.slice va m vc] w
    fun e w' => e = .returned (.func (.func 74) #[] #[.pointer (some ⟨w.heap.size, 0, none⟩)]) ∧ w' = w.alloc (.cells #[.slice va m vc] 47) := by
  go_enter Tryz.func51, Tryz.ntmps51
  go_wp2_with fail
  go_ret
  exact ⟨rfl, rfl⟩

set_option maxRecDepth 100000 in
set_option maxHeartbeats 2000000 in
theorem runs_bool_gives (n : Nat) (hn : 1 ≤ n) (Bs : Nat) (v : Value) (l : List Bool) (R : Nat → Prop) (w : World) (hv : SliceIs btc 1 w v l) (hB : w.heap[Bs]? = some (.cells #[v] 47 (0, 0))) (hRB : ¬ R Bs) (hRv : l ≠ [] → ∀ b o m c, v = .slice (some ⟨b, o, none⟩) m c → ¬ R b ∧ b < w.heap.size ∧ b ≠ Bs) :
    IterGivesS Tryz.prog n 74 #[.pointer (some ⟨Bs, 0, none⟩)] (fun x : Nat × Bool => #[.int .i64 x.1, .bool x.2]) R (· = Bs) (runsL l) w := by
  intro lb I W hl hb hI hY h0
  obtain ⟨va, vc, rfl, hcap, hmax, hcs⟩ := id hv
  unfold maxLen at hmax
  have hBl := (Array.getElem?_eq_some_iff.1 hB).1
  have HI := Lib.hid hI
  have HY := Lib.hid hY
  have HB0 : W.heap[Bs]? = some (.cells #[.slice va l.length vc] 47 (0, 0)) := (hb.block _ hBl).trans hB
  have hS0 : SliceIs btc 1 W (.slice va l.length vc) l := hv.below hb
  have HV : Hid (l ≠ [] → ∀ ad, va = some ad → ¬ R ad.block ∧ ad.block < w.heap.size ∧ ad.block ≠ Bs) := Lib.hid (fun hne ad e => by
    obtain ⟨b, o, e2, _⟩ := hcs hne
    rw [e] at e2
    cases e2
    exact hRv hne b o _ _ (by rw [e]))
  have HF : Hid (W.heap[Bs]? = some (.cells #[.slice va l.length vc] 47 (0, 0)) ∧ SliceIs btc 1 W (.slice va l.length vc) l ∧ I [] W) := Lib.hid ⟨HB0, hS0, h0⟩
  clear hv hcs hI hY hRv hB hS0 HB0 h0 hb
  refine callsIn_of_wp Tryz.func74 rfl trivial ?_ rfl
  simp only [Tryz.ntmps74, List.size_toArray, List.length_cons, List.length_nil, Nat.reduceAdd, Nat.reduceSub, Array.replicate_succ, Array.replicate_zero, List.push_toArray, List.append_toArray, List.nil_append, List.cons_append]
  refine wpIn_wide.2 ?_
  go_wp2_with fail
  go_loopg [3] l.length (fun g nv wr => ∃ (r : List Bool) (pre : List (Nat × Bool)) (ra : Option Addr) (rc : Nat), g = r.length ∧ r.length ≤ l.length ∧ r.length ≤ rc ∧ rc ≤ 2 ^ 63 - 1 ∧ Hid (runsL l = pre ++ runsL r) ∧ Hid (r ≠ [] → ∀ ad, ra = some ad → ¬ R ad.block ∧ ad.block < w.heap.size ∧ ad.block ≠ Bs) ∧ Hid (wr.heap[Bs]? = some (.cells #[.slice ra r.length rc] 47 (0, 0)) ∧ SliceIs btc 1 wr (.slice ra r.length rc) r ∧ I pre wr))
  case atStart => exact ⟨l, [], va, vc, rfl, Nat.le_refl _, hcap, hmax, Lib.hid rfl, HV, HF⟩
  case round =>
    clear HV HF hcap hmax
    obtain ⟨r, pre, ra, rc, hg, hrl, hcap, hmax, HP, HV, HF⟩ := hrel
    have HG := Lib.hid hg
    clear hg
    have b0 := cell_of_one HF.out.1
    by_cases hr0 : r.length = 0
    · obtain rfl : r = [] := List.eq_nil_of_length_eq_zero hr0
      have hr1 : ¬ (0 : Int) < 0 := by omega
      have HE : Hid (runsL l = pre) := Lib.hid (by rw [HP.out, runsL_nil, List.append_nil])
      go_wp2_with fail
      go_end0
      rw [HE.out]
      exact ⟨⟨_, rfl⟩, HF.out.2.2⟩
    · have hr1 : (0 : Int) < (r.length : Int) := by omega
      obtain ⟨x0, hx0⟩ : ∃ x, r[0]? = some x := ⟨_, List.getElem?_eq_getElem (by omega)⟩
      have HX0 := Lib.hid hx0
      have hrne : r ≠ [] := fun e => hr0 (by rw [e]; rfl)
      obtain ⟨bb, oo, rfl, -⟩ := HF.out.2.1.at1 hx0 rfl
      have HVB := Lib.hid (HV.out hrne _ rfl)
      have HRN := Lib.hid hrne
      clear hx0 hrne hr0
      go_wp2_with fail
      clear b0
      go_loopg [3] (r.length - 1) (fun g nv wx => ∃ k : Nat, g = r.length - k ∧ nv = .int .i64 k ∧ 1 ≤ k ∧ k ≤ r.length ∧ Hid (k ≤ leadN x0 r) ∧ Hid (wx.heap[Bs]? = some (.cells #[.slice (some ⟨bb, oo, none⟩) r.length rc] 47 (0, 0)) ∧ SliceIs btc 1 wx (.slice (some ⟨bb, oo, none⟩) r.length rc) r ∧ I pre wx))
      case atStart => exact ⟨1, rfl, rfl, Nat.le_refl _, by omega, Lib.hid (lead_head HX0.out), HF⟩
      case round =>
        clear HF
        obtain ⟨k, hg2, rfl, hk1, hkr, HC, HF⟩ := hrel
        have HG2 := Lib.hid hg2
        clear hg2
        have hB := HF.out.1
        have c1 : wr.cell? ⟨bb, oo, none⟩ = some (.bool x0) := by
          obtain ⟨_, _, e, c⟩ := HF.out.2.1.at1 HX0.out rfl
          cases e
          exact c
        have HF1 : Hid (wr.drew.heap[Bs]? = some (.cells #[.slice (some ⟨bb, oo, none⟩) r.length rc] 47 (0, 0)) ∧ SliceIs btc 1 wr.drew (.slice (some ⟨bb, oo, none⟩) r.length rc) r ∧ I pre wr.drew) := Lib.hid ⟨HF.out.1, HF.out.2.1, HI.out _ _ _ HF.out.2.2 (Ext.refl _ _).drew⟩
        have b0 := cell_of_one hB
        by_cases hk : k < r.length
        · have hki : (k : Int) < (r.length : Int) := by omega
          obtain ⟨x, hx⟩ : ∃ x, r[k]? = some x := ⟨_, List.getElem?_eq_getElem hk⟩
          have c0 : wr.cell? ⟨bb, oo + k, none⟩ = some (.bool x) := by
            obtain ⟨_, _, e, c⟩ := HF.out.2.1.at1 hx rfl
            cases e
            exact c
          have HX := Lib.hid (lead_go (x := x0) (l := r) (i := 0) (Nat.zero_le k) (by simpa using HC.out) hx)
          simp only [List.drop_zero, Nat.sub_zero] at HX
          go_upto_region 2 with fail
          have hS0 : (fun W : World => W.cell? ⟨Bs, 0, none⟩ = some (.slice (some ⟨bb, oo, none⟩) r.length rc) ∧ W.cell? ⟨bb, oo + k, none⟩ = some (.bool x) ∧ W.cell? ⟨bb, oo, none⟩ = some (.bool x0)) wr.drew := ⟨b0, c0, c1⟩
          clear b0 c0 c1 hB HF hx
          refine wp_region_s (fun W : World => W.cell? ⟨Bs, 0, none⟩ = some (.slice (some ⟨bb, oo, none⟩) r.length rc) ∧ W.cell? ⟨bb, oo + k, none⟩ = some (.bool x) ∧ W.cell? ⟨bb, oo, none⟩ = some (.bool x0)) (fun _ => false) (by kernel_rfl) ?_
          generalize wr.drew = W1 at hS0 HF1 ⊢
          refine wpAnyS_take (i := 0) (d := some 7) rfl rfl rfl (by kernel_rfl) (by kernel_rfl) (by kernel_rfl) (by kernel_rfl) (fun _ _ _ h => h) (.inl ⟨by rfl, fun W hW => by obtain ⟨q0, q1, q2⟩ := hW; go_simp; try rfl⟩) hS0 ?_
          try simp only [Act.put, List.setIfInBounds_toArray, List.set_cons_zero, List.set_cons_succ]
          refine wpAnyS_take (i := 1) (d := some 8) (v := .slice (some ⟨bb, oo, none⟩) r.length rc) rfl rfl rfl (by kernel_rfl) (by kernel_rfl) (by kernel_rfl) (by kernel_rfl) (fun _ _ _ h => h) (.inl ⟨by rfl, fun W hW => by obtain ⟨q0, q1, q2⟩ := hW; go_simp; try rfl⟩) hS0 ?_
          try simp only [Act.put, List.setIfInBounds_toArray, List.set_cons_zero, List.set_cons_succ]
          refine wpAnyS_take (i := 2) (d := some 9) (v := .int .i64 r.length) rfl rfl rfl (by kernel_rfl) (by kernel_rfl) (by kernel_rfl) (by kernel_rfl) (fun _ _ _ h => h) (.inl ⟨by rfl, fun W hW => by obtain ⟨q0, q1, q2⟩ := hW; go_simp; try rfl⟩) hS0 ?_
          try simp only [Act.put, List.setIfInBounds_toArray, List.set_cons_zero, List.set_cons_succ]
          refine wpAnyS_take (i := 3) (d := some 10) (v := .bool true) rfl rfl rfl (by kernel_rfl) (by kernel_rfl) (by kernel_rfl) (by kernel_rfl) (fun _ _ _ h => h) (.inl ⟨by rfl, fun W hW => by obtain ⟨q0, q1, q2⟩ := hW; go_simp; try rfl⟩) hS0 ?_
          try simp only [Act.put, List.setIfInBounds_toArray, List.set_cons_zero, List.set_cons_succ]
          refine wpAnyS_take (i := 4) (d := some 11) (v := .bool true) rfl rfl rfl (by kernel_rfl) (by kernel_rfl) (by kernel_rfl) (by kernel_rfl) (fun _ _ _ h => h) (.inl ⟨by rfl, fun W hW => by obtain ⟨q0, q1, q2⟩ := hW; go_simp; try rfl⟩) hS0 ?_
          try simp only [Act.put, List.setIfInBounds_toArray, List.set_cons_zero, List.set_cons_succ]
          refine wpAnyS_take (i := 5) (d := some 12) (v := .slice (some ⟨bb, oo, none⟩) r.length rc) rfl rfl rfl (by kernel_rfl) (by kernel_rfl) (by kernel_rfl) (by kernel_rfl) (fun _ _ _ h => h) (.inl ⟨by rfl, fun W hW => by obtain ⟨q0, q1, q2⟩ := hW; go_simp; try rfl⟩) hS0 ?_
          try simp only [Act.put, List.setIfInBounds_toArray, List.set_cons_zero, List.set_cons_succ]
          refine wpAnyS_take (i := 6) (d := some 13) rfl rfl rfl (by kernel_rfl) (by kernel_rfl) (by kernel_rfl) (by kernel_rfl) (fun _ _ _ h => h) (.inl ⟨by rfl, fun W hW => by obtain ⟨q0, q1, q2⟩ := hW; go_simp; try rfl⟩) hS0 ?_
          try simp only [Act.put, List.setIfInBounds_toArray, List.set_cons_zero, List.set_cons_succ]
          refine wpAnyS_take (i := 7) (d := some 14) (v := .pointer (some ⟨bb, oo + k, none⟩)) rfl rfl rfl (by kernel_rfl) (by kernel_rfl) (by kernel_rfl) (by kernel_rfl) (fun _ _ _ h => h) (.inl ⟨by rfl, fun W hW => by obtain ⟨q0, q1, q2⟩ := hW; go_simp; try rfl⟩) hS0 ?_
          try simp only [Act.put, List.setIfInBounds_toArray, List.set_cons_zero, List.set_cons_succ]
          refine wpAnyS_take (i := 8) (d := some 15) (v := .bool x) rfl rfl rfl (by kernel_rfl) (by kernel_rfl) (by kernel_rfl) (by kernel_rfl) (fun _ _ _ h => h) (.inl ⟨by rfl, fun W hW => by obtain ⟨q0, q1, q2⟩ := hW; go_simp; try rfl⟩) hS0 ?_
          try simp only [Act.put, List.setIfInBounds_toArray, List.set_cons_zero, List.set_cons_succ]
          refine wpAnyS_take (i := 9) (d := some 16) (v := .slice (some ⟨bb, oo, none⟩) r.length rc) rfl rfl rfl (by kernel_rfl) (by kernel_rfl) (by kernel_rfl) (by kernel_rfl) (fun _ _ _ h => h) (.inl ⟨by rfl, fun W hW => by obtain ⟨q0, q1, q2⟩ := hW; go_simp; try rfl⟩) hS0 ?_
          try simp only [Act.put, List.setIfInBounds_toArray, List.set_cons_zero, List.set_cons_succ]
          refine wpAnyS_take (i := 10) (d := some 17) (v := .pointer (some ⟨bb, oo, none⟩)) rfl rfl rfl (by kernel_rfl) (by kernel_rfl) (by kernel_rfl) (by kernel_rfl) (fun _ _ _ h => h) (.inl ⟨by rfl, fun W hW => by obtain ⟨q0, q1, q2⟩ := hW; go_simp; try rfl⟩) hS0 ?_
          try simp only [Act.put, List.setIfInBounds_toArray, List.set_cons_zero, List.set_cons_succ]
          refine wpAnyS_take (i := 11) (d := some 18) (v := .bool x0) rfl rfl rfl (by kernel_rfl) (by kernel_rfl) (by kernel_rfl) (by kernel_rfl) (fun _ _ _ h => h) (.inl ⟨by rfl, fun W hW => by obtain ⟨q0, q1, q2⟩ := hW; go_simp; try rfl⟩) hS0 ?_
          try simp only [Act.put, List.setIfInBounds_toArray, List.set_cons_zero, List.set_cons_succ]
          by_cases hxx : x = x0
          · have hC2 := HX.out.1 hxx
            have hs1 : (x == x0) = true := by simpa using hxx
            have HC2 := Lib.hid hC2
            clear HX hC2 HC hxx
            refine wpAnyS_take (i := 12) (d := some 19) (v := .bool true) rfl rfl rfl (by kernel_rfl) (by kernel_rfl) (by kernel_rfl) (by kernel_rfl) (fun _ _ _ h => h) (.inl ⟨by rfl, fun W hW => by obtain ⟨q0, q1, q2⟩ := hW; go_simp; try rfl⟩) hS0 ?_
            try simp only [Act.put, List.setIfInBounds_toArray, List.set_cons_zero, List.set_cons_succ]
            refine wpAnyS_take (i := 13) (d := some 20) (v := .bool true) rfl rfl rfl (by kernel_rfl) (by kernel_rfl) (by kernel_rfl) (by kernel_rfl) (fun _ _ _ h => h) (.inl ⟨by rfl, fun W hW => by obtain ⟨q0, q1, q2⟩ := hW; go_simp; try rfl⟩) hS0 ?_
            try simp only [Act.put, List.setIfInBounds_toArray, List.set_cons_zero, List.set_cons_succ]
            refine wpAnyS_done (by kernel_rfl) ?_ _
            clear hS0
            go_wp2_with fail
            go_roundg (r.length - (k + 1))
            case measure => rw [HG2.out]; omega
            case rel => exact ⟨k + 1, rfl, by simp, by omega, by omega, HC2, HF1⟩
          · have HM := Lib.hid (HX.out.2 hxx)
            have hs1 : (x == x0) = false := by simpa using hxx
            clear HX HC hxx
            refine wpAnyS_take (i := 12) (d := some 19) (v := .bool false) rfl rfl rfl (by kernel_rfl) (by kernel_rfl) (by kernel_rfl) (by kernel_rfl) (fun _ _ _ h => h) (.inl ⟨by rfl, fun W hW => by obtain ⟨q0, q1, q2⟩ := hW; go_simp; try rfl⟩) hS0 ?_
            try simp only [Act.put, List.setIfInBounds_toArray, List.set_cons_zero, List.set_cons_succ]
            refine wpAnyS_take (i := 13) (d := some 20) (v := .bool false) rfl rfl rfl (by kernel_rfl) (by kernel_rfl) (by kernel_rfl) (by kernel_rfl) (fun _ _ _ h => h) (.inl ⟨by rfl, fun W hW => by obtain ⟨q0, q1, q2⟩ := hW; go_simp; try rfl⟩) hS0 ?_
            try simp only [Act.put, List.setIfInBounds_toArray, List.set_cons_zero, List.set_cons_succ]
            refine wpAnyS_done (by kernel_rfl) ?_ _
            clear hS0
            have HRL := runsL_step HX0.out
            rw [← HM.out] at HRL
            have HP2 : Hid (runsL l = (pre ++ [(k, x0)]) ++ runsL (r.drop k)) := Lib.hid (by rw [HP.out, HRL]; simp)
            have hpx : pre ++ [(k, x0)] <+: runsL l := ⟨_, HP2.out.symm⟩
            obtain ⟨fn, tmps, assign, body, hy, hR⟩ := HY.out pre (k, x0) W1 HF1.out.2.2 hpx
            dsimp only at hy
            have b1 := cell_of_one HF1.out.1
            have c1 : W1.cell? ⟨bb, oo, none⟩ = some (.bool x0) := by
              obtain ⟨_, _, e, c⟩ := HF1.out.2.1.at1 HX0.out rfl
              cases e
              exact c
            obtain ⟨a2, c2, hsl, hS2, hA2⟩ := slice_from (P := Tryz.prog) (ea := btc) Tryz.underlying47 size_bool (some ⟨bb, oo, none⟩) r.length rc k hcap hkr
            have HSL := Lib.hid hsl
            have HS2 := Lib.hid hS2
            have HA2 := Lib.hid hA2
            have HCP : Hid (r.length - k ≤ c2 ∧ c2 ≤ 2 ^ 63 - 1) := Lib.hid (by
              obtain ⟨a3, c3, e3, h3, h4, -⟩ := hS2 W1 r rfl HF1.out.2.1
              have e6 : c2 = c3 := by injection e3
              rw [e6]
              rw [List.length_drop] at h3
              unfold maxLen at h4
              exact ⟨h3, h4⟩)
            clear hsl hS2 hA2 HRL hpx
            go_upto_region 4 with fail
            refine (wpIn_wide (n := n)).1 ?_
            gi_wp2
            refine hR.mono ?_
            rintro e W3 ⟨rfl, hI3, hx3⟩
            have hBs : ¬ (Bs = lb ∨ R Bs) := fun h => by
              rcases h with h | h
              · omega
              · exact hRB h
            have hbb : ¬ (bb = lb ∨ R bb) := fun h => by
              have h5 := HVB.out
              rcases h with h | h
              · omega
              · exact h5.1 h
            have hB3 : W3.heap[Bs]? = some (.cells #[.slice (some ⟨bb, oo, none⟩) r.length rc] 47 (0, 0)) := (hx3.block _ (Array.getElem?_eq_some_iff.1 HF1.out.1).1 hBs).trans HF1.out.1
            have hS3 : SliceIs btc 1 W3 (.slice (some ⟨bb, oo, none⟩) r.length rc) r := HF1.out.2.1.of1 (fun o u h => hx3.keep h hbb)
            have HF4 : Hid ((W3.setCell ⟨Bs, 0, none⟩ (.slice a2 (r.length - k) c2)).heap[Bs]? = some (.cells #[.slice a2 (r.drop k).length c2] 47 (0, 0)) ∧ SliceIs btc 1 (W3.setCell ⟨Bs, 0, none⟩ (.slice a2 (r.length - k) c2)) (.slice a2 (r.drop k).length c2) (r.drop k) ∧ I (pre ++ [(k, x0)]) (W3.setCell ⟨Bs, 0, none⟩ (.slice a2 (r.length - k) c2))) := Lib.hid (by
              have hBsz := (Array.getElem?_eq_some_iff.1 hB3).1
              have hXS := (Ext.refl (· = Bs) W3).setCell (p := ⟨Bs, 0, none⟩) (.inr rfl) (.slice a2 (r.length - k) c2)
              have hS4 := hS3.of1 (fun o u h => hXS.keep h (fun e => HVB.out.2.2 e))
              rw [List.length_drop]
              refine ⟨?_, HS2.out _ r rfl hS4, HI.out _ _ _ hI3 hXS⟩
              rw [one_setCell hB3])
            have b3 := cell_of_one hB3
            have f3 := free_of_one hB3
            have HV4 : Hid (r.drop k ≠ [] → ∀ ad, a2 = some ad → ¬ R ad.block ∧ ad.block < w.heap.size ∧ ad.block ≠ Bs) := Lib.hid (fun _ ad e => by
              obtain ⟨ad0, e0, e1⟩ := HA2.out ad e
              cases e0
              rw [e1]
              exact HVB.out)
            have hsl3 := HSL.out
            clear hB3 hS3 hI3 hx3 hBs hbb HF1 b1 c1 hy hR HS2 HA2 HSL
            gi_wp2
            go_wp2_with fail
            generalize W3.setCell ⟨Bs, 0, none⟩ (.slice a2 (r.length - k) c2) = W4 at HF4 ⊢
            go_roundg (r.drop k).length
            case measure => rw [HG.out, List.length_drop]; omega
            case rel => exact ⟨r.drop k, pre ++ [(k, x0)], a2, c2, rfl, by rw [List.length_drop]; omega, by rw [List.length_drop]; exact HCP.out.1, HCP.out.2, HP2, HV4, HF4⟩
        · have hkk : k = r.length := by omega
          have hki : ¬ (k : Int) < (r.length : Int) := by omega
          have HM : Hid (k = leadN x0 r) := Lib.hid (by have h1 := lead_end (x := x0) (l := r) (i := 0) (Nat.zero_le _) (by simpa [hkk] using HC.out); rw [hkk]; simpa using h1)
          clear HC hkk hk
          go_upto_region 2 with fail
          have hS0 : (fun W : World => W.cell? ⟨Bs, 0, none⟩ = some (.slice (some ⟨bb, oo, none⟩) r.length rc) ∧ True ∧ True) wr.drew := ⟨b0, trivial, trivial⟩
          clear b0 c1 hB HF
          refine wp_region_s (fun W : World => W.cell? ⟨Bs, 0, none⟩ = some (.slice (some ⟨bb, oo, none⟩) r.length rc) ∧ True ∧ True) (fun _ => false) (by kernel_rfl) ?_
          generalize wr.drew = W1 at hS0 HF1 ⊢
          refine wpAnyS_take (i := 0) (d := some 7) rfl rfl rfl (by kernel_rfl) (by kernel_rfl) (by kernel_rfl) (by kernel_rfl) (fun _ _ _ h => h) (.inl ⟨by rfl, fun W hW => by obtain ⟨q0, q1, q2⟩ := hW; go_simp; try rfl⟩) hS0 ?_
          try simp only [Act.put, List.setIfInBounds_toArray, List.set_cons_zero, List.set_cons_succ]
          refine wpAnyS_take (i := 1) (d := some 8) (v := .slice (some ⟨bb, oo, none⟩) r.length rc) rfl rfl rfl (by kernel_rfl) (by kernel_rfl) (by kernel_rfl) (by kernel_rfl) (fun _ _ _ h => h) (.inl ⟨by rfl, fun W hW => by obtain ⟨q0, q1, q2⟩ := hW; go_simp; try rfl⟩) hS0 ?_
          try simp only [Act.put, List.setIfInBounds_toArray, List.set_cons_zero, List.set_cons_succ]
          refine wpAnyS_take (i := 2) (d := some 9) (v := .int .i64 r.length) rfl rfl rfl (by kernel_rfl) (by kernel_rfl) (by kernel_rfl) (by kernel_rfl) (fun _ _ _ h => h) (.inl ⟨by rfl, fun W hW => by obtain ⟨q0, q1, q2⟩ := hW; go_simp; try rfl⟩) hS0 ?_
          try simp only [Act.put, List.setIfInBounds_toArray, List.set_cons_zero, List.set_cons_succ]
          refine wpAnyS_take (i := 3) (d := some 10) (v := .bool false) rfl rfl rfl (by kernel_rfl) (by kernel_rfl) (by kernel_rfl) (by kernel_rfl) (fun _ _ _ h => h) (.inl ⟨by rfl, fun W hW => by obtain ⟨q0, q1, q2⟩ := hW; go_simp; try rfl⟩) hS0 ?_
          try simp only [Act.put, List.setIfInBounds_toArray, List.set_cons_zero, List.set_cons_succ]
          refine wpAnyS_take (i := 4) (d := some 11) (v := .bool false) rfl rfl rfl (by kernel_rfl) (by kernel_rfl) (by kernel_rfl) (by kernel_rfl) (fun _ _ _ h => h) (.inl ⟨by rfl, fun W hW => by obtain ⟨q0, q1, q2⟩ := hW; go_simp; try rfl⟩) hS0 ?_
          try simp only [Act.put, List.setIfInBounds_toArray, List.set_cons_zero, List.set_cons_succ]
          refine wpAnyS_take (i := 5) (d := some 12) (v := undef) rfl rfl rfl (by kernel_rfl) (by kernel_rfl) (by kernel_rfl) (by kernel_rfl) (fun _ _ _ h => h) (.inr ⟨by rfl, rfl⟩) hS0 ?_
          try simp only [Act.put, List.setIfInBounds_toArray, List.set_cons_zero, List.set_cons_succ]
          refine wpAnyS_take (i := 6) (d := some 13) (v := undef) rfl rfl rfl (by kernel_rfl) (by kernel_rfl) (by kernel_rfl) (by kernel_rfl) (fun _ _ _ h => h) (.inr ⟨by rfl, rfl⟩) hS0 ?_
          try simp only [Act.put, List.setIfInBounds_toArray, List.set_cons_zero, List.set_cons_succ]
          refine wpAnyS_take (i := 7) (d := some 14) (v := undef) rfl rfl rfl (by kernel_rfl) (by kernel_rfl) (by kernel_rfl) (by kernel_rfl) (fun _ _ _ h => h) (.inr ⟨by rfl, rfl⟩) hS0 ?_
          try simp only [Act.put, List.setIfInBounds_toArray, List.set_cons_zero, List.set_cons_succ]
          refine wpAnyS_take (i := 8) (d := some 15) (v := undef) rfl rfl rfl (by kernel_rfl) (by kernel_rfl) (by kernel_rfl) (by kernel_rfl) (fun _ _ _ h => h) (.inr ⟨by rfl, rfl⟩) hS0 ?_
          try simp only [Act.put, List.setIfInBounds_toArray, List.set_cons_zero, List.set_cons_succ]
          refine wpAnyS_take (i := 9) (d := some 16) (v := undef) rfl rfl rfl (by kernel_rfl) (by kernel_rfl) (by kernel_rfl) (by kernel_rfl) (fun _ _ _ h => h) (.inr ⟨by rfl, rfl⟩) hS0 ?_
          try simp only [Act.put, List.setIfInBounds_toArray, List.set_cons_zero, List.set_cons_succ]
          refine wpAnyS_take (i := 10) (d := some 17) (v := undef) rfl rfl rfl (by kernel_rfl) (by kernel_rfl) (by kernel_rfl) (by kernel_rfl) (fun _ _ _ h => h) (.inr ⟨by rfl, rfl⟩) hS0 ?_
          try simp only [Act.put, List.setIfInBounds_toArray, List.set_cons_zero, List.set_cons_succ]
          refine wpAnyS_take (i := 11) (d := some 18) (v := undef) rfl rfl rfl (by kernel_rfl) (by kernel_rfl) (by kernel_rfl) (by kernel_rfl) (fun _ _ _ h => h) (.inr ⟨by rfl, rfl⟩) hS0 ?_
          try simp only [Act.put, List.setIfInBounds_toArray, List.set_cons_zero, List.set_cons_succ]
          refine wpAnyS_take (i := 12) (d := some 19) (v := undef) rfl rfl rfl (by kernel_rfl) (by kernel_rfl) (by kernel_rfl) (by kernel_rfl) (fun _ _ _ h => h) (.inr ⟨by rfl, rfl⟩) hS0 ?_
          try simp only [Act.put, List.setIfInBounds_toArray, List.set_cons_zero, List.set_cons_succ]
          refine wpAnyS_take (i := 13) (d := some 20) (v := .bool false) rfl rfl rfl (by kernel_rfl) (by kernel_rfl) (by kernel_rfl) (by kernel_rfl) (fun _ _ _ h => h) (.inl ⟨by rfl, fun W hW => by obtain ⟨q0, q1, q2⟩ := hW; go_simp; try rfl⟩) hS0 ?_
          try simp only [Act.put, List.setIfInBounds_toArray, List.set_cons_zero, List.set_cons_succ]
          refine wpAnyS_done (by kernel_rfl) ?_ _
          clear hS0
          have HRL := runsL_step HX0.out
          rw [← HM.out] at HRL
          have HP2 : Hid (runsL l = (pre ++ [(k, x0)]) ++ runsL (r.drop k)) := Lib.hid (by rw [HP.out, HRL]; simp)
          have hpx : pre ++ [(k, x0)] <+: runsL l := ⟨_, HP2.out.symm⟩
          obtain ⟨fn, tmps, assign, body, hy, hR⟩ := HY.out pre (k, x0) W1 HF1.out.2.2 hpx
          dsimp only at hy
          have b1 := cell_of_one HF1.out.1
          have c1 : W1.cell? ⟨bb, oo, none⟩ = some (.bool x0) := by
            obtain ⟨_, _, e, c⟩ := HF1.out.2.1.at1 HX0.out rfl
            cases e
            exact c
          obtain ⟨a2, c2, hsl, hS2, hA2⟩ := slice_from (P := Tryz.prog) (ea := btc) Tryz.underlying47 size_bool (some ⟨bb, oo, none⟩) r.length rc k hcap hkr
          have HSL := Lib.hid hsl
          have HS2 := Lib.hid hS2
          have HA2 := Lib.hid hA2
          have HCP : Hid (r.length - k ≤ c2 ∧ c2 ≤ 2 ^ 63 - 1) := Lib.hid (by
            obtain ⟨a3, c3, e3, h3, h4, -⟩ := hS2 W1 r rfl HF1.out.2.1
            have e6 : c2 = c3 := by injection e3
            rw [e6]
            rw [List.length_drop] at h3
            unfold maxLen at h4
            exact ⟨h3, h4⟩)
          clear hsl hS2 hA2 HRL hpx
          go_upto_region 4 with fail
          refine (wpIn_wide (n := n)).1 ?_
          gi_wp2
          refine hR.mono ?_
          rintro e W3 ⟨rfl, hI3, hx3⟩
          have hBs : ¬ (Bs = lb ∨ R Bs) := fun h => by
            rcases h with h | h
            · omega
            · exact hRB h
          have hbb : ¬ (bb = lb ∨ R bb) := fun h => by
            have h5 := HVB.out
            rcases h with h | h
            · omega
            · exact h5.1 h
          have hB3 : W3.heap[Bs]? = some (.cells #[.slice (some ⟨bb, oo, none⟩) r.length rc] 47 (0, 0)) := (hx3.block _ (Array.getElem?_eq_some_iff.1 HF1.out.1).1 hBs).trans HF1.out.1
          have hS3 : SliceIs btc 1 W3 (.slice (some ⟨bb, oo, none⟩) r.length rc) r := HF1.out.2.1.of1 (fun o u h => hx3.keep h hbb)
          have HF4 : Hid ((W3.setCell ⟨Bs, 0, none⟩ (.slice a2 (r.length - k) c2)).heap[Bs]? = some (.cells #[.slice a2 (r.drop k).length c2] 47 (0, 0)) ∧ SliceIs btc 1 (W3.setCell ⟨Bs, 0, none⟩ (.slice a2 (r.length - k) c2)) (.slice a2 (r.drop k).length c2) (r.drop k) ∧ I (pre ++ [(k, x0)]) (W3.setCell ⟨Bs, 0, none⟩ (.slice a2 (r.length - k) c2))) := Lib.hid (by
            have hBsz := (Array.getElem?_eq_some_iff.1 hB3).1
            have hXS := (Ext.refl (· = Bs) W3).setCell (p := ⟨Bs, 0, none⟩) (.inr rfl) (.slice a2 (r.length - k) c2)
            have hS4 := hS3.of1 (fun o u h => hXS.keep h (fun e => HVB.out.2.2 e))
            rw [List.length_drop]
            refine ⟨?_, HS2.out _ r rfl hS4, HI.out _ _ _ hI3 hXS⟩
            rw [one_setCell hB3])
          have b3 := cell_of_one hB3
          have f3 := free_of_one hB3
          have HV4 : Hid (r.drop k ≠ [] → ∀ ad, a2 = some ad → ¬ R ad.block ∧ ad.block < w.heap.size ∧ ad.block ≠ Bs) := Lib.hid (fun _ ad e => by
            obtain ⟨ad0, e0, e1⟩ := HA2.out ad e
            cases e0
            rw [e1]
            exact HVB.out)
          have hsl3 := HSL.out
          clear hB3 hS3 hI3 hx3 hBs hbb HF1 b1 c1 hy hR HS2 HA2 HSL
          gi_wp2
          go_wp2_with fail
          generalize W3.setCell ⟨Bs, 0, none⟩ (.slice a2 (r.length - k) c2) = W4 at HF4 ⊢
          go_roundg (r.drop k).length
          case measure => rw [HG.out, List.length_drop]; omega
          case rel => exact ⟨r.drop k, pre ++ [(k, x0)], a2, c2, rfl, by rw [List.length_drop]; omega, by rw [List.length_drop]; exact HCP.out.1, HCP.out.2, HP2, HV4, HF4⟩

end Go.Proofs.YtdlnokbeadkdfaaGreatDoor
