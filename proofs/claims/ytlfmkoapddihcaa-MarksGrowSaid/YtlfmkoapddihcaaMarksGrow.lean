/- The law MarksGrow: an element that is put in right behind the last one that a mark was asked for has the mark just if that is to grow, and one that is not gone stands behind. -/
import Derived.Test.YtlfmkoapddihcaaGrowP17
import Derived.Test.YtlfmkoapddihcaaRStyle17
import Derived.Test.YtlfmkoapddihcaaTwo17
import Derived.Test.YtlfmkoapddihcaaOrderP17
import Derived.Test.YtlfmkoapddihcaaSized17
import Derived.Test.YtlfmkoapddihcaaAlive17
import Derived.Test.YtlfmkoapddihcaaAppend
import Derived.Test.YtlfmkoapddihcaaHand
import Derived.Test.YtlfmkoapddihcaaRows
import Derived.IntWalk
import Derived.BigQuiet
import Derived.Deep.QuietTactic
import Derived.Deep.RegionHeld3
import Derived.Deep.CutBlock
import Derived.Deep.DeepCutAuto
import Derived.ProofKit
import Derived.OpenShut
import Derived.ShutString
import Derived.ChangeOld
import Derived.Below
namespace Go.Proofs.Ytlfmkoapddihcaa
open Go.ChangeShapes Go.WideShapes Go.ChangeAt Go.RowKit Go.Deep
set_option linter.unusedSimpArgs false
set_option linter.unusedVariables false

def freshE : El := ⟨⟨1048576, 6⟩, 97, false⟩
theorem ancP_true {ids : List St} {f t : Int} {g : Bool} (h : (ancP ids f t g).2.2 = true) : 0 ≤ f ∧ f < t ∧ t ≤ ids.length := by
  by_cases hb : f < 0 ∨ t ≤ f ∨ (ids.length : Int) < t
  · rw [ancP_bad hb] at h; cases h
  · omega
theorem and_no {a b : Bool} (h : ¬ (a = true ∧ b = true)) : (a && b) = false := by cases a <;> cases b <;> simp_all
/-- The mark that is put there. -/
def growOp (an ar bn br : Int) (aa ba : Bool) : OpD := ⟨⟨1, 0⟩, 0, 0, 0, 0, 0, 0, 0, 0, 0, ⟨0, 0⟩, 0, 0, ⟨0, 0⟩, ⟨#[]⟩, ⟨#[111, 119, 110]⟩, ⟨#[121, 101, 115]⟩, ⟨an, ar⟩, aa, ⟨bn, br⟩, ba⟩

set_option maxRecDepth 100000 in
set_option maxHeartbeats 30000000 in
theorem marksGrow_walk (v0 : Value) (l : List El) (x : Rg) (w : World) (hl : SliceIs El.cells 4 w v0 l) (hln : l.length ≤ 4398046510976) :
    Calls Try.prog 7 #[v0, .agg #[.int .i64 x.lo, .int .i64 x.hi, .bool x.grow]] w fun e w' => e = .returned (.bool true) ∧ Below w.heap.size w w' := by
  obtain ⟨va, vc, rfl, hcap, hmax, _⟩ := id hl
  unfold maxLen at hmax
  have hB0 : Below w.heap.size w (w.alloc (.cells #[.int .i64 x.lo, .int .i64 x.hi, .bool x.grow] 42)) := (Below.refl _ _).alloc (Nat.le_refl _) _
  have hlW := hl.below hB0
  have hz0 : (w.alloc (.cells #[.int .i64 x.lo, .int .i64 x.hi, .bool x.grow] 42)).heap.size = w.heap.size + 1 := by simp
  go_enter Try.func7, Try.ntmps7
  go_wp2_with fail
  refine (anchors_any va vc l x.lo x.hi x.grow _ hlW hln).mono ?_
  rintro e w2 ⟨rfl, hb2⟩
  obtain ⟨A, hA⟩ : ∃ A, ancP ((shownL l).map (·.id)) x.lo x.hi x.grow = A := ⟨_, rfl⟩
  have HA := Lib.hid hA
  rw [hA]
  clear hA
  obtain ⟨⟨⟨an, ar⟩, aa⟩, ⟨⟨bn, br⟩, ba⟩, ok⟩ := A
  simp only [ancV]
  have x0 : w2.cell? ⟨w.heap.size, 0, none⟩ = some (.int .i64 x.lo) := keepB hb2 (by go_simp)
  have x1 : w2.cell? ⟨w.heap.size, 1, none⟩ = some (.int .i64 x.hi) := keepB hb2 (by go_simp)
  have x2 : w2.cell? ⟨w.heap.size, 2, none⟩ = some (.bool x.grow) := keepB hb2 (by go_simp)
  have hs2 : w.heap.size < w2.heap.size := by
    have := hb2.size
    omega
  have hB3 := ((hB0.trans (hb2.mono hB0.size)).alloc (by omega) (.cells #[.int .i64 an, .int .i64 ar, .bool aa] 37)).alloc (by simp; omega) (.cells #[.int .i64 bn, .int .i64 br, .bool ba] 37)
  have hb23 := ((Below.refl w2.heap.size w2).alloc (Nat.le_refl _) (.cells #[.int .i64 an, .int .i64 ar, .bool aa] 37)).alloc (by simp) (.cells #[.int .i64 bn, .int .i64 br, .bool ba] 37)
  have a0 : ((w2.alloc (.cells #[.int .i64 an, .int .i64 ar, .bool aa] 37)).alloc (.cells #[.int .i64 bn, .int .i64 br, .bool ba] 37)).cell? ⟨w2.heap.size, 0, none⟩ = some (.int .i64 an) := by go_simp
  have a1 : ((w2.alloc (.cells #[.int .i64 an, .int .i64 ar, .bool aa] 37)).alloc (.cells #[.int .i64 bn, .int .i64 br, .bool ba] 37)).cell? ⟨w2.heap.size, 1, none⟩ = some (.int .i64 ar) := by go_simp
  have a2 : ((w2.alloc (.cells #[.int .i64 an, .int .i64 ar, .bool aa] 37)).alloc (.cells #[.int .i64 bn, .int .i64 br, .bool ba] 37)).cell? ⟨w2.heap.size, 2, none⟩ = some (.bool aa) := by go_simp
  have b0 : ((w2.alloc (.cells #[.int .i64 an, .int .i64 ar, .bool aa] 37)).alloc (.cells #[.int .i64 bn, .int .i64 br, .bool ba] 37)).cell? ⟨w2.heap.size + 1, 0, none⟩ = some (.int .i64 bn) := by go_simp
  have b1 : ((w2.alloc (.cells #[.int .i64 an, .int .i64 ar, .bool aa] 37)).alloc (.cells #[.int .i64 bn, .int .i64 br, .bool ba] 37)).cell? ⟨w2.heap.size + 1, 1, none⟩ = some (.int .i64 br) := by go_simp
  have b2 : ((w2.alloc (.cells #[.int .i64 an, .int .i64 ar, .bool aa] 37)).alloc (.cells #[.int .i64 bn, .int .i64 br, .bool ba] 37)).cell? ⟨w2.heap.size + 1, 2, none⟩ = some (.bool ba) := by go_simp
  have hl3 := (hlW.below hb2).below hb23
  replace x0 := keepB hb23 x0
  replace x1 := keepB hb23 x1
  replace x2 := keepB hb23 x2
  clear hb2 hb23 hB0 hlW hl hz0
  go_upto_region 2 with fail
  generalize (w2.alloc (.cells #[.int .i64 an, .int .i64 ar, .bool aa] 37)).alloc (.cells #[.int .i64 bn, .int .i64 br, .bool ba] 37) = W3 at *
  generalize w2.heap.size = z2 at *
  have HB3 := Lib.hid hB3
  have HL3 := Lib.hid hl3
  clear hB3 hl3
  by_cases hlen : l.length ≤ 60
  · have hlen2 : (l.length : Int) ≤ 60 := by omega
    cases ok with
    | false =>
      go_wp2_with fail
      refine (alive_any _).mono ?_
      rintro e w5 ⟨rfl, b5⟩
      have hBB := HB3.out.trans (b5.mono HB3.out.size)
      clear b5
      go_wp2_with fail
      go_ret
      exact ⟨rfl, hBB⟩
    | true =>
      obtain ⟨t0, t1, t2⟩ := ancP_true (show (ancP ((shownL l).map (·.id)) x.lo x.hi x.grow).2.2 = true by rw [HA.out])
      rw [List.length_map] at t2
      obtain ⟨fn, hfn⟩ : ∃ fn : Nat, x.lo = fn := ⟨x.lo.toNat, by omega⟩
      obtain ⟨tn, htn⟩ : ∃ tn : Nat, x.hi = (tn : Int) + 1 := ⟨x.hi.toNat - 1, by omega⟩
      rw [htn] at x1
      have hft : fn ≤ tn := by omega
      have htl : tn + 1 ≤ (shownL l).length := by omega
      have hsl : (shownL l).length ≤ 60 := Nat.le_trans (shownL_le l) hlen
      clear t0 t1 t2 x0
      have f0 : (W3.alloc (.cells #[.int .i64 1048576, .int .i64 6, .int .i64 97, .bool false] 48)).cell? ⟨W3.heap.size, 0, none⟩ = some (.int .i64 1048576) := by go_simp
      have f1 : (W3.alloc (.cells #[.int .i64 1048576, .int .i64 6, .int .i64 97, .bool false] 48)).cell? ⟨W3.heap.size, 1, none⟩ = some (.int .i64 6) := by go_simp
      have f2 : (W3.alloc (.cells #[.int .i64 1048576, .int .i64 6, .int .i64 97, .bool false] 48)).cell? ⟨W3.heap.size, 2, none⟩ = some (.int .i64 97) := by go_simp
      have f3 : (W3.alloc (.cells #[.int .i64 1048576, .int .i64 6, .int .i64 97, .bool false] 48)).cell? ⟨W3.heap.size, 3, none⟩ = some (.bool false) := by go_simp
      replace a0 := cell_alloc a0 (.cells #[.int .i64 1048576, .int .i64 6, .int .i64 97, .bool false] 48)
      replace a1 := cell_alloc a1 (.cells #[.int .i64 1048576, .int .i64 6, .int .i64 97, .bool false] 48)
      replace a2 := cell_alloc a2 (.cells #[.int .i64 1048576, .int .i64 6, .int .i64 97, .bool false] 48)
      replace b0 := cell_alloc b0 (.cells #[.int .i64 1048576, .int .i64 6, .int .i64 97, .bool false] 48)
      replace b1 := cell_alloc b1 (.cells #[.int .i64 1048576, .int .i64 6, .int .i64 97, .bool false] 48)
      replace b2 := cell_alloc b2 (.cells #[.int .i64 1048576, .int .i64 6, .int .i64 97, .bool false] 48)
      replace x1 := cell_alloc x1 (.cells #[.int .i64 1048576, .int .i64 6, .int .i64 97, .bool false] 48)
      replace x2 := cell_alloc x2 (.cells #[.int .i64 1048576, .int .i64 6, .int .i64 97, .bool false] 48)
      have HL4 := Lib.hid (HL3.out.below ((Below.refl W3.heap.size W3).alloc (Nat.le_refl _) (.cells #[.int .i64 1048576, .int .i64 6, .int .i64 97, .bool false] 48)))
      have HB4 := Lib.hid (HB3.out.alloc HB3.out.size (.cells #[.int .i64 1048576, .int .i64 6, .int .i64 97, .bool false] 48))
      go_upto_region 5 with fail
      generalize W3.alloc (.cells #[.int .i64 1048576, .int .i64 6, .int .i64 97, .bool false] 48) = W4 at *
      generalize W3.heap.size = z3 at *
      clear HB3 HL3
      go_wp2_with fail
      go_loopg [9] l.length (fun g iv wr => ∃ k : Nat, g = l.length - k ∧ k ≤ l.length ∧ iv = .int .i64 k ∧ Hid (∀ j y, j < k → l[j]? = some y → placeOf l y.id = some j ∧ freshE.id ≠ y.id) ∧ Below W4.heap.size W4 wr)
      case atStart => exact ⟨0, by omega, by omega, rfl, Lib.hid (fun j y hj => absurd hj (by omega)), Below.refl _ _⟩
      case round =>
        obtain ⟨k, hg, hk, rfl, hU, hB⟩ := hrel
        have HG := Lib.hid hg
        have HB := Lib.hid hB
        clear hg
        by_cases hkl : k < l.length
        · obtain ⟨y, hy⟩ : ∃ y, l[k]? = some y := ⟨_, List.getElem?_eq_getElem hkl⟩
          obtain ⟨_, _, e1, _, _, hh⟩ := HL4.out.below hB
          cases e1
          obtain ⟨b, o, rfl, hcc⟩ := hh (by intro e; rw [e] at hy; simp at hy)
          have y0 : wr.cell? ⟨b, o + k * 4, none⟩ = some (.int .i64 y.id.n) := hcc k y hy 0 _ rfl
          have y1 : wr.cell? ⟨b, o + k * 4 + 1, none⟩ = some (.int .i64 y.id.r) := hcc k y hy 1 _ rfl
          have g0 := keepB hB f0
          have g1 := keepB hB f1
          have hkk : (k : Int) < (l.length : Int) := by omega
          have hlr := HL4.out.below hB
          have HY := Lib.hid hy
          clear hcc hh hB hy
          go_upto_region 8 with fail
          by_cases hpl : placeI l y.id = (k : Int)
          · have hpo : placeOf l y.id = some k := by
              unfold placeI at hpl
              cases hp : placeOf l y.id with
              | none => rw [hp] at hpl; simp only at hpl; omega
              | some i => rw [hp] at hpl; simp only at hpl; have : i = k := by omega
                          rw [this]
            have hpc := place_any (some ⟨b, o, none⟩) vc l y.id wr.drew hlr.drew (by omega)
            rw [hpl] at hpc
            have HPO := Lib.hid hpo
            clear hpo hpl
            by_cases h1 : y.id.n = 1048576
            · by_cases h2 : y.id.r = 6
              · rw [h1] at y0 hpc
                rw [h2] at y1 hpc
                have HPC := Lib.hid hpc
                clear hpc
                go_region_held3 (fun W => W.cell? ⟨b, o + k * 4, none⟩ = some (.int .i64 1048576) ∧ W.cell? ⟨b, o + k * 4 + 1, none⟩ = some (.int .i64 6) ∧ W.cell? ⟨z3, 0, none⟩ = some (.int .i64 1048576) ∧ W.cell? ⟨z3, 1, none⟩ = some (.int .i64 6)) (first | exact ⟨y0, y1, g0, g1⟩ | exact ⟨keepB b5 y0, keepB b5 y1, keepB b5 g0, keepB b5 g1⟩) ((go_at_call 18; ((with_reducible refine (HPC.out).mono ?_); rintro e w5 ⟨rfl, b5⟩; simp only [heap_drew, below_drew] at b5)))
                all_goals
                  have hB5 := HB4.out.trans ((HB.out.trans (b5.mono HB.out.size)).mono HB4.out.size)
                  clear y0 y1 g0 g1 b5
                  go_wp2_with fail
                  refine (alive_any _).mono ?_
                  rintro e w6 ⟨rfl, b6⟩
                  have hB6 : Below w.heap.size w w6 := by first | exact hB5.trans (b6.mono hB5.size) | exact hB5.drew.trans (b6.mono hB5.drew.size)
                  clear b6 hB5
                  go_wp2_with fail
                  go_ret
                  exact ⟨rfl, hB6⟩
              · have HNE : Hid (freshE.id ≠ y.id) := Lib.hid (fun e => h2 (by rw [← e]; rfl))
                rw [h1] at y0 hpc
                have HPC := Lib.hid hpc
                clear hpc
                go_region_held3 (fun W => W.cell? ⟨b, o + k * 4, none⟩ = some (.int .i64 1048576) ∧ W.cell? ⟨b, o + k * 4 + 1, none⟩ = some (.int .i64 y.id.r) ∧ W.cell? ⟨z3, 0, none⟩ = some (.int .i64 1048576) ∧ W.cell? ⟨z3, 1, none⟩ = some (.int .i64 6)) (first | exact ⟨y0, y1, g0, g1⟩ | exact ⟨keepB b5 y0, keepB b5 y1, keepB b5 g0, keepB b5 g1⟩) ((go_at_call 18; ((with_reducible refine (HPC.out).mono ?_); rintro e w5 ⟨rfl, b5⟩; simp only [heap_drew, below_drew] at b5)))
                all_goals
                  have hB5 := HB.out.trans (b5.mono HB.out.size)
                  clear y0 y1 g0 g1 b5
                  go_wp2_with fail
                  go_roundg (l.length - (k + 1))
                  case measure => rw [HG.out]; omega
                  case rel => exact ⟨k + 1, rfl, by omega, by simp, Lib.hid (fun j z hj hz => by
                    by_cases hjk : j < k
                    · exact hU.out j z hjk hz
                    · obtain rfl : j = k := by omega
                      rw [HY.out] at hz; cases hz; exact ⟨HPO.out, HNE.out⟩), by first | exact hB5 | exact hB5.drew⟩
            · have HNE : Hid (freshE.id ≠ y.id) := Lib.hid (fun e => h1 (by rw [← e]; rfl))
              have HPC := Lib.hid hpc
              clear hpc
              go_region_held3 (fun W => W.cell? ⟨b, o + k * 4, none⟩ = some (.int .i64 y.id.n) ∧ W.cell? ⟨b, o + k * 4 + 1, none⟩ = some (.int .i64 y.id.r) ∧ W.cell? ⟨z3, 0, none⟩ = some (.int .i64 1048576) ∧ W.cell? ⟨z3, 1, none⟩ = some (.int .i64 6)) (first | exact ⟨y0, y1, g0, g1⟩ | exact ⟨keepB b5 y0, keepB b5 y1, keepB b5 g0, keepB b5 g1⟩) ((go_at_call 18; ((with_reducible refine (HPC.out).mono ?_); rintro e w5 ⟨rfl, b5⟩; simp only [heap_drew, below_drew] at b5)))
              all_goals
                have hB5 := HB.out.trans (b5.mono HB.out.size)
                clear y0 y1 g0 g1 b5
                go_wp2_with fail
                go_roundg (l.length - (k + 1))
                case measure => rw [HG.out]; omega
                case rel => exact ⟨k + 1, rfl, by omega, by simp, Lib.hid (fun j z hj hz => by
                  by_cases hjk : j < k
                  · exact hU.out j z hjk hz
                  · obtain rfl : j = k := by omega
                    rw [HY.out] at hz; cases hz; exact ⟨HPO.out, HNE.out⟩), by first | exact hB5 | exact hB5.drew⟩
          · have hpc := place_any (some ⟨b, o, none⟩) vc l y.id wr.drew hlr.drew (by omega)
            have hpb : -1 ≤ placeI l y.id ∧ placeI l y.id ≤ 60 := by
              unfold placeI
              cases hp : placeOf l y.id with
              | none => simp
              | some i => have := placeOf_lt hp; simp; omega
            generalize placeI l y.id = pz at *
            have HPC := Lib.hid hpc
            clear hpc
            have hpn : (pz != (k : Int)) = true := by simpa using hpl
            have hS0 : (fun W => W.cell? ⟨b, o + k * 4, none⟩ = some (.int .i64 y.id.n) ∧ W.cell? ⟨b, o + k * 4 + 1, none⟩ = some (.int .i64 y.id.r)) wr.drew := ⟨y0, y1⟩
            refine wp_region_held_drew (S := (fun W => W.cell? ⟨b, o + k * 4, none⟩ = some (.int .i64 y.id.n) ∧ W.cell? ⟨b, o + k * 4 + 1, none⟩ = some (.int .i64 y.id.r))) (by kernel_rfl) hS0 (fun _ => ?_)
            try simp only [Act.put, List.setIfInBounds_toArray, List.set_cons_zero, List.set_cons_succ]
            refine held_take (i := 0) (d := some 44) rfl rfl (by kernel_rfl) (by kernel_rfl) (by kernel_rfl) (fun _ _ _ h => h) (.inl ⟨by rfl, fun W hW => by go_simp; rfl⟩) hS0 ?_
            try simp only [Act.put, List.setIfInBounds_toArray, List.set_cons_zero, List.set_cons_succ]
            refine held_take (i := 1) (d := some 45) rfl rfl (by kernel_rfl) (by kernel_rfl) (by kernel_rfl) (fun _ _ _ h => h) (.inl ⟨by rfl, fun W hW => by go_simp; rfl⟩) hS0 ?_
            try simp only [Act.put, List.setIfInBounds_toArray, List.set_cons_zero, List.set_cons_succ]
            refine held_take (i := 2) (d := some 46) rfl rfl (by kernel_rfl) (by kernel_rfl) (by kernel_rfl) (fun _ _ _ h => h) (.inl ⟨by rfl, fun W hW => by go_simp; rfl⟩) hS0 ?_
            try simp only [Act.put, List.setIfInBounds_toArray, List.set_cons_zero, List.set_cons_succ]
            refine held_take (i := 3) (d := some 47) rfl rfl (by kernel_rfl) (by kernel_rfl) (by kernel_rfl) (fun _ _ _ h => h) (.inl ⟨by rfl, fun W hW => by go_simp; rfl⟩) hS0 ?_
            try simp only [Act.put, List.setIfInBounds_toArray, List.set_cons_zero, List.set_cons_succ]
            refine held_take (i := 4) (d := some 48) rfl rfl (by kernel_rfl) (by kernel_rfl) (by kernel_rfl) (fun _ _ _ h => h) (.inl ⟨by rfl, fun W hW => by go_simp; rfl⟩) hS0 ?_
            try simp only [Act.put, List.setIfInBounds_toArray, List.set_cons_zero, List.set_cons_succ]
            refine held_take (i := 5) (d := some 49) rfl rfl (by kernel_rfl) (by kernel_rfl) (by kernel_rfl) (fun _ _ _ h => h) (.inl ⟨by rfl, fun W hW => by obtain ⟨q0, q1⟩ := hW; go_simp; rfl⟩) hS0 ?_
            try simp only [Act.put, List.setIfInBounds_toArray, List.set_cons_zero, List.set_cons_succ]
            refine held_take (i := 7) (d := some 51) rfl rfl (by kernel_rfl) (by kernel_rfl) (by kernel_rfl) (fun _ _ _ h => h) (.inl ⟨by rfl, fun W hW => by go_simp; rfl⟩) hS0 ?_
            try simp only [Act.put, List.setIfInBounds_toArray, List.set_cons_zero, List.set_cons_succ]
            refine held_call (i := 6) (d := some 50) (by kernel_rfl) rfl rfl (by rfl) (by go_simp; first | rfl | exact ⟨rfl, rfl⟩ | exact ⟨⟨rfl, rfl⟩, rfl⟩) ?_
            refine (HPC.out).mono ?_
            rintro e w5 ⟨rfl, b5⟩
            simp only [heap_drew, below_drew] at b5
            have hS5 : (fun W => W.cell? ⟨b, o + k * 4, none⟩ = some (.int .i64 y.id.n) ∧ W.cell? ⟨b, o + k * 4 + 1, none⟩ = some (.int .i64 y.id.r)) w5 := ⟨keepB b5 y0, keepB b5 y1⟩
            refine ⟨_, rfl, hS5, ?_⟩
            try simp only [Act.put, List.setIfInBounds_toArray, List.set_cons_zero, List.set_cons_succ]
            refine held_take (i := 8) (d := some 52) (v := .bool true) rfl rfl (by kernel_rfl) (by kernel_rfl) (by kernel_rfl) (fun _ _ _ h => h) (.inl ⟨by rfl, fun W hW => by first | (go_simp; done) | (go_simp; rfl)⟩) hS5 ?_
            try simp only [Act.put, List.setIfInBounds_toArray, List.set_cons_zero, List.set_cons_succ]
            refine held_take (i := 9) (d := some 53) rfl rfl (by kernel_rfl) (by kernel_rfl) (by kernel_rfl) (fun _ _ _ h => h) (.inl ⟨by rfl, fun W hW => by first | (go_simp; done) | (go_simp; rfl)⟩) hS5 ?_
            try simp only [Act.put, List.setIfInBounds_toArray, List.set_cons_zero, List.set_cons_succ]
            refine held_take (i := 10) (d := some 54) (v := undef) rfl rfl (by kernel_rfl) (by kernel_rfl) (by kernel_rfl) (fun _ _ _ h => h) (.inr ⟨by rfl, rfl⟩) hS5 ?_
            try simp only [Act.put, List.setIfInBounds_toArray, List.set_cons_zero, List.set_cons_succ]
            refine held_take (i := 11) (d := some 55) (v := undef) rfl rfl (by kernel_rfl) (by kernel_rfl) (by kernel_rfl) (fun _ _ _ h => h) (.inr ⟨by rfl, rfl⟩) hS5 ?_
            try simp only [Act.put, List.setIfInBounds_toArray, List.set_cons_zero, List.set_cons_succ]
            refine held_take (i := 12) (d := some 56) (v := undef) rfl rfl (by kernel_rfl) (by kernel_rfl) (by kernel_rfl) (fun _ _ _ h => h) (.inr ⟨by rfl, rfl⟩) hS5 ?_
            try simp only [Act.put, List.setIfInBounds_toArray, List.set_cons_zero, List.set_cons_succ]
            refine held_take (i := 13) (d := some 57) (v := undef) rfl rfl (by kernel_rfl) (by kernel_rfl) (by kernel_rfl) (fun _ _ _ h => h) (.inr ⟨by rfl, rfl⟩) hS5 ?_
            try simp only [Act.put, List.setIfInBounds_toArray, List.set_cons_zero, List.set_cons_succ]
            refine held_take (i := 14) (d := some 58) (v := undef) rfl rfl (by kernel_rfl) (by kernel_rfl) (by kernel_rfl) (fun _ _ _ h => h) (.inr ⟨by rfl, rfl⟩) hS5 ?_
            try simp only [Act.put, List.setIfInBounds_toArray, List.set_cons_zero, List.set_cons_succ]
            refine held_take (i := 15) (d := some 59) (v := undef) rfl rfl (by kernel_rfl) (by kernel_rfl) (by kernel_rfl) (fun _ _ _ h => h) (.inr ⟨by rfl, rfl⟩) hS5 ?_
            try simp only [Act.put, List.setIfInBounds_toArray, List.set_cons_zero, List.set_cons_succ]
            refine held_take (i := 16) (d := some 60) (v := undef) rfl rfl (by kernel_rfl) (by kernel_rfl) (by kernel_rfl) (fun _ _ _ h => h) (.inr ⟨by rfl, rfl⟩) hS5 ?_
            try simp only [Act.put, List.setIfInBounds_toArray, List.set_cons_zero, List.set_cons_succ]
            refine held_take (i := 17) (d := some 61) (v := undef) rfl rfl (by kernel_rfl) (by kernel_rfl) (by kernel_rfl) (fun _ _ _ h => h) (.inr ⟨by rfl, rfl⟩) hS5 ?_
            try simp only [Act.put, List.setIfInBounds_toArray, List.set_cons_zero, List.set_cons_succ]
            refine held_take (i := 18) (d := some 62) (v := .bool true) rfl rfl (by kernel_rfl) (by kernel_rfl) (by kernel_rfl) (fun _ _ _ h => h) (.inl ⟨by rfl, fun W hW => by first | (go_simp; done) | (go_simp; rfl)⟩) hS5 ?_
            try simp only [Act.put, List.setIfInBounds_toArray, List.set_cons_zero, List.set_cons_succ]
            refine wpAnyH_done (by kernel_rfl) ?_ _
            clear hS0 hS5
            have hB5 := HB4.out.trans ((HB.out.trans (b5.mono HB.out.size)).mono HB4.out.size)
            clear y0 y1 g0 g1 b5
            go_wp2_with fail
            refine (alive_any _).mono ?_
            rintro e w6 ⟨rfl, b6⟩
            have hB6 : Below w.heap.size w w6 := by first | exact hB5.trans (b6.mono hB5.size) | exact hB5.drew.trans (b6.mono hB5.drew.size)
            clear b6 hB5
            go_wp2_with fail
            go_ret
            exact ⟨rfl, hB6⟩
        · obtain rfl : k = l.length := by omega
          have huq : Uniq l := fun i y hy => (hU.out i y (List.getElem?_eq_some_iff.1 hy).1 hy).1
          have hfr : ∀ y ∈ l, freshE.id ≠ y.id := fun y hy => by
            obtain ⟨i, hi⟩ := List.getElem?_of_mem hy
            exact (hU.out i y (List.getElem?_eq_some_iff.1 hi).1 hi).2
          have HUQ := Lib.hid huq
          have HFR := Lib.hid hfr
          have HBW := Lib.hid (HB4.out.trans (hB.mono HB4.out.size))
          have HLW := Lib.hid (HL4.out.below hB)
          replace a0 := keepB hB a0
          replace a1 := keepB hB a1
          replace a2 := keepB hB a2
          replace b0 := keepB hB b0
          replace b1 := keepB hB b1
          replace b2 := keepB hB b2
          replace f0 := keepB hB f0
          replace f1 := keepB hB f1
          replace f2 := keepB hB f2
          replace f3 := keepB hB f3
          replace x1 := keepB hB x1
          replace x2 := keepB hB x2
          clear huq hfr hU hB HB HL4 HB4
          go_wp2_with fail
          go_loopg [10, 11, 12, 13] l.length (fun g av nv xv iv wy => ∃ (k : Nat) (p : Int) (nx : Bool), g = l.length - k ∧ k ≤ l.length ∧ av = .int .i64 p ∧ nv = .int .i64 (cntS l k) ∧ xv = .bool nx ∧ iv = .int .i64 k ∧ Hid (GrowRel l tn k p nx) ∧ wr = wy)
          case atStart => exact ⟨0, -1, false, by omega, by omega, rfl, by simp [cntS, shownL], rfl, rfl, Lib.hid (.inl ⟨by simp [cntS, shownL], rfl, rfl⟩), rfl⟩
          case round =>
            obtain ⟨k, p, nx, hg2, hk2, rfl, rfl, rfl, rfl, hR, rfl⟩ := hrel
            have HG2 := Lib.hid hg2
            clear hg2
            by_cases hkl : k < l.length
            · obtain ⟨y, hy⟩ : ∃ y, l[k]? = some y := ⟨_, List.getElem?_eq_getElem hkl⟩
              obtain ⟨_, _, e1, _, _, hh⟩ := id HLW.out
              cases e1
              obtain ⟨b, o, rfl, hcc⟩ := hh (by intro e; rw [e] at hy; simp at hy)
              have y3 : wr.cell? ⟨b, o + k * 4 + 3, none⟩ = some (.bool y.gone) := hcc k y hy 3 _ rfl
              have hkk : (k : Int) < (l.length : Int) := by omega
              have hcl := cntS_le l k
              cases hyg : y.gone with
              | true =>
                obtain ⟨hR2, hce⟩ := hR.out.skip hy hyg
                have HR2 := Lib.hid hR2
                rw [hyg] at y3
                clear hcc hh hR hR2 hy hyg
                go_wp2_with fail
                go_roundg (l.length - (k + 1))
                case measure => rw [HG2.out]; omega
                case rel => exact ⟨k + 1, p, nx, rfl, by omega, rfl, by rw [hce], rfl, by simp, HR2, rfl⟩
              | false =>
                obtain ⟨hce, hR2⟩ := hR.out.step hy hyg
                rw [hyg] at y3
                clear hcc hh hR hy hyg
                rcases hR2 with ⟨c1, rfl, hR2⟩ | ⟨c1, rfl, hR2⟩ | ⟨c1, hR2⟩
                · have HR2 := Lib.hid hR2
                  have c2 : ¬ ((cntS l k : Int) + 1 = (tn : Int) + 1) := by omega
                  have c3 : ¬ ((tn : Int) + 1 < (cntS l k : Int) + 1) := by omega
                  clear hR2
                  go_wp2_with fail
                  go_roundg (l.length - (k + 1))
                  case measure => rw [HG2.out]; omega
                  case rel => exact ⟨k + 1, p, false, rfl, by omega, rfl, by rw [hce]; simp, rfl, by simp, HR2, rfl⟩
                · have HR2 := Lib.hid hR2
                  have c2 : ((cntS l k : Int) + 1 = (tn : Int) + 1) := by omega
                  have c3 : ¬ ((tn : Int) + 1 < (cntS l k : Int) + 1) := by omega
                  clear hR2
                  go_wp2_with fail
                  go_roundg (l.length - (k + 1))
                  case measure => rw [HG2.out]; omega
                  case rel => exact ⟨k + 1, _, false, rfl, by omega, rfl, by rw [hce, c1]; simp, rfl, by simp, HR2, rfl⟩
                · have HR2 := Lib.hid hR2
                  have c2 : ¬ ((cntS l k : Int) + 1 = (tn : Int) + 1) := by omega
                  have c3 : ((tn : Int) + 1 < (cntS l k : Int) + 1) := by omega
                  clear hR2
                  cases nx
                  all_goals
                    go_wp2_with fail
                    go_roundg (l.length - (k + 1))
                    case measure => rw [HG2.out]; omega
                    case rel => exact ⟨k + 1, p, true, rfl, by omega, rfl, by rw [hce]; simp, rfl, by simp, HR2, rfl⟩
            · obtain rfl : k = l.length := by omega
              rw [cntS_all]
              obtain ⟨q, xq, rfl, hq, hqg, hqc, _, hnx⟩ := hR.out.resolve_left (fun h => by have := h.1; rw [cntS_all] at this; omega)
              rw [cntS_all] at hnx
              have hql : q < l.length := (List.getElem?_eq_some_iff.1 hq).1
              have hA := HA.out
              rw [hfn, htn] at hA
              have hcov : Cov (l.take (q + 1) ++ freshE :: l.drop (q + 1)) (growOp an ar bn br aa ba) ((q + 1 : Nat) : Int) ↔ x.grow = true ∧ nx = true := by
                rw [grow_cov hA HUQ.out HFR.out hq hqg hqc hft htl rfl rfl rfl rfl, hnx, decide_eq_true_iff]
              have HCOV := Lib.hid hcov
              obtain ⟨_, _, e1, _, _, hh⟩ := id HLW.out
              cases e1
              obtain ⟨b, o, rfl, _⟩ := hh (by intro e; rw [e] at hq; simp at hq)
              clear hh hcov hA hR hq hqg hqc hnx
              obtain ⟨aN, haN⟩ : ∃ aN : Nat, aN = q + 1 := ⟨_, rfl⟩
              rw [← haN] at HCOV
              have hpa : (q : Int) + 1 = (aN : Int) := by omega
              rw [hpa]
              have haL : aN ≤ l.length := by omega
              have ha0 : (0 : Int) ≤ (aN : Int) := by omega
              have ha1 : (aN : Int) ≤ (vc : Int) := by omega
              have ha2 : (aN : Int) ≤ (l.length : Int) := by omega
              clear hpa haN
              obtain ⟨i0, hi, hi0, hi1, hi2⟩ := info_parts info_el
              obtain ⟨v8, w8, hr8, o8, x8⟩ := append_structs (P := Try.prog) (base := wr.heap.size) (w := wr) (v := .slice none 0 0) (l := []) (ys := l.take aN) 22 22 i0 _ 32 Try.underlying22 hi hi0 hi1 hi2 rfl (by omega) El.len El.one Own.nil (HLW.out.take haL) (by unfold maxLen; simp; omega) (by simp; omega) (Nat.le_refl _)
              rw [List.nil_append] at o8
              have b8 : Below wr.heap.size wr w8 := Ext.below (x8.mono (fun b _ e => by cases e))
              have HR8 := Lib.hid hr8
              clear hr8 x8
              go_upto_region 23 with (at_builtin; refine wpList_append_run rfl _ _ _ rfl rfl rfl HR8.out ?_)
              clear HR8
              replace f0 := keepB b8 f0
              replace f1 := keepB b8 f1
              replace f2 := keepB b8 f2
              replace f3 := keepB b8 f3
              have hz8 := b8.size
              have s1 : SliceIs El.cells 4 (w8.alloc (.cells #[.int .i64 1048576, .int .i64 6, .int .i64 97, .bool false] 48)) (.slice (some ⟨w8.heap.size, 0, none⟩) 1 1) [freshE] := SliceIs.one freshE 48
              obtain ⟨v9, w9, hr9, o9, x9⟩ := append_structs (P := Try.prog) (base := wr.heap.size) (w := w8.alloc (.cells #[.int .i64 1048576, .int .i64 6, .int .i64 97, .bool false] 48)) (v := v8) (l := l.take aN) (ys := [freshE]) 22 22 i0 _ 32 Try.underlying22 hi hi0 hi1 hi2 rfl (by omega) El.len El.one (o8.alloc _) s1 (by unfold maxLen; simp; omega) (by simp; omega) (by simp; omega)
              have b9 := Ext.new (b8.alloc hz8 (.cells #[.int .i64 1048576, .int .i64 6, .int .i64 97, .bool false] 48)) x9 (fun i hi _ e => by have := (o8.blk i e).1; omega) (by simp; omega)
              have hz9 := b9.size
              have HR9 := Lib.hid hr9
              clear hr9 x9 s1 b8
              go_upto_region 24 with (at_builtin; refine wpList_append_run rfl _ _ _ rfl rfl rfl HR9.out ?_)
              clear HR9
              have HB9 := Lib.hid (HBW.out.trans (b9.mono HBW.out.size))
              have hd : l.drop aN = [] ∨ vc ≠ aN := by
                by_cases h : vc = aN
                · exact .inl (List.drop_eq_nil_of_le (by omega))
                · exact .inr h
              have hs9 : ∃ ad, (vc = aN → ad = some ⟨b, o, none⟩) ∧ (vc ≠ aN → ad = some ⟨b, o + aN * 4, none⟩) ∧ SliceIs El.cells 4 w9 (.slice ad (l.length - aN) (vc - aN)) (l.drop aN) := by
                by_cases h : vc = aN
                · refine ⟨some ⟨b, o, none⟩, fun _ => rfl, fun e => absurd h e, ?_⟩
                  rw [show l.drop aN = [] from List.drop_eq_nil_of_le (by omega)]
                  exact ⟨_, _, by rw [show l.length - aN = 0 by omega]; rfl, Nat.zero_le _, by unfold maxLen; omega, fun h => absurd rfl h⟩
                · exact ⟨_, fun e => absurd e h, fun _ => rfl, (HLW.out.below b9).drop haL⟩
              obtain ⟨ad, hd1, hd2, s9⟩ := hs9
              obtain ⟨v10, w10, hr10, o10, x10⟩ := append_structs (P := Try.prog) (base := wr.heap.size) (w := w9) (v := v9) (l := l.take aN ++ [freshE]) (ys := l.drop aN) 22 22 i0 _ 32 Try.underlying22 hi hi0 hi1 hi2 rfl (by omega) El.len El.one o9 s9 (by unfold maxLen; simp; omega) (by simp; omega) hz9
              have b10 := Ext.new b9 x10 (fun i hi _ e => by have := (o9.blk i e).1; omega) hz9
              have hz10 := b10.size
              rw [List.append_assoc, List.singleton_append] at o10
              have hml : (l.take aN ++ freshE :: l.drop aN).length = l.length + 1 := by simp; omega
              have HR10 := Lib.hid hr10
              have HB10 := Lib.hid (HBW.out.trans (b10.mono HBW.out.size))
              replace a0 := keepB b10 a0
              replace a1 := keepB b10 a1
              replace a2 := keepB b10 a2
              replace b0 := keepB b10 b0
              replace b1 := keepB b10 b1
              replace b2 := keepB b10 b2
              replace x2 := keepB b10 x2
              clear hr10 x10 b10 b9 o9 o8 s9 hd f0 f1 f2 f3
              generalize l.take aN ++ freshE :: l.drop aN = m at *
              obtain ⟨am, cm, rfl, hcm, hmm, _⟩ := o10.slice El.len
              have M10 := Lib.hid (o10.slice El.len)
              clear o10
              unfold maxLen at hmm
              have HML := Lib.hid hml
              clear hml
              have go_on : vc = aN ∨ ¬ vc = aN := by omega
              rcases go_on with hv | hv
              · obtain rfl := hd1 hv
                have hv2 : (vc : Int) = (aN : Int) := by omega
                clear hd1 hd2
                go_upto_region 25 with (at_builtin; refine wpList_append_run rfl _ _ _ rfl rfl rfl HR10.out ?_)
                clear HR10
                have s11 : SliceIs OpD.cells 26 (w10.alloc (.cells #[.int .i64 1, .int .i64 0, .int .i64 0, .int .i64 0, .int .i64 0, .int .i64 0, .int .i64 0, .int .i64 0, .int .i64 0, .int .i64 0, .int .i64 0, .int .i64 0, .int .i64 0, .int .i64 0, .int .i64 0, .int .i64 0, .int .i64 0, .string ⟨#[]⟩, .string ⟨#[111, 119, 110]⟩, .string ⟨#[121, 101, 115]⟩, .int .i64 an, .int .i64 ar, .bool aa, .int .i64 bn, .int .i64 br, .bool ba] 39)) (.slice (some ⟨w10.heap.size, 0, none⟩) 1 1) [growOp an ar bn br aa ba] := SliceIs.one (growOp an ar bn br aa ba) 39
                have b11a := (Below.refl w10.heap.size w10).alloc (Nat.le_refl _) (.cells #[.int .i64 1, .int .i64 0, .int .i64 0, .int .i64 0, .int .i64 0, .int .i64 0, .int .i64 0, .int .i64 0, .int .i64 0, .int .i64 0, .int .i64 0, .int .i64 0, .int .i64 0, .int .i64 0, .int .i64 0, .int .i64 0, .int .i64 0, .string ⟨#[]⟩, .string ⟨#[111, 119, 110]⟩, .string ⟨#[121, 101, 115]⟩, .int .i64 an, .int .i64 ar, .bool aa, .int .i64 bn, .int .i64 br, .bool ba] 39)
                go_wp2_with fail
                refine (pstyle_any am (some ⟨w10.heap.size, 0, none⟩) cm 1 m [growOp an ar bn br aa ba] _ (M10.out.below b11a) s11 (by have := HML.out; omega) (by simp)).mono ?_
                rintro e w11 ⟨u, rfl, hSty, b11⟩
                have hcb := b11a.trans (b11.mono b11a.size)
                have HB11 := Lib.hid (HB10.out.trans (hcb.mono HB10.out.size))
                replace x2 := keepB hcb x2
                obtain ⟨b', o', c', s, al, rfl, hc', hm', hcell, hal, hHas⟩ := hSty.out.at (i := aN) (by have := HML.out; omega)
                obtain ⟨_, _, e2, _, _, _⟩ := hal
                simp only [Value.slice.injEq] at e2
                obtain ⟨_, e3, _⟩ := e2
                rw [e3] at hcell
                have h1m := one_mark (by intro e; cases e) hHas
                have hfin : ((al.length : Int) == 1) = (x.grow && nx) := by
                  have h2 : ((al.length : Int) = 1) ↔ (x.grow = true ∧ nx = true) := by rw [← HCOV.out, ← h1m]; omega
                  by_cases h : (al.length : Int) = 1
                  · have := h2.1 h
                    rw [this.1, this.2, h]
                    rfl
                  · have h3 : ¬ (x.grow = true ∧ nx = true) := fun e => h (h2.2 e)
                    have h4 : (x.grow && nx) = false := and_no h3
                    rw [h4]
                    simpa using h
                have ha3 : (aN : Int) < (m.length : Int) := by have := HML.out; omega
                clear h1m hHas e3 hSty b11 hcb b11a s11
                go_upto_region 26 with fail
                cases hgx : x.grow with
                | true =>
                  rw [hgx] at x2 hfin
                  rw [Bool.true_and] at hfin
                  have hS0 : (fun W => W.cell? ⟨b', o' + aN, none⟩ = some (.slice s.a al.length s.cap) ∧ W.cell? ⟨w.heap.size, 2, none⟩ = some (.bool true)) w11.drew := ⟨hcell, x2⟩
                  refine wp_region_held_drew (S := (fun W => W.cell? ⟨b', o' + aN, none⟩ = some (.slice s.a al.length s.cap) ∧ W.cell? ⟨w.heap.size, 2, none⟩ = some (.bool true))) (by kernel_rfl) hS0 (fun _ => ?_)
                  try simp only [Act.put, List.setIfInBounds_toArray, List.set_cons_zero, List.set_cons_succ]
                  refine held_call (i := 0) (d := some 111) (by kernel_rfl) rfl rfl (by rfl) (by go_simp; first | rfl | exact ⟨rfl, rfl⟩ | exact ⟨⟨rfl, rfl⟩, rfl⟩) ?_
                  refine (alive_any _).mono ?_
                  rintro e w12 ⟨rfl, b12⟩
                  simp only [heap_drew, below_drew] at b12
                  have hS5 : (fun W => W.cell? ⟨b', o' + aN, none⟩ = some (.slice s.a al.length s.cap) ∧ W.cell? ⟨w.heap.size, 2, none⟩ = some (.bool true)) w12 := ⟨keepB b12 hcell, keepB b12 x2⟩
                  refine ⟨_, rfl, hS5, ?_⟩
                  try simp only [Act.put, List.setIfInBounds_toArray, List.set_cons_zero, List.set_cons_succ]
                  refine held_take (i := 1) (d := some 112) rfl rfl (by kernel_rfl) (by kernel_rfl) (by kernel_rfl) (fun _ _ _ h => h) (.inl ⟨by rfl, fun W hW => by go_simp; rfl⟩) hS5 ?_
                  try simp only [Act.put, List.setIfInBounds_toArray, List.set_cons_zero, List.set_cons_succ]
                  refine held_take (i := 2) (d := some 113) rfl rfl (by kernel_rfl) (by kernel_rfl) (by kernel_rfl) (fun _ _ _ h => h) (.inl ⟨by rfl, fun W hW => by go_simp; rfl⟩) hS5 ?_
                  try simp only [Act.put, List.setIfInBounds_toArray, List.set_cons_zero, List.set_cons_succ]
                  refine held_take (i := 3) (d := some 114) rfl rfl (by kernel_rfl) (by kernel_rfl) (by kernel_rfl) (fun _ _ _ h => h) (.inl ⟨by rfl, fun W hW => by go_simp; rfl⟩) hS5 ?_
                  try simp only [Act.put, List.setIfInBounds_toArray, List.set_cons_zero, List.set_cons_succ]
                  refine held_take (i := 4) (d := some 115) rfl rfl (by kernel_rfl) (by kernel_rfl) (by kernel_rfl) (fun _ _ _ h => h) (.inl ⟨by rfl, fun W hW => by go_simp; rfl⟩) hS5 ?_
                  try simp only [Act.put, List.setIfInBounds_toArray, List.set_cons_zero, List.set_cons_succ]
                  refine held_take (i := 5) (d := some 116) rfl rfl (by kernel_rfl) (by kernel_rfl) (by kernel_rfl) (fun _ _ _ h => h) (.inl ⟨by rfl, fun W hW => by go_simp; rfl⟩) hS5 ?_
                  try simp only [Act.put, List.setIfInBounds_toArray, List.set_cons_zero, List.set_cons_succ]
                  refine held_take (i := 6) (d := some 117) (v := .bool true) rfl rfl (by kernel_rfl) (by kernel_rfl) (by kernel_rfl) (fun _ _ _ h => h) (.inl ⟨by rfl, fun W hW => by first | (go_simp; done) | (go_simp; rfl)⟩) hS5 ?_
                  try simp only [Act.put, List.setIfInBounds_toArray, List.set_cons_zero, List.set_cons_succ]
                  refine held_take (i := 7) (d := some 118) (v := .bool true) rfl rfl (by kernel_rfl) (by kernel_rfl) (by kernel_rfl) (fun _ _ _ h => h) (.inl ⟨by rfl, fun W hW => by first | (go_simp; done) | (go_simp; rfl)⟩) hS5 ?_
                  try simp only [Act.put, List.setIfInBounds_toArray, List.set_cons_zero, List.set_cons_succ]
                  refine held_take (i := 8) (d := some 119) (v := .bool true) rfl rfl (by kernel_rfl) (by kernel_rfl) (by kernel_rfl) (fun _ _ _ h => h) (.inl ⟨by rfl, fun W hW => by first | (go_simp; done) | (go_simp; rfl)⟩) hS5 ?_
                  try simp only [Act.put, List.setIfInBounds_toArray, List.set_cons_zero, List.set_cons_succ]
                  refine held_take (i := 9) (d := some 120) rfl rfl (by kernel_rfl) (by kernel_rfl) (by kernel_rfl) (fun _ _ _ h => h) (.inl ⟨by rfl, fun W hW => by go_simp; rfl⟩) hS5 ?_
                  try simp only [Act.put, List.setIfInBounds_toArray, List.set_cons_zero, List.set_cons_succ]
                  refine held_take (i := 10) (d := some 121) rfl rfl (by kernel_rfl) (by kernel_rfl) (by kernel_rfl) (fun _ _ _ h => h) (.inl ⟨by rfl, fun W hW => by go_simp; rfl⟩) hS5 ?_
                  try simp only [Act.put, List.setIfInBounds_toArray, List.set_cons_zero, List.set_cons_succ]
                  refine held_take (i := 11) (d := some 122) rfl rfl (by kernel_rfl) (by kernel_rfl) (by kernel_rfl) (fun _ _ _ h => h) (.inl ⟨by rfl, fun W hW => by go_simp; rfl⟩) hS5 ?_
                  try simp only [Act.put, List.setIfInBounds_toArray, List.set_cons_zero, List.set_cons_succ]
                  refine held_take (i := 12) (d := some 123) rfl rfl (by kernel_rfl) (by kernel_rfl) (by kernel_rfl) (fun _ _ _ h => h) (.inl ⟨by rfl, fun W hW => by obtain ⟨q0, q1⟩ := hW; go_simp; rfl⟩) hS5 ?_
                  try simp only [Act.put, List.setIfInBounds_toArray, List.set_cons_zero, List.set_cons_succ]
                  refine held_take (i := 13) (d := some 124) rfl rfl (by kernel_rfl) (by kernel_rfl) (by kernel_rfl) (fun _ _ _ h => h) (.inl ⟨by rfl, fun W hW => by go_simp; rfl⟩) hS5 ?_
                  try simp only [Act.put, List.setIfInBounds_toArray, List.set_cons_zero, List.set_cons_succ]
                  refine held_take (i := 14) (d := some 125) (v := .bool nx) rfl rfl (by kernel_rfl) (by kernel_rfl) (by kernel_rfl) (fun _ _ _ h => h) (.inl ⟨by rfl, fun W hW => by first | (go_simp; done) | (go_simp; rfl)⟩) hS5 ?_
                  try simp only [Act.put, List.setIfInBounds_toArray, List.set_cons_zero, List.set_cons_succ]
                  refine held_take (i := 15) (d := some 126) rfl rfl (by kernel_rfl) (by kernel_rfl) (by kernel_rfl) (fun _ _ _ h => h) (.inl ⟨by rfl, fun W hW => by go_simp; rfl⟩) hS5 ?_
                  try simp only [Act.put, List.setIfInBounds_toArray, List.set_cons_zero, List.set_cons_succ]
                  refine held_take (i := 16) (d := some 127) rfl rfl (by kernel_rfl) (by kernel_rfl) (by kernel_rfl) (fun _ _ _ h => h) (.inl ⟨by rfl, fun W hW => by obtain ⟨q0, q1⟩ := hW; go_simp; rfl⟩) hS5 ?_
                  try simp only [Act.put, List.setIfInBounds_toArray, List.set_cons_zero, List.set_cons_succ]
                  refine held_take (i := 17) (d := some 128) rfl rfl (by kernel_rfl) (by kernel_rfl) (by kernel_rfl) (fun _ _ _ h => h) (.inl ⟨by rfl, fun W hW => by go_simp; rfl⟩) hS5 ?_
                  try simp only [Act.put, List.setIfInBounds_toArray, List.set_cons_zero, List.set_cons_succ]
                  refine held_take (i := 18) (d := some 129) (v := .bool nx) rfl rfl (by kernel_rfl) (by kernel_rfl) (by kernel_rfl) (fun _ _ _ h => h) (.inl ⟨by rfl, fun W hW => by first | (go_simp; done) | (go_simp; rfl)⟩) hS5 ?_
                  try simp only [Act.put, List.setIfInBounds_toArray, List.set_cons_zero, List.set_cons_succ]
                  refine held_take (i := 19) (d := some 130) (v := .bool nx) rfl rfl (by kernel_rfl) (by kernel_rfl) (by kernel_rfl) (fun _ _ _ h => h) (.inl ⟨by rfl, fun W hW => by first | (go_simp; done) | (go_simp; rfl)⟩) hS5 ?_
                  try simp only [Act.put, List.setIfInBounds_toArray, List.set_cons_zero, List.set_cons_succ]
                  refine held_take (i := 20) (d := some 131) (v := .bool true) rfl rfl (by kernel_rfl) (by kernel_rfl) (by kernel_rfl) (fun _ _ _ h => h) (.inl ⟨by rfl, fun W hW => by first | (go_simp; done) | (go_simp; rfl)⟩) hS5 ?_
                  try simp only [Act.put, List.setIfInBounds_toArray, List.set_cons_zero, List.set_cons_succ]
                  refine held_take (i := 21) (d := some 132) (v := .bool true) rfl rfl (by kernel_rfl) (by kernel_rfl) (by kernel_rfl) (fun _ _ _ h => h) (.inl ⟨by rfl, fun W hW => by first | (go_simp; done) | (go_simp; rfl)⟩) hS5 ?_
                  try simp only [Act.put, List.setIfInBounds_toArray, List.set_cons_zero, List.set_cons_succ]
                  refine held_take (i := 22) (d := some 4) (v := .bool true) rfl rfl (by kernel_rfl) (by kernel_rfl) (by kernel_rfl) (fun _ _ _ h => h) (.inl ⟨by rfl, fun W hW => by first | (go_simp; done) | (go_simp; rfl)⟩) hS5 ?_
                  try simp only [Act.put, List.setIfInBounds_toArray, List.set_cons_zero, List.set_cons_succ]
                  refine wpAnyH_done (by kernel_rfl) ?_ _
                  have hBE := HB11.out.trans (b12.mono HB11.out.size)
                  clear hS0 hS5 b12
                  go_wp2_with fail
                  go_ret
                  exact ⟨rfl, hBE⟩
                | false =>
                  rw [hgx] at x2 hfin
                  rw [Bool.false_and] at hfin
                  have hS0 : (fun W => W.cell? ⟨b', o' + aN, none⟩ = some (.slice s.a al.length s.cap) ∧ W.cell? ⟨w.heap.size, 2, none⟩ = some (.bool false)) w11.drew := ⟨hcell, x2⟩
                  refine wp_region_held_drew (S := (fun W => W.cell? ⟨b', o' + aN, none⟩ = some (.slice s.a al.length s.cap) ∧ W.cell? ⟨w.heap.size, 2, none⟩ = some (.bool false))) (by kernel_rfl) hS0 (fun _ => ?_)
                  try simp only [Act.put, List.setIfInBounds_toArray, List.set_cons_zero, List.set_cons_succ]
                  refine held_call (i := 0) (d := some 111) (by kernel_rfl) rfl rfl (by rfl) (by go_simp; first | rfl | exact ⟨rfl, rfl⟩ | exact ⟨⟨rfl, rfl⟩, rfl⟩) ?_
                  refine (alive_any _).mono ?_
                  rintro e w12 ⟨rfl, b12⟩
                  simp only [heap_drew, below_drew] at b12
                  have hS5 : (fun W => W.cell? ⟨b', o' + aN, none⟩ = some (.slice s.a al.length s.cap) ∧ W.cell? ⟨w.heap.size, 2, none⟩ = some (.bool false)) w12 := ⟨keepB b12 hcell, keepB b12 x2⟩
                  refine ⟨_, rfl, hS5, ?_⟩
                  try simp only [Act.put, List.setIfInBounds_toArray, List.set_cons_zero, List.set_cons_succ]
                  refine held_take (i := 1) (d := some 112) rfl rfl (by kernel_rfl) (by kernel_rfl) (by kernel_rfl) (fun _ _ _ h => h) (.inl ⟨by rfl, fun W hW => by go_simp; rfl⟩) hS5 ?_
                  try simp only [Act.put, List.setIfInBounds_toArray, List.set_cons_zero, List.set_cons_succ]
                  refine held_take (i := 2) (d := some 113) rfl rfl (by kernel_rfl) (by kernel_rfl) (by kernel_rfl) (fun _ _ _ h => h) (.inl ⟨by rfl, fun W hW => by go_simp; rfl⟩) hS5 ?_
                  try simp only [Act.put, List.setIfInBounds_toArray, List.set_cons_zero, List.set_cons_succ]
                  refine held_take (i := 3) (d := some 114) rfl rfl (by kernel_rfl) (by kernel_rfl) (by kernel_rfl) (fun _ _ _ h => h) (.inl ⟨by rfl, fun W hW => by go_simp; rfl⟩) hS5 ?_
                  try simp only [Act.put, List.setIfInBounds_toArray, List.set_cons_zero, List.set_cons_succ]
                  refine held_take (i := 4) (d := some 115) rfl rfl (by kernel_rfl) (by kernel_rfl) (by kernel_rfl) (fun _ _ _ h => h) (.inl ⟨by rfl, fun W hW => by go_simp; rfl⟩) hS5 ?_
                  try simp only [Act.put, List.setIfInBounds_toArray, List.set_cons_zero, List.set_cons_succ]
                  refine held_take (i := 5) (d := some 116) rfl rfl (by kernel_rfl) (by kernel_rfl) (by kernel_rfl) (fun _ _ _ h => h) (.inl ⟨by rfl, fun W hW => by go_simp; rfl⟩) hS5 ?_
                  try simp only [Act.put, List.setIfInBounds_toArray, List.set_cons_zero, List.set_cons_succ]
                  refine held_take (i := 6) (d := some 117) (v := .bool true) rfl rfl (by kernel_rfl) (by kernel_rfl) (by kernel_rfl) (fun _ _ _ h => h) (.inl ⟨by rfl, fun W hW => by first | (go_simp; done) | (go_simp; rfl)⟩) hS5 ?_
                  try simp only [Act.put, List.setIfInBounds_toArray, List.set_cons_zero, List.set_cons_succ]
                  refine held_take (i := 7) (d := some 118) (v := .bool true) rfl rfl (by kernel_rfl) (by kernel_rfl) (by kernel_rfl) (fun _ _ _ h => h) (.inl ⟨by rfl, fun W hW => by first | (go_simp; done) | (go_simp; rfl)⟩) hS5 ?_
                  try simp only [Act.put, List.setIfInBounds_toArray, List.set_cons_zero, List.set_cons_succ]
                  refine held_take (i := 8) (d := some 119) (v := .bool true) rfl rfl (by kernel_rfl) (by kernel_rfl) (by kernel_rfl) (fun _ _ _ h => h) (.inl ⟨by rfl, fun W hW => by first | (go_simp; done) | (go_simp; rfl)⟩) hS5 ?_
                  try simp only [Act.put, List.setIfInBounds_toArray, List.set_cons_zero, List.set_cons_succ]
                  refine held_take (i := 9) (d := some 120) rfl rfl (by kernel_rfl) (by kernel_rfl) (by kernel_rfl) (fun _ _ _ h => h) (.inl ⟨by rfl, fun W hW => by go_simp; rfl⟩) hS5 ?_
                  try simp only [Act.put, List.setIfInBounds_toArray, List.set_cons_zero, List.set_cons_succ]
                  refine held_take (i := 10) (d := some 121) rfl rfl (by kernel_rfl) (by kernel_rfl) (by kernel_rfl) (fun _ _ _ h => h) (.inl ⟨by rfl, fun W hW => by go_simp; rfl⟩) hS5 ?_
                  try simp only [Act.put, List.setIfInBounds_toArray, List.set_cons_zero, List.set_cons_succ]
                  refine held_take (i := 11) (d := some 122) rfl rfl (by kernel_rfl) (by kernel_rfl) (by kernel_rfl) (fun _ _ _ h => h) (.inl ⟨by rfl, fun W hW => by go_simp; rfl⟩) hS5 ?_
                  try simp only [Act.put, List.setIfInBounds_toArray, List.set_cons_zero, List.set_cons_succ]
                  refine held_take (i := 12) (d := some 123) rfl rfl (by kernel_rfl) (by kernel_rfl) (by kernel_rfl) (fun _ _ _ h => h) (.inl ⟨by rfl, fun W hW => by obtain ⟨q0, q1⟩ := hW; go_simp; rfl⟩) hS5 ?_
                  try simp only [Act.put, List.setIfInBounds_toArray, List.set_cons_zero, List.set_cons_succ]
                  refine held_take (i := 13) (d := some 124) rfl rfl (by kernel_rfl) (by kernel_rfl) (by kernel_rfl) (fun _ _ _ h => h) (.inl ⟨by rfl, fun W hW => by go_simp; rfl⟩) hS5 ?_
                  try simp only [Act.put, List.setIfInBounds_toArray, List.set_cons_zero, List.set_cons_succ]
                  refine held_take (i := 14) (d := some 125) (v := .bool false) rfl rfl (by kernel_rfl) (by kernel_rfl) (by kernel_rfl) (fun _ _ _ h => h) (.inl ⟨by rfl, fun W hW => by first | (go_simp; done) | (go_simp; rfl)⟩) hS5 ?_
                  try simp only [Act.put, List.setIfInBounds_toArray, List.set_cons_zero, List.set_cons_succ]
                  refine held_take (i := 15) (d := some 126) rfl rfl (by kernel_rfl) (by kernel_rfl) (by kernel_rfl) (fun _ _ _ h => h) (.inl ⟨by rfl, fun W hW => by go_simp; rfl⟩) hS5 ?_
                  try simp only [Act.put, List.setIfInBounds_toArray, List.set_cons_zero, List.set_cons_succ]
                  refine held_take (i := 16) (d := some 127) rfl rfl (by kernel_rfl) (by kernel_rfl) (by kernel_rfl) (fun _ _ _ h => h) (.inl ⟨by rfl, fun W hW => by obtain ⟨q0, q1⟩ := hW; go_simp; rfl⟩) hS5 ?_
                  try simp only [Act.put, List.setIfInBounds_toArray, List.set_cons_zero, List.set_cons_succ]
                  refine held_take (i := 17) (d := some 128) rfl rfl (by kernel_rfl) (by kernel_rfl) (by kernel_rfl) (fun _ _ _ h => h) (.inl ⟨by rfl, fun W hW => by go_simp; rfl⟩) hS5 ?_
                  try simp only [Act.put, List.setIfInBounds_toArray, List.set_cons_zero, List.set_cons_succ]
                  refine held_take (i := 18) (d := some 129) (v := undef) rfl rfl (by kernel_rfl) (by kernel_rfl) (by kernel_rfl) (fun _ _ _ h => h) (.inr ⟨by rfl, rfl⟩) hS5 ?_
                  try simp only [Act.put, List.setIfInBounds_toArray, List.set_cons_zero, List.set_cons_succ]
                  refine held_take (i := 19) (d := some 130) (v := .bool false) rfl rfl (by kernel_rfl) (by kernel_rfl) (by kernel_rfl) (fun _ _ _ h => h) (.inl ⟨by rfl, fun W hW => by first | (go_simp; done) | (go_simp; rfl)⟩) hS5 ?_
                  try simp only [Act.put, List.setIfInBounds_toArray, List.set_cons_zero, List.set_cons_succ]
                  refine held_take (i := 20) (d := some 131) (v := .bool true) rfl rfl (by kernel_rfl) (by kernel_rfl) (by kernel_rfl) (fun _ _ _ h => h) (.inl ⟨by rfl, fun W hW => by first | (go_simp; done) | (go_simp; rfl)⟩) hS5 ?_
                  try simp only [Act.put, List.setIfInBounds_toArray, List.set_cons_zero, List.set_cons_succ]
                  refine held_take (i := 21) (d := some 132) (v := .bool true) rfl rfl (by kernel_rfl) (by kernel_rfl) (by kernel_rfl) (fun _ _ _ h => h) (.inl ⟨by rfl, fun W hW => by first | (go_simp; done) | (go_simp; rfl)⟩) hS5 ?_
                  try simp only [Act.put, List.setIfInBounds_toArray, List.set_cons_zero, List.set_cons_succ]
                  refine held_take (i := 22) (d := some 4) (v := .bool true) rfl rfl (by kernel_rfl) (by kernel_rfl) (by kernel_rfl) (fun _ _ _ h => h) (.inl ⟨by rfl, fun W hW => by first | (go_simp; done) | (go_simp; rfl)⟩) hS5 ?_
                  try simp only [Act.put, List.setIfInBounds_toArray, List.set_cons_zero, List.set_cons_succ]
                  refine wpAnyH_done (by kernel_rfl) ?_ _
                  have hBE := HB11.out.trans (b12.mono HB11.out.size)
                  clear hS0 hS5 b12
                  go_wp2_with fail
                  go_ret
                  exact ⟨rfl, hBE⟩
              · obtain rfl := hd2 hv
                have hv2 : ¬ (vc : Int) = (aN : Int) := by omega
                clear hd1 hd2
                go_upto_region 25 with (at_builtin; refine wpList_append_run rfl _ _ _ rfl rfl rfl HR10.out ?_)
                clear HR10
                have s11 : SliceIs OpD.cells 26 (w10.alloc (.cells #[.int .i64 1, .int .i64 0, .int .i64 0, .int .i64 0, .int .i64 0, .int .i64 0, .int .i64 0, .int .i64 0, .int .i64 0, .int .i64 0, .int .i64 0, .int .i64 0, .int .i64 0, .int .i64 0, .int .i64 0, .int .i64 0, .int .i64 0, .string ⟨#[]⟩, .string ⟨#[111, 119, 110]⟩, .string ⟨#[121, 101, 115]⟩, .int .i64 an, .int .i64 ar, .bool aa, .int .i64 bn, .int .i64 br, .bool ba] 39)) (.slice (some ⟨w10.heap.size, 0, none⟩) 1 1) [growOp an ar bn br aa ba] := SliceIs.one (growOp an ar bn br aa ba) 39
                have b11a := (Below.refl w10.heap.size w10).alloc (Nat.le_refl _) (.cells #[.int .i64 1, .int .i64 0, .int .i64 0, .int .i64 0, .int .i64 0, .int .i64 0, .int .i64 0, .int .i64 0, .int .i64 0, .int .i64 0, .int .i64 0, .int .i64 0, .int .i64 0, .int .i64 0, .int .i64 0, .int .i64 0, .int .i64 0, .string ⟨#[]⟩, .string ⟨#[111, 119, 110]⟩, .string ⟨#[121, 101, 115]⟩, .int .i64 an, .int .i64 ar, .bool aa, .int .i64 bn, .int .i64 br, .bool ba] 39)
                go_wp2_with fail
                refine (pstyle_any am (some ⟨w10.heap.size, 0, none⟩) cm 1 m [growOp an ar bn br aa ba] _ (M10.out.below b11a) s11 (by have := HML.out; omega) (by simp)).mono ?_
                rintro e w11 ⟨u, rfl, hSty, b11⟩
                have hcb := b11a.trans (b11.mono b11a.size)
                have HB11 := Lib.hid (HB10.out.trans (hcb.mono HB10.out.size))
                replace x2 := keepB hcb x2
                obtain ⟨b', o', c', s, al, rfl, hc', hm', hcell, hal, hHas⟩ := hSty.out.at (i := aN) (by have := HML.out; omega)
                obtain ⟨_, _, e2, _, _, _⟩ := hal
                simp only [Value.slice.injEq] at e2
                obtain ⟨_, e3, _⟩ := e2
                rw [e3] at hcell
                have h1m := one_mark (by intro e; cases e) hHas
                have hfin : ((al.length : Int) == 1) = (x.grow && nx) := by
                  have h2 : ((al.length : Int) = 1) ↔ (x.grow = true ∧ nx = true) := by rw [← HCOV.out, ← h1m]; omega
                  by_cases h : (al.length : Int) = 1
                  · have := h2.1 h
                    rw [this.1, this.2, h]
                    rfl
                  · have h3 : ¬ (x.grow = true ∧ nx = true) := fun e => h (h2.2 e)
                    have h4 : (x.grow && nx) = false := and_no h3
                    rw [h4]
                    simpa using h
                have ha3 : (aN : Int) < (m.length : Int) := by have := HML.out; omega
                clear h1m hHas e3 hSty b11 hcb b11a s11
                go_upto_region 26 with fail
                cases hgx : x.grow with
                | true =>
                  rw [hgx] at x2 hfin
                  rw [Bool.true_and] at hfin
                  have hS0 : (fun W => W.cell? ⟨b', o' + aN, none⟩ = some (.slice s.a al.length s.cap) ∧ W.cell? ⟨w.heap.size, 2, none⟩ = some (.bool true)) w11.drew := ⟨hcell, x2⟩
                  refine wp_region_held_drew (S := (fun W => W.cell? ⟨b', o' + aN, none⟩ = some (.slice s.a al.length s.cap) ∧ W.cell? ⟨w.heap.size, 2, none⟩ = some (.bool true))) (by kernel_rfl) hS0 (fun _ => ?_)
                  try simp only [Act.put, List.setIfInBounds_toArray, List.set_cons_zero, List.set_cons_succ]
                  refine held_call (i := 0) (d := some 111) (by kernel_rfl) rfl rfl (by rfl) (by go_simp; first | rfl | exact ⟨rfl, rfl⟩ | exact ⟨⟨rfl, rfl⟩, rfl⟩) ?_
                  refine (alive_any _).mono ?_
                  rintro e w12 ⟨rfl, b12⟩
                  simp only [heap_drew, below_drew] at b12
                  have hS5 : (fun W => W.cell? ⟨b', o' + aN, none⟩ = some (.slice s.a al.length s.cap) ∧ W.cell? ⟨w.heap.size, 2, none⟩ = some (.bool true)) w12 := ⟨keepB b12 hcell, keepB b12 x2⟩
                  refine ⟨_, rfl, hS5, ?_⟩
                  try simp only [Act.put, List.setIfInBounds_toArray, List.set_cons_zero, List.set_cons_succ]
                  refine held_take (i := 1) (d := some 112) rfl rfl (by kernel_rfl) (by kernel_rfl) (by kernel_rfl) (fun _ _ _ h => h) (.inl ⟨by rfl, fun W hW => by go_simp; rfl⟩) hS5 ?_
                  try simp only [Act.put, List.setIfInBounds_toArray, List.set_cons_zero, List.set_cons_succ]
                  refine held_take (i := 2) (d := some 113) rfl rfl (by kernel_rfl) (by kernel_rfl) (by kernel_rfl) (fun _ _ _ h => h) (.inl ⟨by rfl, fun W hW => by go_simp; rfl⟩) hS5 ?_
                  try simp only [Act.put, List.setIfInBounds_toArray, List.set_cons_zero, List.set_cons_succ]
                  refine held_take (i := 3) (d := some 114) rfl rfl (by kernel_rfl) (by kernel_rfl) (by kernel_rfl) (fun _ _ _ h => h) (.inl ⟨by rfl, fun W hW => by go_simp; rfl⟩) hS5 ?_
                  try simp only [Act.put, List.setIfInBounds_toArray, List.set_cons_zero, List.set_cons_succ]
                  refine held_take (i := 4) (d := some 115) rfl rfl (by kernel_rfl) (by kernel_rfl) (by kernel_rfl) (fun _ _ _ h => h) (.inl ⟨by rfl, fun W hW => by go_simp; rfl⟩) hS5 ?_
                  try simp only [Act.put, List.setIfInBounds_toArray, List.set_cons_zero, List.set_cons_succ]
                  refine held_take (i := 5) (d := some 116) rfl rfl (by kernel_rfl) (by kernel_rfl) (by kernel_rfl) (fun _ _ _ h => h) (.inl ⟨by rfl, fun W hW => by go_simp; rfl⟩) hS5 ?_
                  try simp only [Act.put, List.setIfInBounds_toArray, List.set_cons_zero, List.set_cons_succ]
                  refine held_take (i := 6) (d := some 117) (v := .bool true) rfl rfl (by kernel_rfl) (by kernel_rfl) (by kernel_rfl) (fun _ _ _ h => h) (.inl ⟨by rfl, fun W hW => by first | (go_simp; done) | (go_simp; rfl)⟩) hS5 ?_
                  try simp only [Act.put, List.setIfInBounds_toArray, List.set_cons_zero, List.set_cons_succ]
                  refine held_take (i := 7) (d := some 118) (v := .bool true) rfl rfl (by kernel_rfl) (by kernel_rfl) (by kernel_rfl) (fun _ _ _ h => h) (.inl ⟨by rfl, fun W hW => by first | (go_simp; done) | (go_simp; rfl)⟩) hS5 ?_
                  try simp only [Act.put, List.setIfInBounds_toArray, List.set_cons_zero, List.set_cons_succ]
                  refine held_take (i := 8) (d := some 119) (v := .bool true) rfl rfl (by kernel_rfl) (by kernel_rfl) (by kernel_rfl) (fun _ _ _ h => h) (.inl ⟨by rfl, fun W hW => by first | (go_simp; done) | (go_simp; rfl)⟩) hS5 ?_
                  try simp only [Act.put, List.setIfInBounds_toArray, List.set_cons_zero, List.set_cons_succ]
                  refine held_take (i := 9) (d := some 120) rfl rfl (by kernel_rfl) (by kernel_rfl) (by kernel_rfl) (fun _ _ _ h => h) (.inl ⟨by rfl, fun W hW => by go_simp; rfl⟩) hS5 ?_
                  try simp only [Act.put, List.setIfInBounds_toArray, List.set_cons_zero, List.set_cons_succ]
                  refine held_take (i := 10) (d := some 121) rfl rfl (by kernel_rfl) (by kernel_rfl) (by kernel_rfl) (fun _ _ _ h => h) (.inl ⟨by rfl, fun W hW => by go_simp; rfl⟩) hS5 ?_
                  try simp only [Act.put, List.setIfInBounds_toArray, List.set_cons_zero, List.set_cons_succ]
                  refine held_take (i := 11) (d := some 122) rfl rfl (by kernel_rfl) (by kernel_rfl) (by kernel_rfl) (fun _ _ _ h => h) (.inl ⟨by rfl, fun W hW => by go_simp; rfl⟩) hS5 ?_
                  try simp only [Act.put, List.setIfInBounds_toArray, List.set_cons_zero, List.set_cons_succ]
                  refine held_take (i := 12) (d := some 123) rfl rfl (by kernel_rfl) (by kernel_rfl) (by kernel_rfl) (fun _ _ _ h => h) (.inl ⟨by rfl, fun W hW => by obtain ⟨q0, q1⟩ := hW; go_simp; rfl⟩) hS5 ?_
                  try simp only [Act.put, List.setIfInBounds_toArray, List.set_cons_zero, List.set_cons_succ]
                  refine held_take (i := 13) (d := some 124) rfl rfl (by kernel_rfl) (by kernel_rfl) (by kernel_rfl) (fun _ _ _ h => h) (.inl ⟨by rfl, fun W hW => by go_simp; rfl⟩) hS5 ?_
                  try simp only [Act.put, List.setIfInBounds_toArray, List.set_cons_zero, List.set_cons_succ]
                  refine held_take (i := 14) (d := some 125) (v := .bool nx) rfl rfl (by kernel_rfl) (by kernel_rfl) (by kernel_rfl) (fun _ _ _ h => h) (.inl ⟨by rfl, fun W hW => by first | (go_simp; done) | (go_simp; rfl)⟩) hS5 ?_
                  try simp only [Act.put, List.setIfInBounds_toArray, List.set_cons_zero, List.set_cons_succ]
                  refine held_take (i := 15) (d := some 126) rfl rfl (by kernel_rfl) (by kernel_rfl) (by kernel_rfl) (fun _ _ _ h => h) (.inl ⟨by rfl, fun W hW => by go_simp; rfl⟩) hS5 ?_
                  try simp only [Act.put, List.setIfInBounds_toArray, List.set_cons_zero, List.set_cons_succ]
                  refine held_take (i := 16) (d := some 127) rfl rfl (by kernel_rfl) (by kernel_rfl) (by kernel_rfl) (fun _ _ _ h => h) (.inl ⟨by rfl, fun W hW => by obtain ⟨q0, q1⟩ := hW; go_simp; rfl⟩) hS5 ?_
                  try simp only [Act.put, List.setIfInBounds_toArray, List.set_cons_zero, List.set_cons_succ]
                  refine held_take (i := 17) (d := some 128) rfl rfl (by kernel_rfl) (by kernel_rfl) (by kernel_rfl) (fun _ _ _ h => h) (.inl ⟨by rfl, fun W hW => by go_simp; rfl⟩) hS5 ?_
                  try simp only [Act.put, List.setIfInBounds_toArray, List.set_cons_zero, List.set_cons_succ]
                  refine held_take (i := 18) (d := some 129) (v := .bool nx) rfl rfl (by kernel_rfl) (by kernel_rfl) (by kernel_rfl) (fun _ _ _ h => h) (.inl ⟨by rfl, fun W hW => by first | (go_simp; done) | (go_simp; rfl)⟩) hS5 ?_
                  try simp only [Act.put, List.setIfInBounds_toArray, List.set_cons_zero, List.set_cons_succ]
                  refine held_take (i := 19) (d := some 130) (v := .bool nx) rfl rfl (by kernel_rfl) (by kernel_rfl) (by kernel_rfl) (fun _ _ _ h => h) (.inl ⟨by rfl, fun W hW => by first | (go_simp; done) | (go_simp; rfl)⟩) hS5 ?_
                  try simp only [Act.put, List.setIfInBounds_toArray, List.set_cons_zero, List.set_cons_succ]
                  refine held_take (i := 20) (d := some 131) (v := .bool true) rfl rfl (by kernel_rfl) (by kernel_rfl) (by kernel_rfl) (fun _ _ _ h => h) (.inl ⟨by rfl, fun W hW => by first | (go_simp; done) | (go_simp; rfl)⟩) hS5 ?_
                  try simp only [Act.put, List.setIfInBounds_toArray, List.set_cons_zero, List.set_cons_succ]
                  refine held_take (i := 21) (d := some 132) (v := .bool true) rfl rfl (by kernel_rfl) (by kernel_rfl) (by kernel_rfl) (fun _ _ _ h => h) (.inl ⟨by rfl, fun W hW => by first | (go_simp; done) | (go_simp; rfl)⟩) hS5 ?_
                  try simp only [Act.put, List.setIfInBounds_toArray, List.set_cons_zero, List.set_cons_succ]
                  refine held_take (i := 22) (d := some 4) (v := .bool true) rfl rfl (by kernel_rfl) (by kernel_rfl) (by kernel_rfl) (fun _ _ _ h => h) (.inl ⟨by rfl, fun W hW => by first | (go_simp; done) | (go_simp; rfl)⟩) hS5 ?_
                  try simp only [Act.put, List.setIfInBounds_toArray, List.set_cons_zero, List.set_cons_succ]
                  refine wpAnyH_done (by kernel_rfl) ?_ _
                  have hBE := HB11.out.trans (b12.mono HB11.out.size)
                  clear hS0 hS5 b12
                  go_wp2_with fail
                  go_ret
                  exact ⟨rfl, hBE⟩
                | false =>
                  rw [hgx] at x2 hfin
                  rw [Bool.false_and] at hfin
                  have hS0 : (fun W => W.cell? ⟨b', o' + aN, none⟩ = some (.slice s.a al.length s.cap) ∧ W.cell? ⟨w.heap.size, 2, none⟩ = some (.bool false)) w11.drew := ⟨hcell, x2⟩
                  refine wp_region_held_drew (S := (fun W => W.cell? ⟨b', o' + aN, none⟩ = some (.slice s.a al.length s.cap) ∧ W.cell? ⟨w.heap.size, 2, none⟩ = some (.bool false))) (by kernel_rfl) hS0 (fun _ => ?_)
                  try simp only [Act.put, List.setIfInBounds_toArray, List.set_cons_zero, List.set_cons_succ]
                  refine held_call (i := 0) (d := some 111) (by kernel_rfl) rfl rfl (by rfl) (by go_simp; first | rfl | exact ⟨rfl, rfl⟩ | exact ⟨⟨rfl, rfl⟩, rfl⟩) ?_
                  refine (alive_any _).mono ?_
                  rintro e w12 ⟨rfl, b12⟩
                  simp only [heap_drew, below_drew] at b12
                  have hS5 : (fun W => W.cell? ⟨b', o' + aN, none⟩ = some (.slice s.a al.length s.cap) ∧ W.cell? ⟨w.heap.size, 2, none⟩ = some (.bool false)) w12 := ⟨keepB b12 hcell, keepB b12 x2⟩
                  refine ⟨_, rfl, hS5, ?_⟩
                  try simp only [Act.put, List.setIfInBounds_toArray, List.set_cons_zero, List.set_cons_succ]
                  refine held_take (i := 1) (d := some 112) rfl rfl (by kernel_rfl) (by kernel_rfl) (by kernel_rfl) (fun _ _ _ h => h) (.inl ⟨by rfl, fun W hW => by go_simp; rfl⟩) hS5 ?_
                  try simp only [Act.put, List.setIfInBounds_toArray, List.set_cons_zero, List.set_cons_succ]
                  refine held_take (i := 2) (d := some 113) rfl rfl (by kernel_rfl) (by kernel_rfl) (by kernel_rfl) (fun _ _ _ h => h) (.inl ⟨by rfl, fun W hW => by go_simp; rfl⟩) hS5 ?_
                  try simp only [Act.put, List.setIfInBounds_toArray, List.set_cons_zero, List.set_cons_succ]
                  refine held_take (i := 3) (d := some 114) rfl rfl (by kernel_rfl) (by kernel_rfl) (by kernel_rfl) (fun _ _ _ h => h) (.inl ⟨by rfl, fun W hW => by go_simp; rfl⟩) hS5 ?_
                  try simp only [Act.put, List.setIfInBounds_toArray, List.set_cons_zero, List.set_cons_succ]
                  refine held_take (i := 4) (d := some 115) rfl rfl (by kernel_rfl) (by kernel_rfl) (by kernel_rfl) (fun _ _ _ h => h) (.inl ⟨by rfl, fun W hW => by go_simp; rfl⟩) hS5 ?_
                  try simp only [Act.put, List.setIfInBounds_toArray, List.set_cons_zero, List.set_cons_succ]
                  refine held_take (i := 5) (d := some 116) rfl rfl (by kernel_rfl) (by kernel_rfl) (by kernel_rfl) (fun _ _ _ h => h) (.inl ⟨by rfl, fun W hW => by go_simp; rfl⟩) hS5 ?_
                  try simp only [Act.put, List.setIfInBounds_toArray, List.set_cons_zero, List.set_cons_succ]
                  refine held_take (i := 6) (d := some 117) (v := .bool true) rfl rfl (by kernel_rfl) (by kernel_rfl) (by kernel_rfl) (fun _ _ _ h => h) (.inl ⟨by rfl, fun W hW => by first | (go_simp; done) | (go_simp; rfl)⟩) hS5 ?_
                  try simp only [Act.put, List.setIfInBounds_toArray, List.set_cons_zero, List.set_cons_succ]
                  refine held_take (i := 7) (d := some 118) (v := .bool true) rfl rfl (by kernel_rfl) (by kernel_rfl) (by kernel_rfl) (fun _ _ _ h => h) (.inl ⟨by rfl, fun W hW => by first | (go_simp; done) | (go_simp; rfl)⟩) hS5 ?_
                  try simp only [Act.put, List.setIfInBounds_toArray, List.set_cons_zero, List.set_cons_succ]
                  refine held_take (i := 8) (d := some 119) (v := .bool true) rfl rfl (by kernel_rfl) (by kernel_rfl) (by kernel_rfl) (fun _ _ _ h => h) (.inl ⟨by rfl, fun W hW => by first | (go_simp; done) | (go_simp; rfl)⟩) hS5 ?_
                  try simp only [Act.put, List.setIfInBounds_toArray, List.set_cons_zero, List.set_cons_succ]
                  refine held_take (i := 9) (d := some 120) rfl rfl (by kernel_rfl) (by kernel_rfl) (by kernel_rfl) (fun _ _ _ h => h) (.inl ⟨by rfl, fun W hW => by go_simp; rfl⟩) hS5 ?_
                  try simp only [Act.put, List.setIfInBounds_toArray, List.set_cons_zero, List.set_cons_succ]
                  refine held_take (i := 10) (d := some 121) rfl rfl (by kernel_rfl) (by kernel_rfl) (by kernel_rfl) (fun _ _ _ h => h) (.inl ⟨by rfl, fun W hW => by go_simp; rfl⟩) hS5 ?_
                  try simp only [Act.put, List.setIfInBounds_toArray, List.set_cons_zero, List.set_cons_succ]
                  refine held_take (i := 11) (d := some 122) rfl rfl (by kernel_rfl) (by kernel_rfl) (by kernel_rfl) (fun _ _ _ h => h) (.inl ⟨by rfl, fun W hW => by go_simp; rfl⟩) hS5 ?_
                  try simp only [Act.put, List.setIfInBounds_toArray, List.set_cons_zero, List.set_cons_succ]
                  refine held_take (i := 12) (d := some 123) rfl rfl (by kernel_rfl) (by kernel_rfl) (by kernel_rfl) (fun _ _ _ h => h) (.inl ⟨by rfl, fun W hW => by obtain ⟨q0, q1⟩ := hW; go_simp; rfl⟩) hS5 ?_
                  try simp only [Act.put, List.setIfInBounds_toArray, List.set_cons_zero, List.set_cons_succ]
                  refine held_take (i := 13) (d := some 124) rfl rfl (by kernel_rfl) (by kernel_rfl) (by kernel_rfl) (fun _ _ _ h => h) (.inl ⟨by rfl, fun W hW => by go_simp; rfl⟩) hS5 ?_
                  try simp only [Act.put, List.setIfInBounds_toArray, List.set_cons_zero, List.set_cons_succ]
                  refine held_take (i := 14) (d := some 125) (v := .bool false) rfl rfl (by kernel_rfl) (by kernel_rfl) (by kernel_rfl) (fun _ _ _ h => h) (.inl ⟨by rfl, fun W hW => by first | (go_simp; done) | (go_simp; rfl)⟩) hS5 ?_
                  try simp only [Act.put, List.setIfInBounds_toArray, List.set_cons_zero, List.set_cons_succ]
                  refine held_take (i := 15) (d := some 126) rfl rfl (by kernel_rfl) (by kernel_rfl) (by kernel_rfl) (fun _ _ _ h => h) (.inl ⟨by rfl, fun W hW => by go_simp; rfl⟩) hS5 ?_
                  try simp only [Act.put, List.setIfInBounds_toArray, List.set_cons_zero, List.set_cons_succ]
                  refine held_take (i := 16) (d := some 127) rfl rfl (by kernel_rfl) (by kernel_rfl) (by kernel_rfl) (fun _ _ _ h => h) (.inl ⟨by rfl, fun W hW => by obtain ⟨q0, q1⟩ := hW; go_simp; rfl⟩) hS5 ?_
                  try simp only [Act.put, List.setIfInBounds_toArray, List.set_cons_zero, List.set_cons_succ]
                  refine held_take (i := 17) (d := some 128) rfl rfl (by kernel_rfl) (by kernel_rfl) (by kernel_rfl) (fun _ _ _ h => h) (.inl ⟨by rfl, fun W hW => by go_simp; rfl⟩) hS5 ?_
                  try simp only [Act.put, List.setIfInBounds_toArray, List.set_cons_zero, List.set_cons_succ]
                  refine held_take (i := 18) (d := some 129) (v := undef) rfl rfl (by kernel_rfl) (by kernel_rfl) (by kernel_rfl) (fun _ _ _ h => h) (.inr ⟨by rfl, rfl⟩) hS5 ?_
                  try simp only [Act.put, List.setIfInBounds_toArray, List.set_cons_zero, List.set_cons_succ]
                  refine held_take (i := 19) (d := some 130) (v := .bool false) rfl rfl (by kernel_rfl) (by kernel_rfl) (by kernel_rfl) (fun _ _ _ h => h) (.inl ⟨by rfl, fun W hW => by first | (go_simp; done) | (go_simp; rfl)⟩) hS5 ?_
                  try simp only [Act.put, List.setIfInBounds_toArray, List.set_cons_zero, List.set_cons_succ]
                  refine held_take (i := 20) (d := some 131) (v := .bool true) rfl rfl (by kernel_rfl) (by kernel_rfl) (by kernel_rfl) (fun _ _ _ h => h) (.inl ⟨by rfl, fun W hW => by first | (go_simp; done) | (go_simp; rfl)⟩) hS5 ?_
                  try simp only [Act.put, List.setIfInBounds_toArray, List.set_cons_zero, List.set_cons_succ]
                  refine held_take (i := 21) (d := some 132) (v := .bool true) rfl rfl (by kernel_rfl) (by kernel_rfl) (by kernel_rfl) (fun _ _ _ h => h) (.inl ⟨by rfl, fun W hW => by first | (go_simp; done) | (go_simp; rfl)⟩) hS5 ?_
                  try simp only [Act.put, List.setIfInBounds_toArray, List.set_cons_zero, List.set_cons_succ]
                  refine held_take (i := 22) (d := some 4) (v := .bool true) rfl rfl (by kernel_rfl) (by kernel_rfl) (by kernel_rfl) (fun _ _ _ h => h) (.inl ⟨by rfl, fun W hW => by first | (go_simp; done) | (go_simp; rfl)⟩) hS5 ?_
                  try simp only [Act.put, List.setIfInBounds_toArray, List.set_cons_zero, List.set_cons_succ]
                  refine wpAnyH_done (by kernel_rfl) ?_ _
                  have hBE := HB11.out.trans (b12.mono HB11.out.size)
                  clear hS0 hS5 b12
                  go_wp2_with fail
                  go_ret
                  exact ⟨rfl, hBE⟩
  · have hlen2 : 60 < (l.length : Int) := by omega
    go_wp2_with fail
    refine (alive_any _).mono ?_
    rintro e w5 ⟨rfl, b5⟩
    have hBB := HB3.out.trans (b5.mono HB3.out.size)
    clear b5
    go_wp2_with fail
    go_ret
    exact ⟨rfl, hBB⟩

set_option maxRecDepth 100000 in
theorem marksGrow_lifted (os : Os) (started : os.Started) (H : Type) (enc : TypeId × Value → H) :
    ReturnsInHanded {} Try.checked os 7 .any (Rows.marksGrowSpec.pre6 enc Try.prog Try.f7 Rows.marksGrowRow.domain false) (Rows.marksGrowSpec.post enc Try.prog Try.f7 false true false false) := by
  refine returnsInHanded_of_change_sized (C := Try.checked) Try.own started (by kernel_rfl) Try.func7
    (ChangeSpec.witness6 (enc := enc) (C := Try.checked) false ⟨#[], #[.slice none 0 0, .agg #[.int .i64 0, .int .i64 0, .bool false]], []⟩ 8 (by kernel_rfl) (by kernel_rfl) (by kernel_rfl) (by kernel_rfl)) ?_
  intro W base args ds gs before hval0 hW hcnd hsz0 _
  have hval : ∀ (j : Nat) t v, Try.f7.params[j]? = some t → args[j]? = some v → Value.okWide Try.prog W .any base t v := hval0
  have hW' := hW
  obtain ⟨p, q, hA0, hV, rfl, hfz, hnd⟩ := hW
  have hA : DataW.TrodAll enc Try.prog W 0 (fun _ => true) true Try.f7.params.toList args.toList ds p := hA0
  rw [Try.params7] at hA hval
  obtain ⟨v0, vs0, d0, ds0, p0, q0, hargs, rfl, rfl, h0, r0⟩ := trodAll_cons hA
  obtain ⟨v1, vs1, d1, ds1, p1, q1, rfl, rfl, rfl, h1, r1⟩ := trodAll_cons r0
  obtain ⟨rfl, rfl, rfl⟩ := trodAll_nil r1
  obtain rfl : args = #[v0, v1] := by cases args; simp_all
  obtain ⟨rfl, rfl⟩ := trodVars_none hV
  have k0 := h0
  have lt0 : ∀ x ∈ p0, x.block < W.heap.size := by obtain ⟨m, hm⟩ := k0; exact DataW.trod_lt m _ _ _ hm
  have k1 := h1
  have lt1 : ∀ x ∈ p1, x.block < W.heap.size := by obtain ⟨m, hm⟩ := k1; exact DataW.trod_lt m _ _ _ hm
  obtain ⟨l, hv0⟩ := open_els (hval 0 22 v0 rfl rfl) h0
  obtain ⟨y, rfl⟩ := open_rg (hval 1 42 v1 rfl rfl) h1
  rw [Try.params7] at hsz0
  have hln : l.length ≤ 4398046510976 := by obtain ⟨va, vc, e, _⟩ := id hv0; subst e; exact els_sized hsz0 (j := 0) rfl rfl h0
  clear hA0 hval0
  refine (marksGrow_walk v0 l y W hv0 hln).mono fun e W' ⟨he, bel⟩ => ?_
  subst he
  exact ⟨_, rfl, _, _, _, [], _, [], hW', trodAll_mk1 (shut_bool Try.underlying4 _), (trodAll_cons_mk (Below.trod Try.laidOut (by kernel_rfl) (of_decide_eq_true (by kernel_rfl)) k0 bel lt0) (trodAll_cons_mk (Below.trod Try.laidOut (by kernel_rfl) (of_decide_eq_true (by kernel_rfl)) k1 bel lt1) trodAll_mk0)), rfl, bel.frame _, fun h => by cases h⟩

theorem marksGrow_holds : Rows.MarksGrowSaid :=
  OpenClaim.holds_of_wide 7 Try.f7 rfl rfl rfl rfl rfl rfl rfl ⟨rfl, rfl, rfl, rfl, rfl⟩ rfl rfl rfl rfl rfl (by kernel_rfl) Try.func7 (by kernel_rfl)
    (of_decide_eq_true (by kernel_rfl)) (by unfold Func.isWrapper; first | (rw [if_pos (by decide +kernel)]; kernel_rfl) | (rw [if_neg (by decide +kernel)]; exact ⟨rfl, rfl⟩))
    (fun os started H enc _ => marksGrow_lifted os started H enc)

#print axioms marksGrow_holds

end Go.Proofs.Ytlfmkoapddihcaa
