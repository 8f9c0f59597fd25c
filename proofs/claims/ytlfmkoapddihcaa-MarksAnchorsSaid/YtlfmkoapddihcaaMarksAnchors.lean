/- MarksAnchors: where a mark is to be anchored, over any range of any text, is as the document says. -/
import Derived.Test.YtlfmkoapddihcaaOpenEl17
import Derived.Test.YtlfmkoapddihcaaHand
import Derived.Test.YtlfmkoapddihcaaRows
import Derived.ProofKit
import Derived.OpenShut
import Derived.ShutString
import Derived.ChangeOld
import Derived.Below
import Derived.Test.YtlfmkoapddihcaaAlive17
import Derived.Test.YtlfmkoapddihcaaRAnch17
namespace Go.Proofs.Ytlfmkoapddihcaa
open Go.ChangeShapes Go.WideShapes Go.ChangeAt Go.RowKit Go.Deep
set_option linter.unusedSimpArgs false
set_option linter.unusedVariables false

theorem eq_anch (a : St × Bool) (w : World) : (Op.equal 37 (.agg #[.int .i64 a.1.n, .int .i64 a.1.r, .bool a.2]) (.agg #[.int .i64 a.1.n, .int .i64 a.1.r, .bool a.2])).run Try.prog w = .ok true w := by
  unfold Op.equal Op.maxDepth
  go_simp

set_option maxRecDepth 100000 in
set_option maxHeartbeats 1000000 in
theorem marksAnchors_walk (v : Value) (l : List El) (x : Rg) (w : World) (hl : SliceIs El.cells 4 w v l) :
    Calls Try.prog 5 #[v, .agg #[.int .i64 x.lo, .int .i64 x.hi, .bool x.grow]] w fun e w' => e = .returned (.bool true) ∧ Below w.heap.size w w' := by
  obtain ⟨va, vc, rfl, hcap, hmax, _⟩ := id hl
  have hlW := hl.below ((Below.refl w.heap.size w).alloc (Nat.le_refl _) (.cells #[.int .i64 x.lo, .int .i64 x.hi, .bool x.grow] 42))
  have hB0 : Below w.heap.size w (w.alloc (.cells #[.int .i64 x.lo, .int .i64 x.hi, .bool x.grow] 42)) := (Below.refl _ _).alloc (Nat.le_refl _) _
  by_cases hn : l.length ≤ 60
  · have hn2 : (l.length : Int) ≤ 60 := by omega
    go_enter Try.func5, Try.ntmps5
    go_wp2_with fail
    refine (anchors_any va vc l x.lo x.hi x.grow _ hlW (by omega)).mono ?_
    rintro e w2 ⟨rfl, hb2⟩
    obtain ⟨A, hA⟩ : ∃ A, ancP ((shownL l).map (·.id)) x.lo x.hi x.grow = A := ⟨_, rfl⟩
    have HA := Lib.hid hA
    rw [hA]
    clear hA
    obtain ⟨⟨⟨an, ar⟩, aa⟩, ⟨⟨bn, br⟩, ba⟩, ok⟩ := A
    simp only [ancV]
    have x0 : w2.cell? ⟨w.heap.size, 0, none⟩ = some (.int .i64 x.lo) := keepB hb2 (by go_simp)
    have x1 : w2.cell? ⟨w.heap.size, 1, none⟩ = some (.int .i64 x.hi) := keepB hb2 (by go_simp)
    have x2 : w2.cell? ⟨w.heap.size, 2, none⟩ = some (.bool x.grow) := keepB hb2 (by go_simp)
    have hs20 : w.heap.size < w2.heap.size := by
      have := hb2.size
      simp at this
      omega
    have hl2 := hlW.below hb2
    have hB2 := hB0.trans (hb2.mono hB0.size)
    have hs2 := hB2.size
    have hl3 := hl2.below (((Below.refl w2.heap.size w2).alloc (Nat.le_refl _) (.cells #[.int .i64 an, .int .i64 ar, .bool aa] 37)).alloc (by simp) (.cells #[.int .i64 bn, .int .i64 br, .bool ba] 37))
    have hB3 := (hB2.alloc hs2 (.cells #[.int .i64 an, .int .i64 ar, .bool aa] 37)).alloc (by simp; omega) (.cells #[.int .i64 bn, .int .i64 br, .bool ba] 37)
    clear hb2 hB0 hl hlW hl2 hB2
    go_wp2_with fail
    refine (ranchors_any va vc l x.lo x.hi x.grow _ hl3 (by omega)).mono ?_
    rintro e w4 ⟨rfl, hb4⟩
    rw [HA.out]
    simp only [ancV]
    have a0 : w4.cell? ⟨w2.heap.size, 0, none⟩ = some (.int .i64 an) := keepB hb4 (by go_simp)
    have a1 : w4.cell? ⟨w2.heap.size, 1, none⟩ = some (.int .i64 ar) := keepB hb4 (by go_simp)
    have a2 : w4.cell? ⟨w2.heap.size, 2, none⟩ = some (.bool aa) := keepB hb4 (by go_simp)
    have b0 : w4.cell? ⟨w2.heap.size + 1, 0, none⟩ = some (.int .i64 bn) := keepB hb4 (by go_simp)
    have b1 : w4.cell? ⟨w2.heap.size + 1, 1, none⟩ = some (.int .i64 br) := keepB hb4 (by go_simp)
    have b2 : w4.cell? ⟨w2.heap.size + 1, 2, none⟩ = some (.bool ba) := keepB hb4 (by go_simp)
    have hs40 : w2.heap.size + 1 < w4.heap.size := by
      have := hb4.size
      simp at this
      omega
    have hs41 : w2.heap.size < w4.heap.size := by omega
    have hB4 := hB3.trans (hb4.mono hB3.size)
    have hs4 := hB4.size
    have hB5 := (hB4.alloc hs4 (.cells #[.int .i64 an, .int .i64 ar, .bool aa] 37)).alloc (by simp; omega) (.cells #[.int .i64 bn, .int .i64 br, .bool ba] 37)
    have HB5 := Lib.hid hB5
    clear hb4 hB3 hB4 hB5 x0 x1 x2 hl3
    go_wp2_with fail
    refine (alive_any _).mono ?_
    rintro e w6 ⟨rfl, hb6⟩
    have d0 : w6.cell? ⟨w4.heap.size, 0, none⟩ = some (.int .i64 an) := keepB hb6 (by go_simp)
    have d1 : w6.cell? ⟨w4.heap.size, 1, none⟩ = some (.int .i64 ar) := keepB hb6 (by go_simp)
    have d2 : w6.cell? ⟨w4.heap.size, 2, none⟩ = some (.bool aa) := keepB hb6 (by go_simp)
    have e0 : w6.cell? ⟨w4.heap.size + 1, 0, none⟩ = some (.int .i64 bn) := keepB hb6 (by go_simp)
    have e1 : w6.cell? ⟨w4.heap.size + 1, 1, none⟩ = some (.int .i64 br) := keepB hb6 (by go_simp)
    have e2 : w6.cell? ⟨w4.heap.size + 1, 2, none⟩ = some (.bool ba) := keepB hb6 (by go_simp)
    replace a0 := keepB hb6 (cell_alloc (cell_alloc a0 _) _)
    replace a1 := keepB hb6 (cell_alloc (cell_alloc a1 _) _)
    replace a2 := keepB hb6 (cell_alloc (cell_alloc a2 _) _)
    replace b0 := keepB hb6 (cell_alloc (cell_alloc b0 _) _)
    replace b1 := keepB hb6 (cell_alloc (cell_alloc b1 _) _)
    replace b2 := keepB hb6 (cell_alloc (cell_alloc b2 _) _)
    have hB6 := HB5.out.trans (hb6.mono HB5.out.size)
    clear hb6 HB5
    go_wp2_with fail
    go_ret
    exact ⟨rfl, hB6⟩
  · have hn2 : 60 < (l.length : Int) := by omega
    go_enter Try.func5, Try.ntmps5
    go_wp2_with fail
    refine (alive_any _).mono ?_
    rintro e w2 ⟨rfl, hb2⟩
    have hB2 := hB0.trans (hb2.mono hB0.size)
    clear hb2 hB0 hl hlW
    go_wp2_with fail
    go_ret
    exact ⟨rfl, hB2⟩

set_option maxRecDepth 100000 in
theorem marksAnchors_lifted (os : Os) (started : os.Started) (H : Type) (enc : TypeId × Value → H) :
    ReturnsInHanded {} Try.checked os 5 .any (Rows.marksAnchorsSpec.pre6 enc Try.prog Try.f5 Rows.marksAnchorsRow.domain false) (Rows.marksAnchorsSpec.post enc Try.prog Try.f5 false true false false) := by
  refine returnsInHanded_of_change (C := Try.checked) Try.own started (by kernel_rfl) Try.func5
    (ChangeSpec.witness6 (enc := enc) (C := Try.checked) false ⟨#[], #[.slice none 0 0, .agg #[.int .i64 0, .int .i64 0, .bool false]], []⟩ 8 (by kernel_rfl) (by kernel_rfl) (by kernel_rfl) (by kernel_rfl)) ?_
  intro W base args ds gs before hval0 hW hcnd _
  have hval : ∀ (j : Nat) t v, Try.f5.params[j]? = some t → args[j]? = some v → Value.okWide Try.prog W .any base t v := hval0
  have hW' := hW
  obtain ⟨p, q, hA0, hV, rfl, hfz, hnd⟩ := hW
  have hA : DataW.TrodAll enc Try.prog W 0 (fun _ => true) true Try.f5.params.toList args.toList ds p := hA0
  rw [Try.params5] at hA hval
  obtain ⟨v0, vs0, d0, ds0, p0, q0, hargs, rfl, rfl, h0, r0⟩ := trodAll_cons hA
  obtain ⟨v1, vs1, d1, ds1, p1, q1, rfl, rfl, rfl, h1, r1⟩ := trodAll_cons r0
  obtain ⟨rfl, rfl, rfl⟩ := trodAll_nil r1
  obtain rfl : args = #[v0, v1] := by cases args; simp_all
  obtain ⟨rfl, rfl⟩ := trodVars_none hV
  have k0 := h0
  have lt0 : ∀ x ∈ p0, x.block < W.heap.size := by obtain ⟨m, hm⟩ := k0; exact DataW.trod_lt m _ _ _ hm
  have k1 := h1
  have lt1 : ∀ x ∈ p1, x.block < W.heap.size := by obtain ⟨m, hm⟩ := k1; exact DataW.trod_lt m _ _ _ hm
  obtain ⟨l, hv0⟩ := open_els (hval 0 22 v0 rfl rfl) h0
  obtain ⟨y, rfl⟩ := open_rg (hval 1 42 v1 rfl rfl) h1
  clear hA0 hval0
  refine (marksAnchors_walk v0 l y W hv0).mono fun e W' ⟨he, bel⟩ => ?_
  subst he
  exact ⟨_, rfl, _, _, _, [], _, [], hW', trodAll_mk1 (shut_bool Try.underlying4 _), (trodAll_cons_mk (Below.trod Try.laidOut (by kernel_rfl) (of_decide_eq_true (by kernel_rfl)) k0 bel lt0) (trodAll_cons_mk (Below.trod Try.laidOut (by kernel_rfl) (of_decide_eq_true (by kernel_rfl)) k1 bel lt1) trodAll_mk0)), rfl, bel.frame _, fun h => by cases h⟩

theorem marksAnchors_holds : Rows.MarksAnchorsSaid :=
  OpenClaim.holds_of_wide 5 Try.f5 rfl rfl rfl rfl rfl rfl rfl ⟨rfl, rfl, rfl, rfl, rfl⟩ rfl rfl rfl rfl rfl (by kernel_rfl) Try.func5 (by kernel_rfl)
    (of_decide_eq_true (by kernel_rfl)) (by unfold Func.isWrapper; first | (rw [if_pos (by decide +kernel)]; kernel_rfl) | (rw [if_neg (by decide +kernel)]; exact ⟨rfl, rfl⟩))
    (fun os started H enc _ => marksAnchors_lifted os started H enc)

#print axioms marksAnchors_holds

end Go.Proofs.Ytlfmkoapddihcaa
