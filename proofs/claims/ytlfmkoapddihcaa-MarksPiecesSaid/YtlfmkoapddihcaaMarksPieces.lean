/- The law MarksPieces: the pieces of any span of any text, by any marks, are as the document says. -/
import Derived.Test.YtlfmkoapddihcaaSamePcs17
import Derived.Test.YtlfmkoapddihcaaAlive17
import Derived.Test.YtlfmkoapddihcaaHand
import Derived.Test.YtlfmkoapddihcaaRows
import Derived.ProofKit
import Derived.OpenShut
import Derived.ShutString
import Derived.ChangeOld
import Derived.Below
namespace Go.Proofs.Ytlfmkoapddihcaa
open Go.ChangeShapes Go.WideShapes Go.ChangeAt Go.RowKit Go.Deep
set_option linter.unusedSimpArgs false
set_option linter.unusedVariables false

set_option maxRecDepth 100000 in
set_option maxHeartbeats 2000000 in
theorem marksPieces_walk (v0 v1 : Value) (l : List El) (ms : List OpD) (y : Sp) (w : World) (hl : SliceIs El.cells 4 w v0 l) (hm : SliceIs OpD.cells 26 w v1 ms) :
    Calls Try.prog 9 #[v0, .agg #[.int .i64 y.n, .int .i64 y.r, .int .i64 y.lo, .int .i64 y.hi], v1] w fun e w' => e = .returned (.bool true) ∧ Below w.heap.size w w' := by
  obtain ⟨va, ca, rfl, hca, hma, _⟩ := id hl
  obtain ⟨vb, cb, rfl, hcb, hmb, _⟩ := id hm
  have hB0 : Below w.heap.size w (w.alloc (.cells #[.int .i64 y.n, .int .i64 y.r, .int .i64 y.lo, .int .i64 y.hi] 54)) := (Below.refl _ _).alloc (Nat.le_refl _) _
  have d0 : (w.alloc (.cells #[.int .i64 y.n, .int .i64 y.r, .int .i64 y.lo, .int .i64 y.hi] 54)).cell? ⟨w.heap.size, 0, none⟩ = some (.int .i64 y.n) := by go_simp
  have d1 : (w.alloc (.cells #[.int .i64 y.n, .int .i64 y.r, .int .i64 y.lo, .int .i64 y.hi] 54)).cell? ⟨w.heap.size, 1, none⟩ = some (.int .i64 y.r) := by go_simp
  have d2 : (w.alloc (.cells #[.int .i64 y.n, .int .i64 y.r, .int .i64 y.lo, .int .i64 y.hi] 54)).cell? ⟨w.heap.size, 2, none⟩ = some (.int .i64 y.lo) := by go_simp
  have d3 : (w.alloc (.cells #[.int .i64 y.n, .int .i64 y.r, .int .i64 y.lo, .int .i64 y.hi] 54)).cell? ⟨w.heap.size, 3, none⟩ = some (.int .i64 y.hi) := by go_simp
  have hl0 := hl.below hB0
  have hm0 := hm.below hB0
  obtain ⟨W0, hW0⟩ : ∃ W0, w.alloc (.cells #[.int .i64 y.n, .int .i64 y.r, .int .i64 y.lo, .int .i64 y.hi] 54) = W0 := ⟨_, rfl⟩
  rw [hW0] at hB0 hl0 hm0 d0 d1 d2 d3
  have HW0 := Lib.hid hW0
  clear hW0 hl hm
  go_enter Try.func9, Try.ntmps9
  go_upto_region 1 with fail
  rw [HW0.out]
  go_wp2_with fail
  refine (few_any va vb ca cb l.length ms.length W0).mono ?_
  rintro e w1 ⟨rfl, rfl⟩
  by_cases hf : l.length ≤ 60 ∧ ms.length ≤ 30
  · rw [decide_eq_true hf]
    obtain ⟨hf1, hf2⟩ := hf
    have hle : (piecesP l ms y.lo y.hi).length ≤ 1000 := by
      have := piecesP_le l ms y.lo y.hi
      omega
    go_upto_region 4 with fail
    go_region_held3 (fun W => W.cell? ⟨w.heap.size, 0, none⟩ = some (.int .i64 y.n) ∧ W.cell? ⟨w.heap.size, 1, none⟩ = some (.int .i64 y.r) ∧ W.cell? ⟨w.heap.size, 2, none⟩ = some (.int .i64 y.lo) ∧ W.cell? ⟨w.heap.size, 3, none⟩ = some (.int .i64 y.hi))
      (first | exact ⟨d0, d1, d2, d3⟩ | exact ⟨keepB b5 d0, keepB b5 d1, keepB b5 d2, keepB b5 d3⟩ | exact ⟨keepB b6 (keepB b5 d0), keepB b6 (keepB b5 d1), keepB b6 (keepB b5 d2), keepB b6 (keepB b5 d3)⟩ | exact ⟨keepB b7 (keepB b6 (keepB b5 d0)), keepB b7 (keepB b6 (keepB b5 d1)), keepB b7 (keepB b6 (keepB b5 d2)), keepB b7 (keepB b6 (keepB b5 d3))⟩)
      (first
        | (go_at_call 21; ((with_reducible refine (pieces_any va vb ca cb l ms y.n y.r y.lo y.hi _ hl0.drew hm0.drew (by omega) (by omega)).mono ?_); rintro e w5 ⟨ua, rfl, hPa, b5⟩; simp only [heap_drew, below_drew] at b5))
        | (go_at_call 22; ((with_reducible refine (rpieces_any va vb ca cb l ms y.n y.r y.lo y.hi _ (hl0.below b5) (hm0.below b5) (by omega) (by omega)).mono ?_); rintro e w6 ⟨ub, rfl, hPb, b6⟩))
        | (go_at_call 20; ((with_reducible refine (samePcs_any _ _ _ _ (piecesP l ms y.lo y.hi) _ (hPa.out.ext b6) hPb.out hle).mono ?_); rintro e w7 ⟨rfl, b7⟩)))
    all_goals
      have hB7 := hB0.trans ((b5.trans ((b6.trans (b7.mono b6.size)).mono b5.size)).mono hB0.size)
      clear hPa hPb b5 b6 b7 hl0 hm0 hB0 d0 d1 d2 d3
      go_wp2_with fail
      refine (alive_any _).mono ?_
      rintro e w8 ⟨rfl, b8⟩
      have hB8 : Below w.heap.size w w8 := by first | exact hB7.trans (b8.mono hB7.size) | exact hB7.drew.trans (b8.mono hB7.drew.size)
      clear b8 hB7
      go_wp2_with fail
      go_ret
      exact ⟨rfl, hB8⟩
  · rw [decide_eq_false hf]
    go_wp2_with fail
    refine (alive_any _).mono ?_
    rintro e w2 ⟨rfl, hb2⟩
    have hB2 := hB0.trans (hb2.mono hB0.size)
    clear hl0 hm0 hB0 hb2
    go_wp2_with fail
    go_ret
    exact ⟨rfl, hB2⟩

set_option maxRecDepth 100000 in
theorem marksPieces_lifted (os : Os) (started : os.Started) (H : Type) (enc : TypeId × Value → H) :
    ReturnsInHanded {} Try.checked os 9 .any (Rows.marksPiecesSpec.pre6 enc Try.prog Try.f9 Rows.marksPiecesRow.domain false) (Rows.marksPiecesSpec.post enc Try.prog Try.f9 false true false false) := by
  refine returnsInHanded_of_change (C := Try.checked) Try.own started (by kernel_rfl) Try.func9
    (ChangeSpec.witness6 (enc := enc) (C := Try.checked) false ⟨#[], #[.slice none 0 0, .agg #[.int .i64 0, .int .i64 0, .int .i64 0, .int .i64 0], .slice none 0 0], []⟩ 8 (by kernel_rfl) (by kernel_rfl) (by kernel_rfl) (by kernel_rfl)) ?_
  intro W base args ds gs before hval0 hW hcnd _
  have hval : ∀ (j : Nat) t v, Try.f9.params[j]? = some t → args[j]? = some v → Value.okWide Try.prog W .any base t v := hval0
  have hW' := hW
  obtain ⟨p, q, hA0, hV, rfl, hfz, hnd⟩ := hW
  have hA : DataW.TrodAll enc Try.prog W 0 (fun _ => true) true Try.f9.params.toList args.toList ds p := hA0
  rw [Try.params9] at hA hval
  obtain ⟨v0, vs0, d0, ds0, p0, q0, hargs, rfl, rfl, h0, r0⟩ := trodAll_cons hA
  obtain ⟨v1, vs1, d1, ds1, p1, q1, rfl, rfl, rfl, h1, r1⟩ := trodAll_cons r0
  obtain ⟨v2, vs2, d2, ds2, p2, q2, rfl, rfl, rfl, h2, r2⟩ := trodAll_cons r1
  obtain ⟨rfl, rfl, rfl⟩ := trodAll_nil r2
  obtain rfl : args = #[v0, v1, v2] := by cases args; simp_all
  obtain ⟨rfl, rfl⟩ := trodVars_none hV
  have k0 := h0
  have lt0 : ∀ x ∈ p0, x.block < W.heap.size := by obtain ⟨m, hm⟩ := k0; exact DataW.trod_lt m _ _ _ hm
  have k1 := h1
  have lt1 : ∀ x ∈ p1, x.block < W.heap.size := by obtain ⟨m, hm⟩ := k1; exact DataW.trod_lt m _ _ _ hm
  have k2 := h2
  have lt2 : ∀ x ∈ p2, x.block < W.heap.size := by obtain ⟨m, hm⟩ := k2; exact DataW.trod_lt m _ _ _ hm
  obtain ⟨l, hv0⟩ := open_els (hval 0 22 v0 rfl rfl) h0
  obtain ⟨y, rfl⟩ := open_sp (hval 1 54 v1 rfl rfl) h1
  obtain ⟨ms, hv2⟩ := open_ops (hval 2 23 v2 rfl rfl) h2
  clear hA0 hval0
  refine (marksPieces_walk v0 v2 l ms y W hv0 hv2).mono fun e W' ⟨he, bel⟩ => ?_
  subst he
  exact ⟨_, rfl, _, _, _, [], _, [], hW', trodAll_mk1 (shut_bool Try.underlying4 _), (trodAll_cons_mk (Below.trod Try.laidOut (by kernel_rfl) (of_decide_eq_true (by kernel_rfl)) k0 bel lt0) (trodAll_cons_mk (Below.trod Try.laidOut (by kernel_rfl) (of_decide_eq_true (by kernel_rfl)) k1 bel lt1) (trodAll_cons_mk (Below.trod Try.laidOut (by kernel_rfl) (of_decide_eq_true (by kernel_rfl)) k2 bel lt2) trodAll_mk0))), rfl, bel.frame _, fun h => by cases h⟩

theorem marksPieces_holds : Rows.MarksPiecesSaid :=
  OpenClaim.holds_of_wide 9 Try.f9 rfl rfl rfl rfl rfl rfl rfl ⟨rfl, rfl, rfl, rfl, rfl⟩ rfl rfl rfl rfl rfl (by kernel_rfl) Try.func9 (by kernel_rfl)
    (of_decide_eq_true (by kernel_rfl)) (by unfold Func.isWrapper; first | (rw [if_pos (by decide +kernel)]; kernel_rfl) | (rw [if_neg (by decide +kernel)]; exact ⟨rfl, rfl⟩))
    (fun os started H enc _ => marksPieces_lifted os started H enc)

#print axioms marksPieces_holds

end Go.Proofs.Ytlfmkoapddihcaa
