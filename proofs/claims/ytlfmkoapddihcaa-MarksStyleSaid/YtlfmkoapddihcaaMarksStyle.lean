/- The law MarksStyle: what each element of any text has, by any marks, is as the document says. -/
import Derived.Test.YtlfmkoapddihcaaTwo17
import Derived.Test.YtlfmkoapddihcaaAlive17
import Derived.Test.YtlfmkoapddihcaaOpenOp17
import Derived.Test.YtlfmkoapddihcaaHand
import Derived.Test.YtlfmkoapddihcaaRows
import Derived.ProofKit
import Derived.OpenShut
import Derived.ShutString
import Derived.ChangeOld
import Derived.Below
namespace Go.Proofs.Ytlfmkoapddihcaa
open Go.ChangeShapes Go.WideShapes Go.ChangeAt Go.RowKit Go.Deep
set_option linter.unusedSimpArgs false
set_option linter.unusedVariables false

set_option maxRecDepth 100000 in
set_option maxHeartbeats 2000000 in
theorem marksStyle_walk (v0 v1 : Value) (l : List El) (ms : List OpD) (w : World) (hl : SliceIs El.cells 4 w v0 l) (hm : SliceIs OpD.cells 26 w v1 ms) :
    Calls Try.prog 3 #[v0, v1] w fun e w' => e = .returned (.bool true) ∧ Below w.heap.size w w' := by
  obtain ⟨va, ca, rfl, hca, hma, _⟩ := id hl
  obtain ⟨vb, cb, rfl, hcb, hmb, _⟩ := id hm
  go_enter Try.func3, Try.ntmps3
  go_wp2_with fail
  refine (few_any va vb ca cb l.length ms.length w).mono ?_
  rintro e w1 ⟨rfl, rfl⟩
  by_cases hf : l.length ≤ 60 ∧ ms.length ≤ 30
  · rw [decide_eq_true hf]
    obtain ⟨hf1, hf2⟩ := hf
    go_wp2_with fail
    refine (pstyle_any va vb ca cb l ms w1 hl hm (by omega) (by omega)).mono ?_
    rintro e w2 ⟨ua, rfl, hSa, hb2⟩
    have hl2 := hl.below hb2
    have hm2 := hm.below hb2
    clear hl hm
    go_wp2_with fail
    refine (rstyle_any va vb ca cb l ms w2 hl2 hm2 (by omega) (by omega)).mono ?_
    rintro e w3 ⟨ub, rfl, hSb, hb3⟩
    have hSa3 := Lib.hid (hSa.out.ext hb3)
    have hb13 := Lib.hid (hb2.trans (hb3.mono hb2.size))
    obtain ⟨aa, cca, rfl, hc1, hc2⟩ := hSa3.out.shape
    obtain ⟨ab, ccb, rfl, hc3, hc4⟩ := hSb.out.shape
    clear hSa hb2 hb3 hl2 hm2
    go_wp2_with fail
    go_loopg [8] l.length (fun g iv wr => ∃ k : Nat, g = l.length - k ∧ k ≤ l.length ∧ iv = .int .i64 k ∧ Below w3.heap.size w3 wr)
    case atStart => exact ⟨0, by omega, by omega, rfl, Below.refl _ _⟩
    case round =>
      obtain ⟨k, hg, hk, rfl, hB⟩ := hrel
      have HG := Lib.hid hg
      by_cases hkl : k < l.length
      · obtain ⟨ba, oa, ca', sa, al, e1, _, _, xa, ya, za⟩ := (hSa3.out.ext hB).at hkl
        cases e1
        obtain ⟨bb, ob, cb', sb, bl, e2, _, _, xb, yb, zb⟩ := (hSb.out.ext hB).at hkl
        cases e2
        have hab : al = bl := za.unique zb
        subst hab
        have hkk : (k : Int) < (l.length : Int) := by omega
        have HB := Lib.hid hB
        have HZ := Lib.hid za
        clear za zb hg hB
        go_upto_region 11 with fail
        go_region_held3 (fun W => W.cell? ⟨ba, oa + k, none⟩ = some (.slice sa.a sa.n sa.cap) ∧ W.cell? ⟨bb, ob + k, none⟩ = some (.slice sb.a sb.n sb.cap)) (first | exact ⟨xa, xb⟩ | exact ⟨keepB b5 xa, keepB b5 xb⟩) ((go_at_call 15; ((with_reducible refine (same_any _ _ al al _ ya.drew yb.drew).mono ?_); rintro e w5 ⟨rfl, b5⟩; simp only [heap_drew, below_drew] at b5)))
        all_goals
          have hB5 := HB.out.trans (b5.mono HB.out.size)
          clear xa xb ya yb b5
          go_wp2_with fail
          go_roundg (l.length - (k + 1))
          case measure => rw [HG.out]; omega
          case rel => exact ⟨k + 1, rfl, by omega, by simp, by first | exact hB5 | exact hB5.drew⟩
      · obtain rfl : k = l.length := by omega
        go_wp2_with fail
        refine (alive_any wr).mono ?_
        rintro e w5 ⟨rfl, b5⟩
        have hBB := hb13.out.trans ((hB.trans (b5.mono hB.size)).mono hb13.out.size)
        clear b5 hB hSa3 hSb
        go_wp2_with fail
        go_ret
        exact ⟨rfl, hBB⟩
  · rw [decide_eq_false hf]
    go_wp2_with fail
    refine (alive_any w1).mono ?_
    rintro e w2 ⟨rfl, hb2⟩
    clear hl hm
    go_wp2_with fail
    go_ret
    exact ⟨rfl, hb2⟩

set_option maxRecDepth 100000 in
theorem marksStyle_lifted (os : Os) (started : os.Started) (H : Type) (enc : TypeId × Value → H) :
    ReturnsInHanded {} Try.checked os 3 .any (Rows.marksStyleSpec.pre6 enc Try.prog Try.f3 Rows.marksStyleRow.domain false) (Rows.marksStyleSpec.post enc Try.prog Try.f3 false true false false) := by
  refine returnsInHanded_of_change (C := Try.checked) Try.own started (by kernel_rfl) Try.func3
    (ChangeSpec.witness6 (enc := enc) (C := Try.checked) false ⟨#[], #[.slice none 0 0, .slice none 0 0], []⟩ 8 (by kernel_rfl) (by kernel_rfl) (by kernel_rfl) (by kernel_rfl)) ?_
  intro W base args ds gs before hval0 hW hcnd _
  have hval : ∀ (j : Nat) t v, Try.f3.params[j]? = some t → args[j]? = some v → Value.okWide Try.prog W .any base t v := hval0
  have hW' := hW
  obtain ⟨p, q, hA0, hV, rfl, hfz, hnd⟩ := hW
  have hA : DataW.TrodAll enc Try.prog W 0 (fun _ => true) true Try.f3.params.toList args.toList ds p := hA0
  rw [Try.params3] at hA hval
  obtain ⟨v0, vs0, d0, ds0, p0, q0, hargs, rfl, rfl, h0, r0⟩ := trodAll_cons hA
  obtain ⟨v1, vs1, d1, ds1, p1, q1, rfl, rfl, rfl, h1, r1⟩ := trodAll_cons r0
  obtain ⟨rfl, rfl, rfl⟩ := trodAll_nil r1
  obtain rfl : args = #[v0, v1] := by cases args; simp_all
  obtain ⟨rfl, rfl⟩ := trodVars_none hV
  have k0 := h0
  have lt0 : ∀ x ∈ p0, x.block < W.heap.size := by obtain ⟨m, hm⟩ := k0; exact DataW.trod_lt m _ _ _ hm
  have k1 := h1
  have lt1 : ∀ x ∈ p1, x.block < W.heap.size := by obtain ⟨m, hm⟩ := k1; exact DataW.trod_lt m _ _ _ hm
  obtain ⟨l, hv0⟩ := open_els (hval 0 22 v0 rfl rfl) h0
  obtain ⟨ms, hv1⟩ := open_ops (hval 1 23 v1 rfl rfl) h1
  clear hA0 hval0
  refine (marksStyle_walk v0 v1 l ms W hv0 hv1).mono fun e W' ⟨he, bel⟩ => ?_
  subst he
  exact ⟨_, rfl, _, _, _, [], _, [], hW', trodAll_mk1 (shut_bool Try.underlying4 _), (trodAll_cons_mk (Below.trod Try.laidOut (by kernel_rfl) (of_decide_eq_true (by kernel_rfl)) k0 bel lt0) (trodAll_cons_mk (Below.trod Try.laidOut (by kernel_rfl) (of_decide_eq_true (by kernel_rfl)) k1 bel lt1) trodAll_mk0)), rfl, bel.frame _, fun h => by cases h⟩

theorem marksStyle_holds : Rows.MarksStyleSaid :=
  OpenClaim.holds_of_wide 3 Try.f3 rfl rfl rfl rfl rfl rfl rfl ⟨rfl, rfl, rfl, rfl, rfl⟩ rfl rfl rfl rfl rfl (by kernel_rfl) Try.func3 (by kernel_rfl)
    (of_decide_eq_true (by kernel_rfl)) (by unfold Func.isWrapper; first | (rw [if_pos (by decide +kernel)]; kernel_rfl) | (rw [if_neg (by decide +kernel)]; exact ⟨rfl, rfl⟩))
    (fun os started H enc _ => marksStyle_lifted os started H enc)

#print axioms marksStyle_holds

end Go.Proofs.Ytlfmkoapddihcaa
