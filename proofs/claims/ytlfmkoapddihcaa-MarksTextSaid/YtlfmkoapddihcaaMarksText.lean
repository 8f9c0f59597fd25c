/- The law MarksText: the texts of a span's pieces, one behind the other, are its characters, whatever marks there are; no piece is empty, and no two that follow one another have the same marks. -/
import Derived.Test.YtlfmkoapddihcaaTextP17
import Derived.Test.YtlfmkoapddihcaaAlive17
import Derived.Test.YtlfmkoapddihcaaHand
import Derived.Test.YtlfmkoapddihcaaRows
import Derived.IntWalk
import Derived.ProofKit
import Derived.OpenShut
import Derived.ShutString
import Derived.ChangeOld
import Derived.Below
namespace Go.Proofs.Ytlfmkoapddihcaa
open Go.ChangeShapes Go.WideShapes Go.ChangeAt Go.RowKit Go.Deep
set_option linter.unusedSimpArgs false
set_option linter.unusedVariables false

theorem eq_nil_bytes {t : ByteArray} (h : 0 < t.size) : (t.toList == []) = false ∧ (t == ⟨#[]⟩) = false := by
  have hne : t ≠ ⟨#[]⟩ := by
    rintro rfl
    have e : (⟨#[]⟩ : ByteArray).size = 0 := rfl
    omega
  refine ⟨?_, by rw [beq_bytes]; simp [hne]⟩
  cases h2 : (t.toList == []) with
  | false => rfl
  | true => exact absurd ((eq_bytes t ⟨#[]⟩).1 (by simpa using eq_of_beq h2)) hne

set_option maxRecDepth 100000 in
set_option maxHeartbeats 2000000 in
theorem marksText_walk (v0 v1 : Value) (l : List El) (ms : List OpD) (y : Sp) (w : World) (hl : SliceIs El.cells 4 w v0 l) (hm : SliceIs OpD.cells 26 w v1 ms) :
    Calls Try.prog 10 #[v0, .agg #[.int .i64 y.n, .int .i64 y.r, .int .i64 y.lo, .int .i64 y.hi], v1] w fun e w' => e = .returned (.bool true) ∧ Below w.heap.size w w' := by
  obtain ⟨va, ca, rfl, hca, hma, _⟩ := id hl
  obtain ⟨vb, cb, rfl, hcb, hmb, _⟩ := id hm
  have hB0 : Below w.heap.size w (w.alloc (.cells #[.int .i64 y.n, .int .i64 y.r, .int .i64 y.lo, .int .i64 y.hi] 54)) := (Below.refl _ _).alloc (Nat.le_refl _) _
  have d0 : (w.alloc (.cells #[.int .i64 y.n, .int .i64 y.r, .int .i64 y.lo, .int .i64 y.hi] 54)).cell? ⟨w.heap.size, 0, none⟩ = some (.int .i64 y.n) := by go_simp
  have d1 : (w.alloc (.cells #[.int .i64 y.n, .int .i64 y.r, .int .i64 y.lo, .int .i64 y.hi] 54)).cell? ⟨w.heap.size, 1, none⟩ = some (.int .i64 y.r) := by go_simp
  have d2 : (w.alloc (.cells #[.int .i64 y.n, .int .i64 y.r, .int .i64 y.lo, .int .i64 y.hi] 54)).cell? ⟨w.heap.size, 2, none⟩ = some (.int .i64 y.lo) := by go_simp
  have d3 : (w.alloc (.cells #[.int .i64 y.n, .int .i64 y.r, .int .i64 y.lo, .int .i64 y.hi] 54)).cell? ⟨w.heap.size, 3, none⟩ = some (.int .i64 y.hi) := by go_simp
  have hl0 := hl.below hB0
  have hm0 := hm.below hB0
  obtain ⟨W0, hW0⟩ : ∃ W0, w.alloc (.cells #[.int .i64 y.n, .int .i64 y.r, .int .i64 y.lo, .int .i64 y.hi] 54) = W0 := ⟨_, rfl⟩
  rw [hW0] at hB0 hl0 hm0 d0 d1 d2 d3
  have HW0 := Lib.hid hW0
  clear hW0 hl hm
  go_enter Try.func10, Try.ntmps10
  go_upto_region 1 with fail
  rw [HW0.out]
  go_wp2_with fail
  refine (few_any va vb ca cb l.length ms.length W0).mono ?_
  rintro e w1 ⟨rfl, rfl⟩
  by_cases hf : l.length ≤ 60 ∧ ms.length ≤ 30
  · rw [decide_eq_true hf]
    obtain ⟨hf1, hf2⟩ := hf
    go_wp2_with fail
    refine (pieces_any va vb ca cb l ms y.n y.r y.lo y.hi w1 hl0 hm0 (by omega) (by omega)).mono ?_
    rintro e w2 ⟨ua, rfl, hPa, hb2⟩
    have hle := piecesP_le l ms y.lo y.hi
    have HF := Lib.hid (fair_pieces l ms y.lo y.hi)
    have HSM := Lib.hid (pieces_small (l := l) ms y.lo y.hi (by omega))
    have HTX := Lib.hid (pieces_text l ms y.lo y.hi)
    generalize piecesP l ms y.lo y.hi = P at *
    obtain ⟨aa, cca, rfl, hc1, hc2⟩ := hPa.out.shape
    replace d0 := keepB hb2 d0
    replace d1 := keepB hb2 d1
    replace d2 := keepB hb2 d2
    replace d3 := keepB hb2 d3
    have HL2 := Lib.hid (hl0.below hb2)
    have HB2 := Lib.hid (hB0.trans (hb2.mono hB0.size))
    clear hl0 hm0 hB0 hb2
    have hP60 : P.length ≤ 60 := by omega
    go_wp2_with fail
    go_loopg [9, 10] P.length (fun g tv iv wr => ∃ k : Nat, g = P.length - k ∧ k ≤ P.length ∧ tv = .string (textOf (P.take k)) ∧ iv = .int .i64 k ∧ Below w2.heap.size w2 wr)
    case atStart => exact ⟨0, by omega, by omega, rfl, rfl, Below.refl _ _⟩
    case round =>
      obtain ⟨k, hg, hk, rfl, rfl, hB⟩ := hrel
      have HG := Lib.hid hg
      have HB := Lib.hid hB
      by_cases hkl : k < P.length
      · obtain ⟨⟨t, al⟩, hx⟩ : ∃ x, P[k]? = some x := ⟨_, List.getElem?_eq_getElem hkl⟩
        obtain ⟨ba, oa, ca', sa, e1, _, _, ta, ma, ya⟩ := (hPa.out.ext hB).at hx
        cases e1
        have hkk : (k : Int) < (P.length : Int) := by omega
        have hts := HF.out.1 (t, al) (List.mem_of_getElem? hx)
        simp only at hts
        obtain ⟨n1, n2⟩ := eq_nil_bytes hts
        have htk := textOf_take hx
        simp only at htk
        have HTK := Lib.hid htk
        have hsum : ∀ W, (Op.stringOp .add (textOf (P.take k)) t).run Try.prog W = .ok (.string (textOf (P.take k) ++ t)) W := fun W => run_string_add_sum W _ _ (by
          have e1 := textOf_size (P := P.take k) (fun q hq => HSM.out q (List.mem_of_mem_take hq))
          rw [List.length_take] at e1
          have e2 := HSM.out (t, al) (List.mem_of_getElem? hx)
          simp only at e2
          omega)
        by_cases hk0 : k = 0
        · have hk1 : ¬ (0 : Int) < (k : Int) := by omega
          clear hg hB hx htk hk0
          go_wp2_with fail
          go_roundg (P.length - (k + 1))
          case measure => rw [HG.out]; omega
          case rel => exact ⟨k + 1, rfl, by omega, by rw [HTK.out], by simp, HB.out⟩
        · obtain ⟨q, rfl⟩ : ∃ q, k = q + 1 := ⟨k - 1, by omega⟩
          obtain ⟨⟨t', al'⟩, hx'⟩ : ∃ x, P[q]? = some x := ⟨_, List.getElem?_eq_getElem (by omega)⟩
          obtain ⟨bb, ob, cb', sb, e2, _, _, tb, mb, yb⟩ := (hPa.out.ext hB).at hx'
          cases e2
          have hne : al' ≠ al := HF.out.2 q _ _ hx' hx
          have ec : ((q + 1 : Nat) : Int) = (q : Int) + 1 := rfl
          rw [ec] at hkk ⊢
          have hk1 : (q : Int) < (P.length : Int) := by omega
          have hk2 : (0 : Int) < (q : Int) + 1 := by omega
          have hk3 : (q : Int) + 1 ≤ 1000 := by omega
          have hw1 : IntKind.i64.wrap (q : Int) = (q : Int) := IntWalk.i64_in _ (by omega)
          have hw2 : IntKind.i64.wrap ((q : Int) + 1 - 1) = (q : Int) := by rw [Int.add_sub_cancel]; exact hw1
          have hw3 : IntKind.i64.wrap ((q : Int) + 1) = (q : Int) + 1 := IntWalk.i64_in _ (by omega)
          have hq0 : (0 : Int) ≤ (q : Int) := by omega
          have hq1 : (0 : Int) ≤ (q : Int) + 1 := by omega
          have hd : decide (al' = al) = false := decide_eq_false hne
          have HD := Lib.hid hd
          clear hg hB hx htk hx' tb hne ec hd hk0
          go_upto_region 12 with fail
          go_region_held3 (fun W => W.cell? ⟨ba, oa + q * 2 + 1, none⟩ = some (.slice sb.a sb.n sb.cap) ∧ W.cell? ⟨ba, oa + (q + 1) * 2 + 1, none⟩ = some (.slice sa.a sa.n sa.cap)) (first | exact ⟨mb, ma⟩ | exact ⟨keepB b5 mb, keepB b5 ma⟩) ((go_at_call 15; ((with_reducible refine (same_any _ _ al' al _ yb.drew ya.drew).mono ?_); rintro e w5 ⟨rfl, b5⟩; rw [HD.out]; simp only [heap_drew, below_drew] at b5)))
          all_goals
            have hB5 := HB.out.trans (b5.mono HB.out.size)
            have ta5 := keepB b5 ta
            have HB5 := Lib.hid hB5
            clear ta ma mb ya yb b5 hB5
            go_wp2_with fail
            go_roundg (P.length - (q + 1 + 1))
            case measure => rw [HG.out]; omega
            case rel => exact ⟨q + 1 + 1, rfl, by omega, by rw [HTK.out], by simp, by first | exact HB5.out | exact HB5.out.drew⟩
      · obtain rfl : k = P.length := by omega
        rw [List.take_length]
        replace d0 := keepB hB d0
        replace d1 := keepB hB d1
        replace d2 := keepB hB d2
        replace d3 := keepB hB d3
        have HL3 := Lib.hid (HL2.out.below hB)
        have HB3 := Lib.hid (HB2.out.trans (hB.mono HB2.out.size))
        have hnil : SliceIs OpD.cells 26 wr (.slice none ([] : List OpD).length 0) [] := ⟨none, 0, rfl, Nat.le_refl _, Nat.zero_le _, fun h => absurd rfl h⟩
        clear hg hB HL2 HB2
        go_wp2_with fail
        refine (pieces_any va none ca 0 l [] y.n y.r y.lo y.hi wr HL3.out hnil (by omega) (by simp)).mono ?_
        rintro e w4 ⟨ub, rfl, hPb, hb4⟩
        have hR1 := plain_pieces l y.lo y.hi
        have HSM2 := Lib.hid (pieces_small (l := l) [] y.lo y.hi (by omega))
        rw [HTX.out]
        generalize piecesP l [] y.lo y.hi = R at *
        obtain ⟨ab, ccb, rfl, hc3, hc4⟩ := hPb.out.shape
        have HB4 := Lib.hid (HB3.out.trans (hb4.mono HB3.out.size))
        clear hb4 HB3 HL3 hnil d0 d1 d2 d3
        go_wp2_with fail
        go_loopg [13, 14] R.length (fun g tv iv wr => ∃ k : Nat, g = R.length - k ∧ k ≤ R.length ∧ tv = .string (textOf (R.take k)) ∧ iv = .int .i64 k ∧ Below w4.heap.size w4 wr)
        case atStart => exact ⟨0, by omega, by omega, rfl, rfl, Below.refl _ _⟩
        case round =>
          obtain ⟨k, hg, hk, rfl, rfl, hB⟩ := hrel
          have HG2 := Lib.hid hg
          have HB := Lib.hid hB
          by_cases hkl : k < R.length
          · obtain ⟨⟨t, al⟩, hx⟩ : ∃ x, R[k]? = some x := ⟨_, List.getElem?_eq_getElem hkl⟩
            obtain ⟨ba, oa, ca', sa, e1, _, _, ta, ma, ya⟩ := (hPb.out.ext hB).at hx
            cases e1
            have hkk : (k : Int) < (R.length : Int) := by omega
            have htk := textOf_take hx
            simp only at htk
            have HTK := Lib.hid htk
            have hsum : ∀ W, (Op.stringOp .add (textOf (R.take k)) t).run Try.prog W = .ok (.string (textOf (R.take k) ++ t)) W := fun W => run_string_add_sum W _ _ (by
              have e1 := textOf_size (P := R.take k) (fun q hq => HSM2.out q (List.mem_of_mem_take hq))
              rw [List.length_take] at e1
              have e2 := HSM2.out (t, al) (List.mem_of_getElem? hx)
              simp only at e2
              omega)
            clear hg hB hx htk
            go_wp2_with fail
            go_roundg (R.length - (k + 1))
            case measure => rw [HG2.out]; omega
            case rel => exact ⟨k + 1, rfl, by omega, by rw [HTK.out], by simp, HB.out⟩
          · obtain rfl : k = R.length := by omega
            rw [List.take_length]
            have hR2 : (R.length : Int) ≤ 1 := by omega
            clear hg hB
            go_wp2_with fail
            refine (alive_any _).mono ?_
            rintro e w6 ⟨rfl, b6⟩
            have hBB := HB4.out.trans ((HB.out.trans (b6.mono HB.out.size)).mono HB4.out.size)
            clear b6 HB hPb
            go_wp2_with fail
            go_ret
            exact ⟨rfl, hBB⟩
  · rw [decide_eq_false hf]
    go_wp2_with fail
    refine (alive_any _).mono ?_
    rintro e w2 ⟨rfl, hb2⟩
    have hB2 := hB0.trans (hb2.mono hB0.size)
    clear hl0 hm0 hB0 hb2
    go_wp2_with fail
    go_ret
    exact ⟨rfl, hB2⟩

set_option maxRecDepth 100000 in
theorem marksText_lifted (os : Os) (started : os.Started) (H : Type) (enc : TypeId × Value → H) :
    ReturnsInHanded {} Try.checked os 10 .any (Rows.marksTextSpec.pre6 enc Try.prog Try.f10 Rows.marksTextRow.domain false) (Rows.marksTextSpec.post enc Try.prog Try.f10 false true false false) := by
  refine returnsInHanded_of_change (C := Try.checked) Try.own started (by kernel_rfl) Try.func10
    (ChangeSpec.witness6 (enc := enc) (C := Try.checked) false ⟨#[], #[.slice none 0 0, .agg #[.int .i64 0, .int .i64 0, .int .i64 0, .int .i64 0], .slice none 0 0], []⟩ 8 (by kernel_rfl) (by kernel_rfl) (by kernel_rfl) (by kernel_rfl)) ?_
  intro W base args ds gs before hval0 hW hcnd _
  have hval : ∀ (j : Nat) t v, Try.f10.params[j]? = some t → args[j]? = some v → Value.okWide Try.prog W .any base t v := hval0
  have hW' := hW
  obtain ⟨p, q, hA0, hV, rfl, hfz, hnd⟩ := hW
  have hA : DataW.TrodAll enc Try.prog W 0 (fun _ => true) true Try.f10.params.toList args.toList ds p := hA0
  rw [Try.params10] at hA hval
  obtain ⟨v0, vs0, d0, ds0, p0, q0, hargs, rfl, rfl, h0, r0⟩ := trodAll_cons hA
  obtain ⟨v1, vs1, d1, ds1, p1, q1, rfl, rfl, rfl, h1, r1⟩ := trodAll_cons r0
  obtain ⟨v2, vs2, d2, ds2, p2, q2, rfl, rfl, rfl, h2, r2⟩ := trodAll_cons r1
  obtain ⟨rfl, rfl, rfl⟩ := trodAll_nil r2
  obtain rfl : args = #[v0, v1, v2] := by cases args; simp_all
  obtain ⟨rfl, rfl⟩ := trodVars_none hV
  have k0 := h0
  have lt0 : ∀ x ∈ p0, x.block < W.heap.size := by obtain ⟨m, hm⟩ := k0; exact DataW.trod_lt m _ _ _ hm
  have k1 := h1
  have lt1 : ∀ x ∈ p1, x.block < W.heap.size := by obtain ⟨m, hm⟩ := k1; exact DataW.trod_lt m _ _ _ hm
  have k2 := h2
  have lt2 : ∀ x ∈ p2, x.block < W.heap.size := by obtain ⟨m, hm⟩ := k2; exact DataW.trod_lt m _ _ _ hm
  obtain ⟨l, hv0⟩ := open_els (hval 0 22 v0 rfl rfl) h0
  obtain ⟨y, rfl⟩ := open_sp (hval 1 54 v1 rfl rfl) h1
  obtain ⟨ms, hv2⟩ := open_ops (hval 2 23 v2 rfl rfl) h2
  clear hA0 hval0
  refine (marksText_walk v0 v2 l ms y W hv0 hv2).mono fun e W' ⟨he, bel⟩ => ?_
  subst he
  exact ⟨_, rfl, _, _, _, [], _, [], hW', trodAll_mk1 (shut_bool Try.underlying4 _), (trodAll_cons_mk (Below.trod Try.laidOut (by kernel_rfl) (of_decide_eq_true (by kernel_rfl)) k0 bel lt0) (trodAll_cons_mk (Below.trod Try.laidOut (by kernel_rfl) (of_decide_eq_true (by kernel_rfl)) k1 bel lt1) (trodAll_cons_mk (Below.trod Try.laidOut (by kernel_rfl) (of_decide_eq_true (by kernel_rfl)) k2 bel lt2) trodAll_mk0))), rfl, bel.frame _, fun h => by cases h⟩

theorem marksText_holds : Rows.MarksTextSaid :=
  OpenClaim.holds_of_wide 10 Try.f10 rfl rfl rfl rfl rfl rfl rfl ⟨rfl, rfl, rfl, rfl, rfl⟩ rfl rfl rfl rfl rfl (by kernel_rfl) Try.func10 (by kernel_rfl)
    (of_decide_eq_true (by kernel_rfl)) (by unfold Func.isWrapper; first | (rw [if_pos (by decide +kernel)]; kernel_rfl) | (rw [if_neg (by decide +kernel)]; exact ⟨rfl, rfl⟩))
    (fun os started H enc _ => marksText_lifted os started H enc)

#print axioms marksText_holds

end Go.Proofs.Ytlfmkoapddihcaa
