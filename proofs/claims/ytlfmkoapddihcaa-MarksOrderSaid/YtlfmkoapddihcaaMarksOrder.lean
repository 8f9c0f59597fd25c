/- The law MarksOrder: what each element has does not hang on the order of the marks, if no two have one stamp. -/
import Derived.Test.YtlfmkoapddihcaaOrderP17
import Derived.Test.YtlfmkoapddihcaaAlive17
import Derived.Test.YtlfmkoapddihcaaAppend
import Derived.Test.YtlfmkoapddihcaaHand
import Derived.Test.YtlfmkoapddihcaaRows
import Derived.IntWalk
import Derived.Deep.CutBlock
import Derived.Deep.DeepCutAuto
import Derived.ProofKit
import Derived.OpenShut
import Derived.ShutString
import Derived.ChangeOld
import Derived.Below
namespace Go.Proofs.Ytlfmkoapddihcaa
open Go.ChangeShapes Go.WideShapes Go.ChangeAt Go.RowKit Go.Deep
set_option linter.unusedSimpArgs false
set_option linter.unusedVariables false

theorem info_op : (Try.prog.info? 39).map (fun i => (i.zero, i.size, i.bytes)) = some (some (.agg (OpD.cells ⟨⟨0, 0⟩, 0, 0, 0, 0, 0, 0, 0, 0, 0, ⟨0, 0⟩, 0, 0, ⟨0, 0⟩, ⟨#[]⟩, ⟨#[]⟩, ⟨#[]⟩, ⟨0, 0⟩, false, ⟨0, 0⟩, false⟩).toArray), 26, 232) := by kernel_rfl

set_option maxRecDepth 100000 in
set_option maxHeartbeats 4000000 in
theorem marksOrder_walk (v0 v1 : Value) (l : List El) (ms : List OpD) (fr : Int) (w : World) (hl : SliceIs El.cells 4 w v0 l) (hm : SliceIs OpD.cells 26 w v1 ms) (hfr : -9223372036854775808 ≤ fr ∧ fr ≤ 9223372036854775807) :
    Calls Try.prog 4 #[v0, v1, .int .i64 fr] w fun e w' => e = .returned (.bool true) ∧ Below w.heap.size w w' := by
  obtain ⟨va, ca, rfl, hca, hma, _⟩ := id hl
  obtain ⟨vb, cb, rfl, hcb, hmb, hcs⟩ := id hm
  have HC := Lib.hid hcs
  clear hcs
  unfold maxLen at hmb
  by_cases hf : l.length ≤ 60 ∧ ms.length ≤ 30
  · by_cases hm0 : ms = []
    · subst hm0
      go_enter Try.func4, Try.ntmps4
      go_wp2_with fail
      refine (few_any va vb ca cb l.length 0 w).mono ?_
      rintro e w1 ⟨rfl, rfl⟩
      rw [decide_eq_true ⟨hf.1, by omega⟩]
      go_wp2_with fail
      refine (alive_any _).mono ?_
      rintro e w2 ⟨rfl, hb2⟩
      clear hl hm
      go_wp2_with fail
      go_ret
      exact ⟨rfl, hb2⟩
    obtain ⟨hf1, hf2⟩ := hf
    obtain ⟨b, o, rfl, hcc⟩ := HC.out hm0
    have hpos : 0 < ms.length := List.length_pos_iff.2 hm0
    have HCC := Lib.hid hcc
    have HM := Lib.hid hm
    have HL := Lib.hid hl
    have hm1 : ¬ (ms.length : Int) = 0 := by omega
    have hm2 : (0 : Int) < (ms.length : Int) := by omega
    clear hcc hl hm HC
    go_enter Try.func4, Try.ntmps4
    go_wp2_with fail
    refine (few_any va (some ⟨b, o, none⟩) ca cb l.length ms.length w).mono ?_
    rintro e w1 ⟨rfl, rfl⟩
    rw [decide_eq_true ⟨hf1, hf2⟩]
    go_wp2_with fail
    go_loopg [8] ms.length (fun g iv wr => ∃ i : Nat, g = ms.length - i ∧ i ≤ ms.length ∧ iv = .int .i64 i ∧ Hid (∀ (p q : Nat) (x y : OpD), p < i → q < p → ms[p]? = some x → ms[q]? = some y → x.id ≠ y.id) ∧ Below w1.heap.size w1 wr)
    case atStart => exact ⟨0, by omega, by omega, rfl, Lib.hid (fun p q x y hp => absurd hp (by omega)), Below.refl _ _⟩
    case round =>
      obtain ⟨i, hg, hi, rfl, hD, hB⟩ := hrel
      have HG := Lib.hid hg
      have HB := Lib.hid hB
      clear hg hB
      by_cases hil : i < ms.length
      · obtain ⟨x, hx⟩ : ∃ x, ms[i]? = some x := ⟨_, List.getElem?_eq_getElem hil⟩
        have hii : (i : Int) < (ms.length : Int) := by omega
        have HX := Lib.hid hx
        clear hx
        go_wp2_with fail
        go_loopg [9] i (fun g iv wy => ∃ k : Nat, g = i - k ∧ k ≤ i ∧ iv = .int .i64 k ∧ Hid (∀ (q : Nat) (y : OpD), q < k → ms[q]? = some y → x.id ≠ y.id) ∧ Below w1.heap.size w1 wy)
        case atStart => exact ⟨0, by omega, by omega, rfl, Lib.hid (fun q y hq => absurd hq (by omega)), HB.out⟩
        case round =>
          obtain ⟨k, hg2, hk, rfl, hE, hB2⟩ := hrel
          have HG2 := Lib.hid hg2
          clear hg2
          by_cases hki : k < i
          · obtain ⟨y, hy⟩ : ∃ y, ms[k]? = some y := ⟨_, List.getElem?_eq_getElem (by omega)⟩
            have hkk : (k : Int) < (i : Int) := by omega
            have hkl : (k : Int) < (ms.length : Int) := by omega
            have x0 : wr.cell? ⟨b, o + i * 26, none⟩ = some (.int .i64 x.id.n) := keepB hB2 (HCC.out i x HX.out 0 _ rfl)
            have x1 : wr.cell? ⟨b, o + i * 26 + 1, none⟩ = some (.int .i64 x.id.r) := keepB hB2 (HCC.out i x HX.out 1 _ rfl)
            have y0 : wr.cell? ⟨b, o + k * 26, none⟩ = some (.int .i64 y.id.n) := keepB hB2 (HCC.out k y hy 0 _ rfl)
            have y1 : wr.cell? ⟨b, o + k * 26 + 1, none⟩ = some (.int .i64 y.id.r) := keepB hB2 (HCC.out k y hy 1 _ rfl)
            have HY := Lib.hid hy
            have HB2 := Lib.hid hB2
            clear hy hB2
            by_cases h1 : x.id.n = y.id.n
            · by_cases h2 : x.id.r = y.id.r
              · rw [h1] at x0
                rw [h2] at x1
                go_upto_region 10 with fail
                go_quiet (fail)
                go_wp2_with fail
                refine (alive_any _).mono ?_
                rintro e w5 ⟨rfl, b5⟩
                have hB5 := (below_drewN HB2.out _).trans (b5.mono (below_drewN HB2.out _).size)
                clear b5 x0 x1 y0 y1
                go_wp2_with fail
                go_ret
                exact ⟨rfl, hB5⟩
              · have HN : Hid (x.id ≠ y.id) := Lib.hid (fun e => h2 (by rw [e]))
                go_upto_region 10 with fail
                go_quiet (fail)
                go_wp2_with fail
                go_roundg (i - (k + 1))
                case measure => rw [HG2.out]; omega
                case rel => exact ⟨k + 1, rfl, by omega, by simp, Lib.hid (fun q z hq hz => by
                  by_cases hqk : q < k
                  · exact hE.out q z hqk hz
                  · obtain rfl : q = k := by omega
                    rw [HY.out] at hz; cases hz; exact HN.out), below_drewN HB2.out _⟩
            · have HN : Hid (x.id ≠ y.id) := Lib.hid (fun e => h1 (by rw [e]))
              go_upto_region 10 with fail
              go_quiet (fail)
              go_wp2_with fail
              go_roundg (i - (k + 1))
              case measure => rw [HG2.out]; omega
              case rel => exact ⟨k + 1, rfl, by omega, by simp, Lib.hid (fun q z hq hz => by
                by_cases hqk : q < k
                · exact hE.out q z hqk hz
                · obtain rfl : q = k := by omega
                  rw [HY.out] at hz; cases hz; exact HN.out), below_drewN HB2.out _⟩
          · obtain rfl : k = i := by omega
            go_wp2_with fail
            go_roundg (ms.length - (k + 1))
            case measure => rw [HG.out]; omega
            case rel => exact ⟨k + 1, rfl, by omega, by simp, Lib.hid (fun p q z z' hp hq hz hz' => by
              by_cases hpk : p < k
              · exact hD.out p q z z' hpk hq hz hz'
              · obtain rfl : p = k := by omega
                rw [HX.out] at hz; cases hz; exact hE.out q z' hq hz'), hB2⟩
      · obtain rfl : i = ms.length := by omega
        have hnd : (ms.map (·.id)).Nodup := by
          refine List.pairwise_map.2 (List.pairwise_iff_getElem.2 fun p q hp hq hpq e => ?_)
          exact hD.out q p _ _ hq hpq (List.getElem?_eq_getElem hq) (List.getElem?_eq_getElem hp) e.symm
        have HND := Lib.hid hnd
        clear hnd hD
        obtain ⟨fr0, fr1⟩ := hfr
        go_upto_if 50 with fail
        go_cut [2] (fun kv wx => ∃ z : Nat, (z : Int) ≤ 9223372036854775807 ∧ kv = .int .i64 z ∧ wr = wx)
        case first =>
          by_cases hneg : fr < 0
          · obtain ⟨y, hy⟩ : ∃ y : Nat, (y : Int) = -(fr + 1) := ⟨(-(fr + 1)).toNat, by omega⟩
            have hy2 : IntKind.i64.wrap (-(fr + 1)) = (y : Int) := by rw [← hy]; exact IntWalk.i64_in _ (by omega)
            go_wp2_with fail
            go_meet
            case rel => exact ⟨y, by omega, by first | rfl | rw [hy] | rw [hy2] | (simp [hy]), rfl⟩
          · obtain ⟨y, rfl⟩ : ∃ y : Nat, fr = (y : Int) := ⟨fr.toNat, by omega⟩
            go_wp2_with fail
            go_meet
            case rel => exact ⟨y, by omega, rfl, rfl⟩
        case rest =>
          obtain ⟨z, hz1, rfl, rfl⟩ := hcut
          have hym : (z : Int) % (ms.length : Int) = ((z % ms.length : Nat) : Int) := by omega
          have hfl : z % ms.length < ms.length := Nat.mod_lt _ hpos
          go_upto_region 15 with fail
          rw [hym]
          generalize z % ms.length = f at *
          clear hym hz1
          have hk0 : (0 : Int) ≤ (f : Int) := by omega
          have hk1 : (f : Int) ≤ (cb : Int) := by omega
          have hk2 : (f : Int) ≤ (ms.length : Int) := by omega
          have hkz : ¬ (cb : Int) = (f : Int) := by omega
          have hkz2 : ¬ cb = f := by omega
          refine wp_region_held_drew (S := fun _ => True) (by kernel_rfl) trivial (fun _ => ?_)
          refine held_take (i := 1) (d := (some 59)) rfl rfl (by kernel_rfl) (by kernel_rfl) (by kernel_rfl) (fun _ _ _ h => h) (.inl ⟨by rfl, fun W hW => by go_simp; rfl⟩) trivial ?_
          try simp only [Act.put, List.setIfInBounds_toArray, List.set_cons_zero, List.set_cons_succ]
          refine held_take (i := 2) (d := (some 60)) rfl rfl (by kernel_rfl) (by kernel_rfl) (by kernel_rfl) (fun _ _ _ h => h) (.inl ⟨by rfl, fun W hW => by go_simp; rfl⟩) trivial ?_
          try simp only [Act.put, List.setIfInBounds_toArray, List.set_cons_zero, List.set_cons_succ]
          refine held_take (i := 3) (d := (some 61)) rfl rfl (by kernel_rfl) (by kernel_rfl) (by kernel_rfl) (fun _ _ _ h => h) (.inl ⟨by rfl, fun W hW => by go_simp; rfl⟩) trivial ?_
          try simp only [Act.put, List.setIfInBounds_toArray, List.set_cons_zero, List.set_cons_succ]
          refine held_take (i := 5) (d := (some 63)) rfl rfl (by kernel_rfl) (by kernel_rfl) (by kernel_rfl) (fun _ _ _ h => h) (.inl ⟨by rfl, fun W hW => by go_simp; rfl⟩) trivial ?_
          try simp only [Act.put, List.setIfInBounds_toArray, List.set_cons_zero, List.set_cons_succ]
          refine held_take (i := 6) (d := (some 64)) rfl rfl (by kernel_rfl) (by kernel_rfl) (by kernel_rfl) (fun _ _ _ h => h) (.inl ⟨by rfl, fun W hW => by go_simp; rfl⟩) trivial ?_
          try simp only [Act.put, List.setIfInBounds_toArray, List.set_cons_zero, List.set_cons_succ]
          refine held_take (i := 7) (d := (some 65)) rfl rfl (by kernel_rfl) (by kernel_rfl) (by kernel_rfl) (fun _ _ _ h => h) (.inl ⟨by rfl, fun W hW => by go_simp; rfl⟩) trivial ?_
          try simp only [Act.put, List.setIfInBounds_toArray, List.set_cons_zero, List.set_cons_succ]
          have HBd := Lib.hid HB.out.drew
          generalize wr.drew = W1 at *
          obtain ⟨i0, hi0, hi1, hi2, hi3⟩ := info_parts info_op
          have oa : Own OpD.cells 26 39 w1.heap.size (W1.alloc (.cells #[] 39)) (.slice (some ⟨W1.heap.size, 0, none⟩) 0 0) [] := Own.empty OpD.cells 26 39 HBd.out.size
          have ba := HBd.out.alloc HBd.out.size (.cells #[] 39)
          have za := ba.size
          refine held_one (i := 0) (by kernel_rfl) (op_ran (d := (some 58)) rfl rfl (by rfl) (by go_simp; first | rfl | exact ⟨rfl, rfl⟩) ⟨trivial, ?_⟩)
          try simp only [Act.put, List.setIfInBounds_toArray, List.set_cons_zero, List.set_cons_succ]
          generalize W1.alloc (.cells #[] 39) = Wa at *
          generalize W1.heap.size = na at *
          have hld : (ms.drop f).length ≤ 30 := by rw [List.length_drop]; omega
          have hlt : (ms.take f).length ≤ 30 := by rw [List.length_take]; omega
          obtain ⟨v26, w26, hr6, o26, x26⟩ := append_structs (P := Try.prog) 23 23 i0 (.agg (OpD.cells ⟨⟨0, 0⟩, 0, 0, 0, 0, 0, 0, 0, 0, 0, ⟨0, 0⟩, 0, 0, ⟨0, 0⟩, ⟨#[]⟩, ⟨#[]⟩, ⟨#[]⟩, ⟨0, 0⟩, false, ⟨0, 0⟩, false⟩).toArray) 232 Try.underlying23 hi0 hi1 hi2 hi3 rfl (by omega) OpD.len OpD.one oa ((HM.out.below ba).drop (n := f) (by omega)) (by unfold maxLen; simp; omega) (by simp; omega) za
          have b26 := Ext.new ba x26 (fun i hi _ e => by have := (oa.blk i e).1; omega) za
          have z26 := b26.size
          refine held_one (i := 4) (by kernel_rfl) (op_append rfl rfl (d := (some 62)) rfl (by rfl) rfl rfl hr6 ⟨trivial, ?_⟩)
          try simp only [Act.put, List.setIfInBounds_toArray, List.set_cons_zero, List.set_cons_succ]
          rw [List.nil_append] at o26
          obtain ⟨v29, w29, hr9, o29, x29⟩ := append_structs (P := Try.prog) 23 23 i0 (.agg (OpD.cells ⟨⟨0, 0⟩, 0, 0, 0, 0, 0, 0, 0, 0, 0, ⟨0, 0⟩, 0, 0, ⟨0, 0⟩, ⟨#[]⟩, ⟨#[]⟩, ⟨#[]⟩, ⟨0, 0⟩, false, ⟨0, 0⟩, false⟩).toArray) 232 Try.underlying23 hi0 hi1 hi2 hi3 rfl (by omega) OpD.len OpD.one o26 ((HM.out.below b26).take (n := f) (by omega)) (by unfold maxLen; omega) (by omega) z26
          have b29 := Ext.new b26 x29 (fun i hi _ e => by have := (o26.blk i e).1; omega) z26
          refine held_one (i := 8) (by kernel_rfl) (op_append rfl rfl (d := (some 66)) rfl (by rfl) rfl rfl hr9 ⟨trivial, ?_⟩)
          try simp only [Act.put, List.setIfInBounds_toArray, List.set_cons_zero, List.set_cons_succ]
          refine held_take (i := 9) (d := (some 10)) rfl rfl (by kernel_rfl) (by kernel_rfl) (by kernel_rfl) (fun _ _ _ h => h) (.inl ⟨by rfl, fun W hW => by go_simp; rfl⟩) trivial ?_
          try simp only [Act.put, List.setIfInBounds_toArray, List.set_cons_zero, List.set_cons_succ]
          refine wpAnyH_done (by kernel_rfl) ?_ _
          have hlT : (ms.drop f ++ ms.take f).length = ms.length := by rw [List.length_append, List.length_drop, List.length_take]; omega
          have hT := o29.slice OpD.len
          obtain ⟨aT, cT, rfl, _, _, _⟩ := id hT
          rw [hlT] at hT
          have HP := Lib.hid (turned_perm ms f)
          clear hr6 hr9 o26 oa x26 x29 b26 ba za z26 HBd
          generalize ms.drop f ++ ms.take f = tn at *
          rw [hlT]
          have HT := Lib.hid hT
          clear hT o29 hld hlt
          go_wp2_with fail
          refine (pstyle_any va (some ⟨b, o, none⟩) ca cb l ms w29 (HL.out.below b29) (HM.out.below b29) (by omega) (by omega)).mono ?_
          rintro e w2 ⟨ua, rfl, hSa, hb2⟩
          have hT2 := HT.out.below hb2
          rw [← hlT] at hT2
          have hb02 := b29.trans (hb2.mono b29.size)
          go_wp2_with fail
          rw [← hlT]
          refine (pstyle_any va aT ca cT l tn w2 ((HL.out.below b29).below hb2) hT2 (by omega) (by omega)).mono ?_
          rintro e w3 ⟨ub, rfl, hSb, hb3⟩
          have hSa3 := Lib.hid (hSa.out.ext hb3)
          have hb13 := Lib.hid (hb02.trans (hb3.mono hb02.size))
          obtain ⟨aa, cca, rfl, hc1, hc2⟩ := hSa3.out.shape
          obtain ⟨ab, ccb, rfl, hc3, hc4⟩ := hSb.out.shape
          clear hSa hb2 hb3 hT2 hb02 b29 HT
          go_wp2_with fail
          go_loopg [13] l.length (fun g iv wr => ∃ k : Nat, g = l.length - k ∧ k ≤ l.length ∧ iv = .int .i64 k ∧ Below w3.heap.size w3 wr)
          case atStart => exact ⟨0, by omega, by omega, rfl, Below.refl _ _⟩
          case round =>
            obtain ⟨k, hg, hk, rfl, hB⟩ := hrel
            have HG3 := Lib.hid hg
            by_cases hkl : k < l.length
            · obtain ⟨ba, oa, ca', sa, al, e1, _, _, xa, ya, za⟩ := (hSa3.out.ext hB).at hkl
              cases e1
              obtain ⟨bb, ob, cb', sb, bl, e2, _, _, xb, yb, zb⟩ := (hSb.out.ext hB).at hkl
              cases e2
              have hab : al = bl := za.unique (zb.perm HND.out HP.out)
              subst hab
              have hkk : (k : Int) < (l.length : Int) := by omega
              have HB3 := Lib.hid hB
              clear za zb hg hB
              go_upto_region 23 with fail
              go_region_held3 (fun W => W.cell? ⟨ba, oa + k, none⟩ = some (.slice sa.a sa.n sa.cap) ∧ W.cell? ⟨bb, ob + k, none⟩ = some (.slice sb.a sb.n sb.cap)) (first | exact ⟨xa, xb⟩ | exact ⟨keepB b5 xa, keepB b5 xb⟩) ((go_at_call 15; ((with_reducible refine (same_any _ _ al al _ ya.drew yb.drew).mono ?_); rintro e w5 ⟨rfl, b5⟩; simp only [heap_drew, below_drew] at b5)))
              all_goals
                have hB5 := HB3.out.trans (b5.mono HB3.out.size)
                clear xa xb ya yb b5
                go_wp2_with fail
                go_roundg (l.length - (k + 1))
                case measure => rw [HG3.out]; omega
                case rel => exact ⟨k + 1, rfl, by omega, by simp, by first | exact hB5 | exact hB5.drew⟩
            · obtain rfl : k = l.length := by omega
              go_wp2_with fail
              refine (alive_any wr).mono ?_
              rintro e w5 ⟨rfl, b5⟩
              have hBB := hb13.out.trans ((hB.trans (b5.mono hB.size)).mono hb13.out.size)
              clear b5 hB hSa3 hSb
              go_wp2_with fail
              go_ret
              exact ⟨rfl, hBB⟩
  · go_enter Try.func4, Try.ntmps4
    go_wp2_with fail
    refine (few_any va vb ca cb l.length ms.length w).mono ?_
    rintro e w1 ⟨rfl, rfl⟩
    rw [decide_eq_false hf]
    go_wp2_with fail
    refine (alive_any _).mono ?_
    rintro e w2 ⟨rfl, hb2⟩
    clear hl hm
    go_wp2_with fail
    go_ret
    exact ⟨rfl, hb2⟩

set_option maxRecDepth 100000 in
theorem marksOrder_lifted (os : Os) (started : os.Started) (H : Type) (enc : TypeId × Value → H) :
    ReturnsInHanded {} Try.checked os 4 .any (Rows.marksOrderSpec.pre6 enc Try.prog Try.f4 Rows.marksOrderRow.domain false) (Rows.marksOrderSpec.post enc Try.prog Try.f4 false true false false) := by
  refine returnsInHanded_of_change (C := Try.checked) Try.own started (by kernel_rfl) Try.func4
    (ChangeSpec.witness6 (enc := enc) (C := Try.checked) false ⟨#[], #[.slice none 0 0, .slice none 0 0, .int .i64 0], []⟩ 8 (by kernel_rfl) (by kernel_rfl) (by kernel_rfl) (by kernel_rfl)) ?_
  intro W base args ds gs before hval0 hW hcnd _
  have hval : ∀ (j : Nat) t v, Try.f4.params[j]? = some t → args[j]? = some v → Value.okWide Try.prog W .any base t v := hval0
  have hW' := hW
  obtain ⟨p, q, hA0, hV, rfl, hfz, hnd⟩ := hW
  have hA : DataW.TrodAll enc Try.prog W 0 (fun _ => true) true Try.f4.params.toList args.toList ds p := hA0
  rw [Try.params4] at hA hval
  obtain ⟨v0, vs0, d0, ds0, p0, q0, hargs, rfl, rfl, h0, r0⟩ := trodAll_cons hA
  obtain ⟨v1, vs1, d1, ds1, p1, q1, rfl, rfl, rfl, h1, r1⟩ := trodAll_cons r0
  obtain ⟨v2, vs2, d2, ds2, p2, q2, rfl, rfl, rfl, h2, r2⟩ := trodAll_cons r1
  obtain ⟨rfl, rfl, rfl⟩ := trodAll_nil r2
  obtain rfl : args = #[v0, v1, v2] := by cases args; simp_all
  obtain ⟨rfl, rfl⟩ := trodVars_none hV
  have k0 := h0
  have lt0 : ∀ x ∈ p0, x.block < W.heap.size := by obtain ⟨m, hm⟩ := k0; exact DataW.trod_lt m _ _ _ hm
  have k1 := h1
  have lt1 : ∀ x ∈ p1, x.block < W.heap.size := by obtain ⟨m, hm⟩ := k1; exact DataW.trod_lt m _ _ _ hm
  have k2 := h2
  have lt2 : ∀ x ∈ p2, x.block < W.heap.size := by obtain ⟨m, hm⟩ := k2; exact DataW.trod_lt m _ _ _ hm
  obtain ⟨l, hv0⟩ := open_els (hval 0 22 v0 rfl rfl) h0
  obtain ⟨ms, hv1⟩ := open_ops (hval 1 23 v1 rfl rfl) h1
  obtain ⟨z, rfl, hz⟩ := open_int17 (hval 2 3 v2 rfl rfl) h2
  clear hA0 hval0
  refine (marksOrder_walk v0 v1 l ms z W hv0 hv1 hz).mono fun e W' ⟨he, bel⟩ => ?_
  subst he
  exact ⟨_, rfl, _, _, _, [], _, [], hW', trodAll_mk1 (shut_bool Try.underlying4 _), (trodAll_cons_mk (Below.trod Try.laidOut (by kernel_rfl) (of_decide_eq_true (by kernel_rfl)) k0 bel lt0) (trodAll_cons_mk (Below.trod Try.laidOut (by kernel_rfl) (of_decide_eq_true (by kernel_rfl)) k1 bel lt1) (trodAll_cons_mk (Below.trod Try.laidOut (by kernel_rfl) (of_decide_eq_true (by kernel_rfl)) k2 bel lt2) trodAll_mk0))), rfl, bel.frame _, fun h => by cases h⟩

theorem marksOrder_holds : Rows.MarksOrderSaid :=
  OpenClaim.holds_of_wide 4 Try.f4 rfl rfl rfl rfl rfl rfl rfl ⟨rfl, rfl, rfl, rfl, rfl⟩ rfl rfl rfl rfl rfl (by kernel_rfl) Try.func4 (by kernel_rfl)
    (of_decide_eq_true (by kernel_rfl)) (by unfold Func.isWrapper; first | (rw [if_pos (by decide +kernel)]; kernel_rfl) | (rw [if_neg (by decide +kernel)]; exact ⟨rfl, rfl⟩))
    (fun os started H enc _ => marksOrder_lifted os started H enc)

#print axioms marksOrder_holds

end Go.Proofs.Ytlfmkoapddihcaa
