/- stemmalaw08.alive: true. stemmalaw08.BatchDecodes: walked. BatchDecodes: the row, and its tied card. -/
import Derived.Test.YtgmdimbiipemhaaGreatDoorDecUD
import Derived.Test.YtgmdimbiipemhaaGreatDoorDecUE
import Derived.Test.YtgmdimbiipemhaaGreatDoorTie
import Derived.Test.YtgmdimbiipemhaaGreatDoorCards
import Derived.SevenTiedAt
namespace Go.Proofs.YtgmdimbiipemhaaGreatDoor
open Go.RowKit Go.Deep
set_option linter.unusedSimpArgs false
set_option linter.unusedVariables false

def oneOp : OpD := ⟨⟨1, 0⟩, 0, 0, 0, 0, 0, 0, 0, 0, 1, ⟨0, 0⟩, 2, 97, ⟨0, 0⟩, noText, noText, noText, ⟨0, 0⟩, false, ⟨0, 0⟩, false⟩
theorem oneOp_right : oneOp.right = true := by kernel_rfl
theorem oneOp_wf : oneOp.wf := by
  refine ⟨⟨by decide, by decide, by decide⟩, fun c hc => ?_⟩
  unfold fld oneOp
  split <;> decide
theorem putB_pos (n : Nat) : 1 ≤ (putB n).length := List.length_pos_iff.2 (putB_ne n)
theorem runsB_two (x : Int) (l : List Int) : 2 ≤ (runsB (x :: l)).length := by
  rw [runsB, List.length_append, List.length_append]
  have := putB_pos (leadN x l + 1)
  have := putB_pos (zigN x)
  omega
theorem numsB_two (o : OpD) (l : List OpD) : ∀ n, 2 * n ≤ (numsB (o :: l) n).length
  | 0 => by omega
  | n + 1 => by
    have ih := numsB_two o l n
    rw [numsB_succ, List.length_append]
    have : 2 ≤ (colB (o :: l) n).length := by
      unfold colB
      split
      · exact runsB_two _ _
      · exact runsB_two _ _
    omega
theorem oneOp_enc : 30 < (encB [oneOp]).length ∧ ∃ r, encB [oneOp] = 1 :: r := by
  have h := numsB_two oneOp [] 21
  rw [encB_eq]
  have e : putB ([oneOp] : List OpD).length = [1] := by
    rw [putB_lt (by decide)]
    rfl
  rw [e]
  refine ⟨?_, _, rfl⟩
  rw [List.length_append, List.length_append]
  omega
theorem oneOp_dec : decB (encB [oneOp]) = some [oneOp] := decB_iff.2 ⟨by decide, fun x hx => by rw [List.mem_singleton.1 hx]; exact ⟨oneOp_right, oneOp_wf⟩, rfl⟩
set_option maxRecDepth 20000 in
set_option maxHeartbeats 1000000 in
theorem alive_any (w : World) (hg : ErrTy w) : Calls Tryz.prog 13 #[] w fun e w' => e = .returned (.bool true) ∧ Below w.heap.size w w' := by
  have hw1 : Below w.heap.size w (w.alloc (.cells oneOp.cells.toArray 68)) := (Below.refl _ _).alloc (Nat.le_refl _) _
  have hs1 : SliceIs OpD.cells 26 (w.alloc (.cells oneOp.cells.toArray 68)) (.slice (some ⟨w.heap.size, 0, none⟩) 1 1) [oneOp] :=
    ⟨_, _, rfl, Nat.le_refl _, by unfold maxLen; omega, fun _ => ⟨_, _, rfl, fun i x hi j u hj => by
      have h0 := (List.getElem?_eq_some_iff.1 hi).1
      have h1 : i = 0 := by simp at h0; omega
      subst h1
      cases hi
      rw [Nat.zero_mul, Nat.zero_add]
      exact cells_new w _ _ j u hj⟩⟩
  have HS := Lib.hid (And.intro hs1 (And.intro hw1 (hg.below hw1)))
  clear hw1 hs1 hg
  go_enter Tryz.func13, Tryz.ntmps13
  go_wp2_with fail
  refine (encode_any _ [oneOp] _ HS.out.1 (fun x hx => by rw [List.mem_singleton.1 hx]; exact oneOp_wf) (by decide)).mono ?_
  intro e w2 hpost
  have hpost2 : ∃ v, e = .returned (.tuple #[v, .int .i64 0]) ∧ Own u8c 1 5 w.heap.size w2 v (encB [oneOp]) ∧ Below w.heap.size w w2 ∧ ErrTy w2 := by
    rcases hpost with ⟨h1, h2, v, h3, h4, h5⟩ | ⟨h1, _⟩ | ⟨_, ⟨x, hx, hr⟩, _⟩
    · exact ⟨v, h3, h4.mono HS.out.2.1.size, HS.out.2.1.trans (h5.mono HS.out.2.1.size), HS.out.2.2.below h5⟩
    · exact absurd h1 (by decide)
    · rw [List.mem_singleton.1 hx, oneOp_right] at hr
      cases hr
  clear hpost
  obtain ⟨v, rfl, hown, hb, hg⟩ := hpost2
  obtain ⟨B, hB⟩ : ∃ B, encB [oneOp] = B := ⟨_, rfl⟩
  have hen := oneOp_enc
  have hde := oneOp_dec
  rw [hB] at hown hen hde
  clear hB
  obtain ⟨hln, r, rfl⟩ := hen
  obtain ⟨⟨va, vn, vc⟩, ev⟩ := hown.sl
  dsimp only at ev
  subst ev
  obtain rfl : vn = (1 :: r : List UInt8).length := (hown.nlen u8c_len).1
  have HO := Lib.hid (And.intro (hown.slice u8c_len) (And.intro hb hg))
  clear hown hb hg
  go_wp2_with fail
  refine (decode_any _ (1 :: r) w2 HO.out.1 HO.out.2.2).mono ?_
  rintro e w3 (⟨l, x, hd, rfl, ho, hb⟩ | ⟨hd, _⟩)
  rotate_left
  · rw [hde] at hd; cases hd
  rw [hde] at hd
  cases hd
  rcases ho.eq_slice with ⟨_, e⟩ | ⟨g, cap, rfl, hg1, hg2⟩
  · cases e
  have c1 := ho.cellAt OpD.len (i := 0) (j := 14) (x := oneOp) (u := .int .i64 97) rfl rfl
  rw [Nat.zero_mul, Nat.zero_add] at c1
  obtain ⟨vb, vo, rfl, c2⟩ := (HO.out.1.below hb).at1 (k := 0) (x := (1 : UInt8)) (u := .int .u8 1) rfl rfl
  rw [Nat.add_zero] at c2
  rw [List.length_cons] at hln
  have h30 : (30 : Int) < (r.length : Int) + 1 := by omega
  have h00 : (0 : Int) < (r.length : Int) + 1 := by omega
  have HB : Hid (Below w.heap.size w w3) := Lib.hid (HO.out.2.1.trans (hb.mono HO.out.2.1.size))
  clear hb ho hg1 hg2 hln hde
  simp only [List.length_singleton, List.length_cons]
  go_wp2_with fail
  go_ret
  exact ⟨rfl, HB.out⟩

end Go.Proofs.YtgmdimbiipemhaaGreatDoor

namespace Go.Proofs.YtgmdimbiipemhaaGreatDoor
open Go.RowKit Go.Deep
set_option linter.unusedSimpArgs false
set_option linter.unusedVariables false

noncomputable def codeD (b : List UInt8) : Int := match decB b with | none => 81 | some _ => 0
noncomputable def outD (b : List UInt8) : List OpD := (decB b).getD []
/-- What Decode answers, as a function. -/
theorem decPost_fun {w w' : World} {b : List UInt8} {e : Ending} (h : DecPost w b e w') : ∃ a cap, e = .returned (.tuple #[.slice a (outD b).length cap, .int .i64 (codeD b)]) ∧ SliceIs OpD.cells 26 w' (.slice a (outD b).length cap) (outD b) ∧ Below w.heap.size w w' := by
  rcases h with ⟨l, v, h1, h2, h3, h4⟩ | ⟨h1, h2, h3⟩
  · have hc : codeD b = 0 := by unfold codeD; rw [h1]
    have ho : outD b = l := by unfold outD; rw [h1]; rfl
    rw [hc, ho]
    have hs := h3.slice OpD.len
    obtain ⟨a, cap, rfl, _⟩ := id hs
    exact ⟨a, cap, h2, hs, h4⟩
  · have hc : codeD b = 81 := by unfold codeD; rw [h1]
    have ho : outD b = [] := by unfold outD; rw [h1]; rfl
    rw [hc, ho]
    exact ⟨none, 0, h2, SliceIs.nil_any _ _ (by omega), h3⟩
theorem Own.noBytes {base : Nat} {W : World} (hb : base ≤ W.heap.size) : Own u8c 1 5 base (W.alloc (.cells #[] 5)) (.slice (some ⟨W.heap.size, 0, none⟩) 0 0) [] :=
  ⟨rfl, .inr ⟨W.heap.size, 0, #[], rfl, hb, heap_new8 W _, Nat.le_refl _, Nat.zero_le _, rfl, rfl⟩⟩
theorem SliceIs.one_u8' (W : World) (x : UInt8) : SliceIs u8c 1 (W.alloc (.cells #[.int .u8 (x.toNat : Int)] 5)) (.slice (some ⟨W.heap.size, 0, none⟩) 1 1) [x] :=
  ⟨_, _, rfl, Nat.le_refl _, by unfold maxLen; omega, fun _ => ⟨_, _, rfl, fun i y hi j u hj => by
    have h0 := (List.getElem?_eq_some_iff.1 hi).1
    have h1 : i = 0 := by simp at h0; omega
    subst h1
    cases hi
    rw [Nat.zero_mul, Nat.zero_add]
    have h2 := (List.getElem?_eq_some_iff.1 hj).1
    have h3 : j = 0 := by rw [u8c_len] at h2; omega
    subst h3
    cases hj
    rw [World.cell?_alloc_at _ _ _ _ rfl]
    rfl⟩⟩
set_option maxRecDepth 20000 in
set_option maxHeartbeats 2000000 in
theorem decs_any (v : Value) (l : List UInt8) (w : World) (h : SliceIs u8c 1 w v l) (hg : ErrTy w) :
    Calls Tryz.prog 3 #[v] w fun e w' => e = .returned (.bool true) ∧ Below w.heap.size w w' := by
  obtain ⟨a, cap, rfl, hcap, hmax, -⟩ := id h
  unfold maxLen at hmax
  have HH := Lib.hid (And.intro h hg)
  clear h hg
  by_cases hbig : 20000 < l.length
  · have hb1 : (20000 : Int) < (l.length : Int) := by omega
    go_enter Tryz.func3, Tryz.ntmps3
    go_wp2_with fail
    refine (alive_any _ HH.out.2).mono ?_
    rintro e w2 ⟨rfl, hb⟩
    have HB := Lib.hid hb
    clear hb
    go_wp2_with fail
    go_ret
    exact ⟨rfl, HB.out⟩
  have hb1 : ¬ (20000 : Int) < (l.length : Int) := by omega
  have hbA : Below w.heap.size w (w.alloc (.cells #[] 5)) := (Below.refl _ _).alloc (Nat.le_refl _) _
  obtain ⟨⟨sa, sn, sc⟩, w6, hr6, ho6, hb6, hz6⟩ := bytes_append (Own.noBytes (Nat.le_refl _)) hbA (HH.out.1.below hbA) (by simp) (by simp; omega)
  have hbB := hb6.alloc hz6 (.cells #[.int .u8 (((77 : UInt8).toNat : Nat) : Int)] 5)
  obtain ⟨⟨ta, tn, tc⟩, w8, hr8, ho8, hb8, hz8⟩ := bytes_append (ho6.below1 ((Below.refl _ _).alloc (Nat.le_refl _) _)) hbB (SliceIs.one_u8' w6 77) (by simp; omega) (by simp; omega)
  rw [List.nil_append] at ho8
  obtain ⟨ta2, tc2, et, hct, -, -⟩ := id (ho8.slice u8c_len)
  rcases ho8.eq_slice with ⟨_, e⟩ | ⟨g, gc, e8, hg1, hg2⟩
  · simp at e
  obtain ⟨rfl, rfl, rfl⟩ : ta = some ⟨g, 0, none⟩ ∧ tn = (l ++ [77]).length ∧ tc = tc2 := by
    injection e8 with e1 e2 e3
    injection et with e4 e5 e6
    exact ⟨e1, e2, e6⟩
  clear e8 et
  rw [List.length_append, List.length_singleton] at hct
  have H8 := Lib.hid (And.intro (ho8.slice u8c_len) (And.intro hb8 hz8))
  have hc8 : (l.length : Int) ≤ (tc : Int) := by omega
  have hc9 : (l.length : Int) + 1 ≤ (tc : Int) := by omega
  have HO : Hid (SliceIs u8c 1 w8 (.slice (some ⟨g, 0, none⟩) l.length tc) l) := Lib.hid (by
    have h1 := H8.out.1.take1 (k := l.length) (by simp)
    rwa [List.take_left] at h1)
  have h77 : ((77 : UInt8).toNat : Int) = 77 := rfl
  simp only [h77] at hr8
  clear hbA ho6 hb6 hz6 hbB ho8 hb8 hz8 hg1 hg2 h77
  go_enter Tryz.func3, Tryz.ntmps3
  go_wp2_with (first | (at_builtin; refine Lib.wpList_append_run _ rfl _ _ _ _ rfl _ _ rfl rfl _ _ hr6 ?_) | (at_builtin; refine Lib.wpList_append_run _ rfl _ _ _ _ rfl _ _ rfl rfl _ _ hr8 ?_))
  clear hr6 hr8
  refine (decode_any _ l _ HO.out (HH.out.2.below H8.out.2.1)).mono ?_
  intro e w9 hp
  obtain ⟨pa, pc, rfl, hs9, hb9⟩ := decPost_fun hp
  have H9 := Lib.hid (And.intro hs9 (H8.out.2.1.trans (hb9.mono H8.out.2.1.size)))
  have HO9 := Lib.hid (And.intro (HO.out.below hb9) (H8.out.1.below hb9))
  clear hp hs9 hb9 HO H8
  go_wp2_with fail
  refine (rdecode8_any _ l _ (HH.out.1.below H9.out.2)).mono ?_
  intro e w10 hp
  obtain ⟨qa, qc, rfl, hs10, hb10⟩ := decPost_fun hp
  have H10 := Lib.hid (And.intro hs10 (And.intro (H9.out.1.below hb10) (H9.out.2.trans (hb10.mono H9.out.2.size))))
  have HO10 := Lib.hid (And.intro (HO9.out.1.below hb10) (HO9.out.2.below hb10))
  clear hp hs10 hb10 HO9 H9
  obtain ⟨n, hn⟩ : ∃ n, codeD l = n := ⟨_, rfl⟩
  obtain ⟨m, hm⟩ : ∃ m, (outD l).length = m := ⟨_, rfl⟩
  rw [hm] at H10
  rw [hn, hm]
  clear hn hm
  go_wp2_with fail
  refine (same7_any _ _ (outD l) (outD l) _ H10.out.2.1 H10.out.1).mono ?_
  rintro e w12 ⟨rfl, hb12⟩
  simp only [decide_true]
  have H12 := Lib.hid (H10.out.2.2.trans (hb12.mono H10.out.2.2.size))
  have HO12 := Lib.hid (And.intro (HO10.out.1.below hb12) (HO10.out.2.below hb12))
  clear hb12 HO10 H10
  go_wp2_with fail
  refine (sameB_any HO12.out.1 (HH.out.1.below H12.out)).mono ?_
  rintro e w11 ⟨rfl, rfl⟩
  simp only [decide_true]
  go_wp2_with fail
  refine (alive_any _ (HH.out.2.below H12.out)).mono ?_
  rintro e w13 ⟨rfl, hb⟩
  have c77 : w13.cell? ⟨g, l.length, none⟩ = some (.int .u8 77) := by
    obtain ⟨a9, c9, e9, _, _, h9⟩ := HO12.out.2.below hb
    cases e9
    obtain ⟨b9, o9, e9, h10⟩ := h9 (by simp)
    cases e9
    have := h10 l.length 77 (by simp) 0 _ rfl
    simpa using this
  have HZ := Lib.hid (H12.out.trans (hb.mono H12.out.size))
  clear hb HO12 H12
  have hl0 : (0 : Int) ≤ (l.length : Int) := by omega
  go_wp2_with fail
  go_ret
  exact ⟨rfl, HZ.out⟩

end Go.Proofs.YtgmdimbiipemhaaGreatDoor

namespace Go.Proofs.YtgmdimbiipemhaaGreatDoor
open Go Go.ChangeShapes Go.WideShapes Go.ChangeAt Go.RowKit
set_option linter.unusedSimpArgs false
set_option linter.unusedVariables false

set_option maxRecDepth 100000 in
theorem batchDecodes_lifted (os : Os) (started : os.Started) (H : Type) (enc : TypeId × Value → H) :
    ReturnsInHanded {} Tryz.checked os 3 .any (fun w args => (Rows.batchDecodesSpec.pre enc Tryz.prog Tryz.f3 [] false w args ∧ laidMetH Tryz.prog laidL w) ∧ sizedMet enc Tryz.prog Tryz.f3 (OpenSpec.ofChange Rows.batchDecodesSpec) false w args)
      (Rows.batchDecodesSpec.post enc Tryz.prog Tryz.f3 false true false false) := by
  refine returnsInHanded_of_change_and (C := Tryz.checked) (X := fun w _ => laidMetH Tryz.prog laidL w) (fun _ _ _ hh h => h.of_heap hh) Tryz.own started (by kernel_rfl) Tryz.func3
    (ChangeSpec.witness_shaped (enc := enc) (C := Tryz.checked) (os := os) (X := fun w _ => laidMetH Tryz.prog laidL w) false (worldL os) #[.slice none 0 0] 8 (worldL_os os) (World.shaped_of_ZipB (by kernel_rfl) (by kernel_rfl)) (by kernel_rfl) (by kernel_rfl) (by kernel_rfl) (worldL_met os _)) ?_
  intro W base args ds gs before hval0 hW _ _ hL _
  have hval : ∀ (j : Nat) t v, Tryz.f3.params[j]? = some t → args[j]? = some v → Value.okWide Tryz.prog W .any base t v := hval0
  have hW' := hW
  obtain ⟨p, q, hA0, hV, rfl, hfz, hnd⟩ := hW
  have hA : DataW.TrodAll enc Tryz.prog W 0 (fun _ => true) true Tryz.f3.params.toList args.toList ds p := hA0
  rw [Tryz.params3] at hA hval
  obtain ⟨v0, vs0, d0, ds0, p0, q0, hargs, rfl, rfl, h0, r0⟩ := trodAll_cons hA
  obtain ⟨rfl, rfl, rfl⟩ := trodAll_nil r0
  obtain rfl : args = #[v0] := by cases args; simp_all
  obtain ⟨rfl, rfl⟩ := trodVars_none hV
  have k0 := h0
  have lt0 : ∀ x ∈ p0, x.block < W.heap.size := by obtain ⟨m, hm⟩ := k0; exact DataW.trod_lt m _ _ _ hm
  obtain ⟨b, hv0⟩ := open_bytes8 (hval 0 22 v0 rfl rfl) h0
  clear hA0 hval0
  refine (decs_any v0 b W hv0 (errTy_of_laid hL)).mono fun e W' ⟨he, bel⟩ => ?_
  subst he
  exact ⟨_, rfl, _, _, _, [], _, [], hW', trodAll_mk1 (shut_bool Tryz.underlying4 _), (trodAll_cons_mk (Below.trod Tryz.laidOut (by kernel_rfl) (of_decide_eq_true (by kernel_rfl)) k0 bel lt0) trodAll_mk0), rfl, bel.frame _, fun h => by cases h⟩

theorem batchDecodes_holds : Rows.BatchDecodesSaid :=
  OpenClaim.holds_of_wide 3 Tryz.f3 rfl rfl rfl rfl rfl rfl rfl ⟨rfl, rfl, rfl, rfl, rfl⟩ rfl rfl rfl rfl rfl (by kernel_rfl) Tryz.func3 (by kernel_rfl)
    (of_decide_eq_true (by kernel_rfl)) (by unfold Func.isWrapper; first | (rw [if_pos (by decide +kernel)]; kernel_rfl) | (rw [if_neg (by decide +kernel)]; exact ⟨rfl, rfl⟩))
    (fun os started H enc _ => batchDecodes_lifted os started H enc)

theorem batchDecodes_card : Rows.BatchDecodesCardSaid :=
  Claim7.holds_tied_plain_at .later [] [.data, .handle, .pinned] true Rows.batchDecodesCard.stood.harness true
    batchDecodes_holds (fun _ h => by cases h) (by kernel_rfl) (fun _ h => by cases h) batchDecodes_row_tie rfl ⟨rfl, rfl⟩ (by kernel_rfl) rfl
    (fun f fn hf hfn => by
      obtain rfl : f = 3 := Option.some.inj ((show Tryz.prog.funcNamed "stemma/stemmalaw08.BatchDecodes" = some 3 by kernel_rfl).symm.trans hf) |>.symm
      obtain rfl : fn = Tryz.f3 := (Option.some.inj (Tryz.func3.symm.trans hfn)).symm
      exact ⟨by kernel_rfl, fun j t ht => by
        rw [Tryz.params3] at ht
        have hm : t ∈ [22] := by simpa using Array.mem_of_getElem? ht
        have hall : ([22].all fun u => !Tryz.prog.wantsStandIn u) = true := by kernel_rfl
        exact (show Tryz.prog.wantsStandIn t = false by simpa using List.all_eq_true.1 hall t hm)⟩)
    (by kernel_rfl)
#print axioms batchDecodes_card

end Go.Proofs.YtgmdimbiipemhaaGreatDoor
