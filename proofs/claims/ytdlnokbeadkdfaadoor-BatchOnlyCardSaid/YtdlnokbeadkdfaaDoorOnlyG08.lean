/- A contract of stemmaref03.Same. stemmalaw08.BatchOnly: walked. BatchOnly: the row, and its tied card. -/
import Derived.Test.YtdlnokbeadkdfaaDoorCnv08
import Derived.Deep.DeepCutAuto
import Derived.Test.YtdlnokbeadkdfaaDoorDecG08
import Derived.Test.YtdlnokbeadkdfaaDoorTie
import Derived.Test.YtdlnokbeadkdfaaDoorCards
import Derived.SevenTiedAt
namespace Go.Proofs.YtdlnokbeadkdfaaDoor
open Go.RowKit Go.Deep
set_option linter.unusedSimpArgs false
set_option linter.unusedVariables false

set_option maxRecDepth 20000 in
set_option maxHeartbeats 1000000 in
theorem sameB_any {w : World} {v1 v2 : Value} {l1 l2 : List UInt8} (h1 : SliceIs u8c 1 w v1 l1) (h2 : SliceIs u8c 1 w v2 l2) :
    Calls Tryd.prog 8 #[v1, v2] w fun e w' => e = .returned (.bool (decide (l1 = l2))) ∧ w' = w := by
  have c1 := conv_bytes h1
  have c2 := conv_bytes h2
  obtain ⟨a1, k1, rfl, _⟩ := id h1
  obtain ⟨a2, k2, rfl, _⟩ := id h2
  clear h1 h2
  by_cases he : l1 = l2
  · subst he
    go_enter Tryd.func8, Tryd.ntmps8
    go_wp2
    go_ret
    exact ⟨by simp, rfl⟩
  · have hn : (⟨l1.toArray⟩ : ByteArray) ≠ ⟨l2.toArray⟩ := fun e => he (by cases e; rfl)
    obtain ⟨n1, n2⟩ := str_ne he
    have hd : decide (l1 = l2) = false := decide_eq_false he
    go_enter Tryd.func8, Tryd.ntmps8
    go_wp2
    go_ret
    exact ⟨by first | (rw [hd]; rfl) | simp [he, n1, n2], rfl⟩


end Go.Proofs.YtdlnokbeadkdfaaDoor

namespace Go.Proofs.YtdlnokbeadkdfaaDoor
open Go.RowKit Go.Deep
set_option linter.unusedSimpArgs false
set_option linter.unusedVariables false

theorem Own.empty {base : Nat} {W : World} (hb : base ≤ W.heap.size) : Own u8c 1 5 base (W.alloc (.cells #[] 5)) (.slice (some ⟨W.heap.size, 0, none⟩) 0 0) [] :=
  ⟨rfl, .inr ⟨W.heap.size, 0, #[], rfl, hb, heap_new8 W _, Nat.le_refl _, Nat.zero_le _, rfl, rfl⟩⟩
theorem SliceIs.one_u8 (W : World) (x : UInt8) : SliceIs u8c 1 (W.alloc (.cells #[.int .u8 x.toNat] 5)) (.slice (some ⟨W.heap.size, 0, none⟩) 1 1) [x] :=
  ⟨_, _, rfl, Nat.le_refl _, by unfold maxLen; omega, fun _ => ⟨_, _, rfl, fun i y hi j u hj => by
    have h0 := (List.getElem?_eq_some_iff.1 hi).1
    have h1 : i = 0 := by simp at h0; omega
    subst h1
    cases hi
    have h2 := (List.getElem?_eq_some_iff.1 hj).1
    have h3 : j = 0 := by rw [u8c_len] at h2; omega
    subst h3
    cases hj
    simp⟩⟩
set_option maxRecDepth 20000 in
set_option maxHeartbeats 2000000 in
theorem only_any (v : Value) (b : List UInt8) (cut : Int) (more : UInt8) (w : World) (h : SliceIs u8c 1 w v b) (hg : ErrTy w) (hc1 : -9223372036854775808 ≤ cut) (hc2 : cut ≤ 9223372036854775807) :
    Calls Tryd.prog 3 #[v, .int .i64 cut, .int .u8 more.toNat] w fun e w' => e = .returned (.bool true) ∧ Below w.heap.size w w' := by
  obtain ⟨a, cap, rfl, hcap, hmax, -⟩ := id h
  unfold maxLen at hmax
  have HH := Lib.hid (And.intro h hg)
  clear h hg
  by_cases hbig : 20000 < b.length
  · have hb1 : (20000 : Int) < (b.length : Int) := by omega
    go_enter Tryd.func3, Tryd.ntmps3
    go_wp2_with fail
    refine (alive_any _ HH.out.2).mono ?_
    rintro e w2 ⟨rfl, hb⟩
    have HB := Lib.hid hb
    clear hb
    go_wp2_with fail
    go_ret
    exact ⟨rfl, HB.out⟩
  have hb1 : ¬ (20000 : Int) < (b.length : Int) := by omega
  cases hd : decB b with
  | none =>
    go_enter Tryd.func3, Tryd.ntmps3
    go_wp2_with fail
    refine (decode_any _ b _ HH.out.1 HH.out.2).mono ?_
    rintro e w2 (⟨l, x, hd2, _⟩ | ⟨_, rfl, hb⟩)
    · rw [hd] at hd2; cases hd2
    have HB := Lib.hid hb
    clear hb hd
    go_wp2_with fail
    refine (alive_any _ (HH.out.2.below HB.out)).mono ?_
    rintro e w3 ⟨rfl, hb⟩
    have HB3 := Lib.hid (HB.out.trans (hb.mono HB.out.size))
    clear hb
    go_wp2_with fail
    go_ret
    exact ⟨rfl, HB3.out⟩
  | some l =>
    have hbn := List.length_pos_iff.2 (dec_ne hd)
    have HD := Lib.hid hd
    clear hd
    have hp1 : (1 : Int) ≤ (b.length : Int) := by omega
    have hp2 : max (b.length : Int) 1 = (b.length : Int) := by omega
    obtain ⟨ed1, ed2, ed3, ed4⟩ := dec_enc HD.out
    have HE := Lib.hid (And.intro ed2 (And.intro ed3 ed4))
    clear ed2 ed3 ed4
    by_cases hcut : cut < 0
    · obtain ⟨q, hq⟩ : ∃ q : Nat, -(cut + 1) = (q : Int) := ⟨(-(cut + 1)).toNat, by omega⟩
      have hc3 : (q : Int) < 9223372036854775808 := by omega
      obtain ⟨m, hm⟩ : ∃ m : Nat, (q : Int) % (b.length : Int) = (m : Int) := ⟨((q : Int) % (b.length : Int)).toNat, by have := Int.emod_nonneg (q : Int) (show (b.length : Int) ≠ 0 by omega); omega⟩
      have hml : (q : Int) % (b.length : Int) < (b.length : Int) := Int.emod_lt_of_pos _ (by omega)
      have hmb : m < b.length := by omega
      have hm1 : (m : Int) ≤ (cap : Int) := by omega
      have HMB := Lib.hid hmb
      clear hml hmb
      go_enter Tryd.func3, Tryd.ntmps3
      go_wp2_with fail
      refine (decode_any _ b _ HH.out.1 HH.out.2).mono ?_
      rintro e w2 (⟨l2, x, hd2, rfl, ho, hb⟩ | ⟨hd2, _⟩)
      rotate_left
      · rw [HD.out] at hd2; cases hd2
      rw [HD.out] at hd2
      cases hd2
      obtain ⟨⟨xa, xn, xc⟩, ex⟩ := ho.sl
      dsimp only at ex
      subst ex
      have H2 := Lib.hid (And.intro (ho.slice OpD.len) hb)
      clear ho hb
      go_wp2_with fail
      refine (encode_any _ l _ H2.out.1 HE.out.2.1 (by omega)).mono ?_
      rintro e w3 (⟨_, _, v3, rfl, ho3, hb3⟩ | ⟨hc, _⟩ | ⟨_, ⟨y, hy, hyr⟩, _⟩)
      rotate_left
      · omega
      · rw [HE.out.1 y hy] at hyr; cases hyr
      obtain ⟨⟨ca, cn, cc⟩, ec⟩ := ho3.sl
      dsimp only at ec
      subst ec
      rw [HE.out.2.2] at ho3
      have H3 := Lib.hid (And.intro (ho3.slice u8c_len) (H2.out.2.trans (hb3.mono H2.out.2.size)))
      clear ho3 hb3
      go_wp2_with fail
      refine (sameB_any H3.out.1 (HH.out.1.below H3.out.2)).mono ?_
      rintro e w4 ⟨rfl, rfl⟩
      simp only [decide_true]
      go_wp2_with fail
      have HS : Hid (SliceIs u8c 1 w4 (.slice a m cap) (b.take m) ∧ m < b.length) := Lib.hid ⟨(HH.out.1.below H3.out.2).take1 (by have := HMB.out; omega), HMB.out⟩
      refine (decode_any _ (b.take m) _ HS.out.1 (HH.out.2.below H3.out.2)).mono ?_
      rintro e w5 (⟨l5, x5, hd5, _⟩ | ⟨_, rfl, hb5⟩)
      · rw [dec_cut HD.out HS.out.2] at hd5; cases hd5
      have hb5 := H3.out.2.trans (hb5.mono H3.out.2.size)
      have hbA := hb5.alloc hb5.size (.cells #[] 5)
      obtain ⟨⟨sa, sn, sc⟩, w6, hr6, ho6, hb6, hz6⟩ := bytes_append (Own.empty hb5.size) hbA (HH.out.1.below hbA) (by have := hb5.size; simp; omega) (by simp; omega)
      have hbB := hb6.alloc hz6 (.cells #[.int .u8 more.toNat] 5)
      obtain ⟨⟨ta, tn, tc⟩, w8, hr8, ho8, hb8, hz8⟩ := bytes_append (ho6.below1 ((Below.refl _ _).alloc (Nat.le_refl _) _)) hbB (SliceIs.one_u8 w6 more) (by simp; omega) (by simp; omega)
      rw [List.nil_append] at ho8
      have H8 := Lib.hid (And.intro (ho8.slice u8c_len) hb8)
      clear hb5 hbA ho6 hb6 hz6 hbB ho8 hb8 hz8
      go_wp2_with (first | (at_builtin; refine Lib.wpList_append_run _ rfl _ _ _ _ rfl _ _ rfl rfl _ _ hr6 ?_) | (at_builtin; refine Lib.wpList_append_run _ rfl _ _ _ _ rfl _ _ rfl rfl _ _ hr8 ?_))
      clear hr6 hr8
      refine (decode_any _ (b ++ [more]) _ H8.out.1 (HH.out.2.below H8.out.2)).mono ?_
      rintro e w9 (⟨l5, x5, hd5, _⟩ | ⟨_, rfl, hb9⟩)
      · rw [dec_more more HD.out] at hd5; cases hd5
      have H9 := Lib.hid (H8.out.2.trans (hb9.mono H8.out.2.size))
      clear hb9
      go_wp2_with fail
      refine (alive_any _ (HH.out.2.below H9.out)).mono ?_
      rintro e w10 ⟨rfl, hb⟩
      have HZ := Lib.hid (H9.out.trans (hb.mono H9.out.size))
      clear hb
      go_wp2_with fail
      go_ret
      exact ⟨rfl, HZ.out⟩
    · obtain ⟨q, rfl⟩ : ∃ q : Nat, cut = (q : Int) := ⟨cut.toNat, by omega⟩
      obtain ⟨m, hm⟩ : ∃ m : Nat, (q : Int) % (b.length : Int) = (m : Int) := ⟨((q : Int) % (b.length : Int)).toNat, by have := Int.emod_nonneg (q : Int) (show (b.length : Int) ≠ 0 by omega); omega⟩
      have hml : (q : Int) % (b.length : Int) < (b.length : Int) := Int.emod_lt_of_pos _ (by omega)
      have hmb : m < b.length := by omega
      have hm1 : (m : Int) ≤ (cap : Int) := by omega
      have HMB := Lib.hid hmb
      clear hml hmb
      go_enter Tryd.func3, Tryd.ntmps3
      go_wp2_with fail
      refine (decode_any _ b _ HH.out.1 HH.out.2).mono ?_
      rintro e w2 (⟨l2, x, hd2, rfl, ho, hb⟩ | ⟨hd2, _⟩)
      rotate_left
      · rw [HD.out] at hd2; cases hd2
      rw [HD.out] at hd2
      cases hd2
      obtain ⟨⟨xa, xn, xc⟩, ex⟩ := ho.sl
      dsimp only at ex
      subst ex
      have H2 := Lib.hid (And.intro (ho.slice OpD.len) hb)
      clear ho hb
      go_wp2_with fail
      refine (encode_any _ l _ H2.out.1 HE.out.2.1 (by omega)).mono ?_
      rintro e w3 (⟨_, _, v3, rfl, ho3, hb3⟩ | ⟨hc, _⟩ | ⟨_, ⟨y, hy, hyr⟩, _⟩)
      rotate_left
      · omega
      · rw [HE.out.1 y hy] at hyr; cases hyr
      obtain ⟨⟨ca, cn, cc⟩, ec⟩ := ho3.sl
      dsimp only at ec
      subst ec
      rw [HE.out.2.2] at ho3
      have H3 := Lib.hid (And.intro (ho3.slice u8c_len) (H2.out.2.trans (hb3.mono H2.out.2.size)))
      clear ho3 hb3
      go_wp2_with fail
      refine (sameB_any H3.out.1 (HH.out.1.below H3.out.2)).mono ?_
      rintro e w4 ⟨rfl, rfl⟩
      simp only [decide_true]
      go_wp2_with fail
      have HS : Hid (SliceIs u8c 1 w4 (.slice a m cap) (b.take m) ∧ m < b.length) := Lib.hid ⟨(HH.out.1.below H3.out.2).take1 (by have := HMB.out; omega), HMB.out⟩
      refine (decode_any _ (b.take m) _ HS.out.1 (HH.out.2.below H3.out.2)).mono ?_
      rintro e w5 (⟨l5, x5, hd5, _⟩ | ⟨_, rfl, hb5⟩)
      · rw [dec_cut HD.out HS.out.2] at hd5; cases hd5
      have hb5 := H3.out.2.trans (hb5.mono H3.out.2.size)
      have hbA := hb5.alloc hb5.size (.cells #[] 5)
      obtain ⟨⟨sa, sn, sc⟩, w6, hr6, ho6, hb6, hz6⟩ := bytes_append (Own.empty hb5.size) hbA (HH.out.1.below hbA) (by have := hb5.size; simp; omega) (by simp; omega)
      have hbB := hb6.alloc hz6 (.cells #[.int .u8 more.toNat] 5)
      obtain ⟨⟨ta, tn, tc⟩, w8, hr8, ho8, hb8, hz8⟩ := bytes_append (ho6.below1 ((Below.refl _ _).alloc (Nat.le_refl _) _)) hbB (SliceIs.one_u8 w6 more) (by simp; omega) (by simp; omega)
      rw [List.nil_append] at ho8
      have H8 := Lib.hid (And.intro (ho8.slice u8c_len) hb8)
      clear hb5 hbA ho6 hb6 hz6 hbB ho8 hb8 hz8
      go_wp2_with (first | (at_builtin; refine Lib.wpList_append_run _ rfl _ _ _ _ rfl _ _ rfl rfl _ _ hr6 ?_) | (at_builtin; refine Lib.wpList_append_run _ rfl _ _ _ _ rfl _ _ rfl rfl _ _ hr8 ?_))
      clear hr6 hr8
      refine (decode_any _ (b ++ [more]) _ H8.out.1 (HH.out.2.below H8.out.2)).mono ?_
      rintro e w9 (⟨l5, x5, hd5, _⟩ | ⟨_, rfl, hb9⟩)
      · rw [dec_more more HD.out] at hd5; cases hd5
      have H9 := Lib.hid (H8.out.2.trans (hb9.mono H8.out.2.size))
      clear hb9
      go_wp2_with fail
      refine (alive_any _ (HH.out.2.below H9.out)).mono ?_
      rintro e w10 ⟨rfl, hb⟩
      have HZ := Lib.hid (H9.out.trans (hb.mono H9.out.size))
      clear hb
      go_wp2_with fail
      go_ret
      exact ⟨rfl, HZ.out⟩

end Go.Proofs.YtdlnokbeadkdfaaDoor

namespace Go.Proofs.YtdlnokbeadkdfaaDoor
open Go Go.ChangeShapes Go.WideShapes Go.ChangeAt Go.RowKit
set_option linter.unusedSimpArgs false
set_option linter.unusedVariables false

set_option maxRecDepth 100000 in
theorem batchOnly_lifted (os : Os) (started : os.Started) (H : Type) (enc : TypeId × Value → H) :
    ReturnsInHanded {} Tryd.checked os 3 .any (fun w args => (Rows.batchOnlySpec.pre enc Tryd.prog Tryd.f3 [] false w args ∧ laidMetH Tryd.prog laidL w) ∧ sizedMet enc Tryd.prog Tryd.f3 (OpenSpec.ofChange Rows.batchOnlySpec) false w args)
      (Rows.batchOnlySpec.post enc Tryd.prog Tryd.f3 false true false false) := by
  refine returnsInHanded_of_change_and (C := Tryd.checked) (X := fun w _ => laidMetH Tryd.prog laidL w) (fun _ _ _ hh h => h.of_heap hh) Tryd.own started (by kernel_rfl) Tryd.func3
    (ChangeSpec.witness_shaped (enc := enc) (C := Tryd.checked) (os := os) (X := fun w _ => laidMetH Tryd.prog laidL w) false (worldL os) #[.slice none 0 0, .int .i64 0, .int .u8 0] 8 (worldL_os os) (World.shaped_of_ZipB (by kernel_rfl) (by kernel_rfl)) (by kernel_rfl) (by kernel_rfl) (by kernel_rfl) (worldL_met os _)) ?_
  intro W base args ds gs before hval0 hW _ _ hL _
  have hval : ∀ (j : Nat) t v, Tryd.f3.params[j]? = some t → args[j]? = some v → Value.okWide Tryd.prog W .any base t v := hval0
  have hW' := hW
  obtain ⟨p, q, hA0, hV, rfl, hfz, hnd⟩ := hW
  have hA : DataW.TrodAll enc Tryd.prog W 0 (fun _ => true) true Tryd.f3.params.toList args.toList ds p := hA0
  rw [Tryd.params3] at hA hval
  obtain ⟨v0, vs0, d0, ds0, p0, q0, hargs, rfl, rfl, h0, r0⟩ := trodAll_cons hA
  obtain ⟨v1, vs1, d1, ds1, p1, q1, rfl, rfl, rfl, h1, r1⟩ := trodAll_cons r0
  obtain ⟨v2, vs2, d2, ds2, p2, q2, rfl, rfl, rfl, h2, r2⟩ := trodAll_cons r1
  obtain ⟨rfl, rfl, rfl⟩ := trodAll_nil r2
  obtain rfl : args = #[v0, v1, v2] := by cases args; simp_all
  obtain ⟨rfl, rfl⟩ := trodVars_none hV
  have k0 := h0
  have lt0 : ∀ x ∈ p0, x.block < W.heap.size := by obtain ⟨m, hm⟩ := k0; exact DataW.trod_lt m _ _ _ hm
  have k1 := h1
  have lt1 : ∀ x ∈ p1, x.block < W.heap.size := by obtain ⟨m, hm⟩ := k1; exact DataW.trod_lt m _ _ _ hm
  have k2 := h2
  have lt2 : ∀ x ∈ p2, x.block < W.heap.size := by obtain ⟨m, hm⟩ := k2; exact DataW.trod_lt m _ _ _ hm
  obtain ⟨b, hv0⟩ := open_bytes8 (hval 0 22 v0 rfl rfl) h0
  obtain ⟨cut, rfl, hc1, hc2⟩ := open_int8 (hval 1 3 v1 rfl rfl) h1
  obtain ⟨more, rfl⟩ := open_byte8 (hval 2 5 v2 rfl rfl) h2
  clear hA0 hval0
  refine (only_any v0 b cut more W hv0 (errTy_of_laid hL) hc1 hc2).mono fun e W' ⟨he, bel⟩ => ?_
  subst he
  exact ⟨_, rfl, _, _, _, [], _, [], hW', trodAll_mk1 (shut_bool Tryd.underlying4 _), (trodAll_cons_mk (Below.trod Tryd.laidOut (by kernel_rfl) (of_decide_eq_true (by kernel_rfl)) k0 bel lt0) (trodAll_cons_mk (Below.trod Tryd.laidOut (by kernel_rfl) (of_decide_eq_true (by kernel_rfl)) k1 bel lt1) (trodAll_cons_mk (Below.trod Tryd.laidOut (by kernel_rfl) (of_decide_eq_true (by kernel_rfl)) k2 bel lt2) trodAll_mk0))), rfl, bel.frame _, fun h => by cases h⟩

theorem batchOnly_holds : Rows.BatchOnlySaid :=
  OpenClaim.holds_of_wide 3 Tryd.f3 rfl rfl rfl rfl rfl rfl rfl ⟨rfl, rfl, rfl, rfl, rfl⟩ rfl rfl rfl rfl rfl (by kernel_rfl) Tryd.func3 (by kernel_rfl)
    (of_decide_eq_true (by kernel_rfl)) (by unfold Func.isWrapper; first | (rw [if_pos (by decide +kernel)]; kernel_rfl) | (rw [if_neg (by decide +kernel)]; exact ⟨rfl, rfl⟩))
    (fun os started H enc _ => batchOnly_lifted os started H enc)

theorem batchOnly_card : Rows.BatchOnlyCardSaid :=
  Claim7.holds_tied_plain_at .later [] [.data, .handle, .pinned] true Rows.batchOnlyCard.stood.harness true
    batchOnly_holds (fun _ h => by cases h) (by kernel_rfl) (fun _ h => by cases h) batchOnly_row_tie rfl ⟨rfl, rfl⟩ (by kernel_rfl) rfl
    (fun f fn hf hfn => by
      obtain rfl : f = 3 := Option.some.inj ((show Tryd.prog.funcNamed "stemma/stemmalaw08.BatchOnly" = some 3 by kernel_rfl).symm.trans hf) |>.symm
      obtain rfl : fn = Tryd.f3 := (Option.some.inj (Tryd.func3.symm.trans hfn)).symm
      exact ⟨by kernel_rfl, fun j t ht => by
        rw [Tryd.params3] at ht
        have hm : t ∈ [22, 3, 5] := by simpa using Array.mem_of_getElem? ht
        have hall : ([22, 3, 5].all fun u => !Tryd.prog.wantsStandIn u) = true := by kernel_rfl
        exact (show Tryd.prog.wantsStandIn t = false by simpa using List.all_eq_true.1 hall t hm)⟩)
    (by kernel_rfl)
#print axioms batchOnly_card

end Go.Proofs.YtdlnokbeadkdfaaDoor
