/- stemmalaw21.GossipOnly: walked. GossipOnly: the row, and its tied card. -/
import Derived.Test.YtgmdimbiipemhaaGreatDoorGosB
import Derived.Test.YtgmdimbiipemhaaGreatDoorDecUD
import Derived.Test.YtgmdimbiipemhaaGreatDoorTie
import Derived.Test.YtgmdimbiipemhaaGreatDoorCards
import Derived.SevenTiedAt
namespace Go.Proofs.YtgmdimbiipemhaaGreatDoor
open Go.RowKit Go.Deep
set_option linter.unusedSimpArgs false
set_option linter.unusedVariables false

set_option maxRecDepth 20000 in
set_option maxHeartbeats 8000000 in
theorem gonly_any (v : Value) (b : List UInt8) (w : World) (h : SliceIs u8c 1 w v b) (hg : ErrTy w) : Calls Tryz.prog 6 #[v] w fun e w' => e = .returned (.bool true) ∧ Below w.heap.size w w' := by
  obtain ⟨a, cap, rfl, hcap, hmax, -⟩ := id h
  unfold maxLen at hmax
  have HH := Lib.hid (And.intro h hg)
  clear h hg
  by_cases hbig : 20000 < b.length
  · have hb1 : (20000 : Int) < (b.length : Int) := by omega
    go_enter Tryz.func6, Tryz.ntmps6
    go_wp2_with fail
    refine (alive21_any _ HH.out.2).mono ?_
    rintro e w2 ⟨rfl, hb⟩
    have HB := Lib.hid hb
    clear hb
    go_wp2_with fail
    go_ret
    exact ⟨rfl, HB.out⟩
  have hb1 : ¬ (20000 : Int) < (b.length : Int) := by omega
  go_enter Tryz.func6, Tryz.ntmps6
  go_wp2_with fail
  refine (hear_any _ b _ HH.out.1 HH.out.2).mono ?_
  rintro e w2 (⟨vs, l, x, hh, hvs, rfl, own2, b2⟩ | ⟨hno, rfl, b2⟩)
  rotate_left
  · have ev : vecV zero8 = .agg #[.int .i64 0, .int .i64 0, .int .i64 0, .int .i64 0, .int .i64 0, .int .i64 0, .int .i64 0, .int .i64 0] := rfl
    rw [ev]
    have heq := fun W => run_eql_vec [0, 0, 0, 0, 0, 0, 0, 0] [0, 0, 0, 0, 0, 0, 0, 0] rfl rfl W
    simp only [List.map_cons, List.map_nil, decide_true] at heq
    have hb3 : Below w2.heap.size w2 (w2.alloc (.cells #[.int .i64 0, .int .i64 0, .int .i64 0, .int .i64 0, .int .i64 0, .int .i64 0, .int .i64 0, .int .i64 0] 32)) := (Below.refl _ _).alloc (Nat.le_refl _) _
    have H3 := Lib.hid (And.intro (b2.trans (hb3.mono b2.size)) ((HH.out.2.below b2).below hb3))
    clear b2 hno ev hb3
    go_wp2_with fail
    refine (alive21_any _ H3.out.2).mono ?_
    rintro e w4 ⟨rfl, hb⟩
    have HB : Hid (Below w.heap.size w w4) := Lib.hid (H3.out.1.trans (hb.mono H3.out.1.size))
    clear hb
    go_wp2_with fail
    go_ret
    exact ⟨rfl, HB.out⟩
  obtain ⟨n0, n1, n2, n3, n4, n5, n6, n7, rfl⟩ := list8 hvs
  rw [vecV_eq]
  have hor := hear_only hh
  have hin : ∀ x ∈ ([n0, n1, n2, n3, n4, n5, n6, n7] : List Nat), x ≤ 1048576 := by
    rcases hor with ⟨_, _, h, _⟩ | ⟨_, hz, _⟩
    · exact h
    · rw [hz]; decide
  have hinv := InV_cast hin
  have hnat := natV_cast [n0, n1, n2, n3, n4, n5, n6, n7]
  simp only [List.map_cons, List.map_nil] at hinv hnat
  have HOR := Lib.hid hor
  have HIN := Lib.hid (And.intro hinv hnat)
  obtain ⟨⟨xa, xn, xc⟩, e2⟩ := own2.sl
  dsimp only at e2
  subst e2
  obtain rfl : xn = l.length := (own2.nlen OpD.len).1
  have hb3 : Below w2.heap.size w2 (w2.alloc (.cells #[.int .i64 (n0 : Int), .int .i64 (n1 : Int), .int .i64 (n2 : Int), .int .i64 (n3 : Int), .int .i64 (n4 : Int), .int .i64 (n5 : Int), .int .i64 (n6 : Int), .int .i64 (n7 : Int)] 32)) := (Below.refl _ _).alloc (Nat.le_refl _) _
  have H3 := Lib.hid (And.intro (b2.trans (hb3.mono b2.size)) (And.intro ((HH.out.2.below b2).below hb3) (And.intro ((own2.slice OpD.len).below hb3) ((HH.out.1.below b2).below hb3))))
  clear b2 own2 hh hvs hor hin hinv hnat hb3
  go_wp2_with fail
  refine (ask_any (n0 : Int) (n1 : Int) (n2 : Int) (n3 : Int) (n4 : Int) (n5 : Int) (n6 : Int) (n7 : Int) _).mono ?_
  rintro e w4 (⟨_, v4, rfl, own4, b4⟩ | ⟨hin, _⟩)
  rotate_left
  · exact absurd HIN.out.1 hin
  rw [HIN.out.2] at own4
  obtain ⟨⟨sa, sn, sc⟩, e4⟩ := own4.sl
  dsimp only at e4
  subst e4
  have H4 := Lib.hid (And.intro (H3.out.1.trans (b4.mono H3.out.1.size)) (And.intro (H3.out.2.1.below b4) (And.intro (H3.out.2.2.1.below b4) (And.intro (H3.out.2.2.2.below b4) (own4.slice u8c_len)))))
  clear own4 b4
  by_cases hl : l = []
  · have hl0 : l.length = 0 := by rw [hl]; rfl
    have HAB : Hid (askB [n0, n1, n2, n3, n4, n5, n6, n7] = b) := Lib.hid (by
      rcases HOR.out with ⟨_, _, _, h⟩ | ⟨h, _⟩
      · exact h.symm
      · exact absurd hl h)
    clear hl
    go_wp2_with fail
    refine (sameB_any H4.out.2.2.2.2 H4.out.2.2.2.1).mono ?_
    rintro e w5 ⟨rfl, rfl⟩
    rw [decide_eq_true HAB.out]
    go_wp2_with fail
    refine (alive21_any _ H4.out.2.1).mono ?_
    rintro e w6 ⟨rfl, hb⟩
    have HB : Hid (Below w.heap.size w w6) := Lib.hid (H4.out.1.trans (hb.mono H4.out.1.size))
    clear hb
    go_wp2_with fail
    go_ret
    exact ⟨rfl, HB.out⟩
  have hl0 : (0 : Int) < (l.length : Int) := by have := List.length_pos_iff.2 hl; omega
  have HG : Hid (l.length ≤ 200 ∧ (∀ x ∈ l, x.right = true ∧ x.wf) ∧ (encB l).length ≤ 65536 ∧ giveB l = b) := Lib.hid (by
    rcases HOR.out with ⟨h, _⟩ | ⟨_, _, h1, h2, h3, h4⟩
    · exact absurd h hl
    · exact ⟨h1, h2, h3, h4.symm⟩)
  have HNE := Lib.hid hl
  clear hl
  go_wp2_with fail
  refine (give_any _ l _ H4.out.2.2.1 (fun x hx => (HG.out.2.1 x hx).2) (by have := HG.out.1; omega)).mono ?_
  rintro e w5 (⟨_, _, v5, rfl, own5, b5⟩ | ⟨_, hb, _⟩ | ⟨hok, _⟩)
  rotate_left
  · exact absurd hb (by have := HG.out.2.2.1; omega)
  · exact absurd ⟨HNE.out, HG.out.1, fun x hx => (HG.out.2.1 x hx).1⟩ hok
  obtain ⟨⟨ta, tn, tc⟩, e5⟩ := own5.sl
  dsimp only at e5
  subst e5
  have H5 := Lib.hid (And.intro (H4.out.1.trans (b5.mono H4.out.1.size)) (And.intro (H4.out.2.1.below b5) (And.intro (H4.out.2.2.2.1.below b5) (own5.slice u8c_len))))
  clear own5 b5
  go_wp2_with fail
  refine (sameB_any H5.out.2.2.2 H5.out.2.2.1).mono ?_
  rintro e w6 ⟨rfl, rfl⟩
  rw [decide_eq_true HG.out.2.2.2]
  go_wp2_with fail
  refine (alive21_any _ H5.out.2.1).mono ?_
  rintro e w7 ⟨rfl, hb⟩
  have HB : Hid (Below w.heap.size w w7) := Lib.hid (H5.out.1.trans (hb.mono H5.out.1.size))
  clear hb
  go_wp2_with fail
  go_ret
  exact ⟨rfl, HB.out⟩

end Go.Proofs.YtgmdimbiipemhaaGreatDoor

namespace Go.Proofs.YtgmdimbiipemhaaGreatDoor
open Go Go.ChangeShapes Go.WideShapes Go.ChangeAt Go.RowKit
set_option linter.unusedSimpArgs false
set_option linter.unusedVariables false

set_option maxRecDepth 100000 in
theorem gossipOnly_lifted (os : Os) (started : os.Started) (H : Type) (enc : TypeId × Value → H) :
    ReturnsInHanded {} Tryz.checked os 6 .any (fun w args => (Rows.gossipOnlySpec.pre enc Tryz.prog Tryz.f6 [] false w args ∧ laidMetH Tryz.prog laidL w) ∧ sizedMet enc Tryz.prog Tryz.f6 (OpenSpec.ofChange Rows.gossipOnlySpec) false w args)
      (Rows.gossipOnlySpec.post enc Tryz.prog Tryz.f6 false true false false) := by
  refine returnsInHanded_of_change_and (C := Tryz.checked) (X := fun w _ => laidMetH Tryz.prog laidL w) (fun _ _ _ hh h => h.of_heap hh) Tryz.own started (by kernel_rfl) Tryz.func6
    (ChangeSpec.witness_shaped (enc := enc) (C := Tryz.checked) (os := os) (X := fun w _ => laidMetH Tryz.prog laidL w) false (worldL os) #[.slice none 0 0] 8 (worldL_os os) (World.shaped_of_ZipB (by kernel_rfl) (by kernel_rfl)) (by kernel_rfl) (by kernel_rfl) (by kernel_rfl) (worldL_met os _)) ?_
  intro W base args ds gs before hval0 hW _ _ hL _
  have hval : ∀ (j : Nat) t v, Tryz.f6.params[j]? = some t → args[j]? = some v → Value.okWide Tryz.prog W .any base t v := hval0
  have hW' := hW
  obtain ⟨p, q, hA0, hV, rfl, hfz, hnd⟩ := hW
  have hA : DataW.TrodAll enc Tryz.prog W 0 (fun _ => true) true Tryz.f6.params.toList args.toList ds p := hA0
  rw [Tryz.params6] at hA hval
  obtain ⟨v0, vs0, d0, ds0, p0, q0, hargs, rfl, rfl, h0, r0⟩ := trodAll_cons hA
  obtain ⟨rfl, rfl, rfl⟩ := trodAll_nil r0
  obtain rfl : args = #[v0] := by cases args; simp_all
  obtain ⟨rfl, rfl⟩ := trodVars_none hV
  have k0 := h0
  have lt0 : ∀ x ∈ p0, x.block < W.heap.size := by obtain ⟨m, hm⟩ := k0; exact DataW.trod_lt m _ _ _ hm
  obtain ⟨b, hv0⟩ := open_bytes8 (hval 0 22 v0 rfl rfl) h0
  clear hA0 hval0
  refine (gonly_any v0 b W hv0 (errTy_of_laid hL)).mono fun e W' ⟨he, bel⟩ => ?_
  subst he
  exact ⟨_, rfl, _, _, _, [], _, [], hW', trodAll_mk1 (shut_bool Tryz.underlying4 _), (trodAll_cons_mk (Below.trod Tryz.laidOut (by kernel_rfl) (of_decide_eq_true (by kernel_rfl)) k0 bel lt0) trodAll_mk0), rfl, bel.frame _, fun h => by cases h⟩

theorem gossipOnly_holds : Rows.GossipOnlySaid :=
  OpenClaim.holds_of_wide 6 Tryz.f6 rfl rfl rfl rfl rfl rfl rfl ⟨rfl, rfl, rfl, rfl, rfl⟩ rfl rfl rfl rfl rfl (by kernel_rfl) Tryz.func6 (by kernel_rfl)
    (of_decide_eq_true (by kernel_rfl)) (by unfold Func.isWrapper; first | (rw [if_pos (by decide +kernel)]; kernel_rfl) | (rw [if_neg (by decide +kernel)]; exact ⟨rfl, rfl⟩))
    (fun os started H enc _ => gossipOnly_lifted os started H enc)

theorem gossipOnly_card : Rows.GossipOnlyCardSaid :=
  Claim7.holds_tied_plain_at .later [] [.data, .handle, .pinned] true Rows.gossipOnlyCard.stood.harness true
    gossipOnly_holds (fun _ h => by cases h) (by kernel_rfl) (fun _ h => by cases h) gossipOnly_row_tie rfl ⟨rfl, rfl⟩ (by kernel_rfl) rfl
    (fun f fn hf hfn => by
      obtain rfl : f = 6 := Option.some.inj ((show Tryz.prog.funcNamed "stemma/stemmalaw21.GossipOnly" = some 6 by kernel_rfl).symm.trans hf) |>.symm
      obtain rfl : fn = Tryz.f6 := (Option.some.inj (Tryz.func6.symm.trans hfn)).symm
      exact ⟨by kernel_rfl, fun j t ht => by
        rw [Tryz.params6] at ht
        have hm : t ∈ [22] := by simpa using Array.mem_of_getElem? ht
        have hall : ([22].all fun u => !Tryz.prog.wantsStandIn u) = true := by kernel_rfl
        exact (show Tryz.prog.wantsStandIn t = false by simpa using List.all_eq_true.1 hall t hm)⟩)
    (by kernel_rfl)
#print axioms gossipOnly_card

end Go.Proofs.YtgmdimbiipemhaaGreatDoor
