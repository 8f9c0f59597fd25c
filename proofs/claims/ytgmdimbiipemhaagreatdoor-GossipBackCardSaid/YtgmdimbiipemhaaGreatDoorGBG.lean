/- stemmalaw21.GossipBack: walked. The reading of a vector. GossipBack: the row, and its tied card. -/
import Derived.Test.YtgmdimbiipemhaaGreatDoorGosB
import Derived.Test.YtgmdimbiipemhaaGreatDoorDecUD
import Derived.Test.YtgmdimbiipemhaaGreatDoorTie
import Derived.Test.YtgmdimbiipemhaaGreatDoorCards
import Derived.SevenTiedAt
namespace Go.Proofs.YtgmdimbiipemhaaGreatDoor
open Go.RowKit Go.Deep
set_option linter.unusedSimpArgs false
set_option linter.unusedVariables false

theorem hear_some {v : Value} {b : List UInt8} {w : World} {vs : List Nat} {l : List OpD} (hk : hearP b = some (vs, l)) (h : SliceIs u8c 1 w v b) (hg : ErrTy w) : Calls Tryz.prog 19 #[v] w fun e w' => ∃ x, e = .returned (.tuple #[vecV vs, x, .int .i64 0]) ∧ Own OpD.cells 26 68 w.heap.size w' x l ∧ Below w.heap.size w w' :=
  (hear_any v b w h hg).mono fun e w' hp => by
    rcases hp with ⟨vs', l', x, hh, _, he, ho, hb⟩ | ⟨hn, _⟩
    · rw [hk] at hh
      cases hh
      exact ⟨x, he, ho, hb⟩
    · rw [hk] at hn
      cases hn
theorem hear_none {v : Value} {b : List UInt8} {w : World} (hk : hearP b = none) (h : SliceIs u8c 1 w v b) (hg : ErrTy w) : Calls Tryz.prog 19 #[v] w fun e w' => e = .returned (.tuple #[.agg #[.int .i64 0, .int .i64 0, .int .i64 0, .int .i64 0, .int .i64 0, .int .i64 0, .int .i64 0, .int .i64 0], .slice none 0 0, .int .i64 211]) ∧ Below w.heap.size w w' :=
  (hear_any v b w h hg).mono fun e w' hp => by
    rcases hp with ⟨vs', l', x, hh, _⟩ | ⟨_, he, hb⟩
    · rw [hk] at hh
      cases hh
    · exact ⟨he, hb⟩
def VBox (W : World) (B : Nat) (V : List Int) : Prop := W.heap[B]? = some (.cells (V.map (Value.int .i64)).toArray 32 (0, 0))
theorem VBox.below {W W' : World} {B : Nat} {V : List Int} (h : VBox W B V) (hb : Below W.heap.size W W') : VBox W' B V := (hb.block B (Array.getElem?_eq_some_iff.1 h).1).trans h
theorem VBox.cells {W : World} {B : Nat} {d0 d1 d2 d3 d4 d5 d6 d7 : Int} (h : VBox W B [d0, d1, d2, d3, d4, d5, d6, d7]) : W.cell? ⟨B, 0, none⟩ = some (.int .i64 d0) ∧ W.cell? ⟨B, 1, none⟩ = some (.int .i64 d1) ∧ W.cell? ⟨B, 2, none⟩ = some (.int .i64 d2) ∧ W.cell? ⟨B, 3, none⟩ = some (.int .i64 d3) ∧ W.cell? ⟨B, 4, none⟩ = some (.int .i64 d4) ∧ W.cell? ⟨B, 5, none⟩ = some (.int .i64 d5) ∧ W.cell? ⟨B, 6, none⟩ = some (.int .i64 d6) ∧ W.cell? ⟨B, 7, none⟩ = some (.int .i64 d7) := by
  have hc : ∀ (k : Nat) (x : Int), ([d0, d1, d2, d3, d4, d5, d6, d7] : List Int)[k]? = some x → W.cell? ⟨B, k, none⟩ = some (.int .i64 x) := by
    intro k x hx
    have h1 : W.heap[B]? = some (.cells ([.int .i64 d0, .int .i64 d1, .int .i64 d2, .int .i64 d3, .int .i64 d4, .int .i64 d5, .int .i64 d6, .int .i64 d7]).toArray 32 (0, 0)) := h
    unfold World.cell?
    rw [h1]
    have := vcell21 d0 d1 d2 d3 d4 d5 d6 d7 hx
    simpa using this
  exact ⟨hc 0 _ rfl, hc 1 _ rfl, hc 2 _ rfl, hc 3 _ rfl, hc 4 _ rfl, hc 5 _ rfl, hc 6 _ rfl, hc 7 _ rfl⟩
/-- What a state keeps. -/
structure GBs (w W : World) (B : Nat) (V : List Int) (lv : Value) (l : List OpD) : Prop where
  bel : Below w.heap.size w W
  ops : SliceIs OpD.cells 26 W lv l
  err : ErrTy W
  box : VBox W B V
theorem GBs.below {w W W' : World} {B : Nat} {V : List Int} {lv : Value} {l : List OpD} (h : GBs w W B V lv l) (hb : Below W.heap.size W W') : GBs w W' B V lv l :=
  ⟨h.bel.trans (hb.mono h.bel.size), h.ops.below hb, h.err.below hb, h.box.below hb⟩
theorem natV_back {V : List Int} (h : InV V) : (natV V).map (fun n : Nat => (n : Int)) = V := by
  unfold natV
  rw [List.map_map]
  conv => rhs; rw [← List.map_id V]
  apply List.map_congr_left
  intro x hx
  have := h x hx
  simp
  omega
theorem vecV_back {d0 d1 d2 d3 d4 d5 d6 d7 : Int} (h : InV [d0, d1, d2, d3, d4, d5, d6, d7]) : vecV (natV [d0, d1, d2, d3, d4, d5, d6, d7]) = .agg #[.int .i64 d0, .int .i64 d1, .int .i64 d2, .int .i64 d3, .int .i64 d4, .int .i64 d5, .int .i64 d6, .int .i64 d7] := by
  have e : vecV (natV [d0, d1, d2, d3, d4, d5, d6, d7]) = .agg (((natV [d0, d1, d2, d3, d4, d5, d6, d7]).map (fun n : Nat => (n : Int))).map (Value.int .i64)).toArray := by
    unfold vecV vecN
    rw [List.map_map]
    rfl
  rw [e, natV_back h]
  rfl
/-- All that is asked of a message. -/
structure Msg (B : List UInt8) (vs : List Nat) (l : List OpD) : Prop where
  yes : hearP B = some (vs, l)
  more : ∀ x, hearP (B ++ [x]) = none
  less : hearP (B.take (B.length - 1)) = none
  pos : 0 < B.length
  len : B.length ≤ 100000
theorem msg_ask {V : List Int} (h : InV V) (hl : V.length = 8) : Msg (askB (natV V)) (natV V) [] := by
  have h1 := natV_in h
  have h2 : (natV V).length = 8 := by unfold natV; rw [List.length_map, hl]
  have h3 := nums_len h1
  exact ⟨hear_ask h2 h1, hear_more (by omega), hear_less (by omega), by unfold askB; rw [wrapB_len]; omega, by unfold askB; rw [wrapB_len]; omega⟩
theorem msg_give {l : List OpD} (h : GiveOk l) (hw : ∀ x ∈ l, x.wf) (hl : (encB l).length ≤ 65536) : Msg (giveB l) zero8 l :=
  ⟨hear_give h.2.1 (fun x hx => ⟨h.2.2 x hx, hw x hx⟩) h.1 hl, hear_more hl, hear_less hl, by unfold giveB; rw [wrapB_len]; omega, by unfold giveB; rw [wrapB_len]; omega⟩

set_option maxRecDepth 100000 in
set_option maxHeartbeats 16000000 in
theorem gback_any (d0 d1 d2 d3 d4 d5 d6 d7 : Int) (lv : Value) (l : List OpD) (more : UInt8) (w : World) (h : SliceIs OpD.cells 26 w lv l) (hwf : ∀ x ∈ l, x.wf) (hg : ErrTy w) : Calls Tryz.prog 5 #[.agg #[.int .i64 d0, .int .i64 d1, .int .i64 d2, .int .i64 d3, .int .i64 d4, .int .i64 d5, .int .i64 d6, .int .i64 d7], lv, .int .u8 (more.toNat : Int)] w fun e w' => e = .returned (.bool true) ∧ Below w.heap.size w w' := by
  obtain ⟨la, lc, hlv, hlcap, hmax, -⟩ := id h
  unfold maxLen at hmax
  have b1 : Below w.heap.size w (w.alloc (.cells #[.int .i64 d0, .int .i64 d1, .int .i64 d2, .int .i64 d3, .int .i64 d4, .int .i64 d5, .int .i64 d6, .int .i64 d7] 32)) := (Below.refl _ _).alloc (Nat.le_refl _) _
  have hbx : VBox (w.alloc (.cells #[.int .i64 d0, .int .i64 d1, .int .i64 d2, .int .i64 d3, .int .i64 d4, .int .i64 d5, .int .i64 d6, .int .i64 d7] 32)) w.heap.size [d0, d1, d2, d3, d4, d5, d6, d7] := heap_new8 w _
  have H1 : Hid (GBs w (w.alloc (.cells #[.int .i64 d0, .int .i64 d1, .int .i64 d2, .int .i64 d3, .int .i64 d4, .int .i64 d5, .int .i64 d6, .int .i64 d7] 32)) w.heap.size [d0, d1, d2, d3, d4, d5, d6, d7] lv l) := Lib.hid ⟨b1, h.below b1, hg.below b1, hbx⟩
  clear b1 hbx
  by_cases hbig : 210 < l.length
  · have hb1 : (210 : Int) < (l.length : Int) := by omega
    subst hlv
    go_enter Tryz.func5, Tryz.ntmps5
    go_wp2_with fail
    refine (alive21_any _ H1.out.err).mono ?_
    rintro e w30 ⟨rfl, hb⟩
    have HBF : Hid (Below w.heap.size w w30) := Lib.hid (H1.out.bel.trans (hb.mono H1.out.bel.size))
    clear hb
    go_wp2_with fail
    go_ret
    exact ⟨rfl, HBF.out⟩
  have hb1 : ¬ (210 : Int) < (l.length : Int) := by omega
  have HWF := Lib.hid (And.intro hwf (show l.length ≤ 1000000 by omega))
  have HLV := Lib.hid hlv
  clear h hg hwf hbig
  by_cases hin : InV [d0, d1, d2, d3, d4, d5, d6, d7]
  rotate_left
  · have HIN := Lib.hid hin
    clear hin
    rw [HLV.out] at H1 ⊢
    go_enter Tryz.func5, Tryz.ntmps5
    go_wp2_with fail
    refine (ask_any d0 d1 d2 d3 d4 d5 d6 d7 _).mono ?_
    rintro e w2 (⟨hin, _⟩ | ⟨_, rfl, b2⟩)
    · exact absurd hin HIN.out
    have H2a := Lib.hid (H1.out.below b2)
    clear b2
    go_wp2_with fail
    refine (give_any _ l _ H2a.out.ops HWF.out.1 HWF.out.2).mono ?_
    rintro e w20 (⟨hok, hsz, v20, rfl, own20, b20⟩ | ⟨_, _, rfl, b20⟩ | ⟨_, rfl, b20⟩)
    rotate_left
    · have H20 := Lib.hid (H2a.out.below b20)
      clear b20
      go_wp2_with fail
      refine (alive21_any _ H20.out.err).mono ?_
      rintro e w30 ⟨rfl, hb⟩
      have HBF : Hid (Below w.heap.size w w30) := Lib.hid (H20.out.bel.trans (hb.mono H20.out.bel.size))
      clear hb
      go_wp2_with fail
      go_ret
      exact ⟨rfl, HBF.out⟩
    · have H20 := Lib.hid (H2a.out.below b20)
      clear b20
      go_wp2_with fail
      refine (alive21_any _ H20.out.err).mono ?_
      rintro e w30 ⟨rfl, hb⟩
      have HBF : Hid (Below w.heap.size w w30) := Lib.hid (H20.out.bel.trans (hb.mono H20.out.bel.size))
      clear hb
      go_wp2_with fail
      go_ret
      exact ⟨rfl, HBF.out⟩
    obtain ⟨⟨sa, n, sc⟩, e20⟩ := own20.sl
    dsimp only at e20
    subst e20
    have hnn := (own20.nlen u8c_len).1
    have hns := (own20.slice u8c_len).n_eq.2
    have HM := Lib.hid (msg_give hok HWF.out.1 hsz)
    have hpos := HM.out.pos
    have H2 := Lib.hid (And.intro (H2a.out.below b20) (own20.slice u8c_len))
    obtain ⟨C, hC⟩ : ∃ C, giveB l = C := ⟨_, rfl⟩
    rw [hC] at hnn HM H2 hpos
    have HN : Hid (C.length = n) := Lib.hid hnn.symm
    rw [← hnn] at hpos
    have hn1 : ¬ (n : Int) = 0 := by omega
    have hn2 : 1 ≤ n := by omega
    clear own20 b20 hC hnn hok hsz
    go_wp2_with fail
    refine (hear_some HM.out.yes H2.out.2 H2.out.1.err).mono ?_
    rintro e w4 ⟨x, rfl, own4, b4⟩
    have ev : vecV zero8 = .agg #[.int .i64 0, .int .i64 0, .int .i64 0, .int .i64 0, .int .i64 0, .int .i64 0, .int .i64 0, .int .i64 0] := rfl
    rw [ev]
    clear ev
    obtain ⟨⟨xa, xn, xc⟩, e4⟩ := own4.sl
    dsimp only at e4
    subst e4
    have b5 : Below w4.heap.size w4 (w4.alloc (.cells #[.int .i64 0, .int .i64 0, .int .i64 0, .int .i64 0, .int .i64 0, .int .i64 0, .int .i64 0, .int .i64 0] 32)) := (Below.refl _ _).alloc (Nat.le_refl _) _
    have hbx : VBox (w4.alloc (.cells #[.int .i64 0, .int .i64 0, .int .i64 0, .int .i64 0, .int .i64 0, .int .i64 0, .int .i64 0, .int .i64 0] 32)) w4.heap.size [0, 0, 0, 0, 0, 0, 0, 0] := heap_new8 w4 _
    have H5 : Hid (GBs w (w4.alloc (.cells #[.int .i64 0, .int .i64 0, .int .i64 0, .int .i64 0, .int .i64 0, .int .i64 0, .int .i64 0, .int .i64 0] 32)) w.heap.size [d0, d1, d2, d3, d4, d5, d6, d7] (.slice la l.length lc) l ∧ SliceIs u8c 1 (w4.alloc (.cells #[.int .i64 0, .int .i64 0, .int .i64 0, .int .i64 0, .int .i64 0, .int .i64 0, .int .i64 0, .int .i64 0] 32)) (.slice sa n sc) C ∧ VBox (w4.alloc (.cells #[.int .i64 0, .int .i64 0, .int .i64 0, .int .i64 0, .int .i64 0, .int .i64 0, .int .i64 0, .int .i64 0] 32)) w4.heap.size [0, 0, 0, 0, 0, 0, 0, 0] ∧ SliceIs OpD.cells 26 (w4.alloc (.cells #[.int .i64 0, .int .i64 0, .int .i64 0, .int .i64 0, .int .i64 0, .int .i64 0, .int .i64 0, .int .i64 0] 32)) (.slice xa xn xc) _) := Lib.hid ⟨(H2.out.1.below b4).below b5, (H2.out.2.below b4).below b5, hbx, (own4.slice OpD.len).below b5⟩
    have hxn := (own4.nlen OpD.len).1
    have HXN := Lib.hid hxn
    clear own4 b4 b5 hbx hxn
    obtain ⟨w5, hw5⟩ : ∃ w5, w4.alloc (.cells #[.int .i64 0, .int .i64 0, .int .i64 0, .int .i64 0, .int .i64 0, .int .i64 0, .int .i64 0, .int .i64 0] 32) = w5 := ⟨_, rfl⟩
    rw [hw5] at H5
    have b6 : Below w5.heap.size w5 (w5.alloc (.cells #[] 5)) := (Below.refl _ _).alloc (Nat.le_refl _) _
    obtain ⟨⟨ka, kn, kc⟩, w7, hr7, own7, b7, z7⟩ := bytes_append (own_noB (base := w5.heap.size) (Nat.le_refl _)) b6 (H5.out.2.1.below b6) b6.size (by have := HM.out.len; simp; omega)
    rw [List.nil_append] at own7
    have b8 : Below w5.heap.size w5 (w7.alloc (.cells ([more].flatMap u8c).toArray 5)) := b7.alloc z7 _
    have hm8 := own_made (base := w5.heap.size) (W := w7) [more] z7 (by simp)
    obtain ⟨⟨ma, mn, mc⟩, w9, hr9, own9, b9, z9⟩ := bytes_append (own7.alloc (.cells ([more].flatMap u8c).toArray 5)) b8 (hm8.slice u8c_len) b8.size (by have := HM.out.len; simp; omega)
    have H9 : Hid (GBs w w9 w.heap.size [d0, d1, d2, d3, d4, d5, d6, d7] (.slice la l.length lc) l ∧ SliceIs u8c 1 w9 (.slice sa n sc) C ∧ VBox w9 w4.heap.size [0, 0, 0, 0, 0, 0, 0, 0] ∧ SliceIs OpD.cells 26 w9 (.slice xa xn xc) _ ∧ SliceIs u8c 1 w9 (.slice ma mn mc) (C ++ [more])) := Lib.hid ⟨H5.out.1.below b9, H5.out.2.1.below b9, H5.out.2.2.1.below b9, H5.out.2.2.2.below b9, own9.slice u8c_len⟩
    have HW5 := Lib.hid hw5
    clear own7 own9 b6 b7 b8 b9 z7 z9 hm8 H5 hw5
    go_upto_region 17 with fail
    rw [HW5.out]
    go_wp2_with (first | (at_builtin; refine Lib.wpList_append_run _ rfl _ _ _ _ rfl _ _ rfl rfl _ _ hr7 ?_) | (at_builtin; refine Lib.wpList_append_run _ rfl _ _ _ _ rfl _ _ rfl rfl _ _ hr9 ?_))
    clear hr7 hr9
    refine (hear_none (HM.out.more more) H9.out.2.2.2.2 H9.out.1.err).mono ?_
    rintro e w10 ⟨rfl, b10⟩
    have b11 : Below w10.heap.size w10 (w10.alloc (.cells #[.int .i64 0, .int .i64 0, .int .i64 0, .int .i64 0, .int .i64 0, .int .i64 0, .int .i64 0, .int .i64 0] 32)) := (Below.refl _ _).alloc (Nat.le_refl _) _
    have H11 : Hid (GBs w (w10.alloc (.cells #[.int .i64 0, .int .i64 0, .int .i64 0, .int .i64 0, .int .i64 0, .int .i64 0, .int .i64 0, .int .i64 0] 32)) w.heap.size [d0, d1, d2, d3, d4, d5, d6, d7] (.slice la l.length lc) l ∧ SliceIs u8c 1 (w10.alloc (.cells #[.int .i64 0, .int .i64 0, .int .i64 0, .int .i64 0, .int .i64 0, .int .i64 0, .int .i64 0, .int .i64 0] 32)) (.slice sa n sc) C ∧ VBox (w10.alloc (.cells #[.int .i64 0, .int .i64 0, .int .i64 0, .int .i64 0, .int .i64 0, .int .i64 0, .int .i64 0, .int .i64 0] 32)) w4.heap.size [0, 0, 0, 0, 0, 0, 0, 0] ∧ SliceIs OpD.cells 26 (w10.alloc (.cells #[.int .i64 0, .int .i64 0, .int .i64 0, .int .i64 0, .int .i64 0, .int .i64 0, .int .i64 0, .int .i64 0] 32)) (.slice xa xn xc) _) := Lib.hid ⟨(H9.out.1.below b10).below b11, (H9.out.2.1.below b10).below b11, (H9.out.2.2.1.below b10).below b11, (H9.out.2.2.2.1.below b10).below b11⟩
    clear b10 b11 H9
    obtain ⟨a12, hs12, hS12⟩ := slice_to21 (P := Tryz.prog) (ea := u8c) Tryz.underlying22 size_u8 sa n sc (n - 1) hns.1 (by omega)
    have hr12 : ∀ W, (Instr.slice 22 (.slice sa n sc) none (some (.int .i64 ((n : Int) - 1))) none).run Tryz.prog W = .ok (.slice a12 (n - 1) sc) W := fun W => by
      have := hs12 W
      rwa [show ((n - 1 : Nat) : Int) = (n : Int) - 1 by omega] at this
    have hq12 := fun W h => hS12 W C HN.out h
    have HQ12 := Lib.hid hq12
    clear hs12 hS12 hq12
    go_wp2_with fail
    refine (hear_none (by have h := HM.out.less; rw [HN.out] at h; exact h) (HQ12.out _ H11.out.2.1) H11.out.1.err).mono ?_
    rintro e w13 ⟨rfl, b13⟩
    have b14 : Below w13.heap.size w13 (w13.alloc (.cells #[.int .i64 0, .int .i64 0, .int .i64 0, .int .i64 0, .int .i64 0, .int .i64 0, .int .i64 0, .int .i64 0] 32)) := (Below.refl _ _).alloc (Nat.le_refl _) _
    have H14 : Hid (GBs w (w13.alloc (.cells #[.int .i64 0, .int .i64 0, .int .i64 0, .int .i64 0, .int .i64 0, .int .i64 0, .int .i64 0, .int .i64 0] 32)) w.heap.size [d0, d1, d2, d3, d4, d5, d6, d7] (.slice la l.length lc) l ∧ VBox (w13.alloc (.cells #[.int .i64 0, .int .i64 0, .int .i64 0, .int .i64 0, .int .i64 0, .int .i64 0, .int .i64 0, .int .i64 0] 32)) w4.heap.size [0, 0, 0, 0, 0, 0, 0, 0] ∧ SliceIs OpD.cells 26 (w13.alloc (.cells #[.int .i64 0, .int .i64 0, .int .i64 0, .int .i64 0, .int .i64 0, .int .i64 0, .int .i64 0, .int .i64 0] 32)) (.slice xa xn xc) _) := Lib.hid ⟨(H11.out.1.below b13).below b14, (H11.out.2.2.1.below b13).below b14, (H11.out.2.2.2.below b13).below b14⟩
    clear b13 b14 H11 hr12
    go_wp2_with fail
    refine (same7_any _ _ l l _ H14.out.2.2 H14.out.1.ops).mono ?_
    rintro e w15 ⟨rfl, b15⟩
    simp only [decide_true]
    have H15 := Lib.hid (And.intro (H14.out.1.below b15) (H14.out.2.1.below b15))
    obtain ⟨c0, c1, c2, c3, c4, c5, c6, c7⟩ := H15.out.2.cells
    have hneq := fun W => run_neq_vec [0, 0, 0, 0, 0, 0, 0, 0] [0, 0, 0, 0, 0, 0, 0, 0] rfl rfl W
    simp only [List.map_cons, List.map_nil, decide_true, Bool.not_true] at hneq
    clear b15
    go_wp2_with fail
    refine (alive21_any _ H15.out.1.err).mono ?_
    rintro e w30 ⟨rfl, hb⟩
    have HBF : Hid (Below w.heap.size w w30) := Lib.hid (H15.out.1.bel.trans (hb.mono H15.out.1.bel.size))
    clear hb
    go_wp2_with fail
    go_ret
    exact ⟨rfl, HBF.out⟩
  have HIN := Lib.hid hin
  clear hin
  rw [HLV.out] at H1 ⊢
  go_enter Tryz.func5, Tryz.ntmps5
  go_wp2_with fail
  refine (ask_any d0 d1 d2 d3 d4 d5 d6 d7 _).mono ?_
  rintro e w2 (⟨_, v2, rfl, own2, b2⟩ | ⟨hin, _⟩)
  rotate_left
  · exact absurd HIN.out hin
  obtain ⟨⟨sa, n, sc⟩, e2⟩ := own2.sl
  dsimp only at e2
  subst e2
  have hnn := (own2.nlen u8c_len).1
  have hns := (own2.slice u8c_len).n_eq.2
  have HM := Lib.hid (msg_ask HIN.out rfl)
  have hpos := HM.out.pos
  have H2 := Lib.hid (And.intro (H1.out.below b2) (own2.slice u8c_len))
  obtain ⟨B, hB⟩ : ∃ B, askB (natV [d0, d1, d2, d3, d4, d5, d6, d7]) = B := ⟨_, rfl⟩
  rw [hB] at hnn HM H2 hpos
  have HN : Hid (B.length = n) := Lib.hid hnn.symm
  rw [← hnn] at hpos
  have hn1 : ¬ (n : Int) = 0 := by omega
  have hn2 : 1 ≤ n := by omega
  clear own2 b2 hB hnn
  go_wp2_with fail
  refine (hear_some HM.out.yes H2.out.2 H2.out.1.err).mono ?_
  rintro e w4 ⟨x, rfl, own4, b4⟩
  rw [vecV_back HIN.out]
  obtain ⟨⟨xa, xn, xc⟩, e4⟩ := own4.sl
  dsimp only at e4
  subst e4
  have b5 : Below w4.heap.size w4 (w4.alloc (.cells #[.int .i64 d0, .int .i64 d1, .int .i64 d2, .int .i64 d3, .int .i64 d4, .int .i64 d5, .int .i64 d6, .int .i64 d7] 32)) := (Below.refl _ _).alloc (Nat.le_refl _) _
  have hbx : VBox (w4.alloc (.cells #[.int .i64 d0, .int .i64 d1, .int .i64 d2, .int .i64 d3, .int .i64 d4, .int .i64 d5, .int .i64 d6, .int .i64 d7] 32)) w4.heap.size [d0, d1, d2, d3, d4, d5, d6, d7] := heap_new8 w4 _
  have H5 : Hid (GBs w (w4.alloc (.cells #[.int .i64 d0, .int .i64 d1, .int .i64 d2, .int .i64 d3, .int .i64 d4, .int .i64 d5, .int .i64 d6, .int .i64 d7] 32)) w.heap.size [d0, d1, d2, d3, d4, d5, d6, d7] (.slice la l.length lc) l ∧ SliceIs u8c 1 (w4.alloc (.cells #[.int .i64 d0, .int .i64 d1, .int .i64 d2, .int .i64 d3, .int .i64 d4, .int .i64 d5, .int .i64 d6, .int .i64 d7] 32)) (.slice sa n sc) B ∧ VBox (w4.alloc (.cells #[.int .i64 d0, .int .i64 d1, .int .i64 d2, .int .i64 d3, .int .i64 d4, .int .i64 d5, .int .i64 d6, .int .i64 d7] 32)) w4.heap.size [d0, d1, d2, d3, d4, d5, d6, d7] ∧ SliceIs OpD.cells 26 (w4.alloc (.cells #[.int .i64 d0, .int .i64 d1, .int .i64 d2, .int .i64 d3, .int .i64 d4, .int .i64 d5, .int .i64 d6, .int .i64 d7] 32)) (.slice xa xn xc) _) := Lib.hid ⟨(H2.out.1.below b4).below b5, (H2.out.2.below b4).below b5, hbx, (own4.slice OpD.len).below b5⟩
  have hxn := (own4.nlen OpD.len).1
  have HXN := Lib.hid hxn
  clear own4 b4 b5 hbx hxn
  obtain ⟨w5, hw5⟩ : ∃ w5, w4.alloc (.cells #[.int .i64 d0, .int .i64 d1, .int .i64 d2, .int .i64 d3, .int .i64 d4, .int .i64 d5, .int .i64 d6, .int .i64 d7] 32) = w5 := ⟨_, rfl⟩
  rw [hw5] at H5
  have b6 : Below w5.heap.size w5 (w5.alloc (.cells #[] 5)) := (Below.refl _ _).alloc (Nat.le_refl _) _
  obtain ⟨⟨ka, kn, kc⟩, w7, hr7, own7, b7, z7⟩ := bytes_append (own_noB (base := w5.heap.size) (Nat.le_refl _)) b6 (H5.out.2.1.below b6) b6.size (by have := HM.out.len; simp; omega)
  rw [List.nil_append] at own7
  have b8 : Below w5.heap.size w5 (w7.alloc (.cells ([more].flatMap u8c).toArray 5)) := b7.alloc z7 _
  have hm8 := own_made (base := w5.heap.size) (W := w7) [more] z7 (by simp)
  obtain ⟨⟨ma, mn, mc⟩, w9, hr9, own9, b9, z9⟩ := bytes_append (own7.alloc (.cells ([more].flatMap u8c).toArray 5)) b8 (hm8.slice u8c_len) b8.size (by have := HM.out.len; simp; omega)
  have H9 : Hid (GBs w w9 w.heap.size [d0, d1, d2, d3, d4, d5, d6, d7] (.slice la l.length lc) l ∧ SliceIs u8c 1 w9 (.slice sa n sc) B ∧ VBox w9 w4.heap.size [d0, d1, d2, d3, d4, d5, d6, d7] ∧ SliceIs OpD.cells 26 w9 (.slice xa xn xc) _ ∧ SliceIs u8c 1 w9 (.slice ma mn mc) (B ++ [more])) := Lib.hid ⟨H5.out.1.below b9, H5.out.2.1.below b9, H5.out.2.2.1.below b9, H5.out.2.2.2.below b9, own9.slice u8c_len⟩
  have HW5 := Lib.hid hw5
  clear own7 own9 b6 b7 b8 b9 z7 z9 hm8 H5 hw5
  go_upto_region 8 with fail
  rw [HW5.out]
  go_wp2_with (first | (at_builtin; refine Lib.wpList_append_run _ rfl _ _ _ _ rfl _ _ rfl rfl _ _ hr7 ?_) | (at_builtin; refine Lib.wpList_append_run _ rfl _ _ _ _ rfl _ _ rfl rfl _ _ hr9 ?_))
  clear hr7 hr9
  refine (hear_none (HM.out.more more) H9.out.2.2.2.2 H9.out.1.err).mono ?_
  rintro e w10 ⟨rfl, b10⟩
  have b11 : Below w10.heap.size w10 (w10.alloc (.cells #[.int .i64 0, .int .i64 0, .int .i64 0, .int .i64 0, .int .i64 0, .int .i64 0, .int .i64 0, .int .i64 0] 32)) := (Below.refl _ _).alloc (Nat.le_refl _) _
  have H11 : Hid (GBs w (w10.alloc (.cells #[.int .i64 0, .int .i64 0, .int .i64 0, .int .i64 0, .int .i64 0, .int .i64 0, .int .i64 0, .int .i64 0] 32)) w.heap.size [d0, d1, d2, d3, d4, d5, d6, d7] (.slice la l.length lc) l ∧ SliceIs u8c 1 (w10.alloc (.cells #[.int .i64 0, .int .i64 0, .int .i64 0, .int .i64 0, .int .i64 0, .int .i64 0, .int .i64 0, .int .i64 0] 32)) (.slice sa n sc) B ∧ VBox (w10.alloc (.cells #[.int .i64 0, .int .i64 0, .int .i64 0, .int .i64 0, .int .i64 0, .int .i64 0, .int .i64 0, .int .i64 0] 32)) w4.heap.size [d0, d1, d2, d3, d4, d5, d6, d7] ∧ SliceIs OpD.cells 26 (w10.alloc (.cells #[.int .i64 0, .int .i64 0, .int .i64 0, .int .i64 0, .int .i64 0, .int .i64 0, .int .i64 0, .int .i64 0] 32)) (.slice xa xn xc) _) := Lib.hid ⟨(H9.out.1.below b10).below b11, (H9.out.2.1.below b10).below b11, (H9.out.2.2.1.below b10).below b11, (H9.out.2.2.2.1.below b10).below b11⟩
  clear b10 b11 H9
  obtain ⟨a12, hs12, hS12⟩ := slice_to21 (P := Tryz.prog) (ea := u8c) Tryz.underlying22 size_u8 sa n sc (n - 1) hns.1 (by omega)
  have hr12 : ∀ W, (Instr.slice 22 (.slice sa n sc) none (some (.int .i64 ((n : Int) - 1))) none).run Tryz.prog W = .ok (.slice a12 (n - 1) sc) W := fun W => by
    have := hs12 W
    rwa [show ((n - 1 : Nat) : Int) = (n : Int) - 1 by omega] at this
  have hq12 := fun W h => hS12 W B HN.out h
  have HQ12 := Lib.hid hq12
  clear hs12 hS12 hq12
  go_wp2_with fail
  refine (hear_none (by have h := HM.out.less; rw [HN.out] at h; exact h) (HQ12.out _ H11.out.2.1) H11.out.1.err).mono ?_
  rintro e w13 ⟨rfl, b13⟩
  have b14 : Below w13.heap.size w13 (w13.alloc (.cells #[.int .i64 0, .int .i64 0, .int .i64 0, .int .i64 0, .int .i64 0, .int .i64 0, .int .i64 0, .int .i64 0] 32)) := (Below.refl _ _).alloc (Nat.le_refl _) _
  have H14 : Hid (GBs w (w13.alloc (.cells #[.int .i64 0, .int .i64 0, .int .i64 0, .int .i64 0, .int .i64 0, .int .i64 0, .int .i64 0, .int .i64 0] 32)) w.heap.size [d0, d1, d2, d3, d4, d5, d6, d7] (.slice la l.length lc) l ∧ VBox (w13.alloc (.cells #[.int .i64 0, .int .i64 0, .int .i64 0, .int .i64 0, .int .i64 0, .int .i64 0, .int .i64 0, .int .i64 0] 32)) w4.heap.size [d0, d1, d2, d3, d4, d5, d6, d7] ∧ SliceIs OpD.cells 26 (w13.alloc (.cells #[.int .i64 0, .int .i64 0, .int .i64 0, .int .i64 0, .int .i64 0, .int .i64 0, .int .i64 0, .int .i64 0] 32)) (.slice xa xn xc) _) := Lib.hid ⟨(H11.out.1.below b13).below b14, (H11.out.2.2.1.below b13).below b14, (H11.out.2.2.2.below b13).below b14⟩
  clear b13 b14 H11 hr12
  obtain ⟨c0, c1, c2, c3, c4, c5, c6, c7⟩ := H14.out.2.1.cells
  obtain ⟨p0, p1, p2, p3, p4, p5, p6, p7⟩ := H14.out.1.box.cells
  have hneq := fun W => run_neq_vec [d0, d1, d2, d3, d4, d5, d6, d7] [d0, d1, d2, d3, d4, d5, d6, d7] rfl rfl W
  simp only [List.map_cons, List.map_nil, decide_true, Bool.not_true] at hneq
  have hxn := HXN.out
  simp only [List.length_nil] at hxn
  subst hxn
  go_upto_region 12 with fail
  clear c0 c1 c2 c3 c4 c5 c6 c7 p0 p1 p2 p3 p4 p5 p6 p7 hneq HM HN hns hn1 hn2 hpos
  have H2a := Lib.hid H14.out.1
  clear H14
  go_wp2_with fail
  refine (give_any _ l _ H2a.out.ops HWF.out.1 HWF.out.2).mono ?_
  rintro e w20 (⟨hok, hsz, v20, rfl, own20, b20⟩ | ⟨_, _, rfl, b20⟩ | ⟨_, rfl, b20⟩)
  rotate_left
  · have H20 := Lib.hid (H2a.out.below b20)
    clear b20
    go_wp2_with fail
    refine (alive21_any _ H20.out.err).mono ?_
    rintro e w30 ⟨rfl, hb⟩
    have HBF : Hid (Below w.heap.size w w30) := Lib.hid (H20.out.bel.trans (hb.mono H20.out.bel.size))
    clear hb
    go_wp2_with fail
    go_ret
    exact ⟨rfl, HBF.out⟩
  · have H20 := Lib.hid (H2a.out.below b20)
    clear b20
    go_wp2_with fail
    refine (alive21_any _ H20.out.err).mono ?_
    rintro e w30 ⟨rfl, hb⟩
    have HBF : Hid (Below w.heap.size w w30) := Lib.hid (H20.out.bel.trans (hb.mono H20.out.bel.size))
    clear hb
    go_wp2_with fail
    go_ret
    exact ⟨rfl, HBF.out⟩
  obtain ⟨⟨sa, n, sc⟩, e20⟩ := own20.sl
  dsimp only at e20
  subst e20
  have hnn := (own20.nlen u8c_len).1
  have hns := (own20.slice u8c_len).n_eq.2
  have HM := Lib.hid (msg_give hok HWF.out.1 hsz)
  have hpos := HM.out.pos
  have H2 := Lib.hid (And.intro (H2a.out.below b20) (own20.slice u8c_len))
  obtain ⟨C, hC⟩ : ∃ C, giveB l = C := ⟨_, rfl⟩
  rw [hC] at hnn HM H2 hpos
  have HN : Hid (C.length = n) := Lib.hid hnn.symm
  rw [← hnn] at hpos
  have hn1 : ¬ (n : Int) = 0 := by omega
  have hn2 : 1 ≤ n := by omega
  clear own20 b20 hC hnn hok hsz
  go_wp2_with fail
  refine (hear_some HM.out.yes H2.out.2 H2.out.1.err).mono ?_
  rintro e w4 ⟨x, rfl, own4, b4⟩
  have ev : vecV zero8 = .agg #[.int .i64 0, .int .i64 0, .int .i64 0, .int .i64 0, .int .i64 0, .int .i64 0, .int .i64 0, .int .i64 0] := rfl
  rw [ev]
  clear ev
  obtain ⟨⟨xa, xn, xc⟩, e4⟩ := own4.sl
  dsimp only at e4
  subst e4
  have b5 : Below w4.heap.size w4 (w4.alloc (.cells #[.int .i64 0, .int .i64 0, .int .i64 0, .int .i64 0, .int .i64 0, .int .i64 0, .int .i64 0, .int .i64 0] 32)) := (Below.refl _ _).alloc (Nat.le_refl _) _
  have hbx : VBox (w4.alloc (.cells #[.int .i64 0, .int .i64 0, .int .i64 0, .int .i64 0, .int .i64 0, .int .i64 0, .int .i64 0, .int .i64 0] 32)) w4.heap.size [0, 0, 0, 0, 0, 0, 0, 0] := heap_new8 w4 _
  have H5 : Hid (GBs w (w4.alloc (.cells #[.int .i64 0, .int .i64 0, .int .i64 0, .int .i64 0, .int .i64 0, .int .i64 0, .int .i64 0, .int .i64 0] 32)) w.heap.size [d0, d1, d2, d3, d4, d5, d6, d7] (.slice la l.length lc) l ∧ SliceIs u8c 1 (w4.alloc (.cells #[.int .i64 0, .int .i64 0, .int .i64 0, .int .i64 0, .int .i64 0, .int .i64 0, .int .i64 0, .int .i64 0] 32)) (.slice sa n sc) C ∧ VBox (w4.alloc (.cells #[.int .i64 0, .int .i64 0, .int .i64 0, .int .i64 0, .int .i64 0, .int .i64 0, .int .i64 0, .int .i64 0] 32)) w4.heap.size [0, 0, 0, 0, 0, 0, 0, 0] ∧ SliceIs OpD.cells 26 (w4.alloc (.cells #[.int .i64 0, .int .i64 0, .int .i64 0, .int .i64 0, .int .i64 0, .int .i64 0, .int .i64 0, .int .i64 0] 32)) (.slice xa xn xc) _) := Lib.hid ⟨(H2.out.1.below b4).below b5, (H2.out.2.below b4).below b5, hbx, (own4.slice OpD.len).below b5⟩
  have hxn := (own4.nlen OpD.len).1
  have HXN := Lib.hid hxn
  clear own4 b4 b5 hbx hxn
  obtain ⟨w5, hw5⟩ : ∃ w5, w4.alloc (.cells #[.int .i64 0, .int .i64 0, .int .i64 0, .int .i64 0, .int .i64 0, .int .i64 0, .int .i64 0, .int .i64 0] 32) = w5 := ⟨_, rfl⟩
  rw [hw5] at H5
  have b6 : Below w5.heap.size w5 (w5.alloc (.cells #[] 5)) := (Below.refl _ _).alloc (Nat.le_refl _) _
  obtain ⟨⟨ka, kn, kc⟩, w7, hr7, own7, b7, z7⟩ := bytes_append (own_noB (base := w5.heap.size) (Nat.le_refl _)) b6 (H5.out.2.1.below b6) b6.size (by have := HM.out.len; simp; omega)
  rw [List.nil_append] at own7
  have b8 : Below w5.heap.size w5 (w7.alloc (.cells ([more].flatMap u8c).toArray 5)) := b7.alloc z7 _
  have hm8 := own_made (base := w5.heap.size) (W := w7) [more] z7 (by simp)
  obtain ⟨⟨ma, mn, mc⟩, w9, hr9, own9, b9, z9⟩ := bytes_append (own7.alloc (.cells ([more].flatMap u8c).toArray 5)) b8 (hm8.slice u8c_len) b8.size (by have := HM.out.len; simp; omega)
  have H9 : Hid (GBs w w9 w.heap.size [d0, d1, d2, d3, d4, d5, d6, d7] (.slice la l.length lc) l ∧ SliceIs u8c 1 w9 (.slice sa n sc) C ∧ VBox w9 w4.heap.size [0, 0, 0, 0, 0, 0, 0, 0] ∧ SliceIs OpD.cells 26 w9 (.slice xa xn xc) _ ∧ SliceIs u8c 1 w9 (.slice ma mn mc) (C ++ [more])) := Lib.hid ⟨H5.out.1.below b9, H5.out.2.1.below b9, H5.out.2.2.1.below b9, H5.out.2.2.2.below b9, own9.slice u8c_len⟩
  have HW5 := Lib.hid hw5
  clear own7 own9 b6 b7 b8 b9 z7 z9 hm8 H5 hw5
  go_upto_region 17 with fail
  rw [HW5.out]
  go_wp2_with (first | (at_builtin; refine Lib.wpList_append_run _ rfl _ _ _ _ rfl _ _ rfl rfl _ _ hr7 ?_) | (at_builtin; refine Lib.wpList_append_run _ rfl _ _ _ _ rfl _ _ rfl rfl _ _ hr9 ?_))
  clear hr7 hr9
  refine (hear_none (HM.out.more more) H9.out.2.2.2.2 H9.out.1.err).mono ?_
  rintro e w10 ⟨rfl, b10⟩
  have b11 : Below w10.heap.size w10 (w10.alloc (.cells #[.int .i64 0, .int .i64 0, .int .i64 0, .int .i64 0, .int .i64 0, .int .i64 0, .int .i64 0, .int .i64 0] 32)) := (Below.refl _ _).alloc (Nat.le_refl _) _
  have H11 : Hid (GBs w (w10.alloc (.cells #[.int .i64 0, .int .i64 0, .int .i64 0, .int .i64 0, .int .i64 0, .int .i64 0, .int .i64 0, .int .i64 0] 32)) w.heap.size [d0, d1, d2, d3, d4, d5, d6, d7] (.slice la l.length lc) l ∧ SliceIs u8c 1 (w10.alloc (.cells #[.int .i64 0, .int .i64 0, .int .i64 0, .int .i64 0, .int .i64 0, .int .i64 0, .int .i64 0, .int .i64 0] 32)) (.slice sa n sc) C ∧ VBox (w10.alloc (.cells #[.int .i64 0, .int .i64 0, .int .i64 0, .int .i64 0, .int .i64 0, .int .i64 0, .int .i64 0, .int .i64 0] 32)) w4.heap.size [0, 0, 0, 0, 0, 0, 0, 0] ∧ SliceIs OpD.cells 26 (w10.alloc (.cells #[.int .i64 0, .int .i64 0, .int .i64 0, .int .i64 0, .int .i64 0, .int .i64 0, .int .i64 0, .int .i64 0] 32)) (.slice xa xn xc) _) := Lib.hid ⟨(H9.out.1.below b10).below b11, (H9.out.2.1.below b10).below b11, (H9.out.2.2.1.below b10).below b11, (H9.out.2.2.2.1.below b10).below b11⟩
  clear b10 b11 H9
  obtain ⟨a12, hs12, hS12⟩ := slice_to21 (P := Tryz.prog) (ea := u8c) Tryz.underlying22 size_u8 sa n sc (n - 1) hns.1 (by omega)
  have hr12 : ∀ W, (Instr.slice 22 (.slice sa n sc) none (some (.int .i64 ((n : Int) - 1))) none).run Tryz.prog W = .ok (.slice a12 (n - 1) sc) W := fun W => by
    have := hs12 W
    rwa [show ((n - 1 : Nat) : Int) = (n : Int) - 1 by omega] at this
  have hq12 := fun W h => hS12 W C HN.out h
  have HQ12 := Lib.hid hq12
  clear hs12 hS12 hq12
  go_wp2_with fail
  refine (hear_none (by have h := HM.out.less; rw [HN.out] at h; exact h) (HQ12.out _ H11.out.2.1) H11.out.1.err).mono ?_
  rintro e w13 ⟨rfl, b13⟩
  have b14 : Below w13.heap.size w13 (w13.alloc (.cells #[.int .i64 0, .int .i64 0, .int .i64 0, .int .i64 0, .int .i64 0, .int .i64 0, .int .i64 0, .int .i64 0] 32)) := (Below.refl _ _).alloc (Nat.le_refl _) _
  have H14 : Hid (GBs w (w13.alloc (.cells #[.int .i64 0, .int .i64 0, .int .i64 0, .int .i64 0, .int .i64 0, .int .i64 0, .int .i64 0, .int .i64 0] 32)) w.heap.size [d0, d1, d2, d3, d4, d5, d6, d7] (.slice la l.length lc) l ∧ VBox (w13.alloc (.cells #[.int .i64 0, .int .i64 0, .int .i64 0, .int .i64 0, .int .i64 0, .int .i64 0, .int .i64 0, .int .i64 0] 32)) w4.heap.size [0, 0, 0, 0, 0, 0, 0, 0] ∧ SliceIs OpD.cells 26 (w13.alloc (.cells #[.int .i64 0, .int .i64 0, .int .i64 0, .int .i64 0, .int .i64 0, .int .i64 0, .int .i64 0, .int .i64 0] 32)) (.slice xa xn xc) _) := Lib.hid ⟨(H11.out.1.below b13).below b14, (H11.out.2.2.1.below b13).below b14, (H11.out.2.2.2.below b13).below b14⟩
  clear b13 b14 H11 hr12
  go_wp2_with fail
  refine (same7_any _ _ l l _ H14.out.2.2 H14.out.1.ops).mono ?_
  rintro e w15 ⟨rfl, b15⟩
  simp only [decide_true]
  have H15 := Lib.hid (And.intro (H14.out.1.below b15) (H14.out.2.1.below b15))
  obtain ⟨c0, c1, c2, c3, c4, c5, c6, c7⟩ := H15.out.2.cells
  have hneq := fun W => run_neq_vec [0, 0, 0, 0, 0, 0, 0, 0] [0, 0, 0, 0, 0, 0, 0, 0] rfl rfl W
  simp only [List.map_cons, List.map_nil, decide_true, Bool.not_true] at hneq
  clear b15
  go_wp2_with fail
  refine (alive21_any _ H15.out.1.err).mono ?_
  rintro e w30 ⟨rfl, hb⟩
  have HBF : Hid (Below w.heap.size w w30) := Lib.hid (H15.out.1.bel.trans (hb.mono H15.out.1.bel.size))
  clear hb
  go_wp2_with fail
  go_ret
  exact ⟨rfl, HBF.out⟩

end Go.Proofs.YtgmdimbiipemhaaGreatDoor

namespace Go.Proofs.YtgmdimbiipemhaaGreatDoor
open Go.ChangeShapes Go.WideShapes Go.RowKit Go.Deep
set_option linter.unusedSimpArgs false
set_option linter.unusedVariables false

section
variable {H : Type} {enc : TypeId × Value → H} {w : World} {base : Nat} {spare : Nat → Bool} {held : Bool}
theorem cells_vec8 : Tryz.prog.cellsOf 32 = 8 := by kernel_rfl
set_option maxRecDepth 100000 in
theorem open_vec8 {r : Reach} {b0 : Nat} {v : Value} {d : DataW H} {p : List MemPlace} (hv : Value.okWide Tryz.prog w r b0 32 v) (h : DataW.Trod enc Tryz.prog w base spare held 32 v d p) :
    ∃ z0 z1 z2 z3 z4 z5 z6 z7 : Int, v = .agg #[.int .i64 z0, .int .i64 z1, .int .i64 z2, .int .i64 z3, .int .i64 z4, .int .i64 z5, .int .i64 z6, .int .i64 z7] := by
  simp only [Value.okWide, Tryz.underlying32] at hv
  obtain ⟨cs, rfl, hsz, _⟩ := hv
  rw [cells_vec8] at hsz
  obtain ⟨fuel, hf⟩ := h
  obtain ⟨l⟩ := cs
  match l, hsz with
  | [a0, a1, a2, a3, a4, a5, a6, a7], _ =>
    have hf2 : DataW.trod enc Tryz.prog w base spare held fuel 32 [a0, a1, a2, a3, a4, a5, a6, a7] = some (d, p) := hf
    obtain ⟨z0, z1, z2, z3, z4, z5, z6, z7, e, _⟩ := trod_vec hf2
    simp only [List.cons.injEq, and_true] at e
    obtain ⟨rfl, rfl, rfl, rfl, rfl, rfl, rfl, rfl⟩ := e
    exact ⟨z0, z1, z2, z3, z4, z5, z6, z7, rfl⟩
end

end Go.Proofs.YtgmdimbiipemhaaGreatDoor

namespace Go.Proofs.YtgmdimbiipemhaaGreatDoor
open Go Go.ChangeShapes Go.WideShapes Go.ChangeAt Go.RowKit
set_option linter.unusedSimpArgs false
set_option linter.unusedVariables false

set_option maxRecDepth 100000 in
theorem gossipBack_lifted (os : Os) (started : os.Started) (H : Type) (enc : TypeId × Value → H) :
    ReturnsInHanded {} Tryz.checked os 5 .any (fun w args => (Rows.gossipBackSpec.pre enc Tryz.prog Tryz.f5 [] false w args ∧ laidMetH Tryz.prog laidL w) ∧ sizedMet enc Tryz.prog Tryz.f5 (OpenSpec.ofChange Rows.gossipBackSpec) false w args)
      (Rows.gossipBackSpec.post enc Tryz.prog Tryz.f5 false true false false) := by
  refine returnsInHanded_of_change_and (C := Tryz.checked) (X := fun w _ => laidMetH Tryz.prog laidL w) (fun _ _ _ hh h => h.of_heap hh) Tryz.own started (by kernel_rfl) Tryz.func5
    (ChangeSpec.witness_shaped (enc := enc) (C := Tryz.checked) (os := os) (X := fun w _ => laidMetH Tryz.prog laidL w) false (worldL os) #[.agg #[.int .i64 0, .int .i64 0, .int .i64 0, .int .i64 0, .int .i64 0, .int .i64 0, .int .i64 0, .int .i64 0], .slice none 0 0, .int .u8 0] 8 (worldL_os os) (World.shaped_of_ZipB (by kernel_rfl) (by kernel_rfl)) (by kernel_rfl) (by kernel_rfl) (by kernel_rfl) (worldL_met os _)) ?_
  intro W base args ds gs before hval0 hW _ _ hL _
  have hval : ∀ (j : Nat) t v, Tryz.f5.params[j]? = some t → args[j]? = some v → Value.okWide Tryz.prog W .any base t v := hval0
  have hW' := hW
  obtain ⟨p, q, hA0, hV, rfl, hfz, hnd⟩ := hW
  have hA : DataW.TrodAll enc Tryz.prog W 0 (fun _ => true) true Tryz.f5.params.toList args.toList ds p := hA0
  rw [Tryz.params5] at hA hval
  obtain ⟨v0, vs0, d0, ds0, p0, q0, hargs, rfl, rfl, h0, r0⟩ := trodAll_cons hA
  obtain ⟨v1, vs1, d1, ds1, p1, q1, rfl, rfl, rfl, h1, r1⟩ := trodAll_cons r0
  obtain ⟨v2, vs2, d2, ds2, p2, q2, rfl, rfl, rfl, h2, r2⟩ := trodAll_cons r1
  obtain ⟨rfl, rfl, rfl⟩ := trodAll_nil r2
  obtain rfl : args = #[v0, v1, v2] := by cases args; simp_all
  obtain ⟨rfl, rfl⟩ := trodVars_none hV
  have k0 := h0
  have lt0 : ∀ x ∈ p0, x.block < W.heap.size := by obtain ⟨m, hm⟩ := k0; exact DataW.trod_lt m _ _ _ hm
  have k1 := h1
  have lt1 : ∀ x ∈ p1, x.block < W.heap.size := by obtain ⟨m, hm⟩ := k1; exact DataW.trod_lt m _ _ _ hm
  have k2 := h2
  have lt2 : ∀ x ∈ p2, x.block < W.heap.size := by obtain ⟨m, hm⟩ := k2; exact DataW.trod_lt m _ _ _ hm
  obtain ⟨z0, z1, z2, z3, z4, z5, z6, z7, rfl⟩ := open_vec8 (hval 0 32 v0 rfl rfl) h0
  obtain ⟨l, hv1, hw1⟩ := open_opsR (hval 1 24 v1 rfl rfl) h1
  obtain ⟨more, rfl⟩ := open_byte8 (hval 2 5 v2 rfl rfl) h2
  clear hA0 hval0
  refine (gback_any z0 z1 z2 z3 z4 z5 z6 z7 v1 l more W hv1 hw1 (errTy_of_laid hL)).mono fun e W' ⟨he, bel⟩ => ?_
  subst he
  exact ⟨_, rfl, _, _, _, [], _, [], hW', trodAll_mk1 (shut_bool Tryz.underlying4 _), (trodAll_cons_mk (Below.trod Tryz.laidOut (by kernel_rfl) (of_decide_eq_true (by kernel_rfl)) k0 bel lt0) (trodAll_cons_mk (Below.trod Tryz.laidOut (by kernel_rfl) (of_decide_eq_true (by kernel_rfl)) k1 bel lt1) (trodAll_cons_mk (Below.trod Tryz.laidOut (by kernel_rfl) (of_decide_eq_true (by kernel_rfl)) k2 bel lt2) trodAll_mk0))), rfl, bel.frame _, fun h => by cases h⟩

theorem gossipBack_holds : Rows.GossipBackSaid :=
  OpenClaim.holds_of_wide 5 Tryz.f5 rfl rfl rfl rfl rfl rfl rfl ⟨rfl, rfl, rfl, rfl, rfl⟩ rfl rfl rfl rfl rfl (by kernel_rfl) Tryz.func5 (by kernel_rfl)
    (of_decide_eq_true (by kernel_rfl)) (by unfold Func.isWrapper; first | (rw [if_pos (by decide +kernel)]; kernel_rfl) | (rw [if_neg (by decide +kernel)]; exact ⟨rfl, rfl⟩))
    (fun os started H enc _ => gossipBack_lifted os started H enc)

theorem gossipBack_card : Rows.GossipBackCardSaid :=
  Claim7.holds_tied_plain_at .later [] [.data, .handle, .pinned] true Rows.gossipBackCard.stood.harness true
    gossipBack_holds (fun _ h => by cases h) (by kernel_rfl) (fun _ h => by cases h) gossipBack_row_tie rfl ⟨rfl, rfl⟩ (by kernel_rfl) rfl
    (fun f fn hf hfn => by
      obtain rfl : f = 5 := Option.some.inj ((show Tryz.prog.funcNamed "stemma/stemmalaw21.GossipBack" = some 5 by kernel_rfl).symm.trans hf) |>.symm
      obtain rfl : fn = Tryz.f5 := (Option.some.inj (Tryz.func5.symm.trans hfn)).symm
      exact ⟨by kernel_rfl, fun j t ht => by
        rw [Tryz.params5] at ht
        have hm : t ∈ [32, 24, 5] := by simpa using Array.mem_of_getElem? ht
        have hall : ([32, 24, 5].all fun u => !Tryz.prog.wantsStandIn u) = true := by kernel_rfl
        exact (show Tryz.prog.wantsStandIn t = false by simpa using List.all_eq_true.1 hall t hm)⟩)
    (by kernel_rfl)
#print axioms gossipBack_card

end Go.Proofs.YtgmdimbiipemhaaGreatDoor
