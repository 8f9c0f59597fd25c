/- A contract of stemmaref07.Same. stemmalaw08.BatchBack: walked. BatchBack: the row, and its tied card. -/
import Derived.Test.YtdlnokbeadkdfaaGreatDoorEqOp08
import Derived.Test.YtdlnokbeadkdfaaGreatDoorEncG08
import Derived.Test.YtdlnokbeadkdfaaGreatDoorDecG08
import Derived.Test.YtdlnokbeadkdfaaGreatDoorRRG08
import Derived.Test.YtdlnokbeadkdfaaGreatDoorTie
import Derived.Test.YtdlnokbeadkdfaaGreatDoorCards
import Derived.SevenTiedAt
namespace Go.Proofs.YtdlnokbeadkdfaaGreatDoor
open Go.RowKit Go.Deep
set_option linter.unusedSimpArgs false
set_option linter.unusedVariables false

theorem op_neq {P : Program} {o : Oper} {ρ : Operand → Value} {T T' : TypeId} {x y : Operand} {A B : Array Value} {v : Value} {W : World} (ho : o.op = .binOp .neq T x y T') (hx : ρ x = .agg A) (hy : ρ y = .agg B)
    (hg : P.eqGuardType P.depth T = false) (h : (binOp .neq T (.agg A) (.agg B)).run P W = .ok v W) : (execOp ρ o).run P W = .ok (.value v) W := by
  unfold execOp
  simp only [ho, hx, hy, eqGuard, Sem.run_bind, Sem.run_pure, Result.andThen_ok]
  simp [hg, h, Result.andThen]
theorem take_same {α : Type} {a b : List α} {k : Nat} {x : α} (h : a.take k = b.take k) (ha : a[k]? = some x) (hb : b[k]? = some x) : a.take (k + 1) = b.take (k + 1) := by
  rw [List.take_add_one, List.take_add_one, h, ha, hb]
set_option maxRecDepth 20000 in
set_option maxHeartbeats 1000000 in
theorem same7_any (va vb : Value) (la lb : List OpD) (w : World) (ha : SliceIs OpD.cells 26 w va la) (hb : SliceIs OpD.cells 26 w vb lb) :
    Calls Tryz.prog 10 #[va, vb] w fun e w' => e = .returned (.bool (decide (la = lb))) ∧ Below w.heap.size w w' := by
  obtain ⟨aa, ca, rfl, hca, hma, -⟩ := id ha
  obtain ⟨ab, cb, rfl, hcb, hmb, -⟩ := id hb
  unfold maxLen at hma hmb
  by_cases hl : la.length = lb.length
  · obtain ⟨n, hna⟩ : ∃ n, la.length = n := ⟨_, rfl⟩
    have hnb : lb.length = n := by rw [← hl]; exact hna
    rw [hna] at ha hca ⊢
    rw [hnb] at hb hcb ⊢
    have HA := Lib.hid ha
    have HB := Lib.hid hb
    have HL := Lib.hid (And.intro hna hnb)
    clear ha hb hl hna hnb
    go_enter Tryz.func10, Tryz.ntmps10
    go_wp2_with fail
    go_loopg [5] n (fun g kv wx => ∃ k : Nat, g = n - k ∧ kv = .int .i64 k ∧ k ≤ n ∧ Hid (la.take k = lb.take k ∧ Below w.heap.size w wx))
    case atStart => exact ⟨0, rfl, rfl, Nat.zero_le _, Lib.hid ⟨rfl, Below.refl _ _⟩⟩
    case round =>
      obtain ⟨k, hg, rfl, hk, HR⟩ := hrel
      have HG := Lib.hid hg
      clear hg
      by_cases hlt : k < n
      · have hk1 : (k : Int) < (n : Int) := by omega
        have hk0 : (0 : Int) ≤ (k : Int) := by omega
        obtain ⟨x, hx⟩ : ∃ x, la[k]? = some x := ⟨_, List.getElem?_eq_getElem (by rw [HL.out.1]; exact hlt)⟩
        obtain ⟨y, hy⟩ : ∃ y, lb[k]? = some y := ⟨_, List.getElem?_eq_getElem (by rw [HL.out.2]; exact hlt)⟩
        have hsa := HA.out.below HR.out.2
        have hsb := HB.out.below HR.out.2
        obtain ⟨b1, o1, rfl⟩ := hsa.some8 (by intro e; have h := HL.out.1; rw [e] at h; simp at h; omega)
        obtain ⟨b2, o2, rfl⟩ := hsb.some8 (by intro e; have h := HL.out.2; rw [e] at h; simp at h; omega)
        have hSW : (fun W : World => SliceIs OpD.cells 26 W (.slice (some ⟨b1, o1, none⟩) n ca) la ∧ SliceIs OpD.cells 26 W (.slice (some ⟨b2, o2, none⟩) n cb) lb) wr.drew := ⟨hsa.below (Below.refl _ _).drew, hsb.below (Below.refl _ _).drew⟩
        have hq := run_neq_op x y
        unfold OpD.val at hq
        have HX := Lib.hid (And.intro hx (And.intro hy hq))
        clear hsa hsb hx hy hq
        go_upto_region 6 with fail
        refine wp_region_s (fun W : World => SliceIs OpD.cells 26 W (.slice (some ⟨b1, o1, none⟩) n ca) la ∧ SliceIs OpD.cells 26 W (.slice (some ⟨b2, o2, none⟩) n cb) lb) (fun _ => false) (by kernel_rfl) ?_
        have HR1 : Hid (Below w.heap.size w wr.drew) := Lib.hid HR.out.2.drew
        generalize wr.drew = W1 at hSW HR1 ⊢
        refine wpAnyS_take (i := 0) (d := some 17) rfl rfl rfl (by kernel_rfl) (by kernel_rfl) (by kernel_rfl) (by kernel_rfl) (fun _ _ _ h => h) (.inl ⟨by rfl, fun W hW => by go_simp; try rfl⟩) hSW ?_
        try simp only [Act.put, List.setIfInBounds_toArray, List.set_cons_zero, List.set_cons_succ]
        refine wpAnyS_take (i := 1) (d := some 18) (v := .int .i64 k) rfl rfl rfl (by kernel_rfl) (by kernel_rfl) (by kernel_rfl) (by kernel_rfl) (fun _ _ _ h => h) (.inl ⟨by rfl, fun W hW => by go_simp; try rfl⟩) hSW ?_
        try simp only [Act.put, List.setIfInBounds_toArray, List.set_cons_zero, List.set_cons_succ]
        refine wpAnyS_take (i := 2) (d := some 19) (v := .pointer (some ⟨b1, o1 + k * 26, none⟩)) rfl rfl rfl (by kernel_rfl) (by kernel_rfl) (by kernel_rfl) (by kernel_rfl) (fun _ _ _ h => h) (.inl ⟨by rfl, fun W hW => by go_simp; try rfl⟩) hSW ?_
        try simp only [Act.put, List.setIfInBounds_toArray, List.set_cons_zero, List.set_cons_succ]
        refine wpAnyS_take (i := 3) (d := some 20) (v := .agg x.cells.toArray) rfl rfl rfl (by kernel_rfl) (by kernel_rfl) (by kernel_rfl) (by kernel_rfl) (fun _ _ _ h => h) (.inl ⟨by rfl, fun W hW => by exact exec_load rfl rfl (sl_load hW.1 HX.out.1)⟩) hSW ?_
        try simp only [Act.put, List.setIfInBounds_toArray, List.set_cons_zero, List.set_cons_succ]
        refine wpAnyS_take (i := 4) (d := some 21) rfl rfl rfl (by kernel_rfl) (by kernel_rfl) (by kernel_rfl) (by kernel_rfl) (fun _ _ _ h => h) (.inl ⟨by rfl, fun W hW => by go_simp; try rfl⟩) hSW ?_
        try simp only [Act.put, List.setIfInBounds_toArray, List.set_cons_zero, List.set_cons_succ]
        refine wpAnyS_take (i := 5) (d := some 22) (v := .int .i64 k) rfl rfl rfl (by kernel_rfl) (by kernel_rfl) (by kernel_rfl) (by kernel_rfl) (fun _ _ _ h => h) (.inl ⟨by rfl, fun W hW => by go_simp; try rfl⟩) hSW ?_
        try simp only [Act.put, List.setIfInBounds_toArray, List.set_cons_zero, List.set_cons_succ]
        refine wpAnyS_take (i := 6) (d := some 23) (v := .pointer (some ⟨b2, o2 + k * 26, none⟩)) rfl rfl rfl (by kernel_rfl) (by kernel_rfl) (by kernel_rfl) (by kernel_rfl) (fun _ _ _ h => h) (.inl ⟨by rfl, fun W hW => by go_simp; try rfl⟩) hSW ?_
        try simp only [Act.put, List.setIfInBounds_toArray, List.set_cons_zero, List.set_cons_succ]
        refine wpAnyS_take (i := 7) (d := some 24) (v := .agg y.cells.toArray) rfl rfl rfl (by kernel_rfl) (by kernel_rfl) (by kernel_rfl) (by kernel_rfl) (fun _ _ _ h => h) (.inl ⟨by rfl, fun W hW => by exact exec_load rfl rfl (sl_load hW.2 HX.out.2.1)⟩) hSW ?_
        try simp only [Act.put, List.setIfInBounds_toArray, List.set_cons_zero, List.set_cons_succ]
        refine wpAnyS_take (i := 8) (d := some 25) (v := .bool (!decide (x = y))) rfl rfl rfl (by kernel_rfl) (by kernel_rfl) (by kernel_rfl) (by kernel_rfl) (fun _ _ _ h => h) (.inl ⟨by rfl, fun W hW => by exact op_neq rfl rfl rfl guard_op (HX.out.2.2 W)⟩) hSW ?_
        try simp only [Act.put, List.setIfInBounds_toArray, List.set_cons_zero, List.set_cons_succ]
        refine wpAnyS_done (by kernel_rfl) ?_ _
        clear hSW
        by_cases he : x = y
        · subst he
          have HN : Hid (la.take (k + 1) = lb.take (k + 1) ∧ Below w.heap.size w W1) := Lib.hid ⟨take_same HR.out.1 HX.out.1 HX.out.2.1, HR1.out⟩
          clear HR HR1
          simp only [decide_true, Bool.not_true]
          go_wp2_with fail
          go_roundg (n - (k + 1))
          case measure => rw [HG.out]; omega
          case rel => exact ⟨k + 1, rfl, by simp, by omega, HN⟩
        · have hne : decide (la = lb) = false := decide_eq_false (by
            rintro rfl
            have h1 := HX.out.1.symm.trans HX.out.2.1
            exact he (Option.some.inj h1))
          have HNE := Lib.hid hne
          clear hne
          simp only [decide_eq_false he, Bool.not_false]
          go_wp2_with fail
          go_ret
          exact ⟨by rw [HNE.out]; rfl, HR1.out⟩
      · obtain rfl : k = n := by omega
        have hk1 : ¬ (k : Int) < (k : Int) := by omega
        have he : la = lb := by
          have h := HR.out.1
          rwa [List.take_of_length_le (by rw [HL.out.1]; exact Nat.le_refl _), List.take_of_length_le (by rw [HL.out.2]; exact Nat.le_refl _)] at h
        have hne : decide (la = lb) = true := decide_eq_true he
        have HNE := Lib.hid hne
        clear hne he
        go_wp2_with fail
        go_ret
        exact ⟨by rw [HNE.out]; rfl, HR.out.2⟩
  · have hl1 : ¬ (la.length : Int) = (lb.length : Int) := by omega
    have hne : decide (la = lb) = false := decide_eq_false (fun e => hl (by rw [e]))
    have HNE := Lib.hid hne
    clear hne ha hb
    go_enter Tryz.func10, Tryz.ntmps10
    go_wp2_with fail
    go_ret
    exact ⟨by rw [HNE.out]; rfl, Below.refl _ _⟩

end Go.Proofs.YtdlnokbeadkdfaaGreatDoor

namespace Go.Proofs.YtdlnokbeadkdfaaGreatDoor
open Go.RowKit Go.Deep
set_option linter.unusedSimpArgs false
set_option linter.unusedVariables false

def allR (l : List OpD) (k : Nat) : Bool := decide (l.length ≤ 200) && (l.take k).all fun x => x.right
theorem allR_succ {l : List OpD} {k : Nat} {x : OpD} (hx : l[k]? = some x) : allR l (k + 1) = (allR l k && x.right) := by
  unfold allR
  rw [List.take_add_one, hx, Option.toList_some, List.all_append, List.all_cons, List.all_nil, Bool.and_true, Bool.and_assoc]
theorem allR_yes {l : List OpD} (h : allR l l.length = true) : l.length ≤ 200 ∧ ∀ x ∈ l, x.right = true := by
  unfold allR at h
  rw [Bool.and_eq_true, List.take_length] at h
  exact ⟨of_decide_eq_true h.1, List.all_eq_true.1 h.2⟩
theorem allR_of {l : List OpD} (h1 : l.length ≤ 200) (h2 : ∀ x ∈ l, x.right = true) : allR l l.length = true := by
  unfold allR
  rw [Bool.and_eq_true, List.take_length]
  exact ⟨decide_eq_true h1, List.all_eq_true.2 h2⟩
set_option maxRecDepth 20000 in
set_option maxHeartbeats 2000000 in
theorem back_any (v : Value) (l : List OpD) (w : World) (h : SliceIs OpD.cells 26 w v l) (hwf : ∀ x ∈ l, x.wf) (hg : ErrTy w) :
    Calls Tryz.prog 5 #[v] w fun e w' => e = .returned (.bool true) ∧ Below w.heap.size w w' := by
  obtain ⟨a, cap, rfl, hcap, hmax, -⟩ := id h
  unfold maxLen at hmax
  have HH := Lib.hid (And.intro h (And.intro hg hwf))
  clear h hg hwf
  by_cases hbig : 210 < l.length
  · have hb1 : (210 : Int) < (l.length : Int) := by omega
    go_enter Tryz.func5, Tryz.ntmps5
    go_wp2_with fail
    refine (alive_any _ HH.out.2.1).mono ?_
    rintro e w2 ⟨rfl, hb⟩
    have HB := Lib.hid hb
    clear hb
    go_wp2_with fail
    go_ret
    exact ⟨rfl, HB.out⟩
  have hb1 : ¬ (210 : Int) < (l.length : Int) := by omega
  obtain ⟨r0, hr0⟩ : ∃ r0, decide ((l.length : Int) ≤ 200) = r0 := ⟨_, rfl⟩
  have HR0 : Hid (allR l 0 = r0) := Lib.hid (by
    rw [← hr0]
    unfold allR
    rw [List.take_zero, List.all_nil, Bool.and_true]
    by_cases h : l.length ≤ 200
    · rw [decide_eq_true h, decide_eq_true (by omega)]
    · rw [decide_eq_false h, decide_eq_false (by omega)])
  go_enter Tryz.func5, Tryz.ntmps5
  go_wp2_with fail
  clear hr0
  go_loopg [3, 4] l.length (fun g ov kv wx => ∃ (k : Nat) (rb : Bool), g = l.length - k ∧ ov = .bool rb ∧ kv = .int .i64 k ∧ k ≤ l.length ∧ Hid (allR l k = rb ∧ Below w.heap.size w wx))
  case atStart => exact ⟨0, r0, rfl, rfl, rfl, Nat.zero_le _, Lib.hid ⟨HR0.out, Below.refl _ _⟩⟩
  case round =>
    clear HR0
    obtain ⟨k, rb, hg, rfl, rfl, hk, HR⟩ := hrel
    have HG := Lib.hid hg
    clear hg
    by_cases hlt : k < l.length
    · have hk1 : (k : Int) < (l.length : Int) := by omega
      have hk0 : (0 : Int) ≤ (k : Int) := by omega
      obtain ⟨x, hx⟩ : ∃ x, l[k]? = some x := ⟨_, List.getElem?_eq_getElem hlt⟩
      have hsl := HH.out.1.below HR.out.2
      obtain ⟨b0, o0, rfl⟩ := hsl.some8 (by rintro rfl; simp at hlt)
      have hld := sl_load hsl hx
      have HLD := Lib.hid hld
      have HX := Lib.hid hx
      have HFT : Hid x.fits := Lib.hid (HH.out.2.2 x (List.mem_of_getElem? hx)).1
      clear hsl hld hx
      go_wp2_with ((with_reducible_and_instances refine wpList_ranG (o := ⟨some 27, _, _, _, _, _⟩) (v := .agg x.cells.toArray) ?_ ?_ ?_); rfl; exact exec_load rfl rfl HLD.out)
      refine (rright7_any x _ HFT.out).mono ?_
      rintro e w3 ⟨rfl, b3⟩
      have HN : Hid (allR l (k + 1) = (rb && x.right) ∧ Below w.heap.size w w3) := Lib.hid ⟨by rw [allR_succ HX.out, HR.out.1], HR.out.2.trans (b3.mono HR.out.2.size)⟩
      clear b3 HLD HR
      generalize x.right = xr at HN ⊢
      cases rb with
      | false =>
        go_wp2_with fail
        go_roundg (l.length - (k + 1))
        case measure => rw [HG.out]; omega
        case rel => exact ⟨k + 1, false, rfl, rfl, by simp, by omega, Lib.hid ⟨HN.out.1.trans (by simp), HN.out.2⟩⟩
      | true =>
        go_wp2_with fail
        go_roundg (l.length - (k + 1))
        case measure => rw [HG.out]; omega
        case rel => exact ⟨k + 1, xr, rfl, by first | rfl | simp, by simp, by omega, Lib.hid ⟨HN.out.1.trans (by simp), HN.out.2⟩⟩
    · obtain rfl : k = l.length := by omega
      have hk1 : ¬ (l.length : Int) < (l.length : Int) := by omega
      go_wp2_with fail
      refine (encode_any _ l _ (HH.out.1.below HR.out.2) HH.out.2.2 (by omega)).mono ?_
      intro e w3 hpost
      cases rb with
      | false =>
        have hp : (∃ n : Int, e = .returned (.tuple #[.slice none 0 0, .int .i64 n]) ∧ ¬ n = 0) ∧ Below w.heap.size w w3 := by
          rcases hpost with ⟨h1, h2, _⟩ | ⟨_, h1, h2⟩ | ⟨_, _, h1, h2⟩
          · have := allR_of h1 h2
            rw [HR.out.1] at this
            cases this
          · exact ⟨⟨1, h1, by decide⟩, HR.out.2.trans (h2.mono HR.out.2.size)⟩
          · exact ⟨⟨71, h1, by decide⟩, HR.out.2.trans (h2.mono HR.out.2.size)⟩
        clear hpost
        obtain ⟨⟨n, rfl, hn⟩, hb⟩ := hp
        have HB := Lib.hid hb
        clear hb
        go_wp2_with fail
        refine (alive_any _ (HH.out.2.1.below HB.out)).mono ?_
        rintro e w4 ⟨rfl, hb⟩
        have HZ := Lib.hid (HB.out.trans (hb.mono HB.out.size))
        clear hb
        go_wp2_with fail
        go_ret
        exact ⟨by first | rfl | simp [hn], HZ.out⟩
      | true =>
        obtain ⟨hl2, hall⟩ := allR_yes HR.out.1
        rcases hpost with ⟨_, _, v3, rfl, ho3, hb3⟩ | ⟨h1, _⟩ | ⟨_, ⟨y, hy, hyr⟩, _⟩
        rotate_left
        · omega
        · rw [hall y hy] at hyr; cases hyr
        obtain ⟨⟨ca, cn, cc⟩, ec⟩ := ho3.sl
        dsimp only at ec
        subst ec
        have H3 := Lib.hid (And.intro (ho3.slice u8c_len) (HR.out.2.trans (hb3.mono HR.out.2.size)))
        have HD : Hid (decB (encB l) = some l) := Lib.hid (decB_iff.2 ⟨hl2, fun x hx => ⟨hall x hx, HH.out.2.2 x hx⟩, rfl⟩)
        clear ho3 hb3 hall
        go_wp2_with fail
        refine (decode_any _ (encB l) _ H3.out.1 (HH.out.2.1.below H3.out.2)).mono ?_
        rintro e w5 (⟨l5, x5, hd5, rfl, ho5, hb5⟩ | ⟨hd5, _⟩)
        rotate_left
        · rw [HD.out] at hd5; cases hd5
        rw [HD.out] at hd5
        cases hd5
        obtain ⟨⟨xa, xn, xc⟩, ex⟩ := ho5.sl
        dsimp only at ex
        subst ex
        have H5 := Lib.hid (And.intro (ho5.slice OpD.len) (H3.out.2.trans (hb5.mono H3.out.2.size)))
        clear ho5 hb5
        go_wp2_with fail
        refine (same7_any _ _ l l _ H5.out.1 (HH.out.1.below H5.out.2)).mono ?_
        rintro e w6 ⟨rfl, hb6⟩
        simp only [decide_true]
        have H6 := Lib.hid (H5.out.2.trans (hb6.mono H5.out.2.size))
        clear hb6
        go_wp2_with fail
        refine (alive_any _ (HH.out.2.1.below H6.out)).mono ?_
        rintro e w7 ⟨rfl, hb⟩
        have HZ := Lib.hid (H6.out.trans (hb.mono H6.out.size))
        clear hb
        go_wp2_with fail
        go_ret
        exact ⟨rfl, HZ.out⟩

end Go.Proofs.YtdlnokbeadkdfaaGreatDoor

namespace Go.Proofs.YtdlnokbeadkdfaaGreatDoor
open Go Go.ChangeShapes Go.WideShapes Go.ChangeAt Go.RowKit
set_option linter.unusedSimpArgs false
set_option linter.unusedVariables false

set_option maxRecDepth 100000 in
theorem batchBack_lifted (os : Os) (started : os.Started) (H : Type) (enc : TypeId × Value → H) :
    ReturnsInHanded {} Tryz.checked os 5 .any (fun w args => (Rows.batchBackSpec.pre enc Tryz.prog Tryz.f5 [] false w args ∧ laidMetH Tryz.prog laidL w) ∧ sizedMet enc Tryz.prog Tryz.f5 (OpenSpec.ofChange Rows.batchBackSpec) false w args)
      (Rows.batchBackSpec.post enc Tryz.prog Tryz.f5 false true false false) := by
  refine returnsInHanded_of_change_and (C := Tryz.checked) (X := fun w _ => laidMetH Tryz.prog laidL w) (fun _ _ _ hh h => h.of_heap hh) Tryz.own started (by kernel_rfl) Tryz.func5
    (ChangeSpec.witness_shaped (enc := enc) (C := Tryz.checked) (os := os) (X := fun w _ => laidMetH Tryz.prog laidL w) false (worldL os) #[.slice none 0 0] 8 (worldL_os os) (World.shaped_of_ZipB (by kernel_rfl) (by kernel_rfl)) (by kernel_rfl) (by kernel_rfl) (by kernel_rfl) (worldL_met os _)) ?_
  intro W base args ds gs before hval0 hW _ _ hL _
  have hval : ∀ (j : Nat) t v, Tryz.f5.params[j]? = some t → args[j]? = some v → Value.okWide Tryz.prog W .any base t v := hval0
  have hW' := hW
  obtain ⟨p, q, hA0, hV, rfl, hfz, hnd⟩ := hW
  have hA : DataW.TrodAll enc Tryz.prog W 0 (fun _ => true) true Tryz.f5.params.toList args.toList ds p := hA0
  rw [Tryz.params5] at hA hval
  obtain ⟨v0, vs0, d0, ds0, p0, q0, hargs, rfl, rfl, h0, r0⟩ := trodAll_cons hA
  obtain ⟨rfl, rfl, rfl⟩ := trodAll_nil r0
  obtain rfl : args = #[v0] := by cases args; simp_all
  obtain ⟨rfl, rfl⟩ := trodVars_none hV
  have k0 := h0
  have lt0 : ∀ x ∈ p0, x.block < W.heap.size := by obtain ⟨m, hm⟩ := k0; exact DataW.trod_lt m _ _ _ hm
  obtain ⟨l, hv0, hw0⟩ := open_opsR (hval 0 22 v0 rfl rfl) h0
  clear hA0 hval0
  refine (back_any v0 l W hv0 hw0 (errTy_of_laid hL)).mono fun e W' ⟨he, bel⟩ => ?_
  subst he
  exact ⟨_, rfl, _, _, _, [], _, [], hW', trodAll_mk1 (shut_bool Tryz.underlying4 _), (trodAll_cons_mk (Below.trod Tryz.laidOut (by kernel_rfl) (of_decide_eq_true (by kernel_rfl)) k0 bel lt0) trodAll_mk0), rfl, bel.frame _, fun h => by cases h⟩

theorem batchBack_holds : Rows.BatchBackSaid :=
  OpenClaim.holds_of_wide 5 Tryz.f5 rfl rfl rfl rfl rfl rfl rfl ⟨rfl, rfl, rfl, rfl, rfl⟩ rfl rfl rfl rfl rfl (by kernel_rfl) Tryz.func5 (by kernel_rfl)
    (of_decide_eq_true (by kernel_rfl)) (by unfold Func.isWrapper; first | (rw [if_pos (by decide +kernel)]; kernel_rfl) | (rw [if_neg (by decide +kernel)]; exact ⟨rfl, rfl⟩))
    (fun os started H enc _ => batchBack_lifted os started H enc)

theorem batchBack_card : Rows.BatchBackCardSaid :=
  Claim7.holds_tied_plain_at .later [] [.data, .handle, .pinned] true Rows.batchBackCard.stood.harness true
    batchBack_holds (fun _ h => by cases h) (by kernel_rfl) (fun _ h => by cases h) batchBack_row_tie rfl ⟨rfl, rfl⟩ (by kernel_rfl) rfl
    (fun f fn hf hfn => by
      obtain rfl : f = 5 := Option.some.inj ((show Tryz.prog.funcNamed "stemma/stemmalaw08.BatchBack" = some 5 by kernel_rfl).symm.trans hf) |>.symm
      obtain rfl : fn = Tryz.f5 := (Option.some.inj (Tryz.func5.symm.trans hfn)).symm
      exact ⟨by kernel_rfl, fun j t ht => by
        rw [Tryz.params5] at ht
        have hm : t ∈ [22] := by simpa using Array.mem_of_getElem? ht
        have hall : ([22].all fun u => !Tryz.prog.wantsStandIn u) = true := by kernel_rfl
        exact (show Tryz.prog.wantsStandIn t = false by simpa using List.all_eq_true.1 hall t hm)⟩)
    (by kernel_rfl)
#print axioms batchBack_card

end Go.Proofs.YtdlnokbeadkdfaaGreatDoor
