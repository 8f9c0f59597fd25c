/- A contract of stemmaref07.Same. stemmalaw08.BatchOne: walked. BatchOne: the row, and its tied card. -/
import Derived.Test.YtdlnokbeadkdfaaDoorEqOp08
import Derived.Test.YtdlnokbeadkdfaaDoorEncG08
import Derived.Test.YtdlnokbeadkdfaaDoorDecG08
import Derived.Test.YtdlnokbeadkdfaaDoorTie
import Derived.Test.YtdlnokbeadkdfaaDoorCards
import Derived.SevenTiedAt
namespace Go.Proofs.YtdlnokbeadkdfaaDoor
open Go.RowKit Go.Deep
set_option linter.unusedSimpArgs false
set_option linter.unusedVariables false

theorem op_neq {P : Program} {o : Oper} {ρ : Operand → Value} {T T' : TypeId} {x y : Operand} {A B : Array Value} {v : Value} {W : World} (ho : o.op = .binOp .neq T x y T') (hx : ρ x = .agg A) (hy : ρ y = .agg B)
    (hg : P.eqGuardType P.depth T = false) (h : (binOp .neq T (.agg A) (.agg B)).run P W = .ok v W) : (execOp ρ o).run P W = .ok (.value v) W := by
  unfold execOp
  simp only [ho, hx, hy, eqGuard, Sem.run_bind, Sem.run_pure, Result.andThen_ok]
  simp [hg, h, Result.andThen]
theorem take_same {α : Type} {a b : List α} {k : Nat} {x : α} (h : a.take k = b.take k) (ha : a[k]? = some x) (hb : b[k]? = some x) : a.take (k + 1) = b.take (k + 1) := by
  rw [List.take_add_one, List.take_add_one, h, ha, hb]
set_option maxRecDepth 20000 in
set_option maxHeartbeats 1000000 in
theorem same7_any (va vb : Value) (la lb : List OpD) (w : World) (ha : SliceIs OpD.cells 26 w va la) (hb : SliceIs OpD.cells 26 w vb lb) :
    Calls Tryd.prog 9 #[va, vb] w fun e w' => e = .returned (.bool (decide (la = lb))) ∧ Below w.heap.size w w' := by
  obtain ⟨aa, ca, rfl, hca, hma, -⟩ := id ha
  obtain ⟨ab, cb, rfl, hcb, hmb, -⟩ := id hb
  unfold maxLen at hma hmb
  by_cases hl : la.length = lb.length
  · obtain ⟨n, hna⟩ : ∃ n, la.length = n := ⟨_, rfl⟩
    have hnb : lb.length = n := by rw [← hl]; exact hna
    rw [hna] at ha hca ⊢
    rw [hnb] at hb hcb ⊢
    have HA := Lib.hid ha
    have HB := Lib.hid hb
    have HL := Lib.hid (And.intro hna hnb)
    clear ha hb hl hna hnb
    go_enter Tryd.func9, Tryd.ntmps9
    go_wp2_with fail
    go_loopg [5] n (fun g kv wx => ∃ k : Nat, g = n - k ∧ kv = .int .i64 k ∧ k ≤ n ∧ Hid (la.take k = lb.take k ∧ Below w.heap.size w wx))
    case atStart => exact ⟨0, rfl, rfl, Nat.zero_le _, Lib.hid ⟨rfl, Below.refl _ _⟩⟩
    case round =>
      obtain ⟨k, hg, rfl, hk, HR⟩ := hrel
      have HG := Lib.hid hg
      clear hg
      by_cases hlt : k < n
      · have hk1 : (k : Int) < (n : Int) := by omega
        have hk0 : (0 : Int) ≤ (k : Int) := by omega
        obtain ⟨x, hx⟩ : ∃ x, la[k]? = some x := ⟨_, List.getElem?_eq_getElem (by rw [HL.out.1]; exact hlt)⟩
        obtain ⟨y, hy⟩ : ∃ y, lb[k]? = some y := ⟨_, List.getElem?_eq_getElem (by rw [HL.out.2]; exact hlt)⟩
        have hsa := HA.out.below HR.out.2
        have hsb := HB.out.below HR.out.2
        obtain ⟨b1, o1, rfl⟩ := hsa.some8 (by intro e; have h := HL.out.1; rw [e] at h; simp at h; omega)
        obtain ⟨b2, o2, rfl⟩ := hsb.some8 (by intro e; have h := HL.out.2; rw [e] at h; simp at h; omega)
        have hSW : (fun W : World => SliceIs OpD.cells 26 W (.slice (some ⟨b1, o1, none⟩) n ca) la ∧ SliceIs OpD.cells 26 W (.slice (some ⟨b2, o2, none⟩) n cb) lb) wr.drew := ⟨hsa.below (Below.refl _ _).drew, hsb.below (Below.refl _ _).drew⟩
        have hq := run_neq_op x y
        unfold OpD.val at hq
        have HX := Lib.hid (And.intro hx (And.intro hy hq))
        clear hsa hsb hx hy hq
        go_upto_region 6 with fail
        refine wp_region_s (fun W : World => SliceIs OpD.cells 26 W (.slice (some ⟨b1, o1, none⟩) n ca) la ∧ SliceIs OpD.cells 26 W (.slice (some ⟨b2, o2, none⟩) n cb) lb) (fun _ => false) (by kernel_rfl) ?_
        have HR1 : Hid (Below w.heap.size w wr.drew) := Lib.hid HR.out.2.drew
        generalize wr.drew = W1 at hSW HR1 ⊢
        refine wpAnyS_take (i := 0) (d := some 17) rfl rfl rfl (by kernel_rfl) (by kernel_rfl) (by kernel_rfl) (by kernel_rfl) (fun _ _ _ h => h) (.inl ⟨by rfl, fun W hW => by go_simp; try rfl⟩) hSW ?_
        try simp only [Act.put, List.setIfInBounds_toArray, List.set_cons_zero, List.set_cons_succ]
        refine wpAnyS_take (i := 1) (d := some 18) (v := .int .i64 k) rfl rfl rfl (by kernel_rfl) (by kernel_rfl) (by kernel_rfl) (by kernel_rfl) (fun _ _ _ h => h) (.inl ⟨by rfl, fun W hW => by go_simp; try rfl⟩) hSW ?_
        try simp only [Act.put, List.setIfInBounds_toArray, List.set_cons_zero, List.set_cons_succ]
        refine wpAnyS_take (i := 2) (d := some 19) (v := .pointer (some ⟨b1, o1 + k * 26, none⟩)) rfl rfl rfl (by kernel_rfl) (by kernel_rfl) (by kernel_rfl) (by kernel_rfl) (fun _ _ _ h => h) (.inl ⟨by rfl, fun W hW => by go_simp; try rfl⟩) hSW ?_
        try simp only [Act.put, List.setIfInBounds_toArray, List.set_cons_zero, List.set_cons_succ]
        refine wpAnyS_take (i := 3) (d := some 20) (v := .agg x.cells.toArray) rfl rfl rfl (by kernel_rfl) (by kernel_rfl) (by kernel_rfl) (by kernel_rfl) (fun _ _ _ h => h) (.inl ⟨by rfl, fun W hW => by exact exec_load rfl rfl (sl_load hW.1 HX.out.1)⟩) hSW ?_
        try simp only [Act.put, List.setIfInBounds_toArray, List.set_cons_zero, List.set_cons_succ]
        refine wpAnyS_take (i := 4) (d := some 21) rfl rfl rfl (by kernel_rfl) (by kernel_rfl) (by kernel_rfl) (by kernel_rfl) (fun _ _ _ h => h) (.inl ⟨by rfl, fun W hW => by go_simp; try rfl⟩) hSW ?_
        try simp only [Act.put, List.setIfInBounds_toArray, List.set_cons_zero, List.set_cons_succ]
        refine wpAnyS_take (i := 5) (d := some 22) (v := .int .i64 k) rfl rfl rfl (by kernel_rfl) (by kernel_rfl) (by kernel_rfl) (by kernel_rfl) (fun _ _ _ h => h) (.inl ⟨by rfl, fun W hW => by go_simp; try rfl⟩) hSW ?_
        try simp only [Act.put, List.setIfInBounds_toArray, List.set_cons_zero, List.set_cons_succ]
        refine wpAnyS_take (i := 6) (d := some 23) (v := .pointer (some ⟨b2, o2 + k * 26, none⟩)) rfl rfl rfl (by kernel_rfl) (by kernel_rfl) (by kernel_rfl) (by kernel_rfl) (fun _ _ _ h => h) (.inl ⟨by rfl, fun W hW => by go_simp; try rfl⟩) hSW ?_
        try simp only [Act.put, List.setIfInBounds_toArray, List.set_cons_zero, List.set_cons_succ]
        refine wpAnyS_take (i := 7) (d := some 24) (v := .agg y.cells.toArray) rfl rfl rfl (by kernel_rfl) (by kernel_rfl) (by kernel_rfl) (by kernel_rfl) (fun _ _ _ h => h) (.inl ⟨by rfl, fun W hW => by exact exec_load rfl rfl (sl_load hW.2 HX.out.2.1)⟩) hSW ?_
        try simp only [Act.put, List.setIfInBounds_toArray, List.set_cons_zero, List.set_cons_succ]
        refine wpAnyS_take (i := 8) (d := some 25) (v := .bool (!decide (x = y))) rfl rfl rfl (by kernel_rfl) (by kernel_rfl) (by kernel_rfl) (by kernel_rfl) (fun _ _ _ h => h) (.inl ⟨by rfl, fun W hW => by exact op_neq rfl rfl rfl guard_op (HX.out.2.2 W)⟩) hSW ?_
        try simp only [Act.put, List.setIfInBounds_toArray, List.set_cons_zero, List.set_cons_succ]
        refine wpAnyS_done (by kernel_rfl) ?_ _
        clear hSW
        by_cases he : x = y
        · subst he
          have HN : Hid (la.take (k + 1) = lb.take (k + 1) ∧ Below w.heap.size w W1) := Lib.hid ⟨take_same HR.out.1 HX.out.1 HX.out.2.1, HR1.out⟩
          clear HR HR1
          simp only [decide_true, Bool.not_true]
          go_wp2_with fail
          go_roundg (n - (k + 1))
          case measure => rw [HG.out]; omega
          case rel => exact ⟨k + 1, rfl, by simp, by omega, HN⟩
        · have hne : decide (la = lb) = false := decide_eq_false (by
            rintro rfl
            have h1 := HX.out.1.symm.trans HX.out.2.1
            exact he (Option.some.inj h1))
          have HNE := Lib.hid hne
          clear hne
          simp only [decide_eq_false he, Bool.not_false]
          go_wp2_with fail
          go_ret
          exact ⟨by rw [HNE.out]; rfl, HR1.out⟩
      · obtain rfl : k = n := by omega
        have hk1 : ¬ (k : Int) < (k : Int) := by omega
        have he : la = lb := by
          have h := HR.out.1
          rwa [List.take_of_length_le (by rw [HL.out.1]; exact Nat.le_refl _), List.take_of_length_le (by rw [HL.out.2]; exact Nat.le_refl _)] at h
        have hne : decide (la = lb) = true := decide_eq_true he
        have HNE := Lib.hid hne
        clear hne he
        go_wp2_with fail
        go_ret
        exact ⟨by rw [HNE.out]; rfl, HR.out.2⟩
  · have hl1 : ¬ (la.length : Int) = (lb.length : Int) := by omega
    have hne : decide (la = lb) = false := decide_eq_false (fun e => hl (by rw [e]))
    have HNE := Lib.hid hne
    clear hne ha hb
    go_enter Tryd.func9, Tryd.ntmps9
    go_wp2_with fail
    go_ret
    exact ⟨by rw [HNE.out]; rfl, Below.refl _ _⟩

end Go.Proofs.YtdlnokbeadkdfaaDoor

namespace Go.Proofs.YtdlnokbeadkdfaaDoor
open Go.RowKit Go.Deep
set_option linter.unusedSimpArgs false
set_option linter.unusedVariables false

theorem xor_ne {x y : UInt8} (h : y ≠ 0) : x ^^^ y ≠ x := by
  intro e
  apply h
  have h2 := congrArg (x ^^^ ·) e
  simpa [← UInt8.xor_assoc] using h2
theorem bits_xor8 (x y : UInt8) : bits .xor .u8 (x.toNat : Int) (y.toNat : Int) = ((x ^^^ y).toNat : Int) := by
  unfold bits
  dsimp only
  rw [u8_wrap]
  have e8 : IntKind.u8.bits = 8 := rfl
  have hx := x.toNat_lt
  have hy := y.toNat_lt
  have hz := (x ^^^ y).toNat_lt
  rw [UInt8.toNat_xor] at hz ⊢
  rw [ofInt_nat, ofInt_nat, e8, BitVec.toNat_xor, BitVec.toNat_ofNat, BitVec.toNat_ofNat, Nat.mod_eq_of_lt (by omega), Nat.mod_eq_of_lt (by omega)]
  omega
set_option maxRecDepth 100000 in
set_option maxHeartbeats 1000000 in
theorem one_any (v : Value) (l : List OpD) (at_ : Int) (by_ : UInt8) (w : World) (h : SliceIs OpD.cells 26 w v l) (hwf : ∀ x ∈ l, x.wf) (hg : ErrTy w) (hc1 : -9223372036854775808 ≤ at_) (hc2 : at_ ≤ 9223372036854775807) :
    Calls Tryd.prog 4 #[v, .int .i64 at_, .int .u8 by_.toNat] w fun e w' => e = .returned (.bool true) ∧ Below w.heap.size w w' := by
  obtain ⟨a, cap, rfl, hcap, hmax, -⟩ := id h
  unfold maxLen at hmax
  have HH := Lib.hid (And.intro h (And.intro hg hwf))
  clear h hg hwf
  by_cases hbig : 60 < l.length
  · have hb1 : (60 : Int) < (l.length : Int) := by omega
    go_enter Tryd.func4, Tryd.ntmps4
    go_wp2_with fail
    refine (alive_any _ HH.out.2.1).mono ?_
    rintro e w2 ⟨rfl, hb⟩
    have HB := Lib.hid hb
    clear hb
    go_wp2_with fail
    go_ret
    exact ⟨rfl, HB.out⟩
  have hb1 : ¬ (60 : Int) < (l.length : Int) := by omega
  by_cases hby : by_ = 0
  · subst hby
    go_enter Tryd.func4, Tryd.ntmps4
    go_wp2_with fail
    refine (alive_any _ HH.out.2.1).mono ?_
    rintro e w2 ⟨rfl, hb⟩
    have HB := Lib.hid hb
    clear hb
    go_wp2_with fail
    go_ret
    exact ⟨rfl, HB.out⟩
  have hby1 : ¬ (by_.toNat : Int) = 0 := by
    intro e
    exact hby (UInt8.toNat_inj.1 (by simpa using e))
  go_enter Tryd.func4, Tryd.ntmps4
  go_wp2_with fail
  refine (encode_any _ l _ HH.out.1 HH.out.2.2 (by omega)).mono ?_
  rintro e w3 (⟨_, hri, v3, rfl, ho3, hb3⟩ | ⟨hc, _⟩ | ⟨_, _, rfl, hb3⟩)
  rotate_left
  · omega
  · have HB := Lib.hid hb3
    clear hb3
    go_wp2_with fail
    refine (alive_any _ (HH.out.2.1.below HB.out)).mono ?_
    rintro e w4 ⟨rfl, hb⟩
    have HB4 := Lib.hid (HB.out.trans (hb.mono HB.out.size))
    clear hb
    go_wp2_with fail
    go_ret
    exact ⟨rfl, HB4.out⟩
  have hbn := List.length_pos_iff.2 (enc_ne l)
  obtain ⟨b, hbe⟩ : ∃ b, encB l = b := ⟨_, rfl⟩
  rw [hbe] at ho3 hbn
  have HE := Lib.hid hbe
  clear hbe
  rcases ho3.eq_slice with ⟨_, e⟩ | ⟨g, gc, rfl, hg1, hg2⟩
  · subst e; simp at hbn
  have H3 := Lib.hid (And.intro ho3 hb3)
  clear ho3 hb3 hg1 hg2
  have hp1 : ¬ (b.length : Int) = 0 := by omega
  by_cases hcut : at_ < 0
  · obtain ⟨q, hq⟩ : ∃ q : Nat, -(at_ + 1) = (q : Int) := ⟨(-(at_ + 1)).toNat, by omega⟩
    have hc3 : -(at_ + 1) < 9223372036854775808 := by omega
    have hc4 : 0 ≤ -(at_ + 1) := by omega
    have HQ := Lib.hid hq
    clear hq
    go_upto_region 10 with fail
    rw [HQ.out]
    clear hc3 hc4 hcut hc1 hc2 HQ
    obtain ⟨m, hm⟩ : ∃ m : Nat, (q : Int) % (b.length : Int) = (m : Int) := ⟨((q : Int) % (b.length : Int)).toNat, by have := Int.emod_nonneg (q : Int) (show (b.length : Int) ≠ 0 by omega); omega⟩
    have hml : (q : Int) % (b.length : Int) < (b.length : Int) := Int.emod_lt_of_pos _ (by omega)
    have hmb : m < b.length := by omega
    have hmb1 : (m : Int) < (b.length : Int) := by omega
    obtain ⟨x, hx⟩ : ∃ x, b[m]? = some x := ⟨_, List.getElem?_eq_getElem hmb⟩
    have hxor := bits_xor8 x by_
    have hyx := xor_ne (x := x) hby
    generalize x ^^^ by_ = y at hxor hyx
    have c3 := H3.out.1.cellAt u8c_len (j := 0) hx rfl
    rw [Nat.mul_one, Nat.add_zero] at c3
    have f3 := H3.out.1.free m
    have hst := H3.out.1.setAt u8c_len (i := m) (j := 0) (x := x) (y := y) (u := .int .u8 y.toNat) hx (by omega) rfl
    rw [Nat.mul_one, Nat.add_zero] at hst
    have hx4 : Ext (· = g) w3 (w3.setCell ⟨g, m, none⟩ (.int .u8 y.toNat)) := (Ext.refl (· = g) w3).setCell (p := ⟨g, m, none⟩) (.inr rfl) _
    have hb4 : Below w.heap.size w (w3.setCell ⟨g, m, none⟩ (.int .u8 y.toNat)) := Ext.new H3.out.2 hx4 (fun i hi _ e => by have := (H3.out.1.blk g rfl).1; omega) H3.out.2.size
    have hne : b.set m y ≠ b := by
      intro e
      have h1 : (b.set m y)[m]? = some y := List.getElem?_set_self hmb
      rw [e, hx] at h1
      exact hyx (Option.some.inj h1).symm
    have H4 := Lib.hid (And.intro (hst.slice u8c_len) (And.intro hb4 hne))
    clear hx hst hx4 hb4 hne hyx hml hmb
    go_wp2_with fail
    refine (decode_any _ (b.set m y) _ H4.out.1 (HH.out.2.1.below H4.out.2.1)).mono ?_
    clear c3 f3
    generalize w3.setCell ⟨g, m, none⟩ (.int .u8 y.toNat) = w4 at H4 ⊢
    rintro e w5 (⟨l5, x5, hd5, rfl, ho5, hb5⟩ | ⟨_, rfl, hb5⟩)
    · obtain ⟨⟨xa, xn, xc⟩, ex⟩ := ho5.sl
      dsimp only at ex
      subst ex
      have H5 := Lib.hid (And.intro (ho5.slice OpD.len) (And.intro (H4.out.2.1.trans (hb5.mono H4.out.2.1.size)) (dec_other HE.out H4.out.2.2 hd5)))
      clear ho5 hb5 hd5
      go_wp2_with fail
      refine (same7_any _ _ l5 l _ H5.out.1 (HH.out.1.below H5.out.2.1)).mono ?_
      rintro e w6 ⟨rfl, hb6⟩
      rw [decide_eq_false H5.out.2.2]
      have H6 := Lib.hid (H5.out.2.1.trans (hb6.mono H5.out.2.1.size))
      clear hb6
      go_wp2_with fail
      refine (alive_any _ (HH.out.2.1.below H6.out)).mono ?_
      rintro e w7 ⟨rfl, hb⟩
      have HZ := Lib.hid (H6.out.trans (hb.mono H6.out.size))
      clear hb
      go_wp2_with fail
      go_ret
      exact ⟨rfl, HZ.out⟩
    · have H5 := Lib.hid (H4.out.2.1.trans (hb5.mono H4.out.2.1.size))
      clear hb5
      go_wp2_with fail
      refine (same7_any _ _ [] l _ (SliceIs.nil_any _ _ (by omega)) (HH.out.1.below H5.out)).mono ?_
      rintro e w6 ⟨rfl, hb6⟩
      obtain ⟨r, hr⟩ : ∃ r, decide (([] : List OpD) = l) = r := ⟨_, rfl⟩
      rw [hr]
      have H6 := Lib.hid (H5.out.trans (hb6.mono H5.out.size))
      clear hb6 hr
      go_wp2_with fail
      refine (alive_any _ (HH.out.2.1.below H6.out)).mono ?_
      rintro e w7 ⟨rfl, hb⟩
      have HZ := Lib.hid (H6.out.trans (hb.mono H6.out.size))
      clear hb
      go_wp2_with fail
      go_ret
      exact ⟨rfl, HZ.out⟩
  · obtain ⟨q, rfl⟩ : ∃ q : Nat, at_ = (q : Int) := ⟨at_.toNat, by omega⟩
    obtain ⟨m, hm⟩ : ∃ m : Nat, (q : Int) % (b.length : Int) = (m : Int) := ⟨((q : Int) % (b.length : Int)).toNat, by have := Int.emod_nonneg (q : Int) (show (b.length : Int) ≠ 0 by omega); omega⟩
    have hml : (q : Int) % (b.length : Int) < (b.length : Int) := Int.emod_lt_of_pos _ (by omega)
    have hmb : m < b.length := by omega
    have hmb1 : (m : Int) < (b.length : Int) := by omega
    obtain ⟨x, hx⟩ : ∃ x, b[m]? = some x := ⟨_, List.getElem?_eq_getElem hmb⟩
    have hxor := bits_xor8 x by_
    have hyx := xor_ne (x := x) hby
    generalize x ^^^ by_ = y at hxor hyx
    have c3 := H3.out.1.cellAt u8c_len (j := 0) hx rfl
    rw [Nat.mul_one, Nat.add_zero] at c3
    have f3 := H3.out.1.free m
    have hst := H3.out.1.setAt u8c_len (i := m) (j := 0) (x := x) (y := y) (u := .int .u8 y.toNat) hx (by omega) rfl
    rw [Nat.mul_one, Nat.add_zero] at hst
    have hx4 : Ext (· = g) w3 (w3.setCell ⟨g, m, none⟩ (.int .u8 y.toNat)) := (Ext.refl (· = g) w3).setCell (p := ⟨g, m, none⟩) (.inr rfl) _
    have hb4 : Below w.heap.size w (w3.setCell ⟨g, m, none⟩ (.int .u8 y.toNat)) := Ext.new H3.out.2 hx4 (fun i hi _ e => by have := (H3.out.1.blk g rfl).1; omega) H3.out.2.size
    have hne : b.set m y ≠ b := by
      intro e
      have h1 : (b.set m y)[m]? = some y := List.getElem?_set_self hmb
      rw [e, hx] at h1
      exact hyx (Option.some.inj h1).symm
    have H4 := Lib.hid (And.intro (hst.slice u8c_len) (And.intro hb4 hne))
    clear hx hst hx4 hb4 hne hyx hml hmb
    go_wp2_with fail
    refine (decode_any _ (b.set m y) _ H4.out.1 (HH.out.2.1.below H4.out.2.1)).mono ?_
    clear c3 f3
    generalize w3.setCell ⟨g, m, none⟩ (.int .u8 y.toNat) = w4 at H4 ⊢
    rintro e w5 (⟨l5, x5, hd5, rfl, ho5, hb5⟩ | ⟨_, rfl, hb5⟩)
    · obtain ⟨⟨xa, xn, xc⟩, ex⟩ := ho5.sl
      dsimp only at ex
      subst ex
      have H5 := Lib.hid (And.intro (ho5.slice OpD.len) (And.intro (H4.out.2.1.trans (hb5.mono H4.out.2.1.size)) (dec_other HE.out H4.out.2.2 hd5)))
      clear ho5 hb5 hd5
      go_wp2_with fail
      refine (same7_any _ _ l5 l _ H5.out.1 (HH.out.1.below H5.out.2.1)).mono ?_
      rintro e w6 ⟨rfl, hb6⟩
      rw [decide_eq_false H5.out.2.2]
      have H6 := Lib.hid (H5.out.2.1.trans (hb6.mono H5.out.2.1.size))
      clear hb6
      go_wp2_with fail
      refine (alive_any _ (HH.out.2.1.below H6.out)).mono ?_
      rintro e w7 ⟨rfl, hb⟩
      have HZ := Lib.hid (H6.out.trans (hb.mono H6.out.size))
      clear hb
      go_wp2_with fail
      go_ret
      exact ⟨rfl, HZ.out⟩
    · have H5 := Lib.hid (H4.out.2.1.trans (hb5.mono H4.out.2.1.size))
      clear hb5
      go_wp2_with fail
      refine (same7_any _ _ [] l _ (SliceIs.nil_any _ _ (by omega)) (HH.out.1.below H5.out)).mono ?_
      rintro e w6 ⟨rfl, hb6⟩
      obtain ⟨r, hr⟩ : ∃ r, decide (([] : List OpD) = l) = r := ⟨_, rfl⟩
      rw [hr]
      have H6 := Lib.hid (H5.out.trans (hb6.mono H5.out.size))
      clear hb6 hr
      go_wp2_with fail
      refine (alive_any _ (HH.out.2.1.below H6.out)).mono ?_
      rintro e w7 ⟨rfl, hb⟩
      have HZ := Lib.hid (H6.out.trans (hb.mono H6.out.size))
      clear hb
      go_wp2_with fail
      go_ret
      exact ⟨rfl, HZ.out⟩

end Go.Proofs.YtdlnokbeadkdfaaDoor

namespace Go.Proofs.YtdlnokbeadkdfaaDoor
open Go Go.ChangeShapes Go.WideShapes Go.ChangeAt Go.RowKit
set_option linter.unusedSimpArgs false
set_option linter.unusedVariables false

set_option maxRecDepth 100000 in
theorem batchOne_lifted (os : Os) (started : os.Started) (H : Type) (enc : TypeId × Value → H) :
    ReturnsInHanded {} Tryd.checked os 4 .any (fun w args => (Rows.batchOneSpec.pre enc Tryd.prog Tryd.f4 [] false w args ∧ laidMetH Tryd.prog laidL w) ∧ sizedMet enc Tryd.prog Tryd.f4 (OpenSpec.ofChange Rows.batchOneSpec) false w args)
      (Rows.batchOneSpec.post enc Tryd.prog Tryd.f4 false true false false) := by
  refine returnsInHanded_of_change_and (C := Tryd.checked) (X := fun w _ => laidMetH Tryd.prog laidL w) (fun _ _ _ hh h => h.of_heap hh) Tryd.own started (by kernel_rfl) Tryd.func4
    (ChangeSpec.witness_shaped (enc := enc) (C := Tryd.checked) (os := os) (X := fun w _ => laidMetH Tryd.prog laidL w) false (worldL os) #[.slice none 0 0, .int .i64 0, .int .u8 0] 8 (worldL_os os) (World.shaped_of_ZipB (by kernel_rfl) (by kernel_rfl)) (by kernel_rfl) (by kernel_rfl) (by kernel_rfl) (worldL_met os _)) ?_
  intro W base args ds gs before hval0 hW _ _ hL _
  have hval : ∀ (j : Nat) t v, Tryd.f4.params[j]? = some t → args[j]? = some v → Value.okWide Tryd.prog W .any base t v := hval0
  have hW' := hW
  obtain ⟨p, q, hA0, hV, rfl, hfz, hnd⟩ := hW
  have hA : DataW.TrodAll enc Tryd.prog W 0 (fun _ => true) true Tryd.f4.params.toList args.toList ds p := hA0
  rw [Tryd.params4] at hA hval
  obtain ⟨v0, vs0, d0, ds0, p0, q0, hargs, rfl, rfl, h0, r0⟩ := trodAll_cons hA
  obtain ⟨v1, vs1, d1, ds1, p1, q1, rfl, rfl, rfl, h1, r1⟩ := trodAll_cons r0
  obtain ⟨v2, vs2, d2, ds2, p2, q2, rfl, rfl, rfl, h2, r2⟩ := trodAll_cons r1
  obtain ⟨rfl, rfl, rfl⟩ := trodAll_nil r2
  obtain rfl : args = #[v0, v1, v2] := by cases args; simp_all
  obtain ⟨rfl, rfl⟩ := trodVars_none hV
  have k0 := h0
  have lt0 : ∀ x ∈ p0, x.block < W.heap.size := by obtain ⟨m, hm⟩ := k0; exact DataW.trod_lt m _ _ _ hm
  have k1 := h1
  have lt1 : ∀ x ∈ p1, x.block < W.heap.size := by obtain ⟨m, hm⟩ := k1; exact DataW.trod_lt m _ _ _ hm
  have k2 := h2
  have lt2 : ∀ x ∈ p2, x.block < W.heap.size := by obtain ⟨m, hm⟩ := k2; exact DataW.trod_lt m _ _ _ hm
  obtain ⟨l, hv0, hw0⟩ := open_opsR (hval 0 24 v0 rfl rfl) h0
  obtain ⟨at_, rfl, hc1, hc2⟩ := open_int8 (hval 1 3 v1 rfl rfl) h1
  obtain ⟨by_, rfl⟩ := open_byte8 (hval 2 5 v2 rfl rfl) h2
  clear hA0 hval0
  refine (one_any v0 l at_ by_ W hv0 hw0 (errTy_of_laid hL) hc1 hc2).mono fun e W' ⟨he, bel⟩ => ?_
  subst he
  exact ⟨_, rfl, _, _, _, [], _, [], hW', trodAll_mk1 (shut_bool Tryd.underlying4 _), (trodAll_cons_mk (Below.trod Tryd.laidOut (by kernel_rfl) (of_decide_eq_true (by kernel_rfl)) k0 bel lt0) (trodAll_cons_mk (Below.trod Tryd.laidOut (by kernel_rfl) (of_decide_eq_true (by kernel_rfl)) k1 bel lt1) (trodAll_cons_mk (Below.trod Tryd.laidOut (by kernel_rfl) (of_decide_eq_true (by kernel_rfl)) k2 bel lt2) trodAll_mk0))), rfl, bel.frame _, fun h => by cases h⟩

theorem batchOne_holds : Rows.BatchOneSaid :=
  OpenClaim.holds_of_wide 4 Tryd.f4 rfl rfl rfl rfl rfl rfl rfl ⟨rfl, rfl, rfl, rfl, rfl⟩ rfl rfl rfl rfl rfl (by kernel_rfl) Tryd.func4 (by kernel_rfl)
    (of_decide_eq_true (by kernel_rfl)) (by unfold Func.isWrapper; first | (rw [if_pos (by decide +kernel)]; kernel_rfl) | (rw [if_neg (by decide +kernel)]; exact ⟨rfl, rfl⟩))
    (fun os started H enc _ => batchOne_lifted os started H enc)

theorem batchOne_card : Rows.BatchOneCardSaid :=
  Claim7.holds_tied_plain_at .later [] [.data, .handle, .pinned] true Rows.batchOneCard.stood.harness true
    batchOne_holds (fun _ h => by cases h) (by kernel_rfl) (fun _ h => by cases h) batchOne_row_tie rfl ⟨rfl, rfl⟩ (by kernel_rfl) rfl
    (fun f fn hf hfn => by
      obtain rfl : f = 4 := Option.some.inj ((show Tryd.prog.funcNamed "stemma/stemmalaw08.BatchOne" = some 4 by kernel_rfl).symm.trans hf) |>.symm
      obtain rfl : fn = Tryd.f4 := (Option.some.inj (Tryd.func4.symm.trans hfn)).symm
      exact ⟨by kernel_rfl, fun j t ht => by
        rw [Tryd.params4] at ht
        have hm : t ∈ [24, 3, 5] := by simpa using Array.mem_of_getElem? ht
        have hall : ([24, 3, 5].all fun u => !Tryd.prog.wantsStandIn u) = true := by kernel_rfl
        exact (show Tryd.prog.wantsStandIn t = false by simpa using List.all_eq_true.1 hall t hm)⟩)
    (by kernel_rfl)
#print axioms batchOne_card

end Go.Proofs.YtdlnokbeadkdfaaDoor
