/- Sums and differences made in place, plain. column.TakeRuns: a contract. A store into one of the call's own elements. column.TakeDeltas: a contract. The taker, plain; what it has in memory. The taker's truths and texts, plain. Decoding, plain: what is decoded is what is encoded. batch.taker.numbers' inner function. batch.taker.numbers: a contract. column.TakeBools: a contract. -/
import Derived.Test.YtgmdimbiipemhaaGreatDoorDiffP08
import Derived.Test.YtgmdimbiipemhaaGreatDoorTkP08
import Derived.Test.YtgmdimbiipemhaaGreatDoorVar08
import Derived.Deep.LoopGhost
import Derived.Deep.QuietTactic
import Derived.Deep.CutBlock
import Derived.Deep.DeepCutAuto
import Derived.Test.YtgmdimbiipemhaaGreatDoorRow
import Derived.Lib.SmallJoins
import Derived.Test.YtgmdimbiipemhaaGreatDoorEncP08
import Derived.Test.YtgmdimbiipemhaaGreatDoorInts08
import Derived.Test.YtgmdimbiipemhaaGreatDoorCols08
namespace Go.Proofs.YtgmdimbiipemhaaGreatDoor
open Go.RowKit Go.Deep
set_option linter.unusedSimpArgs false
set_option linter.unusedVariables false
theorem sumsF_len : ∀ (l : List Int) (p : Int), (sumsF p l).length = l.length
  | [], _ => rfl
  | x :: l, p => by rw [sumsF, List.length_cons, sumsF_len l, List.length_cons]
theorem sumsB_len (l : List Int) : (sumsB l).length = l.length := by
  cases l with
  | nil => rfl
  | cons x l => rw [sumsB, List.length_cons, sumsF_len, List.length_cons]
theorem sumsF_get : ∀ (l : List Int) (p : Int) (j : Nat) (x y : Int), l[j]? = some x → (p :: sumsF p l)[j]? = some y → (sumsF p l)[j]? = some (wrapI (x + y))
  | [], _, _, _, _, h, _ => by simp at h
  | z :: l, p, 0, x, y, h, h2 => by
    simp at h h2
    subst h h2
    rw [sumsF]; rfl
  | z :: l, p, j + 1, x, y, h, h2 => by
    rw [sumsF] at h2 ⊢
    rw [List.getElem?_cons_succ] at h h2 ⊢
    exact sumsF_get l _ j x y h h2
theorem sumsB_get {l : List Int} {j : Nat} {x y : Int} (hx : l[j + 1]? = some x) (hy : (sumsB l)[j]? = some y) : (sumsB l)[j + 1]? = some (wrapI (x + y)) := by
  cases l with
  | nil => simp at hx
  | cons z l =>
    rw [sumsB] at hy ⊢
    rw [List.getElem?_cons_succ] at hx ⊢
    exact sumsF_get l z j x y hx hy
def mixP (a b : List Int) (i : Nat) : List Int := a.take i ++ b.drop i
theorem mixP_zero (a b : List Int) : mixP a b 0 = b := by simp [mixP]
theorem mixP_len {a b : List Int} (h : a.length = b.length) {i : Nat} (hi : i ≤ b.length) : (mixP a b i).length = b.length := by simp [mixP]; omega
theorem mixP_all {a b : List Int} (h : a.length = b.length) : mixP a b b.length = a := by simp [mixP, ← h]
theorem mixP_at {a b : List Int} (h : a.length = b.length) {i : Nat} {x : Int} (hx : b[i]? = some x) : (mixP a b i)[i]? = some x := by
  have hi := (List.getElem?_eq_some_iff.1 hx).1
  unfold mixP
  rw [List.getElem?_append_right (by simp; omega), List.length_take, Nat.min_eq_left (by omega), Nat.sub_self, List.getElem?_drop]
  exact hx
theorem mixP_before {a b : List Int} (h : a.length = b.length) {i j : Nat} {x : Int} (hx : a[j]? = some x) (hj : j < i) : (mixP a b i)[j]? = some x := by
  have hi := (List.getElem?_eq_some_iff.1 hx).1
  unfold mixP
  rw [List.getElem?_append_left (by simp; omega), List.getElem?_take, if_pos hj]
  exact hx
theorem mixP_step {a b : List Int} (h : a.length = b.length) {i : Nat} {x : Int} (hx : a[i]? = some x) : (mixP a b i).set i x = mixP a b (i + 1) := by
  have hi := (List.getElem?_eq_some_iff.1 hx).1
  unfold mixP
  rw [List.set_append_right _ _ (by simp; omega), List.length_take, Nat.min_eq_left (by omega), Nat.sub_self, List.take_add_one, hx, Option.toList_some, List.append_assoc]
  congr 1
  have : b.drop i = b[i] :: b.drop (i + 1) := List.drop_eq_getElem_cons (by omega)
  rw [this]
  rfl
theorem mixP_same {a b : List Int} (h : a.length = b.length) {i : Nat} {x : Int} (hx : a[i]? = some x) (hb : b[i]? = some x) : mixP a b i = mixP a b (i + 1) := by
  rw [← mixP_step h hx]
  apply List.ext_getElem?
  intro k
  rw [List.getElem?_set]
  split
  · rename_i e
    subst e
    rw [mixP_at h hb]
    have hi := (List.getElem?_eq_some_iff.1 hb).1
    rw [if_pos (by rw [mixP_len h (by omega)]; exact hi)]
  · rfl
theorem sumsB_head {l : List Int} {x : Int} (h : l[0]? = some x) : (sumsB l)[0]? = some x := by
  cases l with
  | nil => simp at h
  | cons y l => rw [sumsB]; simpa using h
end Go.Proofs.YtgmdimbiipemhaaGreatDoor
namespace Go.Proofs.YtgmdimbiipemhaaGreatDoor
open Go.RowKit Go.Deep
set_option linter.unusedSimpArgs false
set_option linter.unusedVariables false
set_option maxRecDepth 20000 in
set_option maxHeartbeats 4000000 in
theorem takeruns_any (v : Value) (b : List UInt8) (n : Nat) (w : World) (h : SliceIs u8c 1 w v b) (hn0 : n ≤ 65536) : Calls Tryz.prog 153 #[v, .int .i64 n] w fun e w' => TrPost w b n e w' := by
  obtain ⟨a, cap, rfl, hcap, hmax, -⟩ := id h
  unfold maxLen at hmax
  have HH := Lib.hid h
  clear h
  have hn1 : ¬ (n : Int) < 0 := by omega
  have hn2 : ¬ (65536 : Int) < (n : Int) := by omega
  go_enter Tryz.func153, Tryz.ntmps153
  go_wp2_with fail
  go_loopg [7, 8] n (fun g lv pv wr => ∃ (s : Sl) (l : List Int) (p : Nat), g = n - l.length ∧ lv = .slice s.a s.n s.cap ∧ pv = .int .i64 p ∧ s.n = l.length ∧ l.length ≤ n ∧ p ≤ b.length ∧ Hid (TR b n l p) ∧ Hid (Own intc 1 3 w.heap.size wr (.slice s.a s.n s.cap) l ∧ Below w.heap.size w wr))
  case atStart => exact ⟨⟨none, 0, 0⟩, [], 0, rfl, rfl, rfl, rfl, Nat.zero_le _, Nat.zero_le _, Lib.hid (TR.zero b n), Lib.hid ⟨Own.nil, Below.refl _ _⟩⟩
  case round =>
    obtain ⟨⟨sa, sn, sc⟩, l, p, hg, rfl, rfl, hsn, hln, hpb, HT, HU⟩ := hrel
    dsimp only at hsn HU ⊢
    subst hsn
    have HG := Lib.hid hg
    clear hg
    by_cases hlt : l.length < n
    · have hl1 : (l.length : Int) < (n : Int) := by omega
      obtain ⟨a1, c1, hsl, hS1, -⟩ := slice_from (P := Tryz.prog) (ea := u8c) Tryz.underlying22 size_u8 a b.length cap p hcap hpb
      have HS := Lib.hid (hS1 wr b rfl (HH.out.below HU.out.2))
      clear hS1
      go_wp2_with fail
      refine (take_any _ _ _ HS.out).mono ?_
      rintro e w5 ⟨rfl, e5⟩
      rw [← e5]
      clear e5 w5
      cases hk : takeV (b.drop p) with
      | none =>
        have hr : takeR (b.drop p) = .tuple #[.int .u64 0, .int .i64 0, .int .i64 31] := by unfold takeR; rw [hk]
        have HD := Lib.hid (HT.out.bad hlt (.inl hk))
        rw [hr]
        have HR := Lib.hid hr
        clear hk hr
        have hp00 : (p : Int) + 0 = (p : Int) := by omega
        go_wp2_with fail
        refine (take_any _ _ _ HS.out).mono ?_
        rintro e w5 ⟨rfl, e5⟩
        rw [← e5, HR.out]
        clear e5 w5 HS hsl
        go_wp2_with fail
        refine (zag_any 0 _ (by omega)).mono ?_
        rintro e w5 ⟨rfl, e5⟩
        rw [← e5]
        clear e5 w5
        go_wp2_with fail
        go_ret3
        exact .inr ⟨HD.out, rfl, HU.out.2⟩
      | some k =>
        have hr : takeR (b.drop p) = .tuple #[.int .u64 k, .int .i64 (putB k).length, .int .i64 0] := by unfold takeR; rw [hk]
        have hk64 := (takeV_some.1 hk).1
        have hqp := (takeV_some.1 hk).2.length_le
        rw [List.length_drop] at hqp
        have hq0 : 0 < (putB k).length := List.length_pos_iff.2 (putB_ne k)
        rw [hr]
        obtain ⟨q, hq⟩ : ∃ q, (putB k).length = q := ⟨_, rfl⟩
        rw [hq] at hqp hq0 ⊢
        obtain ⟨a2, c2, hsl2, hS2, -⟩ := slice_from (P := Tryz.prog) (ea := u8c) Tryz.underlying22 size_u8 a b.length cap (p + q) hcap (by omega)
        have HS2 := Lib.hid (hS2 wr b rfl (HH.out.below HU.out.2))
        simp only [Int.natCast_add] at hsl2
        clear hS2 hr HS hsl
        go_wp2_with fail
        refine (take_any _ _ _ HS2.out).mono ?_
        rintro e w5 ⟨rfl, e5⟩
        rw [← e5]
        clear e5 w5 HS2
        cases hv : takeV (b.drop (p + q)) with
        | none =>
          have hr : takeR (b.drop (p + q)) = .tuple #[.int .u64 0, .int .i64 0, .int .i64 31] := by unfold takeR; rw [hv]
          have HD := Lib.hid (HT.out.bad hlt (.inr ⟨k, hk, .inl (by rw [hq]; exact hv)⟩))
          rw [hr]
          clear hk hr hv hsl2 hq
          go_wp2_with fail
          refine (zag_any 0 _ (by omega)).mono ?_
          rintro e w5 ⟨rfl, e5⟩
          rw [← e5]
          clear e5 w5
          go_wp2_with fail
          go_ret3
          exact .inr ⟨HD.out, rfl, HU.out.2⟩
        | some v =>
          have hr : takeR (b.drop (p + q)) = .tuple #[.int .u64 v, .int .i64 (putB v).length, .int .i64 0] := by unfold takeR; rw [hv]
          have hv64 := (takeV_some.1 hv).1
          have hqp2 := (takeV_some.1 hv).2.length_le
          rw [List.length_drop] at hqp2
          rw [hr]
          have HBAD := Lib.hid (fun h => HT.out.bad hlt (.inr ⟨k, hk, .inr ⟨v, by rw [hq]; exact hv, h⟩⟩))
          have HSTEP := Lib.hid (fun h0 h1 h2 => HT.out.step hk (by rw [hq]; exact hv) h0 h1 h2)
          rw [hq] at HSTEP
          obtain ⟨q2, hq2⟩ : ∃ q2, (putB v).length = q2 := ⟨_, rfl⟩
          rw [hq2] at hqp2 HSTEP ⊢
          obtain ⟨x, hx⟩ : ∃ x, zagI v = x := ⟨_, rfl⟩
          rw [hx] at HBAD HSTEP
          have hQ : 0 < q ∧ p + q + q2 ≤ b.length := ⟨hq0, by omega⟩
          have HQ := Lib.hid hQ
          have hxin := zagI_in hv64
          rw [hx] at hxin
          clear hr hsl2 hk hv hq hq2 hqp hqp2 hq0 hQ
          go_wp2_with fail
          refine (zag_any v _ hv64).mono ?_
          rintro e w5 ⟨rfl, e5⟩
          rw [← e5, hx]
          clear e5 w5 hx
          obtain ⟨r, hrr⟩ : ∃ r : Nat, r = n - l.length := ⟨_, rfl⟩
          have hsub : (n : Int) - (l.length : Int) = (r : Int) := by omega
          by_cases hz : k = 0
          · have HD := Lib.hid (HBAD.out (.inl hz))
            have hz1 : ((k : Int) == 0) = true := by rw [hz]; rfl
            clear hz hrr hsub HBAD HSTEP
            go_wp2_with fail
            go_ret3
            exact .inr ⟨HD.out, rfl, HU.out.2⟩
          · have hz1 : ((k : Int) == 0) = false := by simpa using hz
            by_cases hkn : r < k
            · have hk1 : (r : Int) < (k : Int) := by omega
              have HD := Lib.hid (HBAD.out (.inr (.inl (by omega))))
              have hdk : decide (n - l.length < k) = true := decide_eq_true (by omega)
              clear hz hkn hrr HBAD HSTEP
              go_wp2_with fail
              go_ret3
              exact .inr ⟨HD.out, rfl, HU.out.2⟩
            · have hk1 : ¬ (r : Int) < (k : Int) := by omega
              have hdk : decide (n - l.length < k) = false := decide_eq_false (by omega)
              have hk65 : k ≤ 65536 := by omega
              have HKN : Hid (k ≤ n - l.length ∧ k ≠ 0) := Lib.hid ⟨by omega, hz⟩
              have hpq : IntKind.i64.wrap ((p : Int) + ((q : Int) + (q2 : Int))) = ((p + q + q2 : Nat) : Int) := by rw [IntWalk.i64_in _ (by have := HQ.out; omega)]; omega
              have HC := Lib.hid (repint_any x wr.heap.size 1 k (wr.alloc (.cells #[.int .i64 x] 3)) (int_new wr x 0 _ rfl) hk65 (Nat.le_refl _))
              by_cases hl0 : l.length = 0
              · have hl2 : ¬ (0 : Int) < (l.length : Int) := by omega
                have hl3 : decide (0 < l.length) = false := decide_eq_false (by omega)
                have HNX := Lib.hid (HSTEP.out HKN.out.2 HKN.out.1 (by rw [List.eq_nil_of_length_eq_zero hl0]; simp))
                clear hz hkn hrr hl0 HBAD HSTEP
                have hqs := HQ.out.2
                clear hpq
                go_wp2_with fail
                refine HC.out.mono ?_
                rintro e w6 ⟨v6, rfl, hown6, b6⟩
                have hb0 : Below w.heap.size w (wr.alloc (.cells #[.int .i64 x] 3)) := HU.out.2.alloc HU.out.2.size _
                obtain ⟨⟨ta, tn, tc⟩, w7, hr7, own7, b7, hsz7⟩ := ints_append ((HU.out.1.alloc _).below1 b6) (hb0.trans (b6.mono hb0.size)) (hown6.slice intc_len) (Nat.le_trans hb0.size b6.size) (by rw [List.length_replicate]; omega)
                have HX := Lib.hid (And.intro own7 b7)
                have HTN := Lib.hid (own7.nlen intc_len).1
                clear own7 b7 hown6 b6 hb0 HC hsz7
                go_wp2_with (at_builtin; refine Lib.wpList_append_run _ rfl _ _ _ _ rfl _ _ rfl rfl _ _ hr7 ?_)
                go_roundg (n - (l ++ List.replicate k x).length)
                case measure => rw [HG.out, List.length_append, List.length_replicate]; have h1 := HKN.out; omega
                case rel => exact ⟨⟨ta, tn, tc⟩, l ++ List.replicate k x, p + q + q2, rfl, rfl, by simp; omega, HTN.out, by rw [List.length_append, List.length_replicate]; have h1 := HKN.out.1; omega, HQ.out.2, HNX, HX⟩
              · obtain ⟨j, hj⟩ : ∃ j, l.length = j + 1 := ⟨l.length - 1, by omega⟩
                obtain ⟨y, hy⟩ : ∃ y, l[j]? = some y := ⟨_, List.getElem?_eq_getElem (by omega)⟩
                have hlast : l.getLast? = some y := by rw [List.getLast?_eq_getElem?, hj]; exact hy
                obtain ⟨bb, oo, rfl, c0⟩ := (HU.out.1.slice intc_len).at1 hy rfl
                have hl2 : (0 : Int) < (l.length : Int) := by omega
                have hl3 : decide (0 < l.length) = true := decide_eq_true (by omega)
                have hj1 : (l.length : Int) - 1 = (j : Int) := by omega
                have hj2 : l.length - 1 = j := by omega
                have hj3 : (j : Int) < (l.length : Int) := by omega
                clear hj
                by_cases hyx : y = x
                · have HD := Lib.hid (HBAD.out (.inr (.inr (by rw [hlast, hyx]))))
                  have hyy : (y == x) = true := by simpa using hyx
                  clear hz hkn hrr hl0 HBAD HSTEP hlast hy hyx HC
                  go_wp2_with fail
                  go_ret3
                  exact .inr ⟨HD.out, rfl, HU.out.2⟩
                · have HNX := Lib.hid (HSTEP.out HKN.out.2 HKN.out.1 (by rw [hlast]; exact fun e => hyx (Option.some.inj e)))
                  have hyy : (y == x) = false := by simpa using hyx
                  clear hz hkn hrr hl0 HBAD HSTEP hlast hy hyx
                  have hqs := HQ.out.2
                  clear hpq
                  go_wp2_with fail
                  refine HC.out.mono ?_
                  rintro e w6 ⟨v6, rfl, hown6, b6⟩
                  have hb0 : Below w.heap.size w (wr.alloc (.cells #[.int .i64 x] 3)) := HU.out.2.alloc HU.out.2.size _
                  obtain ⟨⟨ta, tn, tc⟩, w7, hr7, own7, b7, hsz7⟩ := ints_append ((HU.out.1.alloc _).below1 b6) (hb0.trans (b6.mono hb0.size)) (hown6.slice intc_len) (Nat.le_trans hb0.size b6.size) (by rw [List.length_replicate]; omega)
                  have HX := Lib.hid (And.intro own7 b7)
                  have HTN := Lib.hid (own7.nlen intc_len).1
                  clear own7 b7 hown6 b6 hb0 HC hsz7
                  go_wp2_with (at_builtin; refine Lib.wpList_append_run _ rfl _ _ _ _ rfl _ _ rfl rfl _ _ hr7 ?_)
                  go_roundg (n - (l ++ List.replicate k x).length)
                  case measure => rw [HG.out, List.length_append, List.length_replicate]; have h1 := HKN.out; omega
                  case rel => exact ⟨⟨ta, tn, tc⟩, l ++ List.replicate k x, p + q + q2, rfl, rfl, by simp; omega, HTN.out, by rw [List.length_append, List.length_replicate]; have h1 := HKN.out.1; omega, HQ.out.2, HNX, HX⟩
    · have hll : l.length = n := by omega
      have hl1 : ¬ (l.length : Int) < (n : Int) := by omega
      have HD := Lib.hid (HT.out.done hll)
      clear hll hlt
      go_wp2_with fail
      go_ret3
      exact .inl ⟨l, p, _, HD.out, rfl, HU.out.1, HU.out.2⟩
end Go.Proofs.YtgmdimbiipemhaaGreatDoor
namespace Go.Proofs.YtgmdimbiipemhaaGreatDoor
open Go.RowKit Go.Deep
set_option linter.unusedSimpArgs false
set_option linter.unusedVariables false
section
variable {α : Type} {ea : α → List Value} {k : Nat} {e : TypeId} {base : Nat} {w : World}
theorem flatMap_set (hk : ∀ x, (ea x).length = k) {j : Nat} {u : Value} (hj : j < k) : ∀ (l : List α) (i : Nat) (x y : α), l[i]? = some x → ea y = (ea x).set j u → (l.set i y).flatMap ea = (l.flatMap ea).set (i * k + j) u
  | [], i, x, y, h, _ => by simp at h
  | a :: l, 0, x, y, h, hy => by
    simp at h
    subst h
    simp only [List.set_cons_zero, List.flatMap_cons, Nat.zero_mul, Nat.zero_add]
    rw [hy, List.set_append_left _ _ (by rw [hk]; exact hj)]
  | a :: l, i + 1, x, y, h, hy => by
    simp only [List.getElem?_cons_succ] at h
    have ih := flatMap_set hk hj l i x y h hy
    simp only [List.set_cons_succ, List.flatMap_cons]
    rw [ih, List.set_append_right _ _ (by rw [hk, Nat.add_mul]; omega)]
    congr 2
    rw [hk, Nat.add_mul]
    omega
theorem Own.setAt {g cap : Nat} {l : List α} (h : Own ea k e base w (.slice (some ⟨g, 0, none⟩) l.length cap) l) (hk : ∀ x, (ea x).length = k) {i j : Nat} {x y : α} {u : Value} (hx : l[i]? = some x) (hj : j < k) (hy : ea y = (ea x).set j u) :
    Own ea k e base (w.setCell ⟨g, i * k + j, none⟩ u) (.slice (some ⟨g, 0, none⟩) l.length cap) (l.set i y) := by
  have hf := flatMap_set hk hj l i x y hx hy
  obtain ⟨h1, h2⟩ := h
  refine ⟨by rw [hf, List.length_set, List.length_set]; exact h1, ?_⟩
  rcases h2 with ⟨e1, _⟩ | ⟨g', cap', cur, e1, hb, hg, hn, hm, hs, ht⟩
  · cases e1
  · cases e1
    refine .inr ⟨g, cap, cur.setIfInBounds (i * k + j) u, by rw [List.length_set], hb, Joins.block_setCell hg u, by rw [List.length_set]; exact hn, hm, by simpa using hs, ?_⟩
    rw [hf, ← ht, List.length_set, Array.toList_setIfInBounds, List.take_set]
theorem Own.cellAt {g cap : Nat} {l : List α} (h : Own ea k e base w (.slice (some ⟨g, 0, none⟩) l.length cap) l) (hk : ∀ x, (ea x).length = k) {i j : Nat} {x : α} {u : Value} (hx : l[i]? = some x) (hu : (ea x)[j]? = some u) :
    w.cell? ⟨g, i * k + j, none⟩ = some u := by
  obtain ⟨a, c, e1, _, _, h4⟩ := h.slice hk
  cases e1
  obtain ⟨b, o, e2, h5⟩ := h4 (by rintro rfl; simp at hx)
  cases e2
  have := h5 i x hx j u hu
  rwa [Nat.zero_add] at this
theorem Own.free {g cap : Nat} {l : List α} (h : Own ea k e base w (.slice (some ⟨g, 0, none⟩) l.length cap) l) (o : Nat) : w.frozen? ⟨g, o, none⟩ = false := by
  obtain ⟨cur, hc⟩ := h.tag (b := g) rfl
  exact Joins.unfrozen_of_block hc o
end
end Go.Proofs.YtgmdimbiipemhaaGreatDoor
namespace Go.Proofs.YtgmdimbiipemhaaGreatDoor
open Go.RowKit Go.Deep
set_option linter.unusedSimpArgs false
set_option linter.unusedVariables false
noncomputable def decD (n : Nat) (b : List UInt8) : Option (List Int × Nat) := (decR n none b).map fun p => (sumsB p.1, p.2)
def TdPost (w : World) (b : List UInt8) (n : Nat) (e : Ending) (w' : World) : Prop := (∃ l u v, decD n b = some (l, u) ∧ e = .returned (.tuple #[v, .int .i64 (u : Nat), .int .i64 0]) ∧ Own intc 1 3 w.heap.size w' v l ∧ Below w.heap.size w w') ∨
  (decD n b = none ∧ e = .returned (.tuple #[.slice none 0 0, .int .i64 0, .int .i64 41]) ∧ Below w.heap.size w w')
set_option maxRecDepth 20000 in
set_option maxHeartbeats 1000000 in
theorem takedeltas_any (v : Value) (b : List UInt8) (n : Nat) (w : World) (h : SliceIs u8c 1 w v b) (hn0 : n ≤ 65536) : Calls Tryz.prog 154 #[v, .int .i64 n] w fun e w' => TdPost w b n e w' := by
  have HC := Lib.hid (takeruns_any v b n w h hn0)
  clear h
  go_enter Tryz.func154, Tryz.ntmps154
  go_wp2_with fail
  refine HC.out.mono ?_
  rintro e w5 (⟨d, u, v5, hd, rfl, hown, hb⟩ | ⟨hd, rfl, hb⟩)
  · obtain ⟨⟨sa, sn, sc⟩, e5⟩ := hown.sl
    dsimp only at e5
    subst e5
    obtain rfl := (hown.nlen intc_len).1
    have hdl := (decR_iff n (by omega) none b d u).1 hd
    have hdn : d.length ≤ 65536 := by rcases hdl with ⟨h, _⟩ | ⟨_, rfl, _⟩; omega; simp
    have HD := Lib.hid (show decD n b = some (sumsB d, u) from by unfold decD; rw [hd]; rfl)
    have hsl := sumsB_len d
    have HSL := Lib.hid hsl
    have HU := Lib.hid (And.intro hown hb)
    clear hd hdl hown hb hsl HC hn0
    go_wp2_with fail
    go_loopg [20, 10] d.length (fun g kv iv wr => ∃ i : Nat, g = d.length - i ∧ kv = .int .i64 i ∧ i ≤ d.length ∧ Hid (Own intc 1 3 w.heap.size wr (.slice sa d.length sc) (mixP (sumsB d) d i) ∧ Below w.heap.size w wr))
    case atStart => exact ⟨0, rfl, rfl, Nat.zero_le _, by rw [mixP_zero]; exact HU⟩
    case round =>
      clear HU
      obtain ⟨i, hg, rfl, hil, HU⟩ := hrel
      have HG := Lib.hid hg
      clear hg
      by_cases hlt : i < d.length
      · have hi1 : (i : Int) < (d.length : Int) := by omega
        obtain ⟨x, hx⟩ : ∃ x, d[i]? = some x := ⟨_, List.getElem?_eq_getElem hlt⟩
        cases i with
        | zero =>
          have HN : Hid (Own intc 1 3 w.heap.size wr (.slice sa d.length sc) (mixP (sumsB d) d 1) ∧ Below w.heap.size w wr) := Lib.hid (by rw [← mixP_same HSL.out (sumsB_head hx) hx]; exact HU.out)
          clear hx HU
          go_wp2_with fail
          go_roundg (d.length - 1)
          case measure => rw [HG.out]; omega
          case rel => exact ⟨1, rfl, by simp, by omega, HN⟩
        | succ j =>
          obtain ⟨y, hy⟩ : ∃ y, (sumsB d)[j]? = some y := ⟨_, List.getElem?_eq_getElem (by rw [HSL.out]; omega)⟩
          have hs := sumsB_get hx hy
          obtain ⟨z, hz⟩ : ∃ z, z = wrapI (x + y) := ⟨_, rfl⟩
          rw [← hz] at hs
          have hml := mixP_len HSL.out (show j + 1 ≤ d.length by omega)
          have HO := HU.out.1
          rw [← hml] at HO
          obtain ⟨bb, hsa⟩ : ∃ bb, sa = some ⟨bb, 0, none⟩ := by
            rcases HO.eq_slice with ⟨e, h⟩ | ⟨g, c, e, _⟩
            · rw [h] at hml; simp at hml; omega
            · cases e; exact ⟨g, rfl⟩
          subst hsa
          have c1 : wr.cell? ⟨bb, j + 1, none⟩ = some (.int .i64 x) := by have := HO.cellAt intc_len (mixP_at HSL.out hx) (j := 0) rfl; rwa [Nat.mul_one, Nat.add_zero] at this
          have c0 : wr.cell? ⟨bb, j, none⟩ = some (.int .i64 y) := by have := HO.cellAt intc_len (mixP_before HSL.out hy (Nat.lt_succ_self j)) (j := 0) rfl; rwa [Nat.mul_one, Nat.add_zero] at this
          have f1 := HO.free (j + 1)
          have HN : Hid (Own intc 1 3 w.heap.size (wr.drew.setCell ⟨bb, j + 1, none⟩ (.int .i64 z)) (.slice (some ⟨bb, 0, none⟩) d.length sc) (mixP (sumsB d) d (j + 2)) ∧ Below w.heap.size w (wr.drew.setCell ⟨bb, j + 1, none⟩ (.int .i64 z))) := Lib.hid ⟨by
            have h1 := Own.setAt (show Own intc 1 3 w.heap.size wr.drew (.slice (some ⟨bb, 0, none⟩) (mixP (sumsB d) d (j + 1)).length sc) (mixP (sumsB d) d (j + 1)) from HO) intc_len (i := j + 1) (j := 0) (y := z) (mixP_at HSL.out hx) (by omega) rfl
            rw [hml, Nat.mul_one, Nat.add_zero, mixP_step HSL.out hs] at h1
            exact h1, (HU.out.2.drew).setCell (HU.out.1.blk bb rfl).1 _⟩
          have hzz : IntKind.i64.wrap (x + y) = z := by rw [hz, i64_wrap]
          have hj0 : IntKind.i64.wrap (j : Int) = (j : Int) := IntWalk.i64_in _ (by omega)
          have hj3 : ¬ ((j : Int) + 1 < 0) := by omega
          have hj4 : (0 : Int) ≤ (j : Int) + 1 := by omega
          have hj1 : IntKind.i64.wrap (((j + 1 : Nat) : Int) - 1) = (j : Int) := by rw [IntWalk.i64_in _ (by omega)]; omega
          have hj2 : (j : Int) < (d.length : Int) := by omega
          clear hx hy hs hz hml HO HU
          go_upto_region 6 with fail
          have hS0 : (fun W : World => W.cell? ⟨bb, j + 1, none⟩ = some (.int .i64 x) ∧ W.cell? ⟨bb, j, none⟩ = some (.int .i64 y)) wr.drew := ⟨c1, c0⟩
          have f2 : wr.drew.frozen? ⟨bb, j + 1, none⟩ = false := f1
          have c2 : wr.drew.cell? ⟨bb, j + 1, none⟩ = some (.int .i64 x) := c1
          clear c1 c0 f1
          refine wp_region_s (fun W : World => W.cell? ⟨bb, j + 1, none⟩ = some (.int .i64 x) ∧ W.cell? ⟨bb, j, none⟩ = some (.int .i64 y)) (fun i => i == 11) (by kernel_rfl) ?_
          generalize wr.drew = W1 at hS0 HN f2 c2 ⊢
          refine wpAnyS_take (i := 0) (d := some 25) rfl rfl rfl (by kernel_rfl) (by kernel_rfl) (by kernel_rfl) (by kernel_rfl) (fun _ _ _ h => h) (.inl ⟨by rfl, fun W hW => by obtain ⟨q0, q1⟩ := hW; go_simp; try rfl⟩) hS0 ?_
          try simp only [Act.put, List.setIfInBounds_toArray, List.set_cons_zero, List.set_cons_succ]
          refine wpAnyS_take (i := 1) (d := some 26) rfl rfl rfl (by kernel_rfl) (by kernel_rfl) (by kernel_rfl) (by kernel_rfl) (fun _ _ _ h => h) (.inl ⟨by rfl, fun W hW => by obtain ⟨q0, q1⟩ := hW; go_simp; try rfl⟩) hS0 ?_
          try simp only [Act.put, List.setIfInBounds_toArray, List.set_cons_zero, List.set_cons_succ]
          refine wpAnyS_take (i := 2) (d := some 27) (v := .pointer (some ⟨bb, j + 1, none⟩)) rfl rfl rfl (by kernel_rfl) (by kernel_rfl) (by kernel_rfl) (by kernel_rfl) (fun _ _ _ h => h) (.inl ⟨by rfl, fun W hW => by obtain ⟨q0, q1⟩ := hW; go_simp; try rfl⟩) hS0 ?_
          try simp only [Act.put, List.setIfInBounds_toArray, List.set_cons_zero, List.set_cons_succ]
          refine wpAnyS_take (i := 3) (d := some 28) (v := .int .i64 x) rfl rfl rfl (by kernel_rfl) (by kernel_rfl) (by kernel_rfl) (by kernel_rfl) (fun _ _ _ h => h) (.inl ⟨by rfl, fun W hW => by obtain ⟨q0, q1⟩ := hW; go_simp; try rfl⟩) hS0 ?_
          try simp only [Act.put, List.setIfInBounds_toArray, List.set_cons_zero, List.set_cons_succ]
          refine wpAnyS_take (i := 4) (d := some 29) rfl rfl rfl (by kernel_rfl) (by kernel_rfl) (by kernel_rfl) (by kernel_rfl) (fun _ _ _ h => h) (.inl ⟨by rfl, fun W hW => by obtain ⟨q0, q1⟩ := hW; go_simp; try rfl⟩) hS0 ?_
          try simp only [Act.put, List.setIfInBounds_toArray, List.set_cons_zero, List.set_cons_succ]
          refine wpAnyS_take (i := 5) (d := some 30) rfl rfl rfl (by kernel_rfl) (by kernel_rfl) (by kernel_rfl) (by kernel_rfl) (fun _ _ _ h => h) (.inl ⟨by rfl, fun W hW => by obtain ⟨q0, q1⟩ := hW; go_simp; try rfl⟩) hS0 ?_
          try simp only [Act.put, List.setIfInBounds_toArray, List.set_cons_zero, List.set_cons_succ]
          refine wpAnyS_take (i := 6) (d := some 31) (v := .int .i64 j) rfl rfl rfl (by kernel_rfl) (by kernel_rfl) (by kernel_rfl) (by kernel_rfl) (fun _ _ _ h => h) (.inl ⟨by rfl, fun W hW => by obtain ⟨q0, q1⟩ := hW; go_simp; try rfl⟩) hS0 ?_
          try simp only [Act.put, List.setIfInBounds_toArray, List.set_cons_zero, List.set_cons_succ]
          refine wpAnyS_take (i := 7) (d := some 32) (v := .pointer (some ⟨bb, j, none⟩)) rfl rfl rfl (by kernel_rfl) (by kernel_rfl) (by kernel_rfl) (by kernel_rfl) (fun _ _ _ h => h) (.inl ⟨by rfl, fun W hW => by obtain ⟨q0, q1⟩ := hW; go_simp; try rfl⟩) hS0 ?_
          try simp only [Act.put, List.setIfInBounds_toArray, List.set_cons_zero, List.set_cons_succ]
          refine wpAnyS_take (i := 8) (d := some 33) (v := .int .i64 y) rfl rfl rfl (by kernel_rfl) (by kernel_rfl) (by kernel_rfl) (by kernel_rfl) (fun _ _ _ h => h) (.inl ⟨by rfl, fun W hW => by obtain ⟨q0, q1⟩ := hW; go_simp; try rfl⟩) hS0 ?_
          try simp only [Act.put, List.setIfInBounds_toArray, List.set_cons_zero, List.set_cons_succ]
          refine wpAnyS_take (i := 9) (d := some 34) (v := .int .i64 z) rfl rfl rfl (by kernel_rfl) (by kernel_rfl) (by kernel_rfl) (by kernel_rfl) (fun _ _ _ h => h) (.inl ⟨by rfl, fun W hW => by obtain ⟨q0, q1⟩ := hW; go_simp; try rfl⟩) hS0 ?_
          try simp only [Act.put, List.setIfInBounds_toArray, List.set_cons_zero, List.set_cons_succ]
          refine wpAnyS_take (i := 10) (d := some 35) (v := .pointer (some ⟨bb, j + 1, none⟩)) rfl rfl rfl (by kernel_rfl) (by kernel_rfl) (by kernel_rfl) (by kernel_rfl) (fun _ _ _ h => h) (.inl ⟨by rfl, fun W hW => by obtain ⟨q0, q1⟩ := hW; go_simp; try rfl⟩) hS0 ?_
          try simp only [Act.put, List.setIfInBounds_toArray, List.set_cons_zero, List.set_cons_succ]
          refine wpAnyS_mute (i := 11) (d := none) (w' := W1.setCell ⟨bb, j + 1, none⟩ (.int .i64 z)) (by kernel_rfl) rfl rfl (by rfl) (by go_simp; try rfl) (fun h => by cases h) ?_
          try simp only [Act.put, List.setIfInBounds_toArray, List.set_cons_zero, List.set_cons_succ]
          refine wpAnyS_done (by kernel_rfl) ?_ _
          clear hS0 f2 c2
          generalize W1.setCell ⟨bb, j + 1, none⟩ (.int .i64 z) = W2 at HN ⊢
          go_wp2_with fail
          go_roundg (d.length - (j + 2))
          case measure => rw [HG.out]; omega
          case rel => exact ⟨j + 2, rfl, by simp; omega, by omega, HN⟩
      · obtain rfl : i = d.length := by omega
        have hi1 : ¬ (d.length : Int) < (d.length : Int) := by omega
        have HO : Hid (Own intc 1 3 w.heap.size wr (.slice sa d.length sc) (sumsB d) ∧ Below w.heap.size w wr) := Lib.hid (by have h := HU.out; rw [mixP_all HSL.out] at h; exact h)
        clear hlt HU
        go_wp2_with fail
        go_ret3
        exact .inl ⟨sumsB d, u, _, HD.out, rfl, HO.out.1, HO.out.2⟩
  · have HD := Lib.hid (show decD n b = none from by unfold decD; rw [hd]; rfl)
    have HB := Lib.hid hb
    clear hd hb
    go_wp2_with fail
    go_loopg [20, 10] 0 (fun g kv iv wr => g = 0 ∧ kv = .int .i64 0 ∧ wr = w5)
    case atStart => exact ⟨rfl, rfl, rfl⟩
    case round =>
      obtain ⟨rfl, rfl, rfl⟩ := hrel
      go_wp2_with fail
      go_ret3
      exact .inr ⟨HD.out, rfl, HB.out⟩
end Go.Proofs.YtgmdimbiipemhaaGreatDoor
namespace Go.Proofs.YtgmdimbiipemhaaGreatDoor
open Go.RowKit Go.Deep
set_option linter.unusedSimpArgs false
set_option linter.unusedVariables false
noncomputable def colD (n : Nat) (d : Bool) (b : List UInt8) : Option (List Int × Nat) := if d then decD n b else decR n none b
noncomputable def decCols (n : Nat) : Nat → List UInt8 → Option (List (List Int) × List UInt8)
  | 0, b => some ([], b)
  | c + 1, b => (decCols n c b).bind fun p => (colD n (dlt c) p.2).map fun q => (p.1 ++ [q.1], p.2.drop q.2)
theorem decCols_step {n c : Nat} {b r : List UInt8} {L : List (List Int)} {l : List Int} {u : Nat} (h : decCols n c b = some (L, r)) (k : colD n (dlt c) r = some (l, u)) : decCols n (c + 1) b = some (L ++ [l], r.drop u) := by
  simp [decCols, h, k]
theorem decCols_none {n c : Nat} {b : List UInt8} (h : decCols n c b = none) : ∀ d, decCols n (c + d) b = none
  | 0 => h
  | d + 1 => by
    show (decCols n (c + d) b).bind _ = none
    rw [decCols_none h d]
    rfl
theorem decCols_bad {n c : Nat} {b r : List UInt8} {L : List (List Int)} (h : decCols n c b = some (L, r)) (k : colD n (dlt c) r = none) {d : Nat} (hd : c < d) : decCols n d b = none := by
  have h1 : decCols n (c + 1) b = none := by simp [decCols, h, k]
  have := decCols_none h1 (d - (c + 1))
  rwa [show c + 1 + (d - (c + 1)) = d by omega] at this
theorem decR_facts {n : Nat} (hn : n ≤ 65536) {b : List UInt8} {l : List Int} {u : Nat} (h : decR n none b = some (l, u)) : l.length = n ∧ u ≤ b.length := by
  rcases (decR_iff n (by omega) none b l u).1 h with ⟨h1, _, _, h2, h3⟩ | ⟨h1, h2, h3⟩
  · exact ⟨h1, by rw [h3]; exact h2.length_le⟩
  · subst h2
    exact ⟨by rw [h1]; rfl, by omega⟩
theorem colD_facts {n : Nat} (hn : n ≤ 65536) {d : Bool} {b : List UInt8} {l : List Int} {u : Nat} (h : colD n d b = some (l, u)) : l.length = n ∧ u ≤ b.length := by
  unfold colD at h
  cases d with
  | false => exact decR_facts hn h
  | true =>
    simp only [if_true] at h
    unfold decD at h
    rw [Option.map_eq_some_iff] at h
    obtain ⟨⟨l0, u0⟩, h1, h2⟩ := h
    cases h2
    have := decR_facts hn h1
    exact ⟨by rw [sumsB_len]; exact this.1, this.2⟩
theorem decCols_len {n : Nat} (hn : n ≤ 65536) : ∀ {c : Nat} {b r : List UInt8} {L : List (List Int)}, decCols n c b = some (L, r) → L.length = c ∧ ∀ x ∈ L, x.length = n
  | 0, b, r, L, h => by
    cases h
    exact ⟨rfl, fun x hx => by simp at hx⟩
  | c + 1, b, r, L, h => by
    unfold decCols at h
    rw [Option.bind_eq_some_iff] at h
    obtain ⟨⟨L0, r0⟩, h1, h2⟩ := h
    rw [Option.map_eq_some_iff] at h2
    obtain ⟨⟨l, u⟩, h3, h4⟩ := h2
    cases h4
    have h5 := decCols_len hn h1
    have h6 := colD_facts hn h3
    refine ⟨by rw [List.length_append, h5.1]; rfl, fun x hx => ?_⟩
    rcases List.mem_append.1 hx with hx | hx
    · exact h5.2 x hx
    · rw [List.mem_singleton.1 hx]; exact h6.1
def colF (L : List (List Int)) (j c : Nat) : Int := (L.getD c []).getD j 0
def mixN (L : List (List Int)) (i : Nat) (ls : List OpD) : List OpD := ls.mapIdx fun j o => if j < i then o.withF (colF L j) else o
theorem mixN_len (L : List (List Int)) (i : Nat) (ls : List OpD) : (mixN L i ls).length = ls.length := by simp [mixN]
theorem mixN_zero (L : List (List Int)) (ls : List OpD) : mixN L 0 ls = ls := by
  apply List.ext_getElem?
  intro j
  simp [mixN]
theorem mixN_at (L : List (List Int)) (i : Nat) {ls : List OpD} {x : OpD} (h : ls[i]? = some x) : (mixN L i ls)[i]? = some x := by simp [mixN, h]
theorem mixN_succ (L : List (List Int)) (i : Nat) {ls : List OpD} {x : OpD} (h : ls[i]? = some x) : mixN L (i + 1) ls = (mixN L i ls).set i (x.withF (colF L i)) := by
  apply List.ext_getElem?
  intro j
  have hi := (List.getElem?_eq_some_iff.1 h).1
  by_cases e : j = i
  · subst e
    rw [List.getElem?_set_self (by rw [mixN_len]; exact hi)]
    simp [mixN, h]
  · rw [List.getElem?_set_ne (Ne.symm e)]
    simp only [mixN, List.getElem?_mapIdx]
    congr 1
    funext o
    by_cases h1 : j < i
    · rw [if_pos h1, if_pos (by omega)]
    · rw [if_neg h1, if_neg (by omega)]
theorem Own.putOp {base g n cap i : Nat} {W W' : World} {l : List OpD} {x : OpD} {f : Nat → Int} (h : Own OpD.cells 26 68 base W (.slice (some ⟨g, 0, none⟩) n cap) l) (hx : l[i]? = some x) (hA : At g (i * 26) x f W') (hR : Rst g (i * 26) W W') :
    Own OpD.cells 26 68 base W' (.slice (some ⟨g, 0, none⟩) n cap) (l.set i (x.withF f)) := by
  obtain ⟨h1, h2⟩ := h
  have hi := (List.getElem?_eq_some_iff.1 hx).1
  rcases h2 with ⟨e1, _⟩ | ⟨g', cap', cur, e1, hb, hg, hn, hm, hs, ht⟩
  · cases e1
  · cases e1
    obtain ⟨cs', k1, k2, k3⟩ := hR cur _ hg
    refine ⟨by rw [length_flatMap_k OpD.len], .inr ⟨g, cap, cs', by rw [List.length_set], hb, k1, by rw [List.length_set]; exact hn, hm, by rw [k2]; exact hs, ?_⟩⟩
    apply List.ext_getElem?
    intro q
    rw [List.length_set]
    by_cases hq : q < l.length * 26
    · rw [List.getElem?_take_of_lt hq, Array.getElem?_toList]
      have hdm : q / 26 * 26 + q % 26 = q := by omega
      by_cases e : q / 26 = i
      · have hset : (l.set i (x.withF f))[i]? = some (x.withF f) := List.getElem?_set_self hi
        obtain ⟨u, hu⟩ : ∃ u, (x.withF f).cells[q % 26]? = some u := ⟨_, List.getElem?_eq_getElem (by rw [OpD.len]; omega)⟩
        have h5 := getElem?_flatMap_k OpD.len _ i _ hset _ _ hu
        have h6 := hA.cells _ _ hu
        unfold World.cell? at h6
        rw [k1] at h6
        rw [← e, hdm] at h5 h6
        rw [← e] 
        rw [h5]
        exact h6
      · obtain ⟨y, hy⟩ : ∃ y, l[q / 26]? = some y := ⟨_, List.getElem?_eq_getElem (by omega)⟩
        have hset : (l.set i (x.withF f))[q / 26]? = some y := by rw [List.getElem?_set_ne (Ne.symm e)]; exact hy
        obtain ⟨u, hu⟩ : ∃ u, y.cells[q % 26]? = some u := ⟨_, List.getElem?_eq_getElem (by rw [OpD.len]; omega)⟩
        have h5 := getElem?_flatMap_k OpD.len _ _ _ hset _ _ hu
        have h6 := getElem?_flatMap_k OpD.len _ _ _ hy _ _ hu
        rw [hdm] at h5 h6
        rw [h5, k3 q (by omega), ← Array.getElem?_toList, ← List.getElem?_take_of_lt hq, ht, h6]
    · rw [List.getElem?_eq_none (by rw [List.length_take]; omega), List.getElem?_eq_none (by rw [length_flatMap_k OpD.len, List.length_set]; omega)]
structure TKS (w0 : World) (T : Nat) (W : World) (tb : Value) (r : List UInt8) (tl : Value) (ls : List OpD) : Prop where
  cell : W.heap[T]? = some (.cells #[tb, tl] 90 (0, 0))
  byt : SliceIs u8c 1 w0 tb r
  own : Own OpD.cells 26 68 w0.heap.size W tl ls
  bel : Below w0.heap.size w0 W
  new : w0.heap.size ≤ T
  flt : W.heap[T + 1]? = some (.cells #[.int .i64 0] 91 (0, 0))
def Kp (w0 : World) (T : Nat) (W : World) : Prop := Below w0.heap.size w0 W ∧ W.heap[T + 1]? = some (.cells #[.int .i64 0] 91 (0, 0))
theorem TKS.kp {w0 : World} {T : Nat} {W : World} {tb tl : Value} {r : List UInt8} {ls : List OpD} (h : TKS w0 T W tb r tl ls) : Kp w0 T W := ⟨h.bel, h.flt⟩
theorem TKS.fltKeep {w0 : World} {T : Nat} {W W' : World} {tb tl : Value} {r : List UInt8} {ls : List OpD} {S : Nat → Prop} (h : TKS w0 T W tb r tl ls) (hx : Ext S W W') (hS : ¬ S (T + 1)) : W'.heap[T + 1]? = some (.cells #[.int .i64 0] 91 (0, 0)) := (hx.block _ (Array.getElem?_eq_some_iff.1 h.flt).1 hS).trans h.flt
theorem TKS.ext {w0 : World} {T : Nat} {W W' : World} {tb tl : Value} {r : List UInt8} {ls : List OpD} {S : Nat → Prop} (h : TKS w0 T W tb r tl ls) (hx : Ext S W W') (hT : ¬ S T) (hl : ∀ k, tl.ownBlock = some k → ¬ S k) (hS : ∀ k, k < w0.heap.size → ¬ S k) (hF : ¬ S (T + 1)) : TKS w0 T W' tb r tl ls :=
  ⟨(hx.block _ (Array.getElem?_eq_some_iff.1 h.cell).1 hT).trans h.cell, h.byt, h.own.ext hx hl, Ext.new h.bel hx (fun i hi _ e => hS i hi e) h.bel.size, h.new, h.fltKeep hx hF⟩
theorem TKS.below {w0 : World} {T : Nat} {W W' : World} {tb tl : Value} {r : List UInt8} {ls : List OpD} (h : TKS w0 T W tb r tl ls) (hb : Below W.heap.size W W') : TKS w0 T W' tb r tl ls :=
  h.ext (Ext.of_below (S := fun _ => False) hb) id (fun _ _ => id) (fun _ _ => id) id
theorem TKS.bytes {w0 : World} {T : Nat} {W : World} {tb tl : Value} {r : List UInt8} {ls : List OpD} (h : TKS w0 T W tb r tl ls) : SliceIs u8c 1 W tb r := h.byt.below h.bel
end Go.Proofs.YtgmdimbiipemhaaGreatDoor
namespace Go.Proofs.YtgmdimbiipemhaaGreatDoor
open Go.RowKit Go.Deep
set_option linter.unusedSimpArgs false
set_option linter.unusedVariables false
def mixG (f : Nat → OpD → OpD) (i : Nat) (ls : List OpD) : List OpD := ls.mapIdx fun j o => if j < i then f j o else o
theorem mixG_len (f : Nat → OpD → OpD) (i : Nat) (ls : List OpD) : (mixG f i ls).length = ls.length := by simp [mixG]
theorem mixG_zero (f : Nat → OpD → OpD) (ls : List OpD) : mixG f 0 ls = ls := by
  apply List.ext_getElem?
  intro j
  simp [mixG]
theorem mixG_at (f : Nat → OpD → OpD) (i : Nat) {ls : List OpD} {x : OpD} (h : ls[i]? = some x) : (mixG f i ls)[i]? = some x := by simp [mixG, h]
theorem mixG_succ (f g : Nat → OpD → OpD) (i : Nat) {ls : List OpD} {x : OpD} (h : ls[i]? = some x) (hfg : ∀ j, j < i → f j = g j) : mixG g (i + 1) ls = (mixG f i ls).set i (g i x) := by
  apply List.ext_getElem?
  intro j
  have hi := (List.getElem?_eq_some_iff.1 h).1
  by_cases e : j = i
  · subst e
    rw [List.getElem?_set_self (by rw [mixG_len]; exact hi)]
    simp [mixG, h]
  · rw [List.getElem?_set_ne (Ne.symm e)]
    simp only [mixG, List.getElem?_mapIdx]
    congr 1
    funext o
    by_cases h1 : j < i
    · rw [if_pos h1, if_pos (by omega), hfg j h1]
    · rw [if_neg h1, if_neg (by omega)]
theorem mixN_G (L : List (List Int)) (i : Nat) (ls : List OpD) : mixN L i ls = mixG (fun j o => o.withF (colF L j)) i ls := rfl
def OpD.setT (o : OpD) (c : Nat) (v : Bool) : OpD := if c = 0 then { o with fa := v } else { o with ta := v }
def OpD.setX (o : OpD) (c : Nat) (s : ByteArray) : OpD := if c = 0 then { o with key := s } else if c = 1 then { o with name := s } else { o with value := s }
def offT (c : Nat) : Nat := if c = 0 then 22 else 25
def offX (c : Nat) : Nat := if c = 0 then 17 else if c = 1 then 18 else 19
theorem offT_lt (c : Nat) : offT c < 26 := by unfold offT; split <;> omega
theorem offX_lt (c : Nat) : offX c < 26 := by unfold offX; split <;> (try split) <;> omega
theorem setT_cells (o : OpD) (c : Nat) (v : Bool) : (o.setT c v).cells = o.cells.set (offT c) (.bool v) := by
  unfold OpD.setT offT
  split <;> rfl
theorem setX_cells (o : OpD) (c : Nat) (s : ByteArray) : (o.setX c s).cells = o.cells.set (offX c) (.string s) := by
  unfold OpD.setX offX
  split
  · rfl
  · split <;> rfl
def mixT (c : Nat) (V : List Bool) (i : Nat) (ls : List OpD) : List OpD := mixG (fun j o => o.setT c (V.getD j false)) i ls
noncomputable def tkT (n : Nat) : Nat → List OpD × List UInt8 → Option (List OpD × List UInt8)
  | 0, p => some p
  | c + 1, p => (tkT n c p).bind fun q => (decT n false true q.2).map fun t => (mixT c t.1 n q.1, q.2.drop t.2)
theorem tkT_step {n c : Nat} {p q : List OpD × List UInt8} {V : List Bool} {u : Nat} (h : tkT n c p = some q) (k : decT n false true q.2 = some (V, u)) : tkT n (c + 1) p = some (mixT c V n q.1, q.2.drop u) := by
  simp [tkT, h, k]
theorem tkT_none {n c : Nat} {p : List OpD × List UInt8} (h : tkT n c p = none) : ∀ d, tkT n (c + d) p = none
  | 0 => h
  | d + 1 => by
    show (tkT n (c + d) p).bind _ = none
    rw [tkT_none h d]
    rfl
theorem tkT_bad {n c : Nat} {p q : List OpD × List UInt8} (h : tkT n c p = some q) (k : decT n false true q.2 = none) {d : Nat} (hd : c < d) : tkT n d p = none := by
  have h1 : tkT n (c + 1) p = none := by simp [tkT, h, k]
  have := tkT_none h1 (d - (c + 1))
  rwa [show c + 1 + (d - (c + 1)) = d by omega] at this
theorem tkT_len {n : Nat} : ∀ {c : Nat} {p q : List OpD × List UInt8}, tkT n c p = some q → q.1.length = p.1.length
  | 0, p, q, h => by cases h; rfl
  | c + 1, p, q, h => by
    unfold tkT at h
    rw [Option.bind_eq_some_iff] at h
    obtain ⟨q0, h1, h2⟩ := h
    rw [Option.map_eq_some_iff] at h2
    obtain ⟨t, _, h4⟩ := h2
    rw [← h4]
    show (mixT c t.1 n q0.1).length = _
    unfold mixT
    rw [mixG_len]
    exact tkT_len h1
theorem decT_facts {n : Nat} (hn : n ≤ 65536) {b : List UInt8} {l : List Bool} {u : Nat} (h : decT n false true b = some (l, u)) : l.length = n ∧ u ≤ b.length := by
  obtain ⟨h1, _, h2, h3⟩ := (decT_iff n (by omega) false true b l u).1 h
  exact ⟨h1, by rw [h3]; exact h2.length_le⟩
def cutX (v : List Int) : Nat → List UInt8 → Option (List ByteArray × List UInt8)
  | 0, b => some ([], b)
  | i + 1, b => (cutX v i b).bind fun p => if 0 ≤ v.getD i 0 ∧ v.getD i 0 ≤ (p.2.length : Int) then some (p.1 ++ [⟨(p.2.take (v.getD i 0).toNat).toArray⟩], p.2.drop (v.getD i 0).toNat) else none
theorem cutX_step {v : List Int} {i : Nat} {b r : List UInt8} {X : List ByteArray} {m : Nat} (h : cutX v i b = some (X, r)) (hv : v[i]? = some (m : Int)) (hm : m ≤ r.length) : cutX v (i + 1) b = some (X ++ [⟨(r.take m).toArray⟩], r.drop m) := by
  have hg : v.getD i 0 = (m : Int) := by rw [List.getD_eq_getElem?_getD, hv]; rfl
  simp only [cutX, h, Option.bind_some, hg]
  rw [if_pos ⟨by omega, by omega⟩]
  rfl
theorem cutX_none {v : List Int} {i : Nat} {b : List UInt8} (h : cutX v i b = none) : ∀ d, cutX v (i + d) b = none
  | 0 => h
  | d + 1 => by
    show (cutX v (i + d) b).bind _ = none
    rw [cutX_none h d]
    rfl
theorem cutX_bad {v : List Int} {i : Nat} {b r : List UInt8} {X : List ByteArray} {m : Int} (h : cutX v i b = some (X, r)) (hv : v[i]? = some m) (hm : m < 0 ∨ (r.length : Int) < m) {d : Nat} (hd : i < d) : cutX v d b = none := by
  have hg : v.getD i 0 = m := by rw [List.getD_eq_getElem?_getD, hv]; rfl
  have h1 : cutX v (i + 1) b = none := by
    simp only [cutX, h, Option.bind_some, hg]
    rw [if_neg (by omega)]
  have := cutX_none h1 (d - (i + 1))
  rwa [show i + 1 + (d - (i + 1)) = d by omega] at this
theorem cutX_len {v : List Int} : ∀ {i : Nat} {b r : List UInt8} {X : List ByteArray}, cutX v i b = some (X, r) → X.length = i ∧ r.length ≤ b.length
  | 0, b, r, X, h => by cases h; exact ⟨rfl, Nat.le_refl _⟩
  | i + 1, b, r, X, h => by
    unfold cutX at h
    rw [Option.bind_eq_some_iff] at h
    obtain ⟨⟨X0, r0⟩, h1, h2⟩ := h
    split at h2
    · cases h2
      have h3 := cutX_len h1
      refine ⟨by rw [List.length_append, h3.1]; rfl, ?_⟩
      have h4 := h3.2
      simp only [List.length_drop]
      omega
    · cases h2
def mixX (c : Nat) (X : List ByteArray) (i : Nat) (ls : List OpD) : List OpD := mixG (fun j o => o.setX c (X.getD j noText)) i ls
noncomputable def tkX1 (n c : Nat) (p : List OpD × List UInt8) : Option (List OpD × List UInt8) := (decR n none p.2).bind fun t => (cutX t.1 n (p.2.drop t.2)).map fun x => (mixX c x.1 n p.1, x.2)
theorem TKS.setOp {w0 : World} {T g lc i j : Nat} {W : World} {tb : Value} {r : List UInt8} {ls : List OpD} {x y : OpD} {u : Value} (h : TKS w0 T W tb r (.slice (some ⟨g, 0, none⟩) ls.length lc) ls) (hx : ls[i]? = some x) (hj : j < 26) (hy : y.cells = x.cells.set j u) : TKS w0 T (W.setCell ⟨g, i * 26 + j, none⟩ u) tb r (.slice (some ⟨g, 0, none⟩) ls.length lc) (ls.set i y) := by
  have hTg : T ≠ g := fun e => by
    have h1 := h.cell
    obtain ⟨c2, h2⟩ := h.own.tag (b := g) rfl
    rw [e, h2] at h1
    cases h1
  have hgn := (h.own.blk g rfl).1
  have hx1 : Ext (· = g) W (W.setCell ⟨g, i * 26 + j, none⟩ u) := (Ext.refl (· = g) W).setCell (p := ⟨g, i * 26 + j, none⟩) (.inr rfl) _
  exact ⟨(hx1.block T (Array.getElem?_eq_some_iff.1 h.cell).1 hTg).trans h.cell, h.byt, h.own.setAt OpD.len hx hj hy, Ext.new h.bel hx1 (fun k hk _ e => by omega) h.bel.size, h.new, h.fltKeep hx1 (fun e => by
    obtain ⟨c2, h2⟩ := h.own.tag (b := g) rfl
    have h1 := h.flt
    rw [e, h2] at h1
    cases h1)⟩
theorem TKS.setB {w0 : World} {T : Nat} {W : World} {tb tb' tl : Value} {r r' : List UInt8} {ls : List OpD} (h : TKS w0 T W tb r tl ls) (hb : SliceIs u8c 1 w0 tb' r') : TKS w0 T (W.setCell ⟨T, 0, none⟩ tb') tb' r' tl ls := by
  have hx1 : Ext (· = T) W (W.setCell ⟨T, 0, none⟩ tb') := (Ext.refl (· = T) W).setCell (p := ⟨T, 0, none⟩) (.inr rfl) _
  refine ⟨?_, hb, h.own.ext hx1 (fun b hb e => ?_), Ext.new h.bel hx1 (fun k hk _ e => by have := h.new; omega) h.bel.size, h.new, h.fltKeep hx1 (fun e => by omega)⟩
  · rw [heap_setCell_same _ T 0 _ _ _ h.cell]
    rfl
  · have hc := h.cell
    obtain ⟨c1, g1⟩ := h.own.tag hb
    rw [e, hc] at g1
    cases g1
end Go.Proofs.YtgmdimbiipemhaaGreatDoor
namespace Go.Proofs.YtgmdimbiipemhaaGreatDoor
open Go.RowKit Go.Deep
set_option linter.unusedSimpArgs false
set_option linter.unusedVariables false
def inI (x : Int) : Prop := -9223372036854775808 ≤ x ∧ x ≤ 9223372036854775807
theorem zigN_in {x : Int} : zigN x < 18446744073709551616 ↔ inI x := by
  unfold inI zigN
  split <;> omega
theorem sumsF_in : ∀ (l : List Int) (p : Int), ∀ x ∈ sumsF p l, inI x
  | [], p, x, h => by simp [sumsF] at h
  | y :: l, p, x, h => by
    rw [sumsF] at h
    rcases List.mem_cons.1 h with rfl | h
    · exact wrapI_in _
    · exact sumsF_in l _ x h
theorem sumsB_in {l : List Int} (h : ∀ x ∈ l, inI x) : ∀ x ∈ sumsB l, inI x := by
  intro x hx
  cases l with
  | nil => simp [sumsB] at hx
  | cons y l =>
    rw [sumsB] at hx
    rcases List.mem_cons.1 hx with rfl | hx
    · exact h _ (by simp)
    · exact sumsF_in l _ x hx
def colBy (d : Bool) (l : List Int) : List UInt8 := if d then runsB (diffsB l) else runsB l
theorem runsB_nil : runsB [] = [] := by rw [runsB]
theorem decR_all {n : Nat} (hn : n ≤ 65536) {b : List UInt8} {l : List Int} {u : Nat} : decR n none b = some (l, u) ↔ l.length = n ∧ (∀ x ∈ l, inI x) ∧ runsB l <+: b ∧ u = (runsB l).length := by
  rw [decR_iff n (by omega) none b l u]
  constructor
  · rintro (⟨h1, _, h2, h3, h4⟩ | ⟨h1, rfl, rfl⟩)
    · exact ⟨h1, fun x hx => zigN_in.1 (h2 x hx), h3, h4⟩
    · rw [runsB_nil]
      exact ⟨h1.symm, fun x hx => by simp at hx, List.nil_prefix, rfl⟩
  · rintro ⟨h1, h2, h3, h4⟩
    exact .inl ⟨h1, fun h => absurd rfl h, fun x hx => zigN_in.2 (h2 x hx), h3, h4⟩
theorem colD_all {n : Nat} (hn : n ≤ 65536) {d : Bool} {b : List UInt8} {l : List Int} {u : Nat} : colD n d b = some (l, u) ↔ l.length = n ∧ (∀ x ∈ l, inI x) ∧ colBy d l <+: b ∧ u = (colBy d l).length := by
  unfold colD colBy
  cases d with
  | false => exact decR_all hn
  | true =>
    simp only [if_true]
    unfold decD
    rw [Option.map_eq_some_iff]
    constructor
    · rintro ⟨⟨l0, u0⟩, h1, h2⟩
      cases h2
      obtain ⟨h3, h4, h5, h6⟩ := (decR_all hn).1 h1
      dsimp only
      rw [diffs_sums h4, sumsB_len]
      exact ⟨h3, sumsB_in h4, h5, h6⟩
    · rintro ⟨h1, h2, h3, h4⟩
      refine ⟨(diffsB l, u), (decR_all hn).2 ⟨by rw [diffsB_length]; exact h1, diffsB_in h2, h3, h4⟩, ?_⟩
      dsimp only
      rw [sums_diffs h2]
def colsOf (L : List (List Int)) : List UInt8 := (List.range L.length).flatMap fun c => colBy (dlt c) (L.getD c [])
theorem getD_snoc {α : Type} (L : List α) (x d : α) {c : Nat} (hc : c < L.length) : (L ++ [x]).getD c d = L.getD c d := by
  rw [List.getD_eq_getElem?_getD, List.getD_eq_getElem?_getD, List.getElem?_append_left hc]
theorem getD_last {α : Type} (L : List α) (x d : α) : (L ++ [x]).getD L.length d = x := by
  rw [List.getD_eq_getElem?_getD, List.getElem?_append_right (Nat.le_refl _), Nat.sub_self]
  rfl
theorem flatMap_congr8 {α β : Type} {f g : α → List β} : ∀ {l : List α}, (∀ x ∈ l, f x = g x) → l.flatMap f = l.flatMap g
  | [], _ => rfl
  | x :: l, h => by rw [List.flatMap_cons, List.flatMap_cons, h x (by simp), flatMap_congr8 (fun y hy => h y (by simp [hy]))]
theorem colsOf_snoc (L : List (List Int)) (l : List Int) : colsOf (L ++ [l]) = colsOf L ++ colBy (dlt L.length) l := by
  unfold colsOf
  rw [List.length_append, List.length_singleton, List.range_succ, List.flatMap_append, List.flatMap_cons, List.flatMap_nil, List.append_nil, getD_last]
  congr 1
  exact flatMap_congr8 fun c hc => by rw [getD_snoc _ _ _ (List.mem_range.1 hc)]
theorem prefix_drop {a b : List UInt8} (h : a <+: b) : b = a ++ b.drop a.length := by
  obtain ⟨t, rfl⟩ := h
  rw [List.drop_left]
theorem decCols_spec {n : Nat} (hn : n ≤ 65536) : ∀ {c : Nat} {b r : List UInt8} {L : List (List Int)}, decCols n c b = some (L, r) ↔ L.length = c ∧ (∀ l ∈ L, l.length = n ∧ ∀ x ∈ l, inI x) ∧ b = colsOf L ++ r
  | 0, b, r, L => by
    constructor
    · intro h
      cases h
      exact ⟨rfl, fun l hl => by simp at hl, rfl⟩
    · rintro ⟨h1, _, h2⟩
      rw [List.length_eq_zero_iff.1 h1] at h2 ⊢
      subst h2
      rfl
  | c + 1, b, r, L => by
    unfold decCols
    rw [Option.bind_eq_some_iff]
    constructor
    · rintro ⟨⟨L0, r0⟩, h1, h2⟩
      rw [Option.map_eq_some_iff] at h2
      obtain ⟨⟨l, u⟩, h3, h4⟩ := h2
      cases h4
      obtain ⟨a1, a2, a3⟩ := (decCols_spec hn).1 h1
      obtain ⟨b1, b2, b3, b4⟩ := (colD_all hn).1 h3
      subst a1
      refine ⟨by rw [List.length_append]; rfl, fun x hx => ?_, ?_⟩
      · rcases List.mem_append.1 hx with hx | hx
        · exact a2 x hx
        · rw [List.mem_singleton.1 hx]; exact ⟨b1, b2⟩
      · rw [colsOf_snoc, List.append_assoc, a3]
        congr 1
        dsimp only at b3 b4 ⊢
        rw [b4]
        exact prefix_drop b3
    · rintro ⟨h1, h2, h3⟩
      obtain ⟨L0, l, rfl⟩ : ∃ L0 l, L = L0 ++ [l] := by
        rcases List.eq_nil_or_concat L with rfl | ⟨L0, l, h⟩
        · simp at h1
        · exact ⟨L0, l, by rw [h, List.concat_eq_append]⟩
      rw [List.length_append, List.length_singleton] at h1
      have h1 : L0.length = c := by omega
      subst h1
      rw [colsOf_snoc, List.append_assoc] at h3
      refine ⟨(L0, colBy (dlt L0.length) l ++ r), (decCols_spec hn).2 ⟨rfl, fun x hx => h2 x (List.mem_append_left _ hx), h3⟩, ?_⟩
      have h4 := h2 l (by simp)
      rw [Option.map_eq_some_iff]
      refine ⟨(l, (colBy (dlt L0.length) l).length), (colD_all hn).2 ⟨h4.1, h4.2, List.prefix_append _ _, rfl⟩, ?_⟩
      dsimp only
      rw [List.drop_left]
theorem decT_all {n : Nat} (hn : n ≤ 65536) {b : List UInt8} {l : List Bool} {u : Nat} : decT n false true b = some (l, u) ↔ l.length = n ∧ boolsF false l <+: b ∧ u = (boolsF false l).length := by
  rw [decT_iff n (by omega) false true b l u]
  constructor
  · rintro ⟨h1, _, h2, h3⟩; exact ⟨h1, h2, h3⟩
  · rintro ⟨h1, h2, h3⟩; exact ⟨h1, fun h => absurd h (by decide), h2, h3⟩
theorem tkT_spec {n : Nat} (hn : n ≤ 65536) {p q : List OpD × List UInt8} : tkT n 2 p = some q ↔ ∃ V0 V1, V0.length = n ∧ V1.length = n ∧ q.1 = mixT 1 V1 n (mixT 0 V0 n p.1) ∧ p.2 = boolsF false V0 ++ (boolsF false V1 ++ q.2) := by
  have e : tkT n 2 p = (decT n false true p.2).bind fun t => (decT n false true (p.2.drop t.2)).map fun s => (mixT 1 s.1 n (mixT 0 t.1 n p.1), (p.2.drop t.2).drop s.2) := by
    unfold tkT tkT tkT
    rw [Option.bind_some]
    cases decT n false true p.2 with
    | none => rfl
    | some t => rfl
  rw [e, Option.bind_eq_some_iff]
  constructor
  · rintro ⟨⟨V0, u⟩, h1, h2⟩
    rw [Option.map_eq_some_iff] at h2
    obtain ⟨⟨V1, s⟩, h3, h4⟩ := h2
    subst h4
    obtain ⟨a1, a2, a3⟩ := (decT_all hn).1 h1
    obtain ⟨b1, b2, b3⟩ := (decT_all hn).1 h3
    refine ⟨V0, V1, a1, b1, rfl, ?_⟩
    dsimp only at a3 b2 b3 ⊢
    rw [b3, ← prefix_drop b2, a3]
    exact prefix_drop a2
  · rintro ⟨V0, V1, h1, h2, h3, h4⟩
    refine ⟨(V0, (boolsF false V0).length), (decT_all hn).2 ⟨h1, by rw [h4]; exact List.prefix_append _ _, rfl⟩, ?_⟩
    rw [Option.map_eq_some_iff]
    refine ⟨(V1, (boolsF false V1).length), (decT_all hn).2 ⟨h2, ?_, rfl⟩, ?_⟩
    · dsimp only
      rw [h4, List.drop_left]
      exact List.prefix_append _ _
    · dsimp only
      rw [h4, List.drop_left, List.drop_left, ← h3]
def sizX (X : List ByteArray) : List Int := X.map fun s => (s.size : Int)
def catX (X : List ByteArray) : List UInt8 := X.flatMap fun s => s.data.toList
theorem cutX_spec {v : List Int} : ∀ {i : Nat} {b r : List UInt8} {X : List ByteArray}, i ≤ v.length → (cutX v i b = some (X, r) ↔ v.take i = sizX X ∧ b = catX X ++ r)
  | 0, b, r, X, _ => by
    constructor
    · intro h
      cases h
      exact ⟨rfl, rfl⟩
    · rintro ⟨h1, h2⟩
      have : X = [] := by
        cases X with
        | nil => rfl
        | cons x X => simp [sizX] at h1
      subst this
      subst h2
      rfl
  | i + 1, b, r, X, hi => by
    unfold cutX
    rw [Option.bind_eq_some_iff]
    have hvi : v[i]? = some (v.getD i 0) := by rw [List.getD_eq_getElem?_getD, List.getElem?_eq_getElem (by omega)]; rfl
    have htk : v.take (i + 1) = v.take i ++ [v.getD i 0] := by rw [List.take_add_one, hvi]; rfl
    rw [htk]
    constructor
    · rintro ⟨⟨X0, r0⟩, h1, h2⟩
      split at h2
      · rename_i hc
        cases h2
        obtain ⟨a1, a2⟩ := (cutX_spec (by omega)).1 h1
        dsimp only at hc
        refine ⟨?_, ?_⟩
        · rw [a1, sizX, sizX, List.map_append]
          congr 1
          rw [List.map_cons, List.map_nil]
          congr 1
          show _ = (((r0.take (v.getD i 0).toNat).toArray.size : Nat) : Int)
          rw [List.size_toArray, List.length_take]
          omega
        · rw [a2, catX, catX, List.flatMap_append, List.append_assoc]
          congr 1
          simp
      · cases h2
    · rintro ⟨h1, h2⟩
      obtain ⟨X0, x, rfl⟩ : ∃ X0 x, X = X0 ++ [x] := by
        rcases List.eq_nil_or_concat X with rfl | ⟨X0, x, h⟩
        · simp [sizX] at h1
        · exact ⟨X0, x, by rw [h, List.concat_eq_append]⟩
      rw [sizX, List.map_append, List.map_cons, List.map_nil] at h1
      have h3 := List.append_inj' h1 rfl
      rw [catX, List.flatMap_append, List.append_assoc] at h2
      have hv : v.getD i 0 = (x.size : Int) := by
        have := h3.2
        simpa using this
      refine ⟨(X0, x.data.toList ++ r), (cutX_spec (by omega)).2 ⟨h3.1, by rw [h2]; simp [catX]⟩, ?_⟩
      have hs : x.data.toList.length = x.size := by rw [Array.length_toList]; rfl
      rw [hv]
      dsimp only
      rw [if_pos ⟨by omega, by rw [List.length_append]; omega⟩, Int.toNat_natCast, ← hs, List.take_left, List.drop_left]
theorem tkX1_spec {n c : Nat} (hn : n ≤ 65536) {p q : List OpD × List UInt8} : tkX1 n c p = some q ↔ ∃ X, X.length = n ∧ (∀ x ∈ sizX X, inI x) ∧ q.1 = mixX c X n p.1 ∧ p.2 = runsB (sizX X) ++ (catX X ++ q.2) := by
  unfold tkX1
  rw [Option.bind_eq_some_iff]
  constructor
  · rintro ⟨⟨v, u⟩, h1, h2⟩
    rw [Option.map_eq_some_iff] at h2
    obtain ⟨⟨X, r⟩, h3, h4⟩ := h2
    subst h4
    obtain ⟨a1, a2, a3, a4⟩ := (decR_all hn).1 h1
    obtain ⟨b1, b2⟩ := (cutX_spec (by dsimp only; omega)).1 h3
    dsimp only at b1 b2 a4 ⊢
    rw [← a1, List.take_length] at b1
    subst b1
    refine ⟨X, by rw [← a1, sizX, List.length_map], a2, rfl, ?_⟩
    rw [← b2, a4]
    exact prefix_drop a3
  · rintro ⟨X, h1, h2, h3, h4⟩
    have h5 : (sizX X).length = n := by rw [sizX, List.length_map]; exact h1
    refine ⟨(sizX X, (runsB (sizX X)).length), (decR_all hn).2 ⟨h5, h2, by rw [h4]; exact List.prefix_append _ _, rfl⟩, ?_⟩
    rw [Option.map_eq_some_iff]
    refine ⟨(X, q.2), (cutX_spec (by dsimp only; omega)).2 ⟨by dsimp only; rw [← h5, List.take_length], ?_⟩, by rw [← h3]⟩
    dsimp only
    rw [h4, List.drop_left]
def zOp : OpD := ⟨⟨0, 0⟩, 0, 0, 0, 0, 0, 0, 0, 0, 0, ⟨0, 0⟩, 0, 0, ⟨0, 0⟩, noText, noText, noText, ⟨0, 0⟩, false, ⟨0, 0⟩, false⟩
def fullO (L : List (List Int)) (V0 V1 : List Bool) (X0 X1 X2 : List ByteArray) (j : Nat) : OpD := (((((zOp.withF (colF L j)).setT 0 (V0.getD j false)).setT 1 (V1.getD j false)).setX 0 (X0.getD j noText)).setX 1 (X1.getD j noText)).setX 2 (X2.getD j noText)
theorem mixG_get (f : Nat → OpD → OpD) {n j : Nat} (hj : j < n) (ls : List OpD) : (mixG f n ls)[j]? = ls[j]?.map (f j) := by
  simp [mixG, hj]
theorem full_list (n : Nat) (L : List (List Int)) (V0 V1 : List Bool) (X0 X1 X2 : List ByteArray) : mixX 2 X2 n (mixX 1 X1 n (mixX 0 X0 n (mixT 1 V1 n (mixT 0 V0 n (mixN L n (List.replicate n zOp)))))) = (List.range n).map (fullO L V0 V1 X0 X1 X2) := by
  apply List.ext_getElem?
  intro j
  by_cases hj : j < n
  · unfold mixX mixT
    rw [mixN_G, mixG_get _ hj, mixG_get _ hj, mixG_get _ hj, mixG_get _ hj, mixG_get _ hj, mixG_get _ hj, List.getElem?_replicate_of_lt hj, List.getElem?_map, List.getElem?_range hj]
    rfl
  · rw [List.getElem?_eq_none, List.getElem?_eq_none]
    · simp; omega
    · unfold mixX mixT
      rw [mixG_len, mixG_len, mixG_len, mixG_len, mixG_len, mixN_len, List.length_replicate]
      omega
theorem fld_setX (o : OpD) (c k : Nat) (s : ByteArray) : fld (o.setX c s) k = fld o k := by
  unfold OpD.setX
  split
  · unfold fld; split <;> rfl
  · split <;> (unfold fld; split <;> rfl)
theorem fld_setT (o : OpD) (c k : Nat) (v : Bool) : fld (o.setT c v) k = fld o k := by
  unfold OpD.setT
  split <;> (unfold fld; split <;> rfl)
theorem fld_full (L : List (List Int)) (V0 V1 : List Bool) (X0 X1 X2 : List ByteArray) (j : Nat) {c : Nat} (hc : c < 21) : fld (fullO L V0 V1 X0 X1 X2 j) c = colF L j c := by
  unfold fullO
  rw [fld_setX, fld_setX, fld_setX, fld_setT, fld_setT, fld_withF _ _ hc]
theorem map_getD {α : Type} {l : List α} {n : Nat} (d : α) (h : l.length = n) : ((List.range n).map fun j => l.getD j d) = l := by
  apply List.ext_getElem?
  intro j
  by_cases hj : j < n
  · rw [List.getElem?_map, List.getElem?_range hj, Option.map_some, List.getD_eq_getElem?_getD, List.getElem?_eq_getElem (by omega)]
    rfl
  · rw [List.getElem?_eq_none (by simp; omega), List.getElem?_eq_none (by omega)]
theorem numC_full {n : Nat} {L : List (List Int)} (V0 V1 : List Bool) (X0 X1 X2 : List ByteArray) {c : Nat} (hc : c < 21) (hl : (L.getD c []).length = n) : numC ((List.range n).map (fullO L V0 V1 X0 X1 X2)) c = L.getD c [] := by
  unfold numC
  rw [List.map_map]
  refine Eq.trans (List.map_congr_left fun j _ => ?_) (map_getD 0 hl)
  show fld (fullO L V0 V1 X0 X1 X2 j) c = _
  rw [fld_full _ _ _ _ _ _ _ hc]
  rfl
theorem truC_full {n : Nat} (L : List (List Int)) {V0 V1 : List Bool} (X0 X1 X2 : List ByteArray) (h0 : V0.length = n) (h1 : V1.length = n) : truC ((List.range n).map (fullO L V0 V1 X0 X1 X2)) 0 = V0 ∧ truC ((List.range n).map (fullO L V0 V1 X0 X1 X2)) 1 = V1 := by
  unfold truC
  rw [List.map_map, List.map_map]
  exact ⟨map_getD false h0, map_getD false h1⟩
theorem txt_full {n : Nat} (L : List (List Int)) (V0 V1 : List Bool) {X0 X1 X2 : List ByteArray} (h0 : X0.length = n) (h1 : X1.length = n) (h2 : X2.length = n) :
    ((List.range n).map (fullO L V0 V1 X0 X1 X2)).map (fun o => txt o 0) = X0 ∧ ((List.range n).map (fullO L V0 V1 X0 X1 X2)).map (fun o => txt o 1) = X1 ∧ ((List.range n).map (fullO L V0 V1 X0 X1 X2)).map (fun o => txt o 2) = X2 := by
  rw [List.map_map, List.map_map, List.map_map]
  exact ⟨map_getD noText h0, map_getD noText h1, map_getD noText h2⟩
theorem lenC_X (l : List OpD) (c : Nat) : lenC l c = sizX (l.map fun o => txt o c) := by unfold lenC sizX; rw [List.map_map]; rfl
theorem catC_X (l : List OpD) (c : Nat) : catC l c = catX (l.map fun o => txt o c) := by unfold catC catX; rw [List.flatMap_map]
theorem numsB_cols {l : List OpD} {L : List (List Int)} (hL : L.length = 21) (h : ∀ c, c < 21 → numC l c = L.getD c []) : numsB l 21 = colsOf L := by
  unfold numsB colsOf
  rw [hL]
  exact flatMap_congr8 fun c hc => by unfold colB colBy; rw [h c (List.mem_range.1 hc)]
theorem encB_eq (l : List OpD) : encB l = putB l.length ++ (numsB l 21 ++ (boolsF false (truC l 0) ++ (boolsF false (truC l 1) ++ (runsB (lenC l 0) ++ (catC l 0 ++ (runsB (lenC l 1) ++ (catC l 1 ++ (runsB (lenC l 2) ++ catC l 2)))))))) := by
  unfold encB
  have h1 : trusB l 2 = boolsF false (truC l 0) ++ boolsF false (truC l 1) := by
    rw [trusB_succ, trusB_succ]; rfl
  have h2 : txtsB l 3 = runsB (lenC l 0) ++ (catC l 0 ++ (runsB (lenC l 1) ++ (catC l 1 ++ (runsB (lenC l 2) ++ catC l 2)))) := by
    rw [txtsB_succ, txtsB_succ, txtsB_succ]
    simp [txtsB]
  rw [h1, h2]
  simp only [List.append_assoc]
noncomputable def decChain (b : List UInt8) : Option (List OpD × List UInt8) :=
  (takeV b).bind fun n => if 200 < n then none else (decCols n 21 (b.drop (putB n).length)).bind fun p => (tkT n 2 (mixN p.1 n (List.replicate n zOp), p.2)).bind fun q => (tkX1 n 0 q).bind fun q => (tkX1 n 1 q).bind fun q => tkX1 n 2 q
theorem decChain_enc {b r : List UInt8} {l : List OpD} (h : decChain b = some (l, r)) : l.length ≤ 200 ∧ b = encB l ++ r ∧ ∀ x ∈ l, x.wf := by
  unfold decChain at h
  rw [Option.bind_eq_some_iff] at h
  obtain ⟨n, h0, h⟩ := h
  split at h
  · cases h
  rename_i hn
  rw [Option.bind_eq_some_iff] at h
  obtain ⟨⟨L, r1⟩, h1, h⟩ := h
  rw [Option.bind_eq_some_iff] at h
  obtain ⟨⟨l2, r2⟩, h2, h⟩ := h
  rw [Option.bind_eq_some_iff] at h
  obtain ⟨⟨l3, r3⟩, h3, h⟩ := h
  rw [Option.bind_eq_some_iff] at h
  obtain ⟨⟨l4, r4⟩, h4, h5⟩ := h
  have hn6 : n ≤ 65536 := by omega
  obtain ⟨a1, a2, a3⟩ := (decCols_spec hn6).1 h1
  obtain ⟨V0, V1, v0, v1, v2, v3⟩ := (tkT_spec hn6).1 h2
  obtain ⟨X0, x0, x1, x2, x3⟩ := (tkX1_spec hn6).1 h3
  obtain ⟨X1, y0, y1, y2, y3⟩ := (tkX1_spec hn6).1 h4
  obtain ⟨X2, z0, z1, z2, z3⟩ := (tkX1_spec hn6).1 h5
  dsimp only at v2 v3 x2 x3 y2 y3 z2 z3
  rw [v2] at x2
  rw [x2] at y2
  rw [y2] at z2
  rw [full_list] at z2
  have hln : l.length = n := by rw [z2]; simp
  have hnum : ∀ c, c < 21 → numC l c = L.getD c [] := fun c hc => by
    rw [z2]
    refine numC_full _ _ _ _ _ hc ?_
    obtain ⟨y, hy⟩ : ∃ y, L[c]? = some y := ⟨_, List.getElem?_eq_getElem (by omega)⟩
    rw [List.getD_eq_getElem?_getD, hy]
    exact (a2 y (List.mem_of_getElem? hy)).1
  obtain ⟨t0, t1⟩ := truC_full L X0 X1 X2 v0 v1
  obtain ⟨s0, s1, s2⟩ := txt_full L V0 V1 x0 y0 z0
  rw [← z2] at t0 t1 s0 s1 s2
  refine ⟨by omega, ?_, fun x hx => ⟨?_, fun c hc => ?_⟩⟩
  · rw [encB_eq, hln, numsB_cols a1 hnum, t0, t1, lenC_X, lenC_X, lenC_X, catC_X, catC_X, catC_X, s0, s1, s2]
    rw [prefix_drop (takeV_some.1 h0).2, a3, v3, x3, y3, z3]
    simp only [List.append_assoc]
  · have k0 := x1 (x.key.size : Int) (by rw [← s0]; exact List.mem_map.2 ⟨_, List.mem_map.2 ⟨x, hx, rfl⟩, rfl⟩)
    have k1 := y1 (x.name.size : Int) (by rw [← s1]; exact List.mem_map.2 ⟨_, List.mem_map.2 ⟨x, hx, rfl⟩, rfl⟩)
    have k2 := z1 (x.value.size : Int) (by rw [← s2]; exact List.mem_map.2 ⟨_, List.mem_map.2 ⟨x, hx, rfl⟩, rfl⟩)
    unfold inI at k0 k1 k2
    omega
  · have h6 := hnum c hc
    have h7 : fld x c ∈ L.getD c [] := by rw [← h6]; exact List.mem_map.2 ⟨x, hx, rfl⟩
    obtain ⟨y, hy⟩ : ∃ y, L[c]? = some y := ⟨_, List.getElem?_eq_getElem (by omega)⟩
    rw [List.getD_eq_getElem?_getD, hy] at h7
    exact (a2 y (List.mem_of_getElem? hy)).2 _ h7
open Classical in
noncomputable def decB (b : List UInt8) : Option (List OpD) := (decChain b).bind fun q => if q.2 = [] ∧ ∀ x ∈ q.1, x.right = true then some q.1 else none
noncomputable def tkX (n : Nat) : Nat → List OpD × List UInt8 → Option (List OpD × List UInt8)
  | 0, p => some p
  | c + 1, p => (tkX n c p).bind (tkX1 n c)
theorem tkX_none {n c : Nat} {p : List OpD × List UInt8} (h : tkX n c p = none) : ∀ d, tkX n (c + d) p = none
  | 0 => h
  | d + 1 => by
    show (tkX n (c + d) p).bind _ = none
    rw [tkX_none h d]
    rfl
theorem tkX_step {n c : Nat} {p q : List OpD × List UInt8} (h : tkX n c p = some q) : tkX n (c + 1) p = tkX1 n c q := by
  show (tkX n c p).bind _ = _
  rw [h]
  rfl
theorem tkX_bad {n c : Nat} {p q : List OpD × List UInt8} (h : tkX n c p = some q) (k : tkX1 n c q = none) {d : Nat} (hd : c < d) : tkX n d p = none := by
  have := tkX_none ((tkX_step h).trans k) (d - (c + 1))
  rwa [show c + 1 + (d - (c + 1)) = d by omega] at this
theorem tkX1_len {n c : Nat} {p q : List OpD × List UInt8} (h : tkX1 n c p = some q) : q.1.length = p.1.length := by
  unfold tkX1 at h
  rw [Option.bind_eq_some_iff] at h
  obtain ⟨t, _, h2⟩ := h
  rw [Option.map_eq_some_iff] at h2
  obtain ⟨x, _, h4⟩ := h2
  rw [← h4]
  exact mixG_len _ _ _
theorem decChain_eq (b : List UInt8) : decChain b = (takeV b).bind fun n => if 200 < n then none else (decCols n 21 (b.drop (putB n).length)).bind fun p => (tkT n 2 (mixN p.1 n (List.replicate n zOp), p.2)).bind (tkX n 3) := by
  unfold decChain
  congr 1
  funext n
  split
  · rfl
  congr 1
  funext p
  congr 1
  funext q
  show _ = (((some q).bind (tkX1 n 0)).bind (tkX1 n 1)).bind (tkX1 n 2)
  rw [Option.bind_some, Option.bind_assoc]
theorem decB_none {b : List UInt8} (h : decChain b = none) : decB b = none := by
  unfold decB
  rw [h]
  rfl
theorem decB_none1 {b : List UInt8} (h : takeV b = none) : decB b = none := decB_none (by rw [decChain_eq, h]; rfl)
theorem decB_none2 {b : List UInt8} {n : Nat} (h : takeV b = some n) (hn : 200 < n) : decB b = none := decB_none (by rw [decChain_eq, h, Option.bind_some, if_pos hn])
theorem decB_none3 {b : List UInt8} {n : Nat} (h : takeV b = some n) (hn : ¬ 200 < n) (h2 : decCols n 21 (b.drop (putB n).length) = none) : decB b = none := decB_none (by rw [decChain_eq, h, Option.bind_some, if_neg hn, h2]; rfl)
theorem decB_none4 {b r : List UInt8} {n : Nat} {L : List (List Int)} (h : takeV b = some n) (hn : ¬ 200 < n) (h2 : decCols n 21 (b.drop (putB n).length) = some (L, r)) (h3 : tkT n 2 (mixN L n (List.replicate n zOp), r) = none) : decB b = none := decB_none (by rw [decChain_eq, h, Option.bind_some, if_neg hn, h2, Option.bind_some]; dsimp only; rw [h3]; rfl)
theorem decChain_all {b r : List UInt8} {n : Nat} {L : List (List Int)} {q : List OpD × List UInt8} (h : takeV b = some n) (hn : ¬ 200 < n) (h2 : decCols n 21 (b.drop (putB n).length) = some (L, r)) (h3 : tkT n 2 (mixN L n (List.replicate n zOp), r) = some q) : decChain b = tkX n 3 q := by
  rw [decChain_eq, h, Option.bind_some, if_neg hn, h2, Option.bind_some]
  dsimp only
  rw [h3, Option.bind_some]
theorem decB_of {b r : List UInt8} {l : List OpD} (h : decChain b = some (l, r)) (hr : ¬ (r = [] ∧ ∀ x ∈ l, x.right = true)) : decB b = none := by
  unfold decB
  rw [h, Option.bind_some, if_neg hr]
theorem decB_yes {b : List UInt8} {l : List OpD} (h : decChain b = some (l, [])) (hr : ∀ x ∈ l, x.right = true) : decB b = some l := by
  unfold decB
  rw [h, Option.bind_some, if_pos ⟨rfl, hr⟩]
end Go.Proofs.YtgmdimbiipemhaaGreatDoor
namespace Go.Proofs.YtgmdimbiipemhaaGreatDoor
open Go.RowKit Go.Deep
set_option linter.unusedSimpArgs false
set_option linter.unusedVariables false
theorem heap_cell {W W' : World} {b : Nat} (h : W'.heap[b]? = W.heap[b]?) (q : Nat) : W'.cell? ⟨b, q, none⟩ = W.cell? ⟨b, q, none⟩ := by
  unfold World.cell?
  rw [h]
structure NR (W1 : World) (lo hi Br Bi rb rcap ii : Nat) (f : Nat → Int) (Bc : Nat) : Prop where
  br : W1.cell? ⟨Br, 0, none⟩ = some (.slice (some ⟨rb, 0, none⟩) 21 rcap)
  bi : W1.cell? ⟨Bi, 0, none⟩ = some (.int .i64 ii)
  row : ∀ c, c < 21 → ∃ sb sn sc, W1.cell? ⟨rb, c, none⟩ = some (.slice (some ⟨sb, 0, none⟩) sn sc) ∧ (lo ≤ sb ∧ sb < hi ∧ sb ≠ Bc) ∧ ii < sn ∧ W1.cell? ⟨sb, ii, none⟩ = some (.int .i64 (f c))
  dis : (lo ≤ Br ∧ Br < hi ∧ Br ≠ Bc) ∧ (lo ≤ Bi ∧ Bi < hi ∧ Bi ≠ Bc) ∧ (lo ≤ rb ∧ rb < hi ∧ rb ≠ Bc) ∧ lo ≤ Bc ∧ Bc < hi
def JN (W1 : World) (lo hi Bc : Nat) (c : Nat) (A : Nat → Prop) (W : World) : Prop :=
  (∀ k, A k → k < lo ∨ hi ≤ k) ∧ (∀ k, lo ≤ k → k < hi → k ≠ Bc → W.heap[k]? = W1.heap[k]?) ∧ W.heap[Bc]? = some (.cells #[.int .i64 c] 3 (0, 0)) ∧ hi ≤ W.heap.size ∧ lo ≤ Bc ∧ Bc < hi
theorem JN.jok (W1 : World) (lo hi Bc b : Nat) : JOK b (JN W1 lo hi Bc) := by
  rintro c A A' W W' ⟨h1, h2, h3, h4, h5, h6⟩ hx hA hb
  have hbn := h1 b hb
  have hs := hx.size
  refine ⟨fun k hk => (hA k hk).elim (h1 k) (fun e => .inr (by omega)), fun k k1 k2 k3 => (hx.block _ (by omega) (by omega)).trans (h2 k k1 k2 k3), (hx.block _ (by omega) (by omega)).trans h3, by omega, h5, h6⟩
set_option maxRecDepth 20000 in
set_option maxHeartbeats 1000000 in
theorem nums_use {W1 : World} {lo hi Br Bi rb rcap ii Bc : Nat} {f : Nat → Int} (hN : NR W1 lo hi Br Bi rb rcap ii f Bc) (fl : Nat → Int) : UseOK Tryz.prog 155 #[.pointer (some ⟨Br, 0, none⟩), .pointer (some ⟨Bc, 0, none⟩), .pointer (some ⟨Bi, 0, none⟩)] f fl (JN W1 lo hi Bc) := by
  rintro c A W pb po hc ⟨hA, hkeep, hBc, hhi, hlo1, hlo2⟩ hcell hfree hAp
  show Calls Tryz.prog 155 #[.pointer (some ⟨pb, po, none⟩), .bool (dlt c), .pointer (some ⟨Br, 0, none⟩), .pointer (some ⟨Bc, 0, none⟩), .pointer (some ⟨Bi, 0, none⟩)] W _
  obtain ⟨sb, sn, sc, hrow, ⟨s1, s2, s3⟩, hin, hval⟩ := hN.row c hc
  obtain ⟨⟨r1, r2, r3⟩, ⟨i1, i2, i3⟩, ⟨q1, q2, q3⟩, -, -⟩ := hN.dis
  have hp := hA pb hAp
  have hSW : (fun W : World => W.cell? ⟨Br, 0, none⟩ = some (.slice (some ⟨rb, 0, none⟩) 21 rcap) ∧ W.cell? ⟨Bc, 0, none⟩ = some (.int .i64 c) ∧ W.cell? ⟨rb, c, none⟩ = some (.slice (some ⟨sb, 0, none⟩) sn sc) ∧ W.cell? ⟨Bi, 0, none⟩ = some (.int .i64 ii) ∧ W.cell? ⟨sb, ii, none⟩ = some (.int .i64 (f c))) W.drew := ⟨(heap_cell (hkeep Br r1 r2 r3) 0).trans hN.br, cell_of_one hBc, (heap_cell (hkeep rb q1 q2 q3) c).trans hrow, (heap_cell (hkeep Bi i1 i2 i3) 0).trans hN.bi, (heap_cell (hkeep sb s1 s2 s3) ii).trans hval⟩
  have hpc : pb ≠ Bc := by omega
  have hpl := cell_lt hcell
  have hc1 : W.drew.cell? ⟨pb, po, none⟩ = some (.int .i64 (fl c)) := hcell
  have hf1 : W.drew.frozen? ⟨pb, po, none⟩ = false := hfree
  have hB1 : W.drew.heap[Bc]? = some (.cells #[.int .i64 c] 3 (0, 0)) := hBc
  have hW0 : Ext (fun _ => False) W W.drew := (Ext.refl _ _).drew
  have HK := Lib.hid hkeep
  have HA := Lib.hid hA
  clear hkeep hA hcell hfree hBc hrow hval
  go_enter Tryz.func155, Tryz.ntmps155
  go_upto_region 0 with fail
  refine wp_region_s (fun W : World => W.cell? ⟨Br, 0, none⟩ = some (.slice (some ⟨rb, 0, none⟩) 21 rcap) ∧ W.cell? ⟨Bc, 0, none⟩ = some (.int .i64 c) ∧ W.cell? ⟨rb, c, none⟩ = some (.slice (some ⟨sb, 0, none⟩) sn sc) ∧ W.cell? ⟨Bi, 0, none⟩ = some (.int .i64 ii) ∧ W.cell? ⟨sb, ii, none⟩ = some (.int .i64 (f c))) (fun i => i == 9) (by kernel_rfl) ?_
  generalize W.drew = W2 at hSW hc1 hf1 hB1 hW0 ⊢
  have hc21 : (c : Int) < 21 := by omega
  have hc0 : (0 : Int) ≤ (c : Int) := by omega
  have hi0 : (0 : Int) ≤ (ii : Int) := by omega
  have hi1 : (ii : Int) < (sn : Int) := by omega
  refine wpAnyS_take (i := 0) (d := some 7) rfl rfl rfl (by kernel_rfl) (by kernel_rfl) (by kernel_rfl) (by kernel_rfl) (fun _ _ _ h => h) (.inl ⟨by rfl, fun W hW => by obtain ⟨q0, q1, q2, q3, q4⟩ := hW; go_simp; try rfl⟩) hSW ?_
  try simp only [Act.put, List.setIfInBounds_toArray, List.set_cons_zero, List.set_cons_succ]
  refine wpAnyS_take (i := 1) (d := some 8) (v := .slice (some ⟨rb, 0, none⟩) 21 rcap) rfl rfl rfl (by kernel_rfl) (by kernel_rfl) (by kernel_rfl) (by kernel_rfl) (fun _ _ _ h => h) (.inl ⟨by rfl, fun W hW => by obtain ⟨q0, q1, q2, q3, q4⟩ := hW; go_simp; try rfl⟩) hSW ?_
  try simp only [Act.put, List.setIfInBounds_toArray, List.set_cons_zero, List.set_cons_succ]
  refine wpAnyS_take (i := 2) (d := some 9) (v := .int .i64 c) rfl rfl rfl (by kernel_rfl) (by kernel_rfl) (by kernel_rfl) (by kernel_rfl) (fun _ _ _ h => h) (.inl ⟨by rfl, fun W hW => by obtain ⟨q0, q1, q2, q3, q4⟩ := hW; go_simp; try rfl⟩) hSW ?_
  try simp only [Act.put, List.setIfInBounds_toArray, List.set_cons_zero, List.set_cons_succ]
  refine wpAnyS_take (i := 3) (d := some 10) (v := .pointer (some ⟨rb, c, none⟩)) rfl rfl rfl (by kernel_rfl) (by kernel_rfl) (by kernel_rfl) (by kernel_rfl) (fun _ _ _ h => h) (.inl ⟨by rfl, fun W hW => by obtain ⟨q0, q1, q2, q3, q4⟩ := hW; go_simp; try rfl⟩) hSW ?_
  try simp only [Act.put, List.setIfInBounds_toArray, List.set_cons_zero, List.set_cons_succ]
  refine wpAnyS_take (i := 4) (d := some 11) (v := .slice (some ⟨sb, 0, none⟩) sn sc) rfl rfl rfl (by kernel_rfl) (by kernel_rfl) (by kernel_rfl) (by kernel_rfl) (fun _ _ _ h => h) (.inl ⟨by rfl, fun W hW => by obtain ⟨q0, q1, q2, q3, q4⟩ := hW; go_simp; try rfl⟩) hSW ?_
  try simp only [Act.put, List.setIfInBounds_toArray, List.set_cons_zero, List.set_cons_succ]
  refine wpAnyS_take (i := 5) (d := some 12) (v := .int .i64 ii) rfl rfl rfl (by kernel_rfl) (by kernel_rfl) (by kernel_rfl) (by kernel_rfl) (fun _ _ _ h => h) (.inl ⟨by rfl, fun W hW => by obtain ⟨q0, q1, q2, q3, q4⟩ := hW; go_simp; try rfl⟩) hSW ?_
  try simp only [Act.put, List.setIfInBounds_toArray, List.set_cons_zero, List.set_cons_succ]
  refine wpAnyS_take (i := 6) (d := some 13) (v := .pointer (some ⟨sb, ii, none⟩)) rfl rfl rfl (by kernel_rfl) (by kernel_rfl) (by kernel_rfl) (by kernel_rfl) (fun _ _ _ h => h) (.inl ⟨by rfl, fun W hW => by obtain ⟨q0, q1, q2, q3, q4⟩ := hW; go_simp; try rfl⟩) hSW ?_
  try simp only [Act.put, List.setIfInBounds_toArray, List.set_cons_zero, List.set_cons_succ]
  refine wpAnyS_take (i := 7) (d := some 14) (v := .int .i64 (f c)) rfl rfl rfl (by kernel_rfl) (by kernel_rfl) (by kernel_rfl) (by kernel_rfl) (fun _ _ _ h => h) (.inl ⟨by rfl, fun W hW => by obtain ⟨q0, q1, q2, q3, q4⟩ := hW; go_simp; try rfl⟩) hSW ?_
  try simp only [Act.put, List.setIfInBounds_toArray, List.set_cons_zero, List.set_cons_succ]
  refine wpAnyS_take (i := 8) (d := some 15) (v := .pointer (some ⟨pb, po, none⟩)) rfl rfl rfl (by kernel_rfl) (by kernel_rfl) (by kernel_rfl) (by kernel_rfl) (fun _ _ _ h => h) (.inl ⟨by rfl, fun W hW => by obtain ⟨q0, q1, q2, q3, q4⟩ := hW; go_simp; try rfl⟩) hSW ?_
  try simp only [Act.put, List.setIfInBounds_toArray, List.set_cons_zero, List.set_cons_succ]
  refine wpAnyS_mute (i := 9) (d := none) (w' := W2.setCell ⟨pb, po, none⟩ (.int .i64 (f c))) (by kernel_rfl) rfl rfl (by rfl) (by go_simp; try rfl) (fun h => by cases h) ?_
  try simp only [Act.put, List.setIfInBounds_toArray, List.set_cons_zero, List.set_cons_succ]
  refine wpAnyS_done (by kernel_rfl) ?_ _
  have hx3 : Ext (· = pb) W2 (W2.setCell ⟨pb, po, none⟩ (.int .i64 (f c))) := (Ext.refl (· = pb) W2).setCell (p := ⟨pb, po, none⟩) (.inr rfl) _
  have hz2 : W.heap.size ≤ W2.heap.size := hW0.size
  have hB3 : (W2.setCell ⟨pb, po, none⟩ (.int .i64 (f c))).heap[Bc]? = some (.cells #[.int .i64 c] 3 (0, 0)) := (hx3.block _ (by omega) (fun e => hpc e.symm)).trans hB1
  have hc3 := cell_setCell_same8 (v := .int .i64 (f c)) hc1
  have hP3 : ∀ q, q ≠ po → (W2.setCell ⟨pb, po, none⟩ (.int .i64 (f c))).cell? ⟨pb, q, none⟩ = W.cell? ⟨pb, q, none⟩ := fun q hq => (cell_setCell_ne8 hq).trans (hW0.cell (p := ⟨pb, q, none⟩) hpl id)
  have hF3 : ∀ q, (W2.setCell ⟨pb, po, none⟩ (.int .i64 (f c))).frozen? ⟨pb, q, none⟩ = W.frozen? ⟨pb, q, none⟩ := fun q => (World.frozen?_setCell _ _ _ _).trans (hW0.frozen (p := ⟨pb, q, none⟩) hpl id)
  have hxa : Ext (· = pb) W (W2.setCell ⟨pb, po, none⟩ (.int .i64 (f c))) := (hW0.mono (fun _ _ f => f.elim)).andThen hx3 (fun i hi e => e)
  have hsh3 : Shp pb W (W2.setCell ⟨pb, po, none⟩ (.int .i64 (f c))) := (Shp.same (hW0.block pb hpl id)).trans (Shp.set _ _ _ _)
  generalize W2.setCell ⟨pb, po, none⟩ (.int .i64 (f c)) = W3 at hB3 hc3 hP3 hF3 hxa hsh3 ⊢
  have b3 := cell_of_one hB3
  have f3 := free_of_one hB3
  have hx4 : Ext (· = Bc) W3 (W3.setCell ⟨Bc, 0, none⟩ (.int .i64 ((c + 1 : Nat) : Int))) := (Ext.refl (· = Bc) W3).setCell (p := ⟨Bc, 0, none⟩) (.inr rfl) _
  have hz3 := hxa.size
  have hall : (∃ v, (Ending.returned (.tuple #[]) = .returned v)) ∧ JN W1 lo hi Bc (c + 1) A (W3.setCell ⟨Bc, 0, none⟩ (.int .i64 ((c + 1 : Nat) : Int))) ∧ (W3.setCell ⟨Bc, 0, none⟩ (.int .i64 ((c + 1 : Nat) : Int))).cell? ⟨pb, po, none⟩ = some (.int .i64 (f c)) ∧
      (∀ q, q ≠ po → (W3.setCell ⟨Bc, 0, none⟩ (.int .i64 ((c + 1 : Nat) : Int))).cell? ⟨pb, q, none⟩ = W.cell? ⟨pb, q, none⟩) ∧ (∀ q, (W3.setCell ⟨Bc, 0, none⟩ (.int .i64 ((c + 1 : Nat) : Int))).frozen? ⟨pb, q, none⟩ = W.frozen? ⟨pb, q, none⟩) ∧ Ext (fun k => ¬ A k ∨ k = pb) W (W3.setCell ⟨Bc, 0, none⟩ (.int .i64 ((c + 1 : Nat) : Int))) ∧ Shp pb W (W3.setCell ⟨Bc, 0, none⟩ (.int .i64 ((c + 1 : Nat) : Int))) :=
    ⟨⟨_, rfl⟩, ⟨HA.out, fun k k1 k2 k3 => (hx4.block _ (by omega) k3).trans ((hxa.block _ (by omega) (by omega)).trans (HK.out k k1 k2 k3)), one_setCell hB3, by rw [World.size_setCell]; omega, hlo1, hlo2⟩,
     (hx4.cell (p := ⟨pb, po, none⟩) (by show pb < _; omega) hpc).trans hc3, fun q hq => (hx4.cell (p := ⟨pb, q, none⟩) (by show pb < _; omega) hpc).trans (hP3 q hq), fun q => (hx4.frozen (p := ⟨pb, q, none⟩) (by show pb < _; omega) hpc).trans (hF3 q),
     ((hxa.mono (T := fun k => ¬ A k ∨ k = pb) (fun k _ e => .inr e))).andThen hx4 (fun i hi e => .inl (fun ha => by have := HA.out i ha; omega)), hsh3.trans (Shp.same (hx4.block pb (by omega) hpc))⟩
  have HFIN := Lib.hid hall.2
  clear hall hsh3 hx4 hxa hP3 hF3 hx3 hB3 hSW
  go_wp2_with fail
  go_end0
  exact ⟨⟨_, rfl⟩, HFIN.out⟩
end Go.Proofs.YtgmdimbiipemhaaGreatDoor
namespace Go.Proofs.YtgmdimbiipemhaaGreatDoor
open Go.RowKit Go.Deep
set_option linter.unusedSimpArgs false
set_option linter.unusedVariables false
def slc (s : Sl) : List Value := [.slice s.a s.n s.cap]
theorem slc_len (s : Sl) : (slc s).length = 1 := rfl
theorem slc_one (s : Sl) : ∀ u ∈ slc s, u.oneCell' = true := fun u hu => by rw [slc, List.mem_singleton] at hu; subst hu; rfl
theorem slc_new (W : World) (s : Sl) : ∀ j u, (slc s)[j]? = some u → (W.alloc (.cells #[.slice s.a s.n s.cap] 100)).cell? ⟨W.heap.size, j, none⟩ = some u := by
  intro j u hj
  rw [World.cell?_alloc_at _ _ _ _ rfl, ← hj, slc]
  simp
theorem info_rows2 : (Tryz.prog.info? 100).map (fun i => (i.zero, i.size, i.bytes)) = some (some (.slice none 0 0), 1, 24) := by kernel_rfl
structure NS (w0 : World) (T : Nat) (w : World) (tl : Value) (ls : List OpD) (r : List UInt8) (ca : Option Addr) (cc k : Nat) (W : World) (lo : Nat) (tb rv : Value) (L : List (List Int)) (r' : List UInt8) (rs : List Sl) : Prop where
  dec : decCols ls.length k r = some (L, r')
  tks : TKS w0 T W tb r' tl ls
  row : W.heap[lo]? = some (.cells #[rv] 161 (0, 0))
  own : Own slc 1 100 (lo + 1) W rv rs
  num : ∀ i s, rs[i]? = some s → Own intc 1 3 (lo + 1) W (.slice s.a s.n s.cap) (L.getD i [])
  len : rs.length = k
  col : Own btc 1 4 (lo + 1) W (.slice ca 21 cc) (colsL 21)
  siz : lo + 1 ≤ W.heap.size
  apt : T < lo ∧ ∀ b, tl.ownBlock = some b → b < lo
theorem NS.below {w0 : World} {T : Nat} {w : World} {tl : Value} {ls : List OpD} {r : List UInt8} {ca : Option Addr} {cc k : Nat} {W W' : World} {lo : Nat} {tb rv : Value} {L : List (List Int)} {r' : List UInt8} {rs : List Sl} (h : NS w0 T w tl ls r ca cc k W lo tb rv L r' rs) (hb : Below W.heap.size W W') : NS w0 T w tl ls r ca cc k W' lo tb rv L r' rs :=
  ⟨h.dec, h.tks.below hb, (hb.block _ (by have := h.siz; omega)).trans h.row, h.own.below1 hb, fun i s hs => (h.num i s hs).below1 hb, h.len, h.col.below1 hb, Nat.le_trans h.siz hb.size, h.apt⟩
theorem NS.push {w0 : World} {T : Nat} {w : World} {tl : Value} {ls : List OpD} {r : List UInt8} {ca : Option Addr} {cc k : Nat} {w3 w4 : World} {lo : Nat} {tb tb' rv rv' : Value} {L : List (List Int)} {r' : List UInt8} {rs : List Sl} {l : List Int} {u : Nat} {s : Sl} {x : Obj} (h : NS w0 T w tl ls r ca cc k w3 lo tb rv L r' rs) (hn : ls.length ≤ 65536)
    (hcd : colD ls.length (dlt k) r' = some (l, u)) (hl : Own intc 1 3 (lo + 1) w3 (.slice s.a s.n s.cap) l) (h4 : Own slc 1 100 (lo + 1) w4 rv' (rs ++ [s])) (hx : Ext (fun b => rv.ownBlock = some b) (w3.alloc x) w4) (hbyt : SliceIs u8c 1 w0 tb' (r'.drop u)) :
    NS w0 T w tl ls r ca cc (k + 1) ((w4.setCell ⟨lo, 0, none⟩ rv').setCell ⟨T, 0, none⟩ tb') lo tb' rv' (L ++ [l]) (r'.drop u) (rs ++ [s]) := by
  have hL := (decCols_len hn h.dec).1
  have hxa : Ext (fun b => rv.ownBlock = some b) w3 w4 := ((Ext.refl _ _).alloc _).andThen hx (fun i hi e => e)
  have hx5 : Ext (· = lo) w4 (w4.setCell ⟨lo, 0, none⟩ rv') := (Ext.refl (· = lo) w4).setCell (p := ⟨lo, 0, none⟩) (.inr rfl) _
  have hx6 : Ext (· = T) (w4.setCell ⟨lo, 0, none⟩ rv') ((w4.setCell ⟨lo, 0, none⟩ rv').setCell ⟨T, 0, none⟩ tb') := (Ext.refl (· = T) _).setCell (p := ⟨T, 0, none⟩) (.inr rfl) _
  have hTl := h.apt.1
  have hno : ∀ b, rv.ownBlock = some b → lo + 1 ≤ b := fun b hb => (h.own.blk b hb).1
  have hz := hxa.size
  have hsz := h.siz
  have hz5 : (w4.setCell ⟨lo, 0, none⟩ rv').heap.size = w4.heap.size := World.size_setCell _ _ _
  have hall : Ext (fun b => rv.ownBlock = some b ∨ b = lo ∨ b = T) w3 ((w4.setCell ⟨lo, 0, none⟩ rv').setCell ⟨T, 0, none⟩ tb') := ((hxa.mono (fun _ _ e => .inl e)).andThen hx5 (fun i hi e => .inr (.inl e))).andThen hx6 (fun i hi e => .inr (.inr e))
  have hrow4 : w4.heap[lo]? = some (.cells #[rv] 161 (0, 0)) := (hxa.block _ (by omega) (fun e => by have := hno _ e; omega)).trans h.row
  have hT5 : (w4.setCell ⟨lo, 0, none⟩ rv').heap[T]? = some (.cells #[tb, tl] 90 (0, 0)) := (hx5.block _ (by omega) (by omega)).trans ((hxa.block _ (by omega) (fun e => by have := hno _ e; omega)).trans h.tks.cell)
  have hnew : w0.heap.size ≤ T := h.tks.new
  have keep : ∀ {α : Type} {ea : α → List Value} {q : Nat} {t : TypeId} {v : Value} {m : List α}, t ≠ 100 → Own ea q t (lo + 1) w3 v m → Own ea q t (lo + 1) ((w4.setCell ⟨lo, 0, none⟩ rv').setCell ⟨T, 0, none⟩ tb') v m := fun ht hm => hm.ext hall (fun b hb e => by
    rcases e with e | e | e
    · obtain ⟨c1, g1⟩ := hm.tag hb
      obtain ⟨c2, g2⟩ := h.own.tag e
      rw [g1] at g2
      cases g2
      exact ht rfl
    · have := (hm.blk b hb).1; omega
    · have := (hm.blk b hb).1; omega)
  refine ⟨decCols_step h.dec hcd, ⟨?_, hbyt, h.tks.own.ext hall (fun b hb e => ?_), Ext.new h.tks.bel hall (fun i hi _ e => ?_) h.tks.bel.size, hnew, h.tks.fltKeep hall (fun e => by
    have hf := h.tks.flt
    rcases e with e | e | e
    · obtain ⟨c2, g2⟩ := h.own.tag e
      rw [hf] at g2
      cases g2
    · have g2 := h.row
      rw [← e, hf] at g2
      cases g2
    · omega)⟩, ?_, (h4.ext hx5 (fun b hb e => by have := (h4.blk b hb).1; omega)).ext hx6 (fun b hb e => by have := (h4.blk b hb).1; omega), fun i s2 hs => ?_, by rw [List.length_append, h.len]; rfl, keep (by decide) h.col, by have := hall.size; omega, h.apt⟩
  · rw [heap_setCell_same _ T 0 _ _ _ hT5]
    rfl
  · have := h.apt.2 b hb
    rcases e with e | e | e
    · have := hno b e; omega
    · omega
    · have hc := h.tks.cell
      obtain ⟨c1, g1⟩ := h.tks.own.tag hb
      rw [e, hc] at g1
      cases g1
  · rcases e with e | e | e
    · have := hno i e; omega
    · omega
    · omega
  · exact (hx6.block _ (by omega) (by omega)).trans (one_setCell hrow4)
  · by_cases hi : i < rs.length
    · rw [List.getElem?_append_left hi] at hs
      have := keep (by decide) (h.num i s2 hs)
      rwa [show (L ++ [l]).getD i [] = L.getD i [] by rw [List.getD_eq_getElem?_getD, List.getD_eq_getElem?_getD, List.getElem?_append_left (by rw [hL, ← h.len]; exact hi)]]
    · rw [List.getElem?_append_right (by omega)] at hs
      have hi2 : i - rs.length = 0 := by
        have := (List.getElem?_eq_some_iff.1 hs).1
        simp at this
        omega
      rw [hi2] at hs
      cases hs
      rw [show (L ++ [l]).getD i [] = l by rw [List.getD_eq_getElem?_getD, List.getElem?_append_right (by rw [hL, ← h.len]; omega), hL, ← h.len, hi2]; rfl]
      exact keep (by decide) hl
structure N2 (w0 : World) (T : Nat) (tl : Value) (ls : List OpD) (lo : Nat) (tb rv : Value) (L : List (List Int)) (r' : List UInt8) (rs : List Sl) (i : Nat) (W : World) : Prop where
  tks : TKS w0 T W tb r' tl (mixN L i ls)
  row : W.heap[lo]? = some (.cells #[rv] 161 (0, 0))
  own : Own slc 1 100 (lo + 1) W rv rs
  num : ∀ i s, rs[i]? = some s → Own intc 1 3 (lo + 1) W (.slice s.a s.n s.cap) (L.getD i [])
  siz : lo + 1 ≤ W.heap.size
theorem N2.reads {w0 : World} {T : Nat} {tl : Value} {ls : List OpD} {lo : Nat} {tb rv : Value} {L : List (List Int)} {r' : List UInt8} {rs : List Sl} {i : Nat} {W : World} (h : N2 w0 T tl ls lo tb rv L r' rs i W) (hr : rs.length = 21) (hL : L.length = 21 ∧ ∀ x ∈ L, x.length = ls.length) (hi : i < ls.length) :
    ∃ rb rcap, rv = .slice (some ⟨rb, 0, none⟩) 21 rcap ∧ lo + 1 ≤ rb ∧ rb < W.heap.size ∧ ∀ c, c < 21 → ∃ sb sn sc, W.cell? ⟨rb, c, none⟩ = some (.slice (some ⟨sb, 0, none⟩) sn sc) ∧ (lo + 1 ≤ sb ∧ sb < W.heap.size) ∧ i < sn ∧ W.cell? ⟨sb, i, none⟩ = some (.int .i64 (colF L i c)) := by
  rcases h.own.eq_slice with ⟨_, e⟩ | ⟨rb, rcap, e, h1, h2⟩
  · rw [e] at hr; simp at hr
  · rw [hr] at e
    refine ⟨rb, rcap, e, h1, h2, fun c hc => ?_⟩
    obtain ⟨s, hs⟩ : ∃ s, rs[c]? = some s := ⟨_, List.getElem?_eq_getElem (by omega)⟩
    have hown := h.own
    rw [e, ← hr] at hown
    have h3 := hown.cellAt slc_len (i := c) (j := 0) hs rfl
    rw [Nat.mul_one, Nat.add_zero] at h3
    have h4 := h.num c s hs
    have hLc : (L.getD c []).length = ls.length := by
      obtain ⟨y, hy⟩ : ∃ y, L[c]? = some y := ⟨_, List.getElem?_eq_getElem (by omega)⟩
      rw [List.getD_eq_getElem?_getD, hy]
      exact hL.2 y (List.mem_of_getElem? hy)
    rcases h4.eq_slice with ⟨_, e4⟩ | ⟨sb, sc, e4, h5, h6⟩
    · rw [e4] at hLc; simp at hLc; omega
    · obtain ⟨x, hx⟩ : ∃ x, (L.getD c [])[i]? = some x := ⟨_, List.getElem?_eq_getElem (by omega)⟩
      have h7 := h4
      rw [e4] at h7
      have h8 := h7.cellAt intc_len (i := i) (j := 0) hx rfl
      rw [Nat.mul_one, Nat.add_zero] at h8
      refine ⟨sb, _, sc, by rw [h3, e4], ⟨h5, h6⟩, by omega, ?_⟩
      rw [h8]
      unfold colF
      rw [List.getD_eq_getElem?_getD (l := L.getD c []), hx]
      rfl
theorem N2.ext {w0 : World} {T : Nat} {tl : Value} {ls : List OpD} {lo : Nat} {tb rv : Value} {L : List (List Int)} {r' : List UInt8} {rs : List Sl} {i : Nat} {W W' : World} {S : Nat → Prop} (h : N2 w0 T tl ls lo tb rv L r' rs i W) (hx : Ext S W W') (hS : ∀ k, S k → k < W.heap.size → False) (ha : T < lo ∧ ∀ b, tl.ownBlock = some b → b < lo) : N2 w0 T tl ls lo tb rv L r' rs i W' :=
  ⟨h.tks.ext hx (fun e => hS _ e (by have := h.siz; omega)) (fun k hk e => hS k e (by have := ha.2 k hk; have := h.siz; omega)) (fun k hk e => hS k e (by have := h.tks.bel.size; omega)) (fun e => hS _ e (Array.getElem?_eq_some_iff.1 h.tks.flt).1), (hx.block _ (by have := h.siz; omega) (fun e => hS _ e (by have := h.siz; omega))).trans h.row, h.own.ext hx (fun b hb e => hS b e (h.own.blk b hb).2), fun j s hs => (h.num j s hs).ext hx (fun b hb e => hS b e ((h.num j s hs).blk b hb).2), Nat.le_trans h.siz hx.size⟩
theorem N2.put {w0 : World} {T g lc Bc : Nat} {ls : List OpD} {lo : Nat} {tb rv : Value} {L : List (List Int)} {r' : List UInt8} {rs : List Sl} {i : Nat} {W0 W W' : World} {x : OpD} (h : N2 w0 T (.slice (some ⟨g, 0, none⟩) ls.length lc) ls lo tb rv L r' rs i W) (h0 : N2 w0 T (.slice (some ⟨g, 0, none⟩) ls.length lc) ls lo tb rv L r' rs i W0) (hx : Ext (fun k => k = g ∨ k = Bc) W W') (hBc : W0.heap.size ≤ Bc) (hxi : ls[i]? = some x) (hA : At g (i * 26) x (colF L i) W') (hR : Rst g (i * 26) W W') (ha : T < lo ∧ ∀ b, (Value.slice (some ⟨g, 0, none⟩) ls.length lc).ownBlock = some b → b < lo) :
    N2 w0 T (.slice (some ⟨g, 0, none⟩) ls.length lc) ls lo tb rv L r' rs (i + 1) W' := by
  have hg := ha.2 g rfl
  have h1 := h0.siz
  have hTg : T ≠ g := fun e => by
    have h1 := h.tks.cell
    obtain ⟨c2, h2⟩ := h.tks.own.tag (b := g) rfl
    rw [e, h2] at h1
    cases h1
  have hgn := (h.tks.own.blk g rfl).1
  have hb0 := h.tks.bel.size
  have hb1 := h0.tks.bel.size
  refine ⟨⟨(hx.block T (Array.getElem?_eq_some_iff.1 h.tks.cell).1 (fun e => e.elim hTg (fun e => by omega))).trans h.tks.cell, h.tks.byt, ?_, Ext.new h.tks.bel hx (fun k hk _ e => e.elim (fun e => by omega) (fun e => by omega)) h.tks.bel.size, h.tks.new, h.tks.fltKeep hx (fun e => e.elim (fun e => by
    obtain ⟨c2, h2⟩ := h.tks.own.tag (b := g) rfl
    have h1 := h.tks.flt
    rw [e, h2] at h1
    cases h1) (fun e => by have := (Array.getElem?_eq_some_iff.1 h0.tks.flt).1; omega))⟩, (hx.block lo (Array.getElem?_eq_some_iff.1 h.row).1 (fun e => e.elim (fun e => by omega) (fun e => by omega))).trans h.row, h.own.ext hx (fun b hb e => by have h5 := h0.own.blk b hb; rcases e with e | e <;> omega), fun j s hs => (h.num j s hs).ext hx (fun b hb e => by have h5 := (h0.num j s hs).blk b hb; rcases e with e | e <;> omega), Nat.le_trans h.siz hx.size⟩
  rw [mixN_succ L i hxi]
  exact h.tks.own.putOp (mixN_at L i hxi) hA hR
def atErr (what : ByteArray) (n : Int) : Value := .iface 187 (.agg #[.string what, .iface 91 (.int .i64 n)])
set_option maxRecDepth 20000 in
set_option maxHeartbeats 4000000 in
theorem numbers_any (w0 : World) (T : Nat) (w : World) (tb tl : Value) (r : List UInt8) (ls : List OpD) (h : TKS w0 T w tb r tl ls) (hn : ls.length ≤ 200) : Calls Tryz.prog 104 #[.pointer (some ⟨T, 0, none⟩)] w fun e w' =>
    (∃ L r' tb', decCols ls.length 21 r = some (L, r') ∧ e = .returned .nilIface ∧ TKS w0 T w' tb' r' tl (mixN L ls.length ls)) ∨ (decCols ls.length 21 r = none ∧ (∃ s m, e = .returned (atErr s m)) ∧ Kp w0 T w') := by
  obtain ⟨⟨la, ln, lc⟩, el⟩ := h.own.sl
  dsimp only at el
  subst el
  obtain rfl : ln = ls.length := (h.own.nlen OpD.len).1
  have HT := Lib.hid h
  have hTl := (Array.getElem?_eq_some_iff.1 h.cell).1
  have hLl := fun b hb => (h.own.blk b hb).2
  clear h
  go_enter Tryz.func104, Tryz.ntmps104
  go_wp2_with fail
  obtain ⟨lo, hlo⟩ : ∃ lo, lo = w.heap.size := ⟨_, rfl⟩
  rw [← hlo]
  have HLO := Lib.hid hlo
  refine (columns_any _).mono ?_
  rintro e w5 ⟨v5, rfl, hown5, b5⟩
  obtain ⟨⟨ca, cn, cc⟩, e5⟩ := hown5.sl
  dsimp only at e5
  subst e5
  obtain rfl : cn = 21 := by have := (hown5.nlen btc_len).1; rw [colsL_len] at this; exact this
  have HS0 : Hid (NS w0 T w (.slice la ls.length lc) ls r ca cc 0 w5 lo tb (.slice none 0 0) [] r []) := Lib.hid (by
    have hz : lo + 1 ≤ (w.alloc (.cells #[.slice none 0 0] 161)).heap.size := by rw [World.size_alloc]; omega
    refine ⟨rfl, ?_, ?_, Own.nil, fun i s hs => by simp at hs, rfl, hown5.mono hz, Nat.le_trans hz b5.size, by omega, fun b hb => by have := hLl b hb; omega⟩
    · exact TKS.below (HT.out.ext ((Ext.refl (fun _ => False) w).alloc _) id (fun _ _ => id) (fun _ _ => id) id) b5
    · exact (b5.block _ (by omega)).trans (by rw [hlo]; exact heap_new8 w _))
  clear hown5 b5 hlo hTl hLl
  go_wp2_with fail
  go_loopg [14] 21 (fun g kv wx => ∃ (k : Nat) (tb rv : Value) (L : List (List Int)) (r2 : List UInt8) (rs : List Sl), g = 21 - k ∧ kv = .int .i64 k ∧ k ≤ 21 ∧ Hid (NS w0 T w (.slice la ls.length lc) ls r ca cc k wx lo tb rv L r2 rs))
  case atStart => exact ⟨0, _, _, _, _, _, rfl, rfl, by omega, HS0⟩
  case round =>
    clear HS0
    obtain ⟨k, tb1, rv, L, r2, rs, hg, rfl, hk, HR⟩ := hrel
    have HG := Lib.hid hg
    clear hg
    by_cases hlt : k < 21
    · have hk1 : (k : Int) < 21 := by omega
      obtain ⟨b9, o9, e9, c9⟩ := (HR.out.col.slice btc_len).at1 (k := k) (x := dlt k) (by simp [colsL, hlt]) rfl
      cases e9
      obtain ⟨ta, tcap, rfl, htc, htm, -⟩ := id HR.out.tks.byt
      unfold maxLen at htm
      have hc0 := HR.out.tks.cell
      have HB := Lib.hid HR.out.tks.bytes
      have hSW : (fun W : World => W.cell? ⟨T, 0, none⟩ = some (.slice ta r2.length tcap) ∧ W.cell? ⟨T, 1, none⟩ = some (.slice la ls.length lc)) wr.drew := ⟨by show World.cell? wr _ = _; simp [World.cell?, hc0], by show World.cell? wr _ = _; simp [World.cell?, hc0]⟩
      clear hc0
      cases hd : dlt k with
      | false =>
        have hcd : colD ls.length (dlt k) r2 = decR ls.length none r2 := by unfold colD; rw [hd]; rfl
        have HCD := Lib.hid hcd
        rw [hd] at c9
        clear hd hcd
        go_upto_region 8 with fail
        clear c9
        refine wp_region_s (fun W : World => W.cell? ⟨T, 0, none⟩ = some (.slice ta r2.length tcap) ∧ W.cell? ⟨T, 1, none⟩ = some (.slice la ls.length lc)) (fun i => i == 17) (by kernel_rfl) ?_
        have HR1 : Hid (NS w0 T w (.slice la ls.length lc) ls r _ cc k wr.drew lo (.slice ta r2.length tcap) rv L r2 rs) := Lib.hid (HR.out.below (Below.refl _ _).drew)
        have HB1 : Hid (SliceIs u8c 1 wr.drew (.slice ta r2.length tcap) r2) := Lib.hid (HR1.out.tks.bytes)
        generalize wr.drew = W1 at hSW HR1 HB1 ⊢
        refine wpAnyS_take (i := 0) (d := some 20) rfl rfl rfl (by kernel_rfl) (by kernel_rfl) (by kernel_rfl) (by kernel_rfl) (fun _ _ _ h => h) (.inl ⟨by rfl, fun W hW => by obtain ⟨q0, q1⟩ := hW; go_simp; try rfl⟩) hSW ?_
        try simp only [Act.put, List.setIfInBounds_toArray, List.set_cons_zero, List.set_cons_succ]
        refine wpAnyS_take (i := 1) (d := some 21) rfl rfl rfl (by kernel_rfl) (by kernel_rfl) (by kernel_rfl) (by kernel_rfl) (fun _ _ _ h => h) (.inl ⟨by rfl, fun W hW => by obtain ⟨q0, q1⟩ := hW; go_simp; try rfl⟩) hSW ?_
        try simp only [Act.put, List.setIfInBounds_toArray, List.set_cons_zero, List.set_cons_succ]
        refine wpAnyS_take (i := 2) (d := some 22) (v := .pointer (some ⟨T, 0, none⟩)) rfl rfl rfl (by kernel_rfl) (by kernel_rfl) (by kernel_rfl) (by kernel_rfl) (fun _ _ _ h => h) (.inl ⟨by rfl, fun W hW => by obtain ⟨q0, q1⟩ := hW; go_simp; try rfl⟩) hSW ?_
        try simp only [Act.put, List.setIfInBounds_toArray, List.set_cons_zero, List.set_cons_succ]
        refine wpAnyS_take (i := 3) (d := some 23) (v := .pointer (some ⟨T, 0, none⟩)) rfl rfl rfl (by kernel_rfl) (by kernel_rfl) (by kernel_rfl) (by kernel_rfl) (fun _ _ _ h => h) (.inl ⟨by rfl, fun W hW => by obtain ⟨q0, q1⟩ := hW; go_simp; try rfl⟩) hSW ?_
        try simp only [Act.put, List.setIfInBounds_toArray, List.set_cons_zero, List.set_cons_succ]
        refine wpAnyS_take (i := 4) (d := some 24) (v := .slice ta r2.length tcap) rfl rfl rfl (by kernel_rfl) (by kernel_rfl) (by kernel_rfl) (by kernel_rfl) (fun _ _ _ h => h) (.inl ⟨by rfl, fun W hW => by obtain ⟨q0, q1⟩ := hW; go_simp; try rfl⟩) hSW ?_
        try simp only [Act.put, List.setIfInBounds_toArray, List.set_cons_zero, List.set_cons_succ]
        refine wpAnyS_take (i := 5) (d := some 25) rfl rfl rfl (by kernel_rfl) (by kernel_rfl) (by kernel_rfl) (by kernel_rfl) (fun _ _ _ h => h) (.inl ⟨by rfl, fun W hW => by obtain ⟨q0, q1⟩ := hW; go_simp; try rfl⟩) hSW ?_
        try simp only [Act.put, List.setIfInBounds_toArray, List.set_cons_zero, List.set_cons_succ]
        refine wpAnyS_take (i := 6) (d := some 26) (v := .pointer (some ⟨T, 0, none⟩)) rfl rfl rfl (by kernel_rfl) (by kernel_rfl) (by kernel_rfl) (by kernel_rfl) (fun _ _ _ h => h) (.inl ⟨by rfl, fun W hW => by obtain ⟨q0, q1⟩ := hW; go_simp; try rfl⟩) hSW ?_
        try simp only [Act.put, List.setIfInBounds_toArray, List.set_cons_zero, List.set_cons_succ]
        refine wpAnyS_take (i := 7) (d := some 27) (v := .pointer (some ⟨T, 1, none⟩)) rfl rfl rfl (by kernel_rfl) (by kernel_rfl) (by kernel_rfl) (by kernel_rfl) (fun _ _ _ h => h) (.inl ⟨by rfl, fun W hW => by obtain ⟨q0, q1⟩ := hW; go_simp; try rfl⟩) hSW ?_
        try simp only [Act.put, List.setIfInBounds_toArray, List.set_cons_zero, List.set_cons_succ]
        refine wpAnyS_take (i := 8) (d := some 28) (v := .slice la ls.length lc) rfl rfl rfl (by kernel_rfl) (by kernel_rfl) (by kernel_rfl) (by kernel_rfl) (fun _ _ _ h => h) (.inl ⟨by rfl, fun W hW => by obtain ⟨q0, q1⟩ := hW; go_simp; try rfl⟩) hSW ?_
        try simp only [Act.put, List.setIfInBounds_toArray, List.set_cons_zero, List.set_cons_succ]
        refine wpAnyS_take (i := 9) (d := some 29) (v := .int .i64 ls.length) rfl rfl rfl (by kernel_rfl) (by kernel_rfl) (by kernel_rfl) (by kernel_rfl) (fun _ _ _ h => h) (.inl ⟨by rfl, fun W hW => by obtain ⟨q0, q1⟩ := hW; go_simp; try rfl⟩) hSW ?_
        try simp only [Act.put, List.setIfInBounds_toArray, List.set_cons_zero, List.set_cons_succ]
        refine wpAnyS_call (i := 10) (d := some 30) (f := 153) (args := #[.slice ta r2.length tcap, .int .i64 ls.length]) (w' := W1) (by kernel_rfl) rfl rfl (by rfl) (by go_simp; try rfl) ?_
        refine (takeruns_any _ r2 ls.length _ HB1.out (by omega)).mono ?_
        rintro e w3 (⟨l, u, v, hdec, rfl, hown, hb⟩ | ⟨hdec, rfl, hb⟩)
        · have hS3 : (fun W : World => W.cell? ⟨T, 0, none⟩ = some (.slice ta r2.length tcap) ∧ W.cell? ⟨T, 1, none⟩ = some (.slice la ls.length lc)) w3 := ⟨(hb.cell (p := ⟨T, 0, none⟩) (cell_lt hSW.1)).trans hSW.1, (hb.cell (p := ⟨T, 1, none⟩) (cell_lt hSW.2)).trans hSW.2⟩
          have HR3 := Lib.hid (HR1.out.below hb)
          refine ⟨_, rfl, fun _ => hS3, ?_⟩
          try simp only [Act.put, List.setIfInBounds_toArray, List.set_cons_zero, List.set_cons_succ]
          refine wpAnyS_take (i := 11) (d := some 19) (v := .tuple #[v, .int .i64 (u : Nat), .int .i64 0]) rfl rfl rfl (by kernel_rfl) (by kernel_rfl) (by kernel_rfl) (by kernel_rfl) (fun _ _ _ h => h) (.inl ⟨by rfl, fun W hW => by obtain ⟨q0, q1⟩ := hW; go_simp; try rfl⟩) hS3 ?_
          try simp only [Act.put, List.setIfInBounds_toArray, List.set_cons_zero, List.set_cons_succ]
          refine wpAnyS_take (i := 12) (d := some 31) (v := v) rfl rfl rfl (by kernel_rfl) (by kernel_rfl) (by kernel_rfl) (by kernel_rfl) (fun _ _ _ h => h) (.inl ⟨by rfl, fun W hW => by obtain ⟨q0, q1⟩ := hW; go_simp; try rfl⟩) hS3 ?_
          try simp only [Act.put, List.setIfInBounds_toArray, List.set_cons_zero, List.set_cons_succ]
          refine wpAnyS_take (i := 13) (d := some 32) (v := .int .i64 (u : Nat)) rfl rfl rfl (by kernel_rfl) (by kernel_rfl) (by kernel_rfl) (by kernel_rfl) (fun _ _ _ h => h) (.inl ⟨by rfl, fun W hW => by obtain ⟨q0, q1⟩ := hW; go_simp; try rfl⟩) hS3 ?_
          try simp only [Act.put, List.setIfInBounds_toArray, List.set_cons_zero, List.set_cons_succ]
          refine wpAnyS_take (i := 14) (d := some 33) (v := .int .i64 0) rfl rfl rfl (by kernel_rfl) (by kernel_rfl) (by kernel_rfl) (by kernel_rfl) (fun _ _ _ h => h) (.inl ⟨by rfl, fun W hW => by obtain ⟨q0, q1⟩ := hW; go_simp; try rfl⟩) hS3 ?_
          try simp only [Act.put, List.setIfInBounds_toArray, List.set_cons_zero, List.set_cons_succ]
          refine wpAnyS_take (i := 15) (d := some 7) (v := v) rfl rfl rfl (by kernel_rfl) (by kernel_rfl) (by kernel_rfl) (by kernel_rfl) (fun _ _ _ h => h) (.inl ⟨by rfl, fun W hW => by obtain ⟨q0, q1⟩ := hW; go_simp; try rfl⟩) hS3 ?_
          try simp only [Act.put, List.setIfInBounds_toArray, List.set_cons_zero, List.set_cons_succ]
          refine wpAnyS_take (i := 16) (d := some 8) (v := .int .i64 (u : Nat)) rfl rfl rfl (by kernel_rfl) (by kernel_rfl) (by kernel_rfl) (by kernel_rfl) (fun _ _ _ h => h) (.inl ⟨by rfl, fun W hW => by obtain ⟨q0, q1⟩ := hW; go_simp; try rfl⟩) hS3 ?_
          try simp only [Act.put, List.setIfInBounds_toArray, List.set_cons_zero, List.set_cons_succ]
          refine wpAnyS_ran (i := 17) (d := some 9) (v := .int .i64 0) (w' := w3) (by kernel_rfl) rfl rfl (by rfl) (by go_simp; try rfl) (fun h => by cases h) ?_
          try simp only [Act.put, List.setIfInBounds_toArray, List.set_cons_zero, List.set_cons_succ]
          refine wpAnyS_done (by kernel_rfl) ?_ _
          clear hS3 hSW
          have HDEC := Lib.hid (HCD.out.trans hdec)
          clear hdec
          have hcf := colD_facts (by omega) HDEC.out
          have hul := hcf.2
          obtain ⟨⟨pa, pn, pc⟩, ep⟩ := hown.sl
          dsimp only at ep
          subst ep
          obtain ⟨⟨va, vn, vc⟩, ev⟩ := HR3.out.own.sl
          dsimp only at ev
          subst ev
          have HOWN : Hid (Own intc 1 3 (lo + 1) w3 (.slice pa pn pc) l) := Lib.hid (hown.mono HR1.out.siz)
          obtain ⟨a1, c1, hsl, hS1, -⟩ := slice_from (P := Tryz.prog) (ea := u8c) Tryz.underlying22 size_u8 ta r2.length tcap u htc hul
          have HBY := Lib.hid (hS1 w0 r2 rfl HR3.out.tks.byt)
          obtain ⟨i0, hi, hy0, hy1, hy2⟩ := info_parts info_rows2
          have HBD : Hid (rs.length + 1 ≤ maxLen ∧ (rs.length + 1) * 24 ≤ 140737488355328) := Lib.hid (by rw [HR3.out.len]; unfold maxLen; omega)
          have c0 := cell_of_one HR3.out.row
          have hne : ¬ T = lo := by have := HR3.out.apt.1; omega
          clear hown hcf hS1
          go_wp2_with (at_builtin; refine wpList_append_struct2 rfl _ _ _ rfl i0 _ 24 Tryz.underlying161 hi hy0 hy1 hy2 rfl (by omega) slc_len slc_one rfl (HR3.out.own.alloc _) (⟨pa, pn, pc⟩ : Sl) w3.heap.size 1 rfl (slc_new _ ⟨pa, pn, pc⟩) HBD.out.1 HBD.out.2 (by have := HR3.out.siz; simp; omega) ?_)
          intro v' w4 hown4 hx4 hn4
          obtain ⟨⟨ua, un, uc⟩, e4⟩ := hown4.sl
          dsimp only at e4
          subst e4
          have hxa : Ext (fun b => (Value.slice va vn vc).ownBlock = some b) w3 w4 := ((Ext.refl _ _).alloc _).andThen hx4 (fun i hi e => e)
          have g4 : w4.heap[lo]? = some (.cells #[.slice va vn vc] 161 (0, 0)) := (hxa.block _ (by have := HR3.out.siz; omega) (fun e => by have := (HR3.out.own.blk _ e).1; omega)).trans HR3.out.row
          have gT : w4.heap[T]? = some (.cells #[.slice ta r2.length tcap, .slice la ls.length lc] 90 (0, 0)) := (hxa.block _ (by have := HR3.out.siz; have := HR3.out.apt.1; omega) (fun e => by have := (HR3.out.own.blk _ e).1; have := HR3.out.apt.1; omega)).trans HR3.out.tks.cell
          have c4 := cell_of_one g4
          have f4 := free_of_one g4
          have cT : w4.cell? ⟨T, 0, none⟩ = some (.slice ta r2.length tcap) := by simp [World.cell?, gT]
          have fT : w4.frozen? ⟨T, 0, none⟩ = false := by simp [World.frozen?, gT]
          have HN := Lib.hid (HR3.out.push (by omega) HDEC.out HOWN.out hown4 hx4 HBY.out)
          clear hown4 hx4 hn4 hxa g4 gT HOWN HBY c0
          go_wp2_with fail
          go_roundg (21 - (k + 1))
          case measure => rw [HG.out]; omega
          case rel => exact ⟨k + 1, _, _, _, _, _, rfl, by simp, by omega, HN⟩
        · have hS3 : (fun W : World => W.cell? ⟨T, 0, none⟩ = some (.slice ta r2.length tcap) ∧ W.cell? ⟨T, 1, none⟩ = some (.slice la ls.length lc)) w3 := ⟨(hb.cell (p := ⟨T, 0, none⟩) (cell_lt hSW.1)).trans hSW.1, (hb.cell (p := ⟨T, 1, none⟩) (cell_lt hSW.2)).trans hSW.2⟩
          have HR3 := Lib.hid (HR1.out.below hb)
          refine ⟨_, rfl, fun _ => hS3, ?_⟩
          try simp only [Act.put, List.setIfInBounds_toArray, List.set_cons_zero, List.set_cons_succ]
          refine wpAnyS_take (i := 11) (d := some 19) (v := .tuple #[.slice none 0 0, .int .i64 0, .int .i64 41]) rfl rfl rfl (by kernel_rfl) (by kernel_rfl) (by kernel_rfl) (by kernel_rfl) (fun _ _ _ h => h) (.inl ⟨by rfl, fun W hW => by obtain ⟨q0, q1⟩ := hW; go_simp; try rfl⟩) hS3 ?_
          try simp only [Act.put, List.setIfInBounds_toArray, List.set_cons_zero, List.set_cons_succ]
          refine wpAnyS_take (i := 12) (d := some 31) (v := .slice none 0 0) rfl rfl rfl (by kernel_rfl) (by kernel_rfl) (by kernel_rfl) (by kernel_rfl) (fun _ _ _ h => h) (.inl ⟨by rfl, fun W hW => by obtain ⟨q0, q1⟩ := hW; go_simp; try rfl⟩) hS3 ?_
          try simp only [Act.put, List.setIfInBounds_toArray, List.set_cons_zero, List.set_cons_succ]
          refine wpAnyS_take (i := 13) (d := some 32) (v := .int .i64 0) rfl rfl rfl (by kernel_rfl) (by kernel_rfl) (by kernel_rfl) (by kernel_rfl) (fun _ _ _ h => h) (.inl ⟨by rfl, fun W hW => by obtain ⟨q0, q1⟩ := hW; go_simp; try rfl⟩) hS3 ?_
          try simp only [Act.put, List.setIfInBounds_toArray, List.set_cons_zero, List.set_cons_succ]
          refine wpAnyS_take (i := 14) (d := some 33) (v := .int .i64 41) rfl rfl rfl (by kernel_rfl) (by kernel_rfl) (by kernel_rfl) (by kernel_rfl) (fun _ _ _ h => h) (.inl ⟨by rfl, fun W hW => by obtain ⟨q0, q1⟩ := hW; go_simp; try rfl⟩) hS3 ?_
          try simp only [Act.put, List.setIfInBounds_toArray, List.set_cons_zero, List.set_cons_succ]
          refine wpAnyS_take (i := 15) (d := some 7) (v := .slice none 0 0) rfl rfl rfl (by kernel_rfl) (by kernel_rfl) (by kernel_rfl) (by kernel_rfl) (fun _ _ _ h => h) (.inl ⟨by rfl, fun W hW => by obtain ⟨q0, q1⟩ := hW; go_simp; try rfl⟩) hS3 ?_
          try simp only [Act.put, List.setIfInBounds_toArray, List.set_cons_zero, List.set_cons_succ]
          refine wpAnyS_take (i := 16) (d := some 8) (v := .int .i64 0) rfl rfl rfl (by kernel_rfl) (by kernel_rfl) (by kernel_rfl) (by kernel_rfl) (fun _ _ _ h => h) (.inl ⟨by rfl, fun W hW => by obtain ⟨q0, q1⟩ := hW; go_simp; try rfl⟩) hS3 ?_
          try simp only [Act.put, List.setIfInBounds_toArray, List.set_cons_zero, List.set_cons_succ]
          refine wpAnyS_ran (i := 17) (d := some 9) (v := .int .i64 41) (w' := w3) (by kernel_rfl) rfl rfl (by rfl) (by go_simp; try rfl) (fun h => by cases h) ?_
          try simp only [Act.put, List.setIfInBounds_toArray, List.set_cons_zero, List.set_cons_succ]
          refine wpAnyS_done (by kernel_rfl) ?_ _
          clear hS3 hSW
          have HBAD : Hid (decCols ls.length 21 r = none) := Lib.hid (decCols_bad HR3.out.dec (HCD.out.trans hdec) hlt)
          clear hdec
          go_wp2_with fail
          go_ret
          exact .inr ⟨HBAD.out, ⟨_, _, rfl⟩, HR3.out.tks.kp⟩
      | true =>
        have hcd : colD ls.length (dlt k) r2 = decD ls.length r2 := by unfold colD; rw [hd]; rfl
        have HCD := Lib.hid hcd
        rw [hd] at c9
        clear hd hcd
        go_upto_region 8 with fail
        clear c9
        refine wp_region_s (fun W : World => W.cell? ⟨T, 0, none⟩ = some (.slice ta r2.length tcap) ∧ W.cell? ⟨T, 1, none⟩ = some (.slice la ls.length lc)) (fun i => i == 17) (by kernel_rfl) ?_
        have HR1 : Hid (NS w0 T w (.slice la ls.length lc) ls r _ cc k wr.drew lo (.slice ta r2.length tcap) rv L r2 rs) := Lib.hid (HR.out.below (Below.refl _ _).drew)
        have HB1 : Hid (SliceIs u8c 1 wr.drew (.slice ta r2.length tcap) r2) := Lib.hid (HR1.out.tks.bytes)
        generalize wr.drew = W1 at hSW HR1 HB1 ⊢
        refine wpAnyS_take (i := 0) (d := some 20) rfl rfl rfl (by kernel_rfl) (by kernel_rfl) (by kernel_rfl) (by kernel_rfl) (fun _ _ _ h => h) (.inl ⟨by rfl, fun W hW => by obtain ⟨q0, q1⟩ := hW; go_simp; try rfl⟩) hSW ?_
        try simp only [Act.put, List.setIfInBounds_toArray, List.set_cons_zero, List.set_cons_succ]
        refine wpAnyS_take (i := 1) (d := some 21) rfl rfl rfl (by kernel_rfl) (by kernel_rfl) (by kernel_rfl) (by kernel_rfl) (fun _ _ _ h => h) (.inl ⟨by rfl, fun W hW => by obtain ⟨q0, q1⟩ := hW; go_simp; try rfl⟩) hSW ?_
        try simp only [Act.put, List.setIfInBounds_toArray, List.set_cons_zero, List.set_cons_succ]
        refine wpAnyS_take (i := 2) (d := some 22) (v := .pointer (some ⟨T, 0, none⟩)) rfl rfl rfl (by kernel_rfl) (by kernel_rfl) (by kernel_rfl) (by kernel_rfl) (fun _ _ _ h => h) (.inl ⟨by rfl, fun W hW => by obtain ⟨q0, q1⟩ := hW; go_simp; try rfl⟩) hSW ?_
        try simp only [Act.put, List.setIfInBounds_toArray, List.set_cons_zero, List.set_cons_succ]
        refine wpAnyS_take (i := 3) (d := some 23) (v := .pointer (some ⟨T, 0, none⟩)) rfl rfl rfl (by kernel_rfl) (by kernel_rfl) (by kernel_rfl) (by kernel_rfl) (fun _ _ _ h => h) (.inl ⟨by rfl, fun W hW => by obtain ⟨q0, q1⟩ := hW; go_simp; try rfl⟩) hSW ?_
        try simp only [Act.put, List.setIfInBounds_toArray, List.set_cons_zero, List.set_cons_succ]
        refine wpAnyS_take (i := 4) (d := some 24) (v := .slice ta r2.length tcap) rfl rfl rfl (by kernel_rfl) (by kernel_rfl) (by kernel_rfl) (by kernel_rfl) (fun _ _ _ h => h) (.inl ⟨by rfl, fun W hW => by obtain ⟨q0, q1⟩ := hW; go_simp; try rfl⟩) hSW ?_
        try simp only [Act.put, List.setIfInBounds_toArray, List.set_cons_zero, List.set_cons_succ]
        refine wpAnyS_take (i := 5) (d := some 25) rfl rfl rfl (by kernel_rfl) (by kernel_rfl) (by kernel_rfl) (by kernel_rfl) (fun _ _ _ h => h) (.inl ⟨by rfl, fun W hW => by obtain ⟨q0, q1⟩ := hW; go_simp; try rfl⟩) hSW ?_
        try simp only [Act.put, List.setIfInBounds_toArray, List.set_cons_zero, List.set_cons_succ]
        refine wpAnyS_take (i := 6) (d := some 26) (v := .pointer (some ⟨T, 0, none⟩)) rfl rfl rfl (by kernel_rfl) (by kernel_rfl) (by kernel_rfl) (by kernel_rfl) (fun _ _ _ h => h) (.inl ⟨by rfl, fun W hW => by obtain ⟨q0, q1⟩ := hW; go_simp; try rfl⟩) hSW ?_
        try simp only [Act.put, List.setIfInBounds_toArray, List.set_cons_zero, List.set_cons_succ]
        refine wpAnyS_take (i := 7) (d := some 27) (v := .pointer (some ⟨T, 1, none⟩)) rfl rfl rfl (by kernel_rfl) (by kernel_rfl) (by kernel_rfl) (by kernel_rfl) (fun _ _ _ h => h) (.inl ⟨by rfl, fun W hW => by obtain ⟨q0, q1⟩ := hW; go_simp; try rfl⟩) hSW ?_
        try simp only [Act.put, List.setIfInBounds_toArray, List.set_cons_zero, List.set_cons_succ]
        refine wpAnyS_take (i := 8) (d := some 28) (v := .slice la ls.length lc) rfl rfl rfl (by kernel_rfl) (by kernel_rfl) (by kernel_rfl) (by kernel_rfl) (fun _ _ _ h => h) (.inl ⟨by rfl, fun W hW => by obtain ⟨q0, q1⟩ := hW; go_simp; try rfl⟩) hSW ?_
        try simp only [Act.put, List.setIfInBounds_toArray, List.set_cons_zero, List.set_cons_succ]
        refine wpAnyS_take (i := 9) (d := some 29) (v := .int .i64 ls.length) rfl rfl rfl (by kernel_rfl) (by kernel_rfl) (by kernel_rfl) (by kernel_rfl) (fun _ _ _ h => h) (.inl ⟨by rfl, fun W hW => by obtain ⟨q0, q1⟩ := hW; go_simp; try rfl⟩) hSW ?_
        try simp only [Act.put, List.setIfInBounds_toArray, List.set_cons_zero, List.set_cons_succ]
        refine wpAnyS_call (i := 10) (d := some 30) (f := 154) (args := #[.slice ta r2.length tcap, .int .i64 ls.length]) (w' := W1) (by kernel_rfl) rfl rfl (by rfl) (by go_simp; try rfl) ?_
        refine (takedeltas_any _ r2 ls.length _ HB1.out (by omega)).mono ?_
        rintro e w3 (⟨l, u, v, hdec, rfl, hown, hb⟩ | ⟨hdec, rfl, hb⟩)
        · have hS3 : (fun W : World => W.cell? ⟨T, 0, none⟩ = some (.slice ta r2.length tcap) ∧ W.cell? ⟨T, 1, none⟩ = some (.slice la ls.length lc)) w3 := ⟨(hb.cell (p := ⟨T, 0, none⟩) (cell_lt hSW.1)).trans hSW.1, (hb.cell (p := ⟨T, 1, none⟩) (cell_lt hSW.2)).trans hSW.2⟩
          have HR3 := Lib.hid (HR1.out.below hb)
          refine ⟨_, rfl, fun _ => hS3, ?_⟩
          try simp only [Act.put, List.setIfInBounds_toArray, List.set_cons_zero, List.set_cons_succ]
          refine wpAnyS_take (i := 11) (d := some 19) (v := .tuple #[v, .int .i64 (u : Nat), .int .i64 0]) rfl rfl rfl (by kernel_rfl) (by kernel_rfl) (by kernel_rfl) (by kernel_rfl) (fun _ _ _ h => h) (.inl ⟨by rfl, fun W hW => by obtain ⟨q0, q1⟩ := hW; go_simp; try rfl⟩) hS3 ?_
          try simp only [Act.put, List.setIfInBounds_toArray, List.set_cons_zero, List.set_cons_succ]
          refine wpAnyS_take (i := 12) (d := some 31) (v := v) rfl rfl rfl (by kernel_rfl) (by kernel_rfl) (by kernel_rfl) (by kernel_rfl) (fun _ _ _ h => h) (.inl ⟨by rfl, fun W hW => by obtain ⟨q0, q1⟩ := hW; go_simp; try rfl⟩) hS3 ?_
          try simp only [Act.put, List.setIfInBounds_toArray, List.set_cons_zero, List.set_cons_succ]
          refine wpAnyS_take (i := 13) (d := some 32) (v := .int .i64 (u : Nat)) rfl rfl rfl (by kernel_rfl) (by kernel_rfl) (by kernel_rfl) (by kernel_rfl) (fun _ _ _ h => h) (.inl ⟨by rfl, fun W hW => by obtain ⟨q0, q1⟩ := hW; go_simp; try rfl⟩) hS3 ?_
          try simp only [Act.put, List.setIfInBounds_toArray, List.set_cons_zero, List.set_cons_succ]
          refine wpAnyS_take (i := 14) (d := some 33) (v := .int .i64 0) rfl rfl rfl (by kernel_rfl) (by kernel_rfl) (by kernel_rfl) (by kernel_rfl) (fun _ _ _ h => h) (.inl ⟨by rfl, fun W hW => by obtain ⟨q0, q1⟩ := hW; go_simp; try rfl⟩) hS3 ?_
          try simp only [Act.put, List.setIfInBounds_toArray, List.set_cons_zero, List.set_cons_succ]
          refine wpAnyS_take (i := 15) (d := some 7) (v := v) rfl rfl rfl (by kernel_rfl) (by kernel_rfl) (by kernel_rfl) (by kernel_rfl) (fun _ _ _ h => h) (.inl ⟨by rfl, fun W hW => by obtain ⟨q0, q1⟩ := hW; go_simp; try rfl⟩) hS3 ?_
          try simp only [Act.put, List.setIfInBounds_toArray, List.set_cons_zero, List.set_cons_succ]
          refine wpAnyS_take (i := 16) (d := some 8) (v := .int .i64 (u : Nat)) rfl rfl rfl (by kernel_rfl) (by kernel_rfl) (by kernel_rfl) (by kernel_rfl) (fun _ _ _ h => h) (.inl ⟨by rfl, fun W hW => by obtain ⟨q0, q1⟩ := hW; go_simp; try rfl⟩) hS3 ?_
          try simp only [Act.put, List.setIfInBounds_toArray, List.set_cons_zero, List.set_cons_succ]
          refine wpAnyS_ran (i := 17) (d := some 9) (v := .int .i64 0) (w' := w3) (by kernel_rfl) rfl rfl (by rfl) (by go_simp; try rfl) (fun h => by cases h) ?_
          try simp only [Act.put, List.setIfInBounds_toArray, List.set_cons_zero, List.set_cons_succ]
          refine wpAnyS_done (by kernel_rfl) ?_ _
          clear hS3 hSW
          have HDEC := Lib.hid (HCD.out.trans hdec)
          clear hdec
          have hcf := colD_facts (by omega) HDEC.out
          have hul := hcf.2
          obtain ⟨⟨pa, pn, pc⟩, ep⟩ := hown.sl
          dsimp only at ep
          subst ep
          obtain ⟨⟨va, vn, vc⟩, ev⟩ := HR3.out.own.sl
          dsimp only at ev
          subst ev
          have HOWN : Hid (Own intc 1 3 (lo + 1) w3 (.slice pa pn pc) l) := Lib.hid (hown.mono HR1.out.siz)
          obtain ⟨a1, c1, hsl, hS1, -⟩ := slice_from (P := Tryz.prog) (ea := u8c) Tryz.underlying22 size_u8 ta r2.length tcap u htc hul
          have HBY := Lib.hid (hS1 w0 r2 rfl HR3.out.tks.byt)
          obtain ⟨i0, hi, hy0, hy1, hy2⟩ := info_parts info_rows2
          have HBD : Hid (rs.length + 1 ≤ maxLen ∧ (rs.length + 1) * 24 ≤ 140737488355328) := Lib.hid (by rw [HR3.out.len]; unfold maxLen; omega)
          have c0 := cell_of_one HR3.out.row
          have hne : ¬ T = lo := by have := HR3.out.apt.1; omega
          clear hown hcf hS1
          go_wp2_with (at_builtin; refine wpList_append_struct2 rfl _ _ _ rfl i0 _ 24 Tryz.underlying161 hi hy0 hy1 hy2 rfl (by omega) slc_len slc_one rfl (HR3.out.own.alloc _) (⟨pa, pn, pc⟩ : Sl) w3.heap.size 1 rfl (slc_new _ ⟨pa, pn, pc⟩) HBD.out.1 HBD.out.2 (by have := HR3.out.siz; simp; omega) ?_)
          intro v' w4 hown4 hx4 hn4
          obtain ⟨⟨ua, un, uc⟩, e4⟩ := hown4.sl
          dsimp only at e4
          subst e4
          have hxa : Ext (fun b => (Value.slice va vn vc).ownBlock = some b) w3 w4 := ((Ext.refl _ _).alloc _).andThen hx4 (fun i hi e => e)
          have g4 : w4.heap[lo]? = some (.cells #[.slice va vn vc] 161 (0, 0)) := (hxa.block _ (by have := HR3.out.siz; omega) (fun e => by have := (HR3.out.own.blk _ e).1; omega)).trans HR3.out.row
          have gT : w4.heap[T]? = some (.cells #[.slice ta r2.length tcap, .slice la ls.length lc] 90 (0, 0)) := (hxa.block _ (by have := HR3.out.siz; have := HR3.out.apt.1; omega) (fun e => by have := (HR3.out.own.blk _ e).1; have := HR3.out.apt.1; omega)).trans HR3.out.tks.cell
          have c4 := cell_of_one g4
          have f4 := free_of_one g4
          have cT : w4.cell? ⟨T, 0, none⟩ = some (.slice ta r2.length tcap) := by simp [World.cell?, gT]
          have fT : w4.frozen? ⟨T, 0, none⟩ = false := by simp [World.frozen?, gT]
          have HN := Lib.hid (HR3.out.push (by omega) HDEC.out HOWN.out hown4 hx4 HBY.out)
          clear hown4 hx4 hn4 hxa g4 gT HOWN HBY c0
          go_wp2_with fail
          go_roundg (21 - (k + 1))
          case measure => rw [HG.out]; omega
          case rel => exact ⟨k + 1, _, _, _, _, _, rfl, by simp, by omega, HN⟩
        · have hS3 : (fun W : World => W.cell? ⟨T, 0, none⟩ = some (.slice ta r2.length tcap) ∧ W.cell? ⟨T, 1, none⟩ = some (.slice la ls.length lc)) w3 := ⟨(hb.cell (p := ⟨T, 0, none⟩) (cell_lt hSW.1)).trans hSW.1, (hb.cell (p := ⟨T, 1, none⟩) (cell_lt hSW.2)).trans hSW.2⟩
          have HR3 := Lib.hid (HR1.out.below hb)
          refine ⟨_, rfl, fun _ => hS3, ?_⟩
          try simp only [Act.put, List.setIfInBounds_toArray, List.set_cons_zero, List.set_cons_succ]
          refine wpAnyS_take (i := 11) (d := some 19) (v := .tuple #[.slice none 0 0, .int .i64 0, .int .i64 41]) rfl rfl rfl (by kernel_rfl) (by kernel_rfl) (by kernel_rfl) (by kernel_rfl) (fun _ _ _ h => h) (.inl ⟨by rfl, fun W hW => by obtain ⟨q0, q1⟩ := hW; go_simp; try rfl⟩) hS3 ?_
          try simp only [Act.put, List.setIfInBounds_toArray, List.set_cons_zero, List.set_cons_succ]
          refine wpAnyS_take (i := 12) (d := some 31) (v := .slice none 0 0) rfl rfl rfl (by kernel_rfl) (by kernel_rfl) (by kernel_rfl) (by kernel_rfl) (fun _ _ _ h => h) (.inl ⟨by rfl, fun W hW => by obtain ⟨q0, q1⟩ := hW; go_simp; try rfl⟩) hS3 ?_
          try simp only [Act.put, List.setIfInBounds_toArray, List.set_cons_zero, List.set_cons_succ]
          refine wpAnyS_take (i := 13) (d := some 32) (v := .int .i64 0) rfl rfl rfl (by kernel_rfl) (by kernel_rfl) (by kernel_rfl) (by kernel_rfl) (fun _ _ _ h => h) (.inl ⟨by rfl, fun W hW => by obtain ⟨q0, q1⟩ := hW; go_simp; try rfl⟩) hS3 ?_
          try simp only [Act.put, List.setIfInBounds_toArray, List.set_cons_zero, List.set_cons_succ]
          refine wpAnyS_take (i := 14) (d := some 33) (v := .int .i64 41) rfl rfl rfl (by kernel_rfl) (by kernel_rfl) (by kernel_rfl) (by kernel_rfl) (fun _ _ _ h => h) (.inl ⟨by rfl, fun W hW => by obtain ⟨q0, q1⟩ := hW; go_simp; try rfl⟩) hS3 ?_
          try simp only [Act.put, List.setIfInBounds_toArray, List.set_cons_zero, List.set_cons_succ]
          refine wpAnyS_take (i := 15) (d := some 7) (v := .slice none 0 0) rfl rfl rfl (by kernel_rfl) (by kernel_rfl) (by kernel_rfl) (by kernel_rfl) (fun _ _ _ h => h) (.inl ⟨by rfl, fun W hW => by obtain ⟨q0, q1⟩ := hW; go_simp; try rfl⟩) hS3 ?_
          try simp only [Act.put, List.setIfInBounds_toArray, List.set_cons_zero, List.set_cons_succ]
          refine wpAnyS_take (i := 16) (d := some 8) (v := .int .i64 0) rfl rfl rfl (by kernel_rfl) (by kernel_rfl) (by kernel_rfl) (by kernel_rfl) (fun _ _ _ h => h) (.inl ⟨by rfl, fun W hW => by obtain ⟨q0, q1⟩ := hW; go_simp; try rfl⟩) hS3 ?_
          try simp only [Act.put, List.setIfInBounds_toArray, List.set_cons_zero, List.set_cons_succ]
          refine wpAnyS_ran (i := 17) (d := some 9) (v := .int .i64 41) (w' := w3) (by kernel_rfl) rfl rfl (by rfl) (by go_simp; try rfl) (fun h => by cases h) ?_
          try simp only [Act.put, List.setIfInBounds_toArray, List.set_cons_zero, List.set_cons_succ]
          refine wpAnyS_done (by kernel_rfl) ?_ _
          clear hS3 hSW
          have HBAD : Hid (decCols ls.length 21 r = none) := Lib.hid (decCols_bad HR3.out.dec (HCD.out.trans hdec) hlt)
          clear hdec
          go_wp2_with fail
          go_ret
          exact .inr ⟨HBAD.out, ⟨_, _, rfl⟩, HR3.out.tks.kp⟩
    · obtain rfl : k = 21 := by omega
      have hk1 : ¬ (21 : Int) < 21 := by omega
      have hc0 := HR.out.tks.cell
      have c1 : wr.cell? ⟨T, 1, none⟩ = some (.slice la ls.length lc) := by simp [World.cell?, hc0]
      have HN0 : Hid (N2 w0 T (.slice la ls.length lc) ls lo tb1 rv L r2 rs 0 wr) := Lib.hid ⟨by rw [mixN_zero]; exact HR.out.tks, HR.out.row, HR.out.own, HR.out.num, HR.out.siz⟩
      have HF : Hid (decCols ls.length 21 r = some (L, r2) ∧ rs.length = 21 ∧ T < lo ∧ (∀ b, (Value.slice la ls.length lc).ownBlock = some b → b < lo)) := Lib.hid ⟨HR.out.dec, HR.out.len, HR.out.apt⟩
      clear hc0 hk hlt HR
      go_wp2_with fail
      clear c1
      go_loopg [59] ls.length (fun g kv wx => ∃ i : Nat, g = ls.length - i ∧ kv = .int .i64 i ∧ i ≤ ls.length ∧ Hid (N2 w0 T (.slice la ls.length lc) ls lo tb1 rv L r2 rs i wx))
      case atStart => exact ⟨0, rfl, rfl, by omega, HN0⟩
      case round =>
        clear HN0
        obtain ⟨i, hg, rfl, hk, HR⟩ := hrel
        have HG := Lib.hid hg
        clear hg
        by_cases hlt : i < ls.length
        · have hk1 : (i : Int) < (ls.length : Int) := by omega
          go_upto_region 18 with fail
          obtain ⟨x, hx⟩ : ∃ x, ls[i]? = some x := ⟨_, List.getElem?_eq_getElem hlt⟩
          have HX := Lib.hid hx
          obtain ⟨g, cap, e, hg1, hg2⟩ := HR.out.tks.own.eq_slice.resolve_left (fun e => by have h2 := e.2; have h3 := mixN_len L i ls; rw [h2] at h3; simp at h3; omega)
          injection e with e1 e2 e3
          subst e1 e3
          clear e2
          have hgl : g < lo := HF.out.2.2.2 g rfl
          have hc0 := HR.out.tks.cell
          have hsz := HR.out.siz
          have hTl := HF.out.2.2.1
          have hi0 : (0 : Int) ≤ (i : Int) := by omega
          have HNR := Lib.hid (HR.out.reads HF.out.2.1 (decCols_len (by omega) HF.out.1) hlt)
          obtain ⟨W1, hW1⟩ : ∃ W1, (wr.alloc (.cells #[.int .i64 i] 3)).alloc (.cells #[.int .i64 0] 3) = W1 := ⟨_, rfl⟩
          have hz1 : W1.heap.size = wr.heap.size + 2 := by rw [← hW1]; simp
          have hx1 : Ext (fun _ => False) wr W1 := by rw [← hW1]; exact ((Ext.refl _ _).alloc _).alloc _
          have hBi : W1.heap[wr.heap.size]? = some (.cells #[.int .i64 i] 3 (0, 0)) := by rw [← hW1]; exact (Below.heap_alloc _ _ _ (by simp)).trans (heap_new8 wr _)
          have hBc : W1.heap[wr.heap.size + 1]? = some (.cells #[.int .i64 0] 3 (0, 0)) := by
            rw [← hW1]
            have := heap_new8 (wr.alloc (.cells #[.int .i64 i] 3)) (.cells #[.int .i64 0] 3)
            rwa [World.size_alloc] at this
          rw [hW1]
          clear hW1
          have hSW : (fun W : World => W.cell? ⟨T, 1, none⟩ = some (.slice (some ⟨g, 0, none⟩) ls.length lc) ∧ W.cell? ⟨wr.heap.size, 0, none⟩ = some (.int .i64 i)) W1.drew := ⟨by show World.cell? W1 _ = _; simp [World.cell?, (hx1.block T (by omega) id).trans hc0], cell_of_one hBi⟩
          refine wp_region_s (fun W : World => W.cell? ⟨T, 1, none⟩ = some (.slice (some ⟨g, 0, none⟩) ls.length lc) ∧ W.cell? ⟨wr.heap.size, 0, none⟩ = some (.int .i64 i)) (fun _ => false) (by kernel_rfl) ?_
          have hxd : Ext (fun _ => False) W1 W1.drew := (Ext.refl _ _).drew
          have HW := Lib.hid (And.intro hz1 (And.intro hx1 (And.intro hBi (And.intro hBc hxd))))
          clear hz1 hx1 hBi hBc hxd hc0
          have hz : W1.drew.heap.size = W1.heap.size := rfl
          generalize hWd : W1.drew = W2 at hSW HW hz ⊢
          have HX1 : Hid (Ext (fun _ => False) wr W2 ∧ W2.heap.size = wr.heap.size + 2 ∧ W2.heap[wr.heap.size]? = some (.cells #[.int .i64 i] 3 (0, 0)) ∧ W2.heap[wr.heap.size + 1]? = some (.cells #[.int .i64 0] 3 (0, 0))) := Lib.hid (by
            have h := HW.out
            refine ⟨h.2.1.andThen h.2.2.2.2 (fun _ _ f => f), hz.trans h.1, (h.2.2.2.2.block _ (by omega) id).trans h.2.2.1, (h.2.2.2.2.block _ (by omega) id).trans h.2.2.2.1⟩)
          clear hWd HW hz
  
          refine wpAnyS_take (i := 0) (d := some 62) rfl rfl rfl (by kernel_rfl) (by kernel_rfl) (by kernel_rfl) (by kernel_rfl) (fun _ _ _ h => h) (.inl ⟨by rfl, fun W hW => by obtain ⟨q0, q1⟩ := hW; go_simp; try rfl⟩) hSW ?_
          try simp only [Act.put, List.setIfInBounds_toArray, List.set_cons_zero, List.set_cons_succ]
          refine wpAnyS_take (i := 1) (d := some 63) (v := .pointer (some ⟨T, 0, none⟩)) rfl rfl rfl (by kernel_rfl) (by kernel_rfl) (by kernel_rfl) (by kernel_rfl) (fun _ _ _ h => h) (.inl ⟨by rfl, fun W hW => by obtain ⟨q0, q1⟩ := hW; go_simp; try rfl⟩) hSW ?_
          try simp only [Act.put, List.setIfInBounds_toArray, List.set_cons_zero, List.set_cons_succ]
          refine wpAnyS_take (i := 2) (d := some 64) (v := .pointer (some ⟨T, 1, none⟩)) rfl rfl rfl (by kernel_rfl) (by kernel_rfl) (by kernel_rfl) (by kernel_rfl) (fun _ _ _ h => h) (.inl ⟨by rfl, fun W hW => by obtain ⟨q0, q1⟩ := hW; go_simp; try rfl⟩) hSW ?_
          try simp only [Act.put, List.setIfInBounds_toArray, List.set_cons_zero, List.set_cons_succ]
          refine wpAnyS_take (i := 3) (d := some 65) (v := .slice (some ⟨g, 0, none⟩) ls.length lc) rfl rfl rfl (by kernel_rfl) (by kernel_rfl) (by kernel_rfl) (by kernel_rfl) (fun _ _ _ h => h) (.inl ⟨by rfl, fun W hW => by obtain ⟨q0, q1⟩ := hW; go_simp; try rfl⟩) hSW ?_
          try simp only [Act.put, List.setIfInBounds_toArray, List.set_cons_zero, List.set_cons_succ]
          refine wpAnyS_take (i := 4) (d := some 66) (v := .int .i64 i) rfl rfl rfl (by kernel_rfl) (by kernel_rfl) (by kernel_rfl) (by kernel_rfl) (fun _ _ _ h => h) (.inl ⟨by rfl, fun W hW => by obtain ⟨q0, q1⟩ := hW; go_simp; try rfl⟩) hSW ?_
          try simp only [Act.put, List.setIfInBounds_toArray, List.set_cons_zero, List.set_cons_succ]
          refine wpAnyS_take (i := 5) (d := some 67) (v := .pointer (some ⟨g, i * 26, none⟩)) rfl rfl rfl (by kernel_rfl) (by kernel_rfl) (by kernel_rfl) (by kernel_rfl) (fun _ _ _ h => h) (.inl ⟨by rfl, fun W hW => by obtain ⟨q0, q1⟩ := hW; go_simp; try rfl⟩) hSW ?_
          try simp only [Act.put, List.setIfInBounds_toArray, List.set_cons_zero, List.set_cons_succ]
          refine wpAnyS_take (i := 6) (d := some 68) (v := .func (.func 155) #[] #[.pointer (some ⟨lo, 0, none⟩), .pointer (some ⟨wr.heap.size + 1, 0, none⟩), .pointer (some ⟨wr.heap.size, 0, none⟩)]) rfl rfl rfl (by kernel_rfl) (by kernel_rfl) (by kernel_rfl) (by kernel_rfl) (fun _ _ _ h => h) (.inl ⟨by rfl, fun W hW => by obtain ⟨q0, q1⟩ := hW; go_simp; try rfl⟩) hSW ?_
          try simp only [Act.put, List.setIfInBounds_toArray, List.set_cons_zero, List.set_cons_succ]
          obtain ⟨rb, rcap, erv, rb1, rb2, hrow⟩ := HNR.out
          have hbe : Ext (fun _ => False) wr W2 := HX1.out.1
          have hz2 := HX1.out.2.1
          have hN : NR W2 lo (wr.heap.size + 2) lo wr.heap.size rb rcap i (colF L i) (wr.heap.size + 1) :=
            ⟨by rw [← erv]; exact cell_of_one ((hbe.block _ (by omega) id).trans HR.out.row), cell_of_one HX1.out.2.2.1, fun c hc => by
              obtain ⟨sb, sn, sc, q1, q2, q3, q4⟩ := hrow c hc
              exact ⟨sb, sn, sc, hbe.keep q1 id, ⟨by omega, by omega, by omega⟩, q3, hbe.keep q4 id⟩, ⟨⟨Nat.le_refl _, by omega, by omega⟩, ⟨by omega, by omega, by omega⟩, ⟨by omega, by omega, by omega⟩, by omega, by omega⟩⟩
          have hJ0 : JN W2 lo (wr.heap.size + 2) (wr.heap.size + 1) 0 (fun k => k < lo) W2 := ⟨fun k hk => .inl hk, fun _ _ _ _ => rfl, HX1.out.2.2.2, by omega, by omega, by omega⟩
          have hN2 := HR.out.ext hbe (fun _ f => f.elim) HF.out.2.2
          have hown3 := hN2.tks.own
          rw [show ls.length = (mixN L i ls).length from (mixN_len L i ls).symm] at hown3
          have hAt : At g (i * 26) x (fld x) W2 := At.of_cells (fun j u hj => hown3.cellAt OpD.len (mixN_at L i HX.out) hj) (fun j _ => hown3.free _)
          refine wpAnyS_call (i := 7) (d := some 69) (f := 92) (args := #[.pointer (some ⟨g, i * 26, none⟩), .func (.func 155) #[] #[.pointer (some ⟨lo, 0, none⟩), .pointer (some ⟨wr.heap.size + 1, 0, none⟩), .pointer (some ⟨wr.heap.size, 0, none⟩)]]) (w' := W2) (by kernel_rfl) rfl rfl (by rfl) (by go_simp; try rfl) ?_
          refine (ints_any (enters_of Tryz.func155 (by kernel_rfl) rfl) g (i * 26) x (colF L i) (JN W2 lo (wr.heap.size + 2) (wr.heap.size + 1)) (fun k => k < lo) W2 (nums_use hN (fld x)) (JN.jok _ _ _ _ _) hgl hAt hJ0).mono ?_
          rintro e w3 ⟨⟨v3, rfl⟩, hJ, hA3, hx3, hR3⟩
          have hxx : Ext (fun k => k = g ∨ k = wr.heap.size + 1) W2 w3 := ⟨hx3.os, hx3.tape, hx3.output, hx3.size, fun k hk hn => by
            by_cases h : k < lo
            · exact hx3.block k hk (fun e => e.elim (fun e => e h) (fun e => hn (.inl e)))
            · exact hJ.2.1 k (by omega) (by omega) (fun e => hn (.inr e))⟩
          have HN : Hid (N2 w0 T (.slice (some ⟨g, 0, none⟩) ls.length lc) ls lo tb1 rv L r2 rs (i + 1) w3) := Lib.hid (hN2.put HR.out hxx (by omega) HX.out hA3 hR3 HF.out.2.2)
          refine ⟨_, rfl, fun _ => ⟨hxx.keep hSW.1 (fun e => e.elim (fun e => ?_) (fun e => by omega)), hxx.keep hSW.2 (fun e => by omega)⟩, ?_⟩
          · have h1 := hN2.tks.cell
            obtain ⟨c2, h2⟩ := hN2.tks.own.tag (b := g) rfl
            rw [e, h2] at h1
            cases h1
          try simp only [Act.put, List.setIfInBounds_toArray, List.set_cons_zero, List.set_cons_succ]
          refine wpAnyS_done (by kernel_rfl) ?_ _
          clear hxx hx3 hJ hA3 hR3 hAt hown3 hN2 hJ0 hN hbe hrow hSW HX1 HNR HR
          go_wp2_with fail
          go_roundg (ls.length - (i + 1))
          case measure => rw [HG.out]; omega
          case rel => exact ⟨i + 1, rfl, by simp, by omega, HN⟩
        · obtain rfl : i = ls.length := by omega
          have hk1 : ¬ (ls.length : Int) < (ls.length : Int) := by omega
          go_wp2_with fail
          go_ret
          exact .inl ⟨_, _, HF.out.1, rfl, _, HR.out.tks⟩
end Go.Proofs.YtgmdimbiipemhaaGreatDoor
namespace Go.Proofs.YtgmdimbiipemhaaGreatDoor
open Go.RowKit Go.Deep
set_option linter.unusedSimpArgs false
set_option linter.unusedVariables false
set_option maxRecDepth 20000 in
set_option maxHeartbeats 1000000 in
theorem takebools_any (v : Value) (b : List UInt8) (n : Nat) (w : World) (h : SliceIs u8c 1 w v b) (hn0 : n ≤ 65536) : Calls Tryz.prog 156 #[v, .int .i64 n] w fun e w' => TbPost w b n e w' := by
  obtain ⟨a, cap, rfl, hcap, hmax, -⟩ := id h
  unfold maxLen at hmax
  have HH := Lib.hid h
  clear h
  have hn1 : ¬ (n : Int) < 0 := by omega
  have hn2 : ¬ (65536 : Int) < (n : Int) := by omega
  go_enter Tryz.func156, Tryz.ntmps156
  go_wp2_with fail
  go_loopg [7, 8, 9] (2 * n + 1) (fun g lv pv vv wr => ∃ (s : Sl) (l : List Bool) (p : Nat) (v : Bool), g = 2 * (n - l.length) + (if p = 0 then 1 else 0) ∧ lv = .slice s.a s.n s.cap ∧ pv = .int .i64 p ∧ vv = .bool v ∧ s.n = l.length ∧ l.length ≤ n ∧ p ≤ b.length ∧ Hid (TB b n l p v) ∧ Hid (Own btc 1 4 w.heap.size wr (.slice s.a s.n s.cap) l ∧ Below w.heap.size w wr))
  case atStart => exact ⟨⟨none, 0, 0⟩, [], 0, false, by simp, rfl, rfl, rfl, rfl, Nat.zero_le _, Nat.zero_le _, Lib.hid (TB.zero b n), Lib.hid ⟨Own.nil, Below.refl _ _⟩⟩
  case round =>
    obtain ⟨⟨sa, sn, sc⟩, l, p, v, hg, rfl, rfl, rfl, hsn, hln, hpb, HT, HU⟩ := hrel
    dsimp only at hsn HU ⊢
    subst hsn
    have HG := Lib.hid hg
    clear hg
    by_cases hlt : l.length < n
    · have hl1 : (l.length : Int) < (n : Int) := by omega
      obtain ⟨a1, c1, hsl, hS1, -⟩ := slice_from (P := Tryz.prog) (ea := u8c) Tryz.underlying22 size_u8 a b.length cap p hcap hpb
      have HS := Lib.hid (hS1 wr b rfl (HH.out.below HU.out.2))
      clear hS1
      go_wp2_with fail
      refine (take_any _ _ _ HS.out).mono ?_
      rintro e w5 ⟨rfl, e5⟩
      rw [← e5]
      clear e5 w5 HS
      cases hk : takeV (b.drop p) with
      | none =>
        have hr : takeR (b.drop p) = .tuple #[.int .u64 0, .int .i64 0, .int .i64 31] := by unfold takeR; rw [hk]
        have HD := Lib.hid (HT.out.bad hlt (.inl hk))
        rw [hr]
        clear hk hr hsl
        go_wp2_with fail
        go_ret3
        exact .inr ⟨HD.out, rfl, HU.out.2⟩
      | some k =>
        have hr : takeR (b.drop p) = .tuple #[.int .u64 k, .int .i64 (putB k).length, .int .i64 0] := by unfold takeR; rw [hk]
        have hk64 := (takeV_some.1 hk).1
        rw [hr]
        obtain ⟨q, hq⟩ : ∃ q, (putB k).length = q := ⟨_, rfl⟩
        rw [hq]
        obtain ⟨r, hrr⟩ : ∃ r : Nat, r = n - l.length := ⟨_, rfl⟩
        have hsub : (n : Int) - (l.length : Int) = (r : Int) := by omega
        by_cases hz : k = 0 ∧ p ≠ 0
        · obtain ⟨rfl, hp0⟩ := hz
          have hp4 : (0 : Int) < (p : Int) := by omega
          have HD := Lib.hid (HT.out.bad hlt (.inr ⟨0, hk, .inl ⟨rfl, hp0⟩⟩))
          clear hk hr hq hrr hp0 hsl
          go_wp2_with fail
          go_ret3
          exact .inr ⟨HD.out, rfl, HU.out.2⟩
        · have hz3 : ((k : Int) == 0) = false ∨ (((k : Int) == 0) = true ∧ ¬ (0 : Int) < (p : Int) ∧ decide (0 < p) = false) := by
            by_cases e : k = 0
            · have : p = 0 := Classical.byContradiction fun h => hz ⟨e, h⟩
              exact .inr ⟨by rw [e]; rfl, by omega, decide_eq_false (by omega)⟩
            · exact .inl (by have : ¬ (k : Int) = 0 := by omega
                             simpa using this)
          by_cases hkn : r < k
          · have hk1 : (r : Int) < (k : Int) := by omega
            have HD := Lib.hid (HT.out.bad hlt (.inr ⟨k, hk, .inr (by omega)⟩))
            clear hk hr hq hrr hkn hz hsl
            rcases hz3 with hz3 | ⟨hz3, hz4, hz5⟩
            all_goals
              go_wp2_with fail
              go_ret3
              exact .inr ⟨HD.out, rfl, HU.out.2⟩
          · have hk1 : ¬ (r : Int) < (k : Int) := by omega
            have HNX := Lib.hid (HT.out.step hlt hk hz (by omega))
            rw [hq] at HNX
            have hqp := (takeV_some.1 hk).2.length_le
            rw [hq, List.length_drop] at hqp
            have hq0 : 0 < q := by rw [← hq]; exact List.length_pos_iff.2 (putB_ne k)
            have HQ : Hid (0 < q ∧ p + q ≤ b.length) := Lib.hid ⟨hq0, by omega⟩
            have HKN : Hid (k ≤ n - l.length ∧ (k = 0 → p = 0)) := Lib.hid ⟨by omega, fun e => Classical.byContradiction fun h => hz ⟨e, h⟩⟩
            have hdk : decide (n - l.length < k) = false := decide_eq_false (by omega)
            have hk65 : k ≤ 65536 := by omega
            clear hk hr hq hqp hq0 hkn hz hsl hrr
            have hpq : IntKind.i64.wrap ((p : Int) + (q : Int)) = ((p + q : Nat) : Int) := by rw [IntWalk.i64_in _ (by have := HQ.out; omega)]; omega
            have HC := Lib.hid (repbt_any v wr.heap.size 1 k (wr.alloc (.cells #[.bool v] 4)) (bt_new wr v 0 _ rfl) hk65 (Nat.le_refl _))
            rcases hz3 with hz3 | ⟨hz3, hz4, hz5⟩
            all_goals
              go_wp2_with fail
              refine HC.out.mono ?_
              rintro e w6 ⟨v6, rfl, hown6, b6⟩
              have hb0 : Below w.heap.size w (wr.alloc (.cells #[.bool v] 4)) := HU.out.2.alloc HU.out.2.size _
              obtain ⟨⟨ta, tn, tc⟩, w7, hr7, own7, b7, hsz7⟩ := bools_append ((HU.out.1.alloc _).below1 b6) (hb0.trans (b6.mono hb0.size)) (hown6.slice btc_len) (Nat.le_trans hb0.size b6.size) (by rw [List.length_replicate]; omega)
              have HX := Lib.hid (And.intro own7 b7)
              have HTN := Lib.hid (own7.nlen btc_len).1
              clear own7 b7 hown6 b6 hb0 HC hsz7
              go_wp2_with (at_builtin; refine Lib.wpList_append_run _ rfl _ _ _ _ rfl _ _ rfl rfl _ _ hr7 ?_)
              go_roundg (2 * (n - (l ++ List.replicate k v).length) + (if p + q = 0 then 1 else 0))
              case measure => rw [HG.out, List.length_append, List.length_replicate, if_neg (by have := HQ.out; omega)]; have h1 := HKN.out; split <;> omega
              case rel => exact ⟨⟨ta, tn, tc⟩, l ++ List.replicate k v, p + q, !v, rfl, rfl, rfl, rfl, HTN.out, by rw [List.length_append, List.length_replicate]; have h1 := HKN.out.1; omega, HQ.out.2, HNX, HX⟩
    · have hll : l.length = n := by omega
      have hl1 : ¬ (l.length : Int) < (n : Int) := by omega
      have HD := Lib.hid (HT.out.done hll)
      clear hll hlt
      go_wp2_with fail
      go_ret3
      exact .inl ⟨l, p, _, HD.out, rfl, HU.out.1, HU.out.2⟩
end Go.Proofs.YtgmdimbiipemhaaGreatDoor
