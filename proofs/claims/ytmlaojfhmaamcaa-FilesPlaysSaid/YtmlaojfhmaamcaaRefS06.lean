/- Layer 6's document answer: contract of Names (it puts each name in its place). -/
import Derived.Test.YtmlaojfhmaamcaaRefV06
import Derived.Test.YtmlaojfhmaamcaaNames06
import Derived.Sort.Walk0
import Derived.Laws.Strings
namespace Go.Proofs.Ytmlaojfhmaamcaa
open Go.RowKit Go.Deep
set_option linter.unusedSimpArgs false
set_option linter.unusedVariables false

/-- Names in order. -/
def SortedN (l : List ByteArray) : Prop := l.Pairwise (fun a b => a.data.toList ≤ b.data.toList)
theorem sorted_eq {l m : List ByteArray} (h : SortedN l) (hp : l.Perm m) : l = sortN m := by
  unfold sortN
  have h1 : (m.map fun n => n.data.toList).mergeSort (fun x y => decide (x ≤ y)) = l.map fun n => n.data.toList := by
    refine List.Perm.eq_of_pairwise (fun a b _ _ hab hba => ?_) (List.pairwise_mergeSort leB_trans leB_total _) (List.pairwise_map.2 (h.imp (fun {a b} hab => by simpa using hab))) ((List.mergeSort_perm _ _).trans (hp.symm.map _))
    rw [decide_eq_true_eq] at hab hba
    exact List.le_antisymm hab hba
  rw [h1, List.map_map]
  conv => lhs; rw [← List.map_id l]
  refine List.map_congr_left (fun a _ => ?_)
  simp
/-- A name on its way to its place: the others are in order, and it is not behind those behind it. -/
structure InsAt (xs ys : List ByteArray) (k : Nat) : Prop where
  perm : ys.Perm xs
  lt : k < ys.length
  rest : SortedN (ys.eraseIdx k)
  up : ∀ (j : Nat) x y, k < j → ys[k]? = some x → ys[j]? = some y → x.data.toList ≤ y.data.toList
theorem ins_first {l : List ByteArray} (h : SortedN l) (x : ByteArray) : InsAt (l ++ [x]) (l ++ [x]) l.length := by
  refine ⟨List.Perm.refl _, by simp, ?_, fun j a b hj ha hb => ?_⟩
  · rw [List.eraseIdx_append_of_length_le (Nat.le_refl _)]; simpa using h
  · have := (List.getElem?_eq_some_iff.1 hb).1
    rw [List.length_append] at this
    simp at this
    omega
theorem getElem?_eraseIdx_lt {α : Type} (l : List α) {i j : Nat} (h : j < i) : (l.eraseIdx i)[j]? = l[j]? := by rw [List.getElem?_eraseIdx]; rw [if_pos h]
theorem getElem?_eraseIdx_ge {α : Type} (l : List α) {i j : Nat} (h : i ≤ j) : (l.eraseIdx i)[j]? = l[j + 1]? := by rw [List.getElem?_eraseIdx]; rw [if_neg (by omega)]
/-- It stands. -/
theorem InsAt.stands {xs ys : List ByteArray} {k : Nat} (h : InsAt xs ys k) (hk : ∀ (x y : ByteArray), 0 < k → ys[k]? = some x → ys[k - 1]? = some y → y.data.toList ≤ x.data.toList) : SortedN ys := by
  have hr := pairwise_get.1 h.rest
  refine pairwise_get.2 (fun i j x y hij hx hy => ?_)
  by_cases h1 : i < k
  · by_cases h2 : j < k
    · exact hr i j x y hij (by rw [getElem?_eraseIdx_lt _ h1]; exact hx) (by rw [getElem?_eraseIdx_lt _ h2]; exact hy)
    · by_cases h3 : j = k
      · subst h3
        obtain ⟨z, hz⟩ : ∃ z, ys[j - 1]? = some z := ⟨_, List.getElem?_eq_getElem (by have := h.lt; omega)⟩
        have hzy := hk y z (by omega) hy hz
        by_cases h4 : i = j - 1
        · subst h4; rw [hz] at hx; cases hx; exact hzy
        · exact List.le_trans (hr i (j - 1) x z (by omega) (by rw [getElem?_eraseIdx_lt _ h1]; exact hx) (by rw [getElem?_eraseIdx_lt _ (by omega)]; exact hz)) hzy
      · exact hr i (j - 1) x y (by omega) (by rw [getElem?_eraseIdx_lt _ h1]; exact hx) (by rw [getElem?_eraseIdx_ge _ (by omega), show j - 1 + 1 = j by omega]; exact hy)
  · by_cases h2 : i = k
    · subst h2; exact h.up j x y hij hx hy
    · exact hr (i - 1) (j - 1) x y (by omega) (by rw [getElem?_eraseIdx_ge _ (by omega), show i - 1 + 1 = i by omega]; exact hx) (by rw [getElem?_eraseIdx_ge _ (by omega), show j - 1 + 1 = j by omega]; exact hy)
/-- One exchange. -/
def swapN (ys : List ByteArray) (k : Nat) (x y : ByteArray) : List ByteArray := (ys.set k y).set (k - 1) x
theorem swap_at (ys : List ByteArray) {k : Nat} {x y : ByteArray} (hk0 : 0 < k) (hx : ys[k]? = some x) (hy : ys[k - 1]? = some y) (i : Nat) : (swapN ys k x y)[i]? = if i = k - 1 then some x else if i = k then some y else ys[i]? := by
  have h1 := (List.getElem?_eq_some_iff.1 hx).1
  unfold swapN
  rw [List.getElem?_set, List.getElem?_set, List.length_set]
  by_cases e1 : k - 1 = i
  · rw [if_pos e1, if_pos (by omega), if_pos e1.symm]
  · rw [if_neg e1, if_neg (show ¬ i = k - 1 from fun e => e1 e.symm)]
    by_cases e2 : k = i
    · rw [if_pos e2, if_pos (by omega), if_pos e2.symm]
    · rw [if_neg e2, if_neg (show ¬ i = k from fun e => e2 e.symm)]
theorem InsAt.swap {xs ys : List ByteArray} {k : Nat} (h : InsAt xs ys k) {x y : ByteArray} (hk0 : 0 < k) (hx : ys[k]? = some x) (hy : ys[k - 1]? = some y) (hlt : x.data.toList < y.data.toList) : InsAt xs (swapN ys k x y) (k - 1) := by
  have hr := pairwise_get.1 h.rest
  have hl : (swapN ys k x y).length = ys.length := by simp [swapN]
  have he : (swapN ys k x y).eraseIdx (k - 1) = ys.eraseIdx k := by
    apply List.ext_getElem?
    intro i
    by_cases h1 : i < k - 1
    · rw [getElem?_eraseIdx_lt _ h1, getElem?_eraseIdx_lt _ (by omega), swap_at ys hk0 hx hy, if_neg (by omega), if_neg (by omega)]
    · rw [getElem?_eraseIdx_ge _ (by omega), swap_at ys hk0 hx hy, if_neg (by omega)]
      by_cases h2 : i + 1 = k
      · rw [if_pos h2, getElem?_eraseIdx_lt _ (by omega), ← hy]; congr 1; omega
      · rw [if_neg h2, getElem?_eraseIdx_ge _ (by omega)]
  refine ⟨?_, by rw [hl]; have := h.lt; omega, by rw [he]; exact h.rest, fun j a b hj ha hb => ?_⟩
  · refine List.Perm.trans ?_ h.perm
    have p1 := perm_erase (l := ys) (i := k) hx
    have p2 := perm_erase (l := swapN ys k x y) (i := k - 1) (x := x) (by rw [swap_at ys hk0 hx hy, if_pos rfl])
    rw [he] at p2
    exact p2.trans p1.symm
  · rw [swap_at ys hk0 hx hy, if_pos rfl] at ha
    cases ha
    rw [swap_at ys hk0 hx hy, if_neg (by omega)] at hb
    by_cases e : j = k
    · rw [if_pos e] at hb; cases hb; exact List.le_of_lt hlt
    · rw [if_neg e] at hb
      exact h.up j x b (by omega) hx hb

theorem info_str : (Try.prog.info? 9).map (fun i => (i.zero, i.size, i.bytes)) = some (some (.string ⟨#[]⟩), 1, 16) := by kernel_rfl
theorem str_alloc (W : World) (x : ByteArray) : ∀ j u, (strc x)[j]? = some u → (W.alloc (.cells #[.string x] 9)).cell? ⟨W.heap.size, j, none⟩ = some u := by
  intro j u hj
  rw [World.cell?_alloc_at _ _ _ _ rfl, ← hj, strc]
  simp

set_option maxRecDepth 100000 in
set_option maxHeartbeats 4000000 in
theorem rnames_any {base : Nat} {w : World} {rb : Nat} {v : Value} {R : RefA} (h : RefIs base w rb v R) {N : Nat} (hs : R.Small N) (hN : N ≤ 100000) :
    Calls Try.prog 41 #[.pointer (some ⟨rb, 0, none⟩)] w fun e w' => ∃ v', e = .returned v' ∧ Own strc 1 9 w.heap.size w' v' (sortN ((nowR R.L).map (·.name))) ∧ Below w.heap.size w w' := by
  obtain ⟨i0, hi, hz0, hz1, hz2⟩ := info_parts info_str
  obtain ⟨qs, hqo, hql, hqp⟩ := h.steps
  obtain ⟨a, cap, rfl, hcap, hmax, hcs⟩ := hqo.slice Stp.len
  unfold maxLen at hmax
  have r0 := Joins.cell_of_block h.blk 0
  simp only [List.getElem?_toArray, List.getElem?_cons_succ, List.getElem?_cons_zero] at r0
  have hlt := h.lt
  have hll : R.L.length ≤ 1000000 := by have := hs.len; omega
  have hstp := h.steps
  have hnl : (nowR R.L).length ≤ 100000 := by have := nowR_len R.L R.L.length; rw [List.take_length] at this; have := hs.len; omega
  have HNOW := Lib.hid (now_any hstp hll)
  clear hqo hqp hcs hql h hll hstp
  go_enter Try.func41, Try.ntmps41
  go_wp2_with fail
  refine HNOW.out.mono ?_
  rintro e w1 ⟨v1, rfl, hsl, b1⟩
  obtain ⟨l, hl⟩ : ∃ l, nowR R.L = l := ⟨_, rfl⟩
  rw [hl] at hsl hnl
  have HLL := Lib.hid hl
  clear hl
  obtain ⟨a1, c1, e1, hc1, hm1, _⟩ := id hsl
  unfold maxLen at hm1
  subst e1
  have HSL := Lib.hid hsl
  have HB1 := Lib.hid b1
  clear hsl b1
  go_wp2_with fail
  go_loopg [4, 5] l.length (fun g vv iv wr => ∃ (k : Nat) (s : Sl) (ys : List ByteArray), g = l.length - k ∧ k ≤ l.length ∧ vv = .slice s.a s.n s.cap ∧ iv = .int .i64 k ∧ ys.length = k ∧ Hid (SortedN ys ∧ ys.Perm ((l.take k).map (·.name)) ∧ Own strc 1 9 w1.heap.size wr (.slice s.a s.n s.cap) ys ∧ Below w1.heap.size w1 wr))
  case atStart => exact ⟨0, ⟨none, 0, 0⟩, [], by omega, by omega, rfl, rfl, rfl, Lib.hid ⟨List.Pairwise.nil, by simp, Own.nil, Below.refl _ _⟩⟩
  case round =>
    obtain ⟨k, ⟨sa, sn, sc⟩, ys, hg, hk, rfl, rfl, hyl, hU⟩ := hrel
    dsimp only at hU ⊢
    have HGG := Lib.hid hg
    clear hg
    by_cases hkl : k < l.length
    · obtain ⟨x, hx⟩ : ∃ x, l[k]? = some x := ⟨_, List.getElem?_eq_getElem hkl⟩
      obtain ⟨_, _, e1, _, _, hh⟩ := HSL.out.below hU.out.2.2.2
      cases e1
      obtain ⟨b, o, e2, hcc⟩ := hh (by intro e; rw [e] at hx; simp at hx)
      subst e2
      have x0 := hcc k x hx 0 _ rfl
      simp only [Nat.add_zero] at x0
      have hkk : (k : Int) < (l.length : Int) := by omega
      have HPM : Hid ((ys ++ [x.name]).Perm ((l.take (k + 1)).map (·.name))) := Lib.hid (by rw [List.take_add_one, hx, Option.toList_some, List.map_append]; exact hU.out.2.1.append_right _)
      have hss := hU.out.2.2.2.size
      clear hx hcc hh
      go_wp2_with (at_builtin; refine wpList_append_struct rfl _ _ _ rfl i0 _ 16 Try.underlying39 hi hz0 hz1 hz2 rfl (by omega) strc_len strc_one rfl (hU.out.2.2.1.alloc _) x.name wr.heap.size 1 rfl (str_alloc _ x.name) (by unfold maxLen; omega) (by omega) (by simp; omega) ?_)
      intro v' w3 hown3 hx3
      obtain ⟨s3, e3⟩ := hown3.sl
      change v' = .slice s3.a s3.n s3.cap at e3
      subst e3
      have es3 : s3.n = (ys ++ [x.name]).length := by
        obtain ⟨_, _, e, _⟩ := hown3.slice strc_len
        simp only [Value.slice.injEq] at e
        exact e.2.1
      have hB3 := Ext.new (hU.out.2.2.2.alloc hU.out.2.2.2.size _) hx3 (fun i hi _ e => by have := (hU.out.2.2.1.blk i e).1; omega) (by simp; omega)
      have hins := ins_first hU.out.1 x.name
      rw [hyl] at hins
      have hl3 : (ys ++ [x.name]).length = k + 1 := by simp [hyl]
      rw [hl3] at es3
      obtain ⟨g3, ea3⟩ : ∃ g3, s3.a = some ⟨g3, 0, none⟩ := by
        rcases hown3.eq_slice with ⟨_, e2⟩ | ⟨g, c, e, _⟩
        · simp at e2
        · simp only [Value.slice.injEq] at e; exact ⟨g, e.1⟩
      obtain ⟨a3, n3, c3⟩ := s3
      dsimp only at es3 ea3 hown3
      subst es3 ea3
      obtain ⟨_, _, e9, hc3, hm3, _⟩ := hown3.slice strc_len
      simp only [Value.slice.injEq] at e9
      obtain ⟨rfl, _, rfl⟩ := e9
      rw [hl3] at hc3
      unfold maxLen at hm3
      have HI0 : Hid (InsAt (ys ++ [x.name]) (ys ++ [x.name]) k ∧ Own strc 1 9 w1.heap.size w3 (.slice (some ⟨g3, 0, none⟩) (k + 1) c3) (ys ++ [x.name]) ∧ Below w1.heap.size w1 w3) := Lib.hid ⟨hins, hown3, hB3⟩
      clear hown3 hx3 hB3 hins hU
      obtain ⟨m, hm⟩ : ∃ m, k + 1 = m := ⟨_, rfl⟩
      have hm1 : (m : Int) - 1 = (k : Int) := by omega
      rw [hm] at HI0 hl3 hc3 ⊢
      have HM := Lib.hid hm
      go_wp2_with fail
      go_loopg [6] k (fun g kv wr => ∃ (j : Nat) (zs : List ByteArray), g = j ∧ j ≤ k ∧ kv = .int .i64 j ∧ zs.length = m ∧ Hid (InsAt (ys ++ [x.name]) zs j ∧ Own strc 1 9 w1.heap.size wr (.slice (some ⟨g3, 0, none⟩) m c3) zs ∧ Below w1.heap.size w1 wr))
      case atStart => exact ⟨k, _, rfl, by omega, by simp, hl3, HI0⟩
      case round =>
        obtain ⟨j, zs, hg, hj, rfl, hzl, hV⟩ := hrel
        have HGJ := Lib.hid hg
        clear hg
        have hdone : SortedN zs → Hid (SortedN zs ∧ zs.Perm ((l.take (k + 1)).map (·.name)) ∧ Own strc 1 9 w1.heap.size wr (.slice (some ⟨g3, 0, none⟩) m c3) zs ∧ Below w1.heap.size w1 wr) := fun h => Lib.hid ⟨h, hV.out.1.perm.trans HPM.out, hV.out.2.1, hV.out.2.2⟩
        by_cases hj0 : 0 < j
        · obtain ⟨p, hp⟩ : ∃ p, zs[j]? = some p := ⟨_, List.getElem?_eq_getElem (by omega)⟩
          obtain ⟨q, hq⟩ : ∃ q, zs[j - 1]? = some q := ⟨_, List.getElem?_eq_getElem (by omega)⟩
          have ho := hV.out.2.1
          rw [← hzl] at ho
          have p0 := ho.cellAt strc_len hp (j := 0) rfl
          have q0 := ho.cellAt strc_len hq (j := 0) rfl
          simp only [Nat.add_zero, Nat.mul_one] at p0 q0
          have hj1 : (0 : Int) < (j : Int) := by omega
          have hjz : ((j - 1 : Nat) : Int) = (j : Int) - 1 := by omega
          by_cases hlt : p.data.toList < q.data.toList
          · have hb : Op.bytesLess p.toList q.toList = true := by rw [bytesLess_eq, ByteArray.toList_eq, ByteArray.toList_eq]; simpa using hlt
            have HSW := Lib.hid (hV.out.1.swap hj0 hp hq hlt)
            have HPQ := Lib.hid (And.intro hp hq)
            have HV2 : Hid (∀ n, Own strc 1 9 w1.heap.size (wr.drewN n) (.slice (some ⟨g3, 0, none⟩) m c3) zs ∧ Below w1.heap.size w1 (wr.drewN n)) := Lib.hid (fun n => ⟨hV.out.2.1, below_drewN hV.out.2.2 n⟩)
            clear hV ho hp hq hdone hlt
            go_upto_region 8 with fail
            go_quiet (fail)
            have hV3 := HV2.out nq
            generalize wr.drewN nq = wx at *
            clear HV2
            obtain ⟨ho, hbx⟩ := hV3
            rw [← hzl] at ho
            have p0 := ho.cellAt strc_len HPQ.out.1 (j := 0) rfl
            have q0 := ho.cellAt strc_len HPQ.out.2 (j := 0) rfl
            simp only [Nat.add_zero, Nat.mul_one] at p0 q0
            have ho1 := ho.setAt strc_len (j := 0) (y := q) (u := .string q) HPQ.out.1 (by omega) rfl
            rw [Nat.add_zero, Nat.mul_one] at ho1
            have hq1 : (zs.set j q)[j - 1]? = some q := by rw [List.getElem?_set, if_neg (by omega)]; exact HPQ.out.2
            have ho2 := Own.setAt (l := zs.set j q) (by rw [List.length_set]; exact ho1) strc_len (j := 0) (y := p) (u := .string p) hq1 (by omega) rfl
            rw [Nat.add_zero, Nat.mul_one, List.length_set, hzl] at ho2
            have hfr := ho.free j
            have hfr1 : (wx.setCell ⟨g3, j, none⟩ (.string q)).frozen? ⟨g3, j - 1, none⟩ = false := Own.free (l := zs.set j q) (by rw [List.length_set]; exact ho1) (j - 1)
            have hbb : ∀ b, (Value.slice (some ⟨g3, 0, none⟩) zs.length c3).ownBlock = some b → w1.heap.size ≤ b := fun b hb => (ho.blk b hb).1
            have hg3 := hbb g3 rfl
            have HN : Hid (InsAt (ys ++ [x.name]) (swapN zs j p q) (j - 1) ∧ Own strc 1 9 w1.heap.size ((wx.setCell ⟨g3, j, none⟩ (.string q)).setCell ⟨g3, j - 1, none⟩ (.string p)) (.slice (some ⟨g3, 0, none⟩) m c3) (swapN zs j p q) ∧ Below w1.heap.size w1 ((wx.setCell ⟨g3, j, none⟩ (.string q)).setCell ⟨g3, j - 1, none⟩ (.string p))) := Lib.hid ⟨HSW.out, ho2, (hbx.setCell hg3 _).setCell hg3 _⟩
            clear ho ho1 ho2 hbb hbx hq1
            go_wp2_with fail
            go_roundg (j - 1)
            case measure => rw [HGJ.out]; omega
            case rel => exact ⟨j - 1, _, rfl, by omega, by simp; omega, by simp [swapN, hzl], HN⟩
          · have hb : Op.bytesLess p.toList q.toList = false := by rw [bytesLess_eq, ByteArray.toList_eq, ByteArray.toList_eq]; simpa using hlt
            have HN0 := hdone (hV.out.1.stands (fun x y _ hx hy => by rw [hp] at hx; rw [hq] at hy; cases hx; cases hy; exact List.not_lt.1 hlt))
            have HN : Hid (∀ n, SortedN zs ∧ zs.Perm ((l.take (k + 1)).map (·.name)) ∧ Own strc 1 9 w1.heap.size (wr.drewN n) (.slice (some ⟨g3, 0, none⟩) m c3) zs ∧ Below w1.heap.size w1 (wr.drewN n)) := Lib.hid (fun n => ⟨HN0.out.1, HN0.out.2.1, HN0.out.2.2.1, below_drewN HN0.out.2.2.2 n⟩)
            clear hV ho hp hq hdone hlt HN0
            go_upto_region 8 with fail
            go_quiet (fail)
            go_wp2_with fail
            go_roundg (l.length - (k + 1))
            case measure => rw [HGG.out]; omega
            case rel => exact ⟨k + 1, ⟨_, _, _⟩, zs, rfl, by omega, rfl, by simp, by rw [hzl, HM.out], Lib.hid (HN.out _)⟩
        · have HN0 := hdone (hV.out.1.stands (fun x y h0 _ _ => absurd h0 hj0))
          have hj1 : ¬ (0 : Int) < (j : Int) := by omega
          have HN : Hid (∀ n, SortedN zs ∧ zs.Perm ((l.take (k + 1)).map (·.name)) ∧ Own strc 1 9 w1.heap.size (wr.drewN n) (.slice (some ⟨g3, 0, none⟩) m c3) zs ∧ Below w1.heap.size w1 (wr.drewN n)) := Lib.hid (fun n => ⟨HN0.out.1, HN0.out.2.1, HN0.out.2.2.1, below_drewN HN0.out.2.2.2 n⟩)
          clear hV hdone HN0
          go_upto_region 8 with fail
          go_quiet (fail)
          go_wp2_with fail
          go_roundg (l.length - (k + 1))
          case measure => rw [HGG.out]; omega
          case rel => exact ⟨k + 1, ⟨_, _, _⟩, zs, rfl, by omega, rfl, by simp, by rw [hzl, HM.out], Lib.hid (HN.out _)⟩
    · obtain rfl : k = l.length := by omega
      have hown := hU.out.2.2.1
      have hpm := hU.out.2.1
      rw [List.take_length] at hpm
      rw [sorted_eq hU.out.1 hpm] at hown
      have HN := Lib.hid (And.intro (hown.mono HB1.out.size) (HB1.out.trans (hU.out.2.2.2.mono HB1.out.size)))
      clear hown hU
      go_wp2
      go_ret
      rw [HLL.out]
      exact ⟨_, rfl, HN.out.1, HN.out.2⟩

end Go.Proofs.Ytmlaojfhmaamcaa
