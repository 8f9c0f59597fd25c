/- Contract of the reference's All: the walk. -/
import Derived.Test.YtkkffnejgbhbmaaRefAll15
namespace Go.Proofs.Ytkkffnejgbhbmaa
open Go.RowKit
set_option linter.unusedSimpArgs false
set_option linter.unusedVariables false

/-- Is the write of this block, and of no name of O? -/
def isNew (x : Write) (b : St) (O : List Atr) : Bool := decide (x.blk = b) && O.all (fun a => !(a.name.toList == x.name.toList))
theorem isNew_take {x : Write} {b : St} {O : List Atr} {j : Nat} {a : Atr} (h : O[j]? = some a) : isNew x b (O.take (j + 1)) = (isNew x b (O.take j) && !(a.name.toList == x.name.toList)) := by
  obtain ⟨hj, e⟩ := List.getElem?_eq_some_iff.1 h
  rw [List.take_succ_eq_append_getElem hj, e]
  simp [isNew, Bool.and_assoc]

theorem own_attr {base : Nat} {w : World} {g n cap : Nat} {l : List Atr} (h : Own Atr.cells 2 45 base w (.slice (some ⟨g, 0, none⟩) n cap) l) :
    n = l.length ∧ n ≤ cap ∧ cap ≤ maxLen ∧ g < w.heap.size ∧ ∀ (i : Nat) (a : Atr), l[i]? = some a → w.cell? ⟨g, i * 2, none⟩ = some (.string a.name) ∧ w.cell? ⟨g, i * 2 + 1, none⟩ = some (.string a.value) ∧ w.frozen? ⟨g, i * 2, none⟩ = false ∧ w.frozen? ⟨g, i * 2 + 1, none⟩ = false := by
  rcases h.eq_slice with ⟨h1, _⟩ | ⟨g', cap', h1, _, hlt⟩
  · simp at h1
  · simp only [Value.slice.injEq, Option.some.injEq, Addr.mk.injEq, and_true] at h1
    obtain ⟨rfl, rfl, rfl⟩ := h1
    obtain ⟨va, vc, hv, h2, h3, h4⟩ := h.slice (fun _ => rfl)
    simp only [Value.slice.injEq, true_and] at hv
    obtain ⟨rfl, rfl⟩ := hv
    refine ⟨rfl, h2, h3, hlt, fun i a hi => ?_⟩
    obtain ⟨b, o, he, hc⟩ := h4 (by intro e; rw [e] at hi; simp at hi)
    simp only [Option.some.injEq, Addr.mk.injEq, and_true] at he
    obtain ⟨rfl, rfl⟩ := he
    have c1 := hc i a hi 0 _ rfl
    have c2 := hc i a hi 1 _ rfl
    rw [Nat.zero_add] at c1 c2
    exact ⟨c1, c2, World.ownsRow.frozenAt h _, World.ownsRow.frozenAt h _⟩

theorem own_set2n {base : Nat} {w : World} {g n cap : Nat} {l : List Atr} (h : Own Atr.cells 2 45 base w (.slice (some ⟨g, 0, none⟩) n cap) l) (i : Nat) (x : Atr) (hi : i < l.length) :
    Own Atr.cells 2 45 base ((w.setCell ⟨g, i * 2, none⟩ (.string x.name)).setCell ⟨g, i * 2 + 1, none⟩ (.string x.value)) (.slice (some ⟨g, 0, none⟩) n cap) (l.set i x) := by
  obtain ⟨rfl, _⟩ := own_attr h
  exact own_set2 h i x hi

theorem own_swap {base : Nat} {w : World} {g n cap : Nat} {O : List Atr} {a c : Atr} {k : Nat} (h : Own Atr.cells 2 45 base w (.slice (some ⟨g, 0, none⟩) n cap) (insAt O a (k + 1))) (hc : O[k]? = some c) :
    Own Atr.cells 2 45 base ((((w.setCell ⟨g, (k + 1) * 2, none⟩ (.string c.name)).setCell ⟨g, (k + 1) * 2 + 1, none⟩ (.string c.value)).setCell ⟨g, k * 2, none⟩ (.string a.name)).setCell ⟨g, k * 2 + 1, none⟩ (.string a.value)) (.slice (some ⟨g, 0, none⟩) n cap) (insAt O a k) := by
  have hk := (List.getElem?_eq_some_iff.1 hc).1
  have hl := insAt_len O a (k + 1) hk
  have h1 := own_set2n h (k + 1) c (by omega)
  have h3 := own_set2n h1 k a (by rw [List.length_set]; omega)
  rw [insAt_swap O a c k hc] at h3
  exact h3

set_option maxRecDepth 100000 in
set_option maxHeartbeats 4000000 in
theorem rall_any (r B : Nat) (L : List Write) (bn br : Int) (w : World) (h : RefIs w r B L) (hsz : L.length ≤ 1000) (hri : ∀ x ∈ L, rightB x.at_ = true) :
    Calls Try.prog 15 #[.pointer (some ⟨r, 0, none⟩), .agg #[.int .i64 bn, .int .i64 br]] w
      fun e w' => ∃ v O, e = .returned v ∧ Own Atr.cells 2 45 w.heap.size w' v O ∧ Gath L ⟨bn, br⟩ L.length O ∧ Below w.heap.size w w' := by
  have HREF := Lib.hid h
  obtain ⟨i0, hi, hz0, hz1', hz2⟩ := info_parts info_attr
  obtain ⟨v, hb, hown⟩ := h
  obtain ⟨va, vc, rfl, hcap, hmax, hcs⟩ := hown.slice (fun _ => rfl)
  unfold maxLen at hmax
  have c0 := cell_of_block hb
  have hrl : r < w.heap.size := cell_lt c0
  have HC := Lib.hid hcs
  have HRI := Lib.hid hri
  clear hb hown hcs hri
  go_enter Try.func15, Try.ntmps15
  go_wp2_with fail
  go_loopg [5, 6] L.length (fun g s i wx => ∃ (k : Nat) (O : List Atr), g = L.length - k ∧ k ≤ L.length ∧ i = .int .i64 k ∧ O.length ≤ k ∧ Hid (Gath L ⟨bn, br⟩ k O) ∧ Own Atr.cells 2 45 (w.heap.size + 1) wx s O ∧
    wx.cell? ⟨w.heap.size, 0, none⟩ = some (.int .i64 bn) ∧ wx.cell? ⟨w.heap.size, 1, none⟩ = some (.int .i64 br) ∧ Below w.heap.size w wx)
  case atStart =>
    refine ⟨0, [], rfl, Nat.zero_le _, rfl, Nat.le_refl _, ?_, Own.nil, by go_simp, by go_simp, (Below.refl _ _).alloc (Nat.le_refl _) _⟩
    exact ⟨List.Pairwise.nil, fun a => by simp⟩
  case round =>
    obtain ⟨k, O, hg, hk, rfl, hol, hgath, hown, q0, q1, hB⟩ := hrel
    have HG := Lib.hid hg
    clear hg
    have c0' := keepB hB c0
    by_cases hlt : k < L.length
    · obtain ⟨x, hx⟩ : ∃ x, L[k]? = some x := ⟨_, List.getElem?_eq_getElem hlt⟩
      obtain ⟨bs, os, rfl, hcc⟩ := HC.out (by intro e; rw [e] at hlt; simp at hlt)
      have x0 : wr.cell? ⟨bs, os + k * 6, none⟩ = some (.int .i64 x.at_.n) := keepB hB (hcc k x hx 0 _ rfl)
      have x1 : wr.cell? ⟨bs, os + k * 6 + 1, none⟩ = some (.int .i64 x.at_.r) := keepB hB (hcc k x hx 1 _ rfl)
      have x2 : wr.cell? ⟨bs, os + k * 6 + 2, none⟩ = some (.int .i64 x.blk.n) := keepB hB (hcc k x hx 2 _ rfl)
      have x3 : wr.cell? ⟨bs, os + k * 6 + 3, none⟩ = some (.int .i64 x.blk.r) := keepB hB (hcc k x hx 3 _ rfl)
      have x4 : wr.cell? ⟨bs, os + k * 6 + 4, none⟩ = some (.string x.name) := keepB hB (hcc k x hx 4 _ rfl)
      have x5 : wr.cell? ⟨bs, os + k * 6 + 5, none⟩ = some (.string x.value) := keepB hB (hcc k x hx 5 _ rfl)
      have HX := Lib.hid hx
      have zz := cell_lt q0
      clear hx hcc
      have p0 := cell_alloc q0 (.cells #[.int .i64 x.at_.n, .int .i64 x.at_.r, .int .i64 x.blk.n, .int .i64 x.blk.r, .string x.name, .string x.value] 32)
      have p1 := cell_alloc q1 (.cells #[.int .i64 x.at_.n, .int .i64 x.at_.r, .int .i64 x.blk.n, .int .i64 x.blk.r, .string x.name, .string x.value] 32)
      obtain ⟨oa, oc, rfl, hocap, homax, hocs⟩ := hown.slice (fun _ => rfl)
      unfold maxLen at homax
      have HOC := Lib.hid hocs
      clear hocs
      have hB1 := hB.alloc hB.size (.cells #[.int .i64 x.at_.n, .int .i64 x.at_.r, .int .i64 x.blk.n, .int .i64 x.blk.r, .string x.name, .string x.value] 32)
      have hown1 := hown.alloc (.cells #[.int .i64 x.at_.n, .int .i64 x.at_.r, .int .i64 x.blk.n, .int .i64 x.blk.r, .string x.name, .string x.value] 32)
      obtain ⟨W1, hW⟩ : ∃ W1, W1 = wr.alloc (.cells #[.int .i64 x.at_.n, .int .i64 x.at_.r, .int .i64 x.blk.n, .int .i64 x.blk.r, .string x.name, .string x.value] 32) := ⟨_, rfl⟩
      rw [← hW] at p0 p1 hB1 hown1
      have HW := Lib.hid hW
      have n4 : W1.cell? ⟨wr.heap.size, 4, none⟩ = some (.string x.name) := by rw [hW]; go_simp
      clear hW
      by_cases hbk : x.blk = ⟨bn, br⟩
      · have e1 : x.blk.n = bn := by rw [hbk]
        have e2 : x.blk.r = br := by rw [hbk]
        have HE := Lib.hid hbk
        have hsp : isNew x ⟨bn, br⟩ (O.take 0) = true := by simp [isNew, hbk]
        have HSP := Lib.hid hsp
        rw [e1] at x2
        rw [e2] at x3
        rw [e1, e2] at HW
        clear hbk e1 e2 hsp
        go_wp2_with fail
        go_loopg [8, 9] O.length (fun g nw kk wy => ∃ j : Nat, g = O.length - j ∧ j ≤ O.length ∧ kk = .int .i64 j ∧ nw = .bool (isNew x ⟨bn, br⟩ (O.take j)) ∧ Below W1.heap.size W1 wy)
        case atStart => exact ⟨0, rfl, Nat.zero_le _, rfl, by rw [HSP.out], by rw [HW.out]; exact Below.refl _ _⟩
        case round =>
          obtain ⟨j, hj0, hj, rfl, rfl, hY⟩ := hrel
          have HJ := Lib.hid hj0
          clear hj0
          have n4' := keepB hY n4
          by_cases hjl : j < O.length
          · obtain ⟨a, ha⟩ : ∃ a, O[j]? = some a := ⟨_, List.getElem?_eq_getElem hjl⟩
            have hst := isNew_take (x := x) (b := ⟨bn, br⟩) ha
            obtain ⟨ob, oo, rfl, hoc⟩ := HOC.out (by intro e; rw [e] at hjl; simp at hjl)
            have a0 : wr.cell? ⟨ob, oo + j * 2, none⟩ = some (.string a.name) := keepB hY (by rw [HW.out]; exact cell_alloc (hoc j a ha 0 _ rfl) _)
            generalize isNew x ⟨bn, br⟩ (O.take j) = nb at *
            cases nb with
            | false =>
              have HST := Lib.hid hst
              clear hst hoc ha
              go_wp2_with fail
              go_quiet (fail)
              go_wp2_with fail
              go_roundg (O.length - (j + 1))
              case measure => rw [HJ.out]; omega
              case rel => exact ⟨j + 1, rfl, hjl, by go_num, by rw [HST.out]; rfl, below_drewN hY _⟩
            | true =>
              by_cases hnm : a.name.toList = x.name.toList
              · have hn1 : (a.name.toList == x.name.toList) = true := by simp [hnm]
                rw [hn1] at hst
                have HST := Lib.hid hst
                clear hst hoc ha hnm
                go_wp2_with fail
                go_quiet (fail)
                go_wp2_with fail
                go_roundg (O.length - (j + 1))
                case measure => rw [HJ.out]; omega
                case rel => exact ⟨j + 1, rfl, hjl, by go_num, by rw [HST.out]; rfl, below_drewN hY _⟩
              · have hn1 : (a.name.toList == x.name.toList) = false := by simp [hnm]
                rw [hn1] at hst
                have HST := Lib.hid hst
                clear hst hoc ha hnm
                go_wp2_with fail
                go_quiet (fail)
                go_wp2_with fail
                go_roundg (O.length - (j + 1))
                case measure => rw [HJ.out]; omega
                case rel => exact ⟨j + 1, rfl, hjl, by go_num, by rw [HST.out]; rfl, below_drewN hY _⟩
          · obtain rfl : j = O.length := by omega
            rw [List.take_length]
            generalize hnb : isNew x ⟨bn, br⟩ O = nb at *
            have HNB := Lib.hid hnb
            clear hnb
            cases nb with
            | false =>
              go_wp2_with fail
              go_roundg (L.length - (k + 1))
              case measure => rw [HG.out]; omega
              case rel =>
                refine ⟨k + 1, O, rfl, hlt, by go_num, by omega, hgath.out.skip HX.out (.inr ?_), hown1.ext (Ext.of_below (S := fun _ => False) hY) (fun _ _ h => h), keepB hY p0, keepB hY p1, hB1.trans (hY.mono hB1.size)⟩
                have := HNB.out
                rw [isNew, HE.out] at this
                simp only [decide_true, Bool.true_and, List.all_eq_false, Bool.not_eq_true, Bool.not_eq_false', beq_iff_eq] at this
                obtain ⟨a, ha, e⟩ := this
                exact ⟨a, ha, (eq_bytes _ _).1 e⟩
            | true =>
              have hBy : Below w.heap.size w wr := hB1.trans (hY.mono hB1.size)
              have hlnew : ∀ a ∈ O, a.name.toList ≠ x.name.toList := by
                have := HNB.out
                rw [isNew] at this
                simp only [Bool.and_eq_true, List.all_eq_true, Bool.not_eq_true', beq_eq_false_iff_ne] at this
                exact this.2
              have HLN := Lib.hid hlnew
              clear hlnew
              have y0 := keepB hY p0
              have y1 := keepB hY p1
              go_wp2_with fail
              refine (rget_any r B L bn br x.name wr (HREF.out.below hBy) hsz HRI.out).mono ?_
              rintro e w5 ⟨rfl, b5⟩
              generalize hvl : valOf (refBest L ⟨⟨bn, br⟩, x.name⟩) = vl
              generalize (refBest L ⟨⟨bn, br⟩, x.name⟩).isSome = sm
              have HVL := Lib.hid hvl
              have g4 := keepB b5 n4'
              have g0 := keepB b5 y0
              have g1 := keepB b5 y1
              have hown5 := (hown1.ext (Ext.of_below (S := fun _ => False) hY) (fun _ _ h => h)).ext (Ext.of_below (S := fun _ => False) b5) (fun _ _ h => h)
              have hB5 : Below w.heap.size w w5 := hBy.trans (b5.mono hBy.size)
              have zz5 := cell_lt g0
              clear hvl y0 y1 x0 x1 x2 x3 x4 x5 p0 p1 n4 n4' hBy b5 hY c0' hB hB1 hown hown1 zz HOC
              go_wp2_with (at_builtin; refine wpList_append_struct rfl _ _ _ rfl i0 (.agg #[.string ⟨#[]⟩, .string ⟨#[]⟩]) 32 Try.underlying38 hi hz0 hz1' hz2 rfl (by omega) (fun _ => rfl) (fun x u hu => by simp [Atr.cells] at hu; rcases hu with rfl | rfl <;> rfl) rfl (hown5.alloc _) ⟨x.name, vl⟩ w5.heap.size 1 rfl ?_ (by unfold maxLen; omega) (by omega) (by simp; omega) ?_)
              · intro j u hj
                have hju : (j = 0 ∧ u = .string x.name) ∨ (j = 1 ∧ u = .string vl) := by
                  match j, hj with
                  | 0, hj => simp [Atr.cells] at hj; exact .inl ⟨rfl, hj.symm⟩
                  | 1, hj => simp [Atr.cells] at hj; exact .inr ⟨rfl, hj.symm⟩
                  | n + 2, hj => simp [Atr.cells] at hj
                rcases hju with ⟨rfl, rfl⟩ | ⟨rfl, rfl⟩ <;> go_simp
              · intro v' w6 hown6 hx6
                have hne : ∀ b, (Value.slice oa O.length oc).ownBlock = some b → w.heap.size + 1 ≤ b := fun b hb => (hown5.blk b hb).1
                have t0 := hx6.keep (cell_alloc g0 _) (fun e => by have := hne _ e; omega)
                have t1 := hx6.keep (cell_alloc g1 _) (fun e => by have := hne _ e; omega)
                have hB6 : Below w.heap.size w w6 := Ext.new (hB5.alloc (by omega) _) hx6 (fun b hb _ e => by have := hne _ e; omega) (by simp; omega)
                obtain ⟨g6, cp6, rfl, hg6⟩ : ∃ g c, v' = .slice (some ⟨g, 0, none⟩) (O.length + 1) c ∧ w.heap.size + 1 ≤ g := by
                  rcases hown6.eq_slice with ⟨_, h⟩ | ⟨g, c, h, h2, _⟩
                  · simp at h
                  · exact ⟨g, c, by simpa using h, h2⟩
                clear hx6 g0 g1 g4 hown5 hB5 hne
                clear q0 q1 HC HSP HW HJ HNB
                have hins : O ++ [⟨x.name, vl⟩] = insAt O ⟨x.name, vl⟩ O.length := by simp [insAt]
                rw [hins] at hown6
                clear hins
                go_wp2_with fail
                go_loopg [12] O.length (fun g kk wz => ∃ j : Nat, g = j ∧ j ≤ O.length ∧ kk = .int .i64 j ∧ Hid (∀ y ∈ O.drop j, x.name.toList < y.name.toList) ∧ Own Atr.cells 2 45 (w.heap.size + 1) wz (.slice (some ⟨g6, 0, none⟩) (O.length + 1) cp6) (insAt O ⟨x.name, vl⟩ j) ∧ wz.cell? ⟨w.heap.size, 0, none⟩ = some (.int .i64 bn) ∧ wz.cell? ⟨w.heap.size, 1, none⟩ = some (.int .i64 br) ∧ Below w.heap.size w wz)
                case atStart => exact ⟨O.length, rfl, Nat.le_refl _, by go_num, fun y hy => by simp at hy, hown6, t0, t1, hB6⟩
                case round =>
                  obtain ⟨j, hjg, hj, rfl, hdrop, hown7, r0, r1, hB7⟩ := hrel
                  have HJG := Lib.hid hjg
                  clear hjg
                  obtain ⟨-, hcap7, hmax7, hg7, hcells7⟩ := own_attr hown7
                  unfold maxLen at hmax7
                  cases j with
                  | zero =>
                    clear hcells7
                    go_wp2_with fail
                    go_quiet (fail)
                    go_wp2_with fail
                    go_roundg (L.length - (k + 1))
                    case measure => rw [HG.out]; omega
                    case rel =>
                      refine ⟨k + 1, _, rfl, hlt, by go_num, ?_, hgath.out.ins HX.out HE.out (j := 0) (Nat.zero_le _) hdrop.out (fun y hy => by simp at hy), ?_, r0, r1, below_drewN hB7 _⟩
                      · rw [insAt_len _ _ _ (Nat.zero_le _)]; omega
                      · rw [HVL.out]; exact hown7
                  | succ j =>
                    obtain ⟨c, hc⟩ : ∃ c, O[j]? = some c := ⟨_, List.getElem?_eq_getElem hj⟩
                    obtain ⟨s0, s1, s2, s3⟩ := hcells7 (j + 1) _ (insAt_at O _ (j + 1) hj)
                    obtain ⟨s4, s5, s6, s7⟩ := hcells7 j c ((insAt_before O _ j hj).trans hc)
                    simp only at s0 s1
                    have HC := Lib.hid hc
                    have hne : ¬ g6 = wr.heap.size := by omega
                    clear hcells7 hc
                    by_cases hcl : x.name.toList < c.name.toList
                    · have hcl' : Op.bytesLess x.name.toList c.name.toList = true := by rw [bytesLess_eq]; simpa using hcl
                      have HCL := Lib.hid hcl
                      clear hcl
                      go_wp2_with fail
                      go_quiet (fail)
                      have hbq : Below wr.heap.size wr (wr.drewN nq) := below_drewN (Below.refl _ _) _
                      have hown8 := hown7.ext (Ext.of_below (S := fun _ => False) hbq) (fun _ _ h => h)
                      have r0' := keepB hbq r0
                      have r1' := keepB hbq r1
                      have hB8 : Below w.heap.size w (wr.drewN nq) := below_drewN hB7 _
                      clear hbq s0 s1 s2 s3 s4 s5 s6 s7 hg7 hne r0 r1
                      generalize wr.drewN nq = wq at *
                      obtain ⟨-, -, -, hg7, hcells7⟩ := own_attr hown8
                      obtain ⟨s0, s1, s2, s3⟩ := hcells7 (j + 1) _ (insAt_at O _ (j + 1) hj)
                      obtain ⟨s4, s5, s6, s7⟩ := hcells7 j c ((insAt_before O _ j hj).trans HC.out)
                      simp only at s0 s1
                      have hne : ¬ g6 = wq.heap.size := by omega
                      clear hcells7
                      go_wp2_with fail
                      go_roundg j
                      case measure => rw [HJG.out]; omega
                      case rel =>
                        have hs8 := hB8.size
                        refine ⟨j, rfl, by omega, by go_num, ?_, (own_swap hown8 HC.out).alloc _, ?_, ?_, ?_⟩
                        · intro y hy
                          obtain ⟨hj', hc'⟩ := List.getElem?_eq_some_iff.1 HC.out
                          rw [List.drop_eq_getElem_cons hj', hc'] at hy
                          rcases List.mem_cons.1 hy with rfl | hy
                          · exact HCL.out
                          · exact hdrop.out y hy
                        · exact cell_alloc ((((((Ext.refl (· = g6) wq).setCell (p := ⟨g6, (j + 1) * 2, none⟩) (.inr rfl) _).setCell (p := ⟨g6, (j + 1) * 2 + 1, none⟩) (.inr rfl) _).setCell (p := ⟨g6, j * 2, none⟩) (.inr rfl) _).setCell (p := ⟨g6, j * 2 + 1, none⟩) (.inr rfl) _).keep r0' (by omega)) _
                        · exact cell_alloc ((((((Ext.refl (· = g6) wq).setCell (p := ⟨g6, (j + 1) * 2, none⟩) (.inr rfl) _).setCell (p := ⟨g6, (j + 1) * 2 + 1, none⟩) (.inr rfl) _).setCell (p := ⟨g6, j * 2, none⟩) (.inr rfl) _).setCell (p := ⟨g6, j * 2 + 1, none⟩) (.inr rfl) _).keep r1' (by omega)) _
                        · exact ((((hB8.setCell (by simp; omega) _).setCell (by simp; omega) _).setCell (by simp; omega) _).setCell (by simp; omega) _).alloc (by simp; omega) _
                    · have hcl' : Op.bytesLess x.name.toList c.name.toList = false := by rw [bytesLess_eq]; simpa using hcl
                      have HCL := Lib.hid hcl
                      clear hcl
                      go_wp2_with fail
                      go_quiet (fail)
                      go_wp2_with fail
                      go_roundg (L.length - (k + 1))
                      case measure => rw [HG.out]; omega
                      case rel =>
                        refine ⟨k + 1, _, rfl, hlt, by go_num, ?_, hgath.out.ins HX.out HE.out (j := j + 1) hj hdrop.out ?_, ?_, r0, r1, below_drewN hB7 _⟩
                        · rw [insAt_len _ _ _ hj]; omega
                        · have hcx : c.name.toList < x.name.toList := by
                            refine Classical.byContradiction fun h => HLN.out c (List.mem_of_getElem? HC.out) (list_total _ _ h HCL.out)
                          intro y hy
                          obtain ⟨hj', hc'⟩ := List.getElem?_eq_some_iff.1 HC.out
                          rw [List.take_succ_eq_append_getElem hj', hc'] at hy
                          rcases List.mem_append.1 hy with hy | hy
                          · have hp := hgath.out.rising
                            rw [← List.take_append_drop j O, List.pairwise_append] at hp
                            exact List.lt_trans (hp.2.2 y hy c (by rw [List.drop_eq_getElem_cons hj', hc']; simp)) hcx
                          · rw [List.mem_singleton.1 hy]; exact hcx
                        · rw [HVL.out]; exact hown7
      · have HA := Lib.hid hbk
        by_cases e1 : x.blk.n = bn
        · have e2 : ¬ x.blk.r = br := fun e2 => hbk (st_ext e1 e2)
          clear hbk
          go_wp2_with fail
          go_loopg [8, 9] O.length (fun g nw kk wy => ∃ j : Nat, g = O.length - j ∧ j ≤ O.length ∧ kk = .int .i64 j ∧ nw = .bool false ∧ Below W1.heap.size W1 wy)
          case atStart => exact ⟨0, rfl, Nat.zero_le _, rfl, rfl, by rw [HW.out]; simp only [e1]; exact Below.refl _ _⟩
          case round =>
            obtain ⟨j, hj0, hj, rfl, rfl, hY⟩ := hrel
            have HJ := Lib.hid hj0
            clear hj0
            by_cases hjl : j < O.length
            · go_wp2_with fail
              go_quiet (fail)
              go_wp2_with fail
              go_roundg (O.length - (j + 1))
              case measure => rw [HJ.out]; omega
              case rel => exact ⟨j + 1, rfl, hjl, by go_num, rfl, below_drewN hY _⟩
            · go_wp2_with fail
              go_roundg (L.length - (k + 1))
              case measure => rw [HG.out]; omega
              case rel => exact ⟨k + 1, O, rfl, hlt, by go_num, by omega, hgath.out.skip HX.out (.inl HA.out), hown1.ext (Ext.of_below (S := fun _ => False) hY) (fun _ _ h => h), keepB hY p0, keepB hY p1, hB1.trans (hY.mono hB1.size)⟩
        · clear hbk
          go_wp2_with fail
          go_loopg [8, 9] O.length (fun g nw kk wy => ∃ j : Nat, g = O.length - j ∧ j ≤ O.length ∧ kk = .int .i64 j ∧ nw = .bool false ∧ Below W1.heap.size W1 wy)
          case atStart => exact ⟨0, rfl, Nat.zero_le _, rfl, rfl, by rw [HW.out]; exact Below.refl _ _⟩
          case round =>
            obtain ⟨j, hj0, hj, rfl, rfl, hY⟩ := hrel
            have HJ := Lib.hid hj0
            clear hj0
            by_cases hjl : j < O.length
            · go_wp2_with fail
              go_quiet (fail)
              go_wp2_with fail
              go_roundg (O.length - (j + 1))
              case measure => rw [HJ.out]; omega
              case rel => exact ⟨j + 1, rfl, hjl, by go_num, rfl, below_drewN hY _⟩
            · go_wp2_with fail
              go_roundg (L.length - (k + 1))
              case measure => rw [HG.out]; omega
              case rel => exact ⟨k + 1, O, rfl, hlt, by go_num, by omega, hgath.out.skip HX.out (.inl HA.out), hown1.ext (Ext.of_below (S := fun _ => False) hY) (fun _ _ h => h), keepB hY p0, keepB hY p1, hB1.trans (hY.mono hB1.size)⟩
    · obtain rfl : k = L.length := by omega
      go_wp2_with fail
      go_ret
      exact ⟨_, O, rfl, hown.mono (by omega), hgath.out, hB⟩

end Go.Proofs.Ytkkffnejgbhbmaa
