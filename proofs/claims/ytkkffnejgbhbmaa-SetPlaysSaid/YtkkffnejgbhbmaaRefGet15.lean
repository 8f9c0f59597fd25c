/- Contract of the reference's Get. -/
import Derived.Test.YtkkffnejgbhbmaaRef15
namespace Go.Proofs.Ytkkffnejgbhbmaa
open Go.RowKit
set_option linter.unusedSimpArgs false
set_option linter.unusedVariables false

/-- One step of the search for the last write of a place. -/
def bestStep (p : Pl) (acc : Option Wr) (y : Write) : Option Wr := if y.pl = p ∧ 0 < cmpS y.at_ (atOf acc) then some ⟨y.at_, y.value⟩ else acc
def refBest (L : List Write) (p : Pl) : Option Wr := L.foldl (bestStep p) none
theorem refBest_snoc (L : List Write) (y : Write) (p : Pl) : refBest (L ++ [y]) p = bestStep p (refBest L p) y := by simp [refBest]
theorem refBest_take {L : List Write} {k : Nat} {y : Write} (h : L[k]? = some y) (p : Pl) : refBest (L.take (k + 1)) p = bestStep p (refBest (L.take k) p) y := by rw [take_snoc' h, refBest_snoc]

theorem refBest_right (L : List Write) (hr : ∀ x ∈ L, rightB x.at_ = true) (p : Pl) : ∀ x, refBest L p = some x → rightB x.at_ = true := by
  refine snocInd (p := fun L => (∀ x ∈ L, rightB x.at_ = true) → ∀ x, refBest L p = some x → rightB x.at_ = true) ?_ ?_ L hr
  · intro _ x h; cases h
  · intro L y ih hr x h
    rw [refBest_snoc, bestStep] at h
    split at h
    · cases h; exact hr y (by simp)
    · exact ih (fun z hz => hr z (by simp [hz])) x h

theorem two_store {w : World} {r : Nat} {a b c d : Value} {t : TypeId} (h : w.heap[r]? = some (.cells #[a, b] t (0, 0))) : ((w.setCell ⟨r, 0, none⟩ c).setCell ⟨r, 1, none⟩ d).heap[r]? = some (.cells #[c, d] t (0, 0)) := by
  simp [World.setCell, Array.getElem?_modify, h]
theorem two_cells {w : World} {r : Nat} {a b : Value} {t : TypeId} (h : w.heap[r]? = some (.cells #[a, b] t (0, 0))) : w.cell? ⟨r, 0, none⟩ = some a ∧ w.cell? ⟨r, 1, none⟩ = some b ∧ w.frozen? ⟨r, 0, none⟩ = false ∧ w.frozen? ⟨r, 1, none⟩ = false := by
  simp [World.cell?, World.frozen?, h]

theorem heap_alloc_eq {w : World} (o : Obj) {n : Nat} (h : n = w.heap.size) : (w.alloc o).heap[n]? = some o := by
  subst h
  show (w.heap.push o)[w.heap.size]? = _
  simp

set_option maxHeartbeats 2000000 in
theorem rget_any (r B : Nat) (L : List Write) (bn br : Int) (nm : ByteArray) (w : World) (h : RefIs w r B L) (hsz : L.length ≤ 1000) (hri : ∀ x ∈ L, rightB x.at_ = true) :
    Calls Try.prog 12 #[.pointer (some ⟨r, 0, none⟩), .agg #[.int .i64 bn, .int .i64 br], .string nm] w
      fun e w' => e = .returned (.tuple #[.string (valOf (refBest L ⟨⟨bn, br⟩, nm⟩)), .bool (refBest L ⟨⟨bn, br⟩, nm⟩).isSome]) ∧ Below w.heap.size w w' := by
  obtain ⟨v, hb, hown⟩ := h
  obtain ⟨va, vc, rfl, hcap, hmax, hcs⟩ := hown.slice (fun _ => rfl)
  unfold maxLen at hmax
  have c0 := cell_of_block hb
  have hrl : r < w.heap.size := cell_lt c0
  have HC := Lib.hid hcs
  have HRI := Lib.hid hri
  clear hb hown hcs hri
  go_enter Try.func12, Try.ntmps12
  go_wp2_with fail
  go_loopg [9, 10] L.length (fun g s i wx => ∃ k : Nat, g = L.length - k ∧ k ≤ L.length ∧ i = .int .i64 k ∧ s = .string (valOf (refBest (L.take k) ⟨⟨bn, br⟩, nm⟩)) ∧
    wx.heap[w.heap.size + 1]? = some (.cells #[.int .i64 (atOf (refBest (L.take k) ⟨⟨bn, br⟩, nm⟩)).n, .int .i64 (atOf (refBest (L.take k) ⟨⟨bn, br⟩, nm⟩)).r] 30 (0, 0)) ∧
    wx.cell? ⟨w.heap.size, 0, none⟩ = some (.int .i64 bn) ∧ wx.cell? ⟨w.heap.size, 1, none⟩ = some (.int .i64 br) ∧ Below w.heap.size w wx)
  case atStart =>
    refine ⟨0, rfl, Nat.zero_le _, rfl, rfl, ?_, by go_simp, by go_simp, ((Below.refl _ _).alloc (Nat.le_refl _) _).alloc (by simp) _⟩
    exact heap_alloc_eq _ (by simp)
  case round =>
    obtain ⟨k, hg, hk, rfl, rfl, hbx, q0, q1, hB⟩ := hrel
    have HG := Lib.hid hg
    clear hg
    have c0' := keepB hB c0
    generalize hrb : refBest (L.take k) ⟨⟨bn, br⟩, nm⟩ = rb at *
    have HRB := Lib.hid hrb
    clear hrb
    obtain ⟨l0, l1, l2, l3⟩ := two_cells hbx
    by_cases hlt : k < L.length
    · obtain ⟨x, hx⟩ : ∃ x, L[k]? = some x := ⟨_, List.getElem?_eq_getElem hlt⟩
      obtain ⟨bs, os, rfl, hcc⟩ := HC.out (by intro e; rw [e] at hlt; simp at hlt)
      have x0 : wr.cell? ⟨bs, os + k * 6, none⟩ = some (.int .i64 x.at_.n) := keepB hB (hcc k x hx 0 _ rfl)
      have x1 : wr.cell? ⟨bs, os + k * 6 + 1, none⟩ = some (.int .i64 x.at_.r) := keepB hB (hcc k x hx 1 _ rfl)
      have x2 : wr.cell? ⟨bs, os + k * 6 + 2, none⟩ = some (.int .i64 x.blk.n) := keepB hB (hcc k x hx 2 _ rfl)
      have x3 : wr.cell? ⟨bs, os + k * 6 + 3, none⟩ = some (.int .i64 x.blk.r) := keepB hB (hcc k x hx 3 _ rfl)
      have x4 : wr.cell? ⟨bs, os + k * 6 + 4, none⟩ = some (.string x.name) := keepB hB (hcc k x hx 4 _ rfl)
      have x5 : wr.cell? ⟨bs, os + k * 6 + 5, none⟩ = some (.string x.value) := keepB hB (hcc k x hx 5 _ rfl)
      have hst := refBest_take hx (⟨⟨bn, br⟩, nm⟩ : Pl)
      rw [HRB.out] at hst
      have HST := Lib.hid hst
      have zz := cell_lt q0
      have zz2 : w.heap.size + 1 < wr.heap.size := cell_lt l0
      clear hx hcc hst
      by_cases hbk : x.blk = ⟨bn, br⟩
      · have e1 : x.blk.n = bn := by rw [hbk]
        have e2 : x.blk.r = br := by rw [hbk]
        rw [e1] at x2
        rw [e2] at x3
        by_cases hnm : x.name.toList = nm.toList
        · have hn1 : (x.name.toList == nm.toList) = true := by simp [hnm]
          have hpl : x.pl = ⟨⟨bn, br⟩, nm⟩ := by rw [Write.pl, hbk, (eq_bytes _ _).1 hnm]
          have HP := Lib.hid hpl
          clear hnm hpl hbk e1 e2
          by_cases hc : 0 < cmpS x.at_ (atOf rb)
          · have hs2 : refBest (L.take (k + 1)) ⟨⟨bn, br⟩, nm⟩ = some ⟨x.at_, x.value⟩ := by rw [HST.out, bestStep, if_pos ⟨HP.out, hc⟩]
            have HS2 := Lib.hid hs2
            have hc' : 0 < cmpS ⟨x.at_.n, x.at_.r⟩ ⟨(atOf rb).n, (atOf rb).r⟩ := hc
            clear hs2 hc
            go_wp2_with fail
            refine (rcompare_any _ _ _ _ _).mono ?_
            rintro e w5 ⟨rfl, b5⟩
            have hb5 := (b5.block _ (by simp; omega)).trans ((Below.heap_alloc wr (.cells #[.int .i64 x.at_.n, .int .i64 x.at_.r, .int .i64 bn, .int .i64 br, .string x.name, .string x.value] 32) _ zz2).trans hbx)
            obtain ⟨m0, m1, m2, m3⟩ := two_cells hb5
            have i0 : w5.cell? ⟨wr.heap.size, 0, none⟩ = some (.int .i64 x.at_.n) := keepB b5 (by go_simp)
            have i1 : w5.cell? ⟨wr.heap.size, 1, none⟩ = some (.int .i64 x.at_.r) := keepB b5 (by go_simp)
            have i5 : w5.cell? ⟨wr.heap.size, 5, none⟩ = some (.string x.value) := keepB b5 (by go_simp)
            have p0 := keepB b5 (cell_alloc q0 (.cells #[.int .i64 x.at_.n, .int .i64 x.at_.r, .int .i64 bn, .int .i64 br, .string x.name, .string x.value] 32))
            have p1 := keepB b5 (cell_alloc q1 (.cells #[.int .i64 x.at_.n, .int .i64 x.at_.r, .int .i64 bn, .int .i64 br, .string x.name, .string x.value] 32))
            have hB5 : Below w.heap.size w w5 := (hB.alloc hB.size (.cells #[.int .i64 x.at_.n, .int .i64 x.at_.r, .int .i64 bn, .int .i64 br, .string x.name, .string x.value] 32)).trans (b5.mono (by have := hB.size; simp; omega))
            have zz5 : wr.heap.size < w5.heap.size := cell_lt i0
            clear b5 x0 x1 x2 x3 x4 x5 q0 q1 l0 l1 l2 l3 hbx c0' hB
            go_wp2_with fail
            go_roundg (L.length - (k + 1))
            case measure => rw [HG.out]; omega
            case rel =>
              refine ⟨k + 1, rfl, hlt, by go_num, by rw [HS2.out]; rfl, ?_, ?_, ?_, ?_⟩
              · rw [HS2.out]; exact two_store hb5
              · exact (((Ext.refl (· = w.heap.size + 1) w5).setCell (p := ⟨w.heap.size + 1, 0, none⟩) (.inr rfl) _).setCell (p := ⟨w.heap.size + 1, 1, none⟩) (.inr rfl) _).keep p0 (by omega)
              · exact (((Ext.refl (· = w.heap.size + 1) w5).setCell (p := ⟨w.heap.size + 1, 0, none⟩) (.inr rfl) _).setCell (p := ⟨w.heap.size + 1, 1, none⟩) (.inr rfl) _).keep p1 (by omega)
              · exact (hB5.setCell (by simp) _).setCell (by simp) _
          · have hs2 : refBest (L.take (k + 1)) ⟨⟨bn, br⟩, nm⟩ = rb := by rw [HST.out, bestStep, if_neg (fun h => hc h.2)]
            have HS2 := Lib.hid hs2
            have hc' : cmpS ⟨x.at_.n, x.at_.r⟩ ⟨(atOf rb).n, (atOf rb).r⟩ ≤ 0 := Int.not_lt.1 hc
            clear hs2 hc
            go_wp2_with fail
            refine (rcompare_any _ _ _ _ _).mono ?_
            rintro e w5 ⟨rfl, b5⟩
            have hb5 := (b5.block _ (by simp; omega)).trans ((Below.heap_alloc wr (.cells #[.int .i64 x.at_.n, .int .i64 x.at_.r, .int .i64 bn, .int .i64 br, .string x.name, .string x.value] 32) _ zz2).trans hbx)
            have p0 := keepB b5 (cell_alloc q0 (.cells #[.int .i64 x.at_.n, .int .i64 x.at_.r, .int .i64 bn, .int .i64 br, .string x.name, .string x.value] 32))
            have p1 := keepB b5 (cell_alloc q1 (.cells #[.int .i64 x.at_.n, .int .i64 x.at_.r, .int .i64 bn, .int .i64 br, .string x.name, .string x.value] 32))
            have hB5 : Below w.heap.size w w5 := (hB.alloc hB.size (.cells #[.int .i64 x.at_.n, .int .i64 x.at_.r, .int .i64 bn, .int .i64 br, .string x.name, .string x.value] 32)).trans (b5.mono (by have := hB.size; simp; omega))
            clear b5 x0 x1 x2 x3 x4 x5 q0 q1 l0 l1 l2 l3 hbx c0' hB
            go_wp2_with fail
            go_roundg (L.length - (k + 1))
            case measure => rw [HG.out]; omega
            case rel => exact ⟨k + 1, rfl, hlt, by go_num, by rw [HS2.out], by rw [HS2.out]; exact hb5, p0, p1, hB5⟩
        · have hs2 : refBest (L.take (k + 1)) ⟨⟨bn, br⟩, nm⟩ = rb := by
            rw [HST.out, bestStep, if_neg]
            rintro ⟨h1, _⟩
            rw [Write.pl] at h1
            exact hnm (by rw [(Pl.mk.inj h1).2])
          have HS2 := Lib.hid hs2
          have hn1 : (x.name.toList == nm.toList) = false := by simp [hnm]
          clear hs2 hnm hbk e1 e2
          go_wp2_with fail
          go_roundg (L.length - (k + 1))
          case measure => rw [HG.out]; omega
          case rel => exact ⟨k + 1, rfl, hlt, by go_num, by rw [HS2.out], by rw [HS2.out, Below.heap_alloc _ _ _ zz2]; exact hbx, cell_alloc q0 _, cell_alloc q1 _, hB.alloc hB.size _⟩
      · have hs2 : refBest (L.take (k + 1)) ⟨⟨bn, br⟩, nm⟩ = rb := by
          rw [HST.out, bestStep, if_neg]
          rintro ⟨h1, _⟩
          rw [Write.pl] at h1
          exact hbk (Pl.mk.inj h1).1
        have HS2 := Lib.hid hs2
        clear hs2
        by_cases e1 : x.blk.n = bn
        · have e2 : ¬ x.blk.r = br := fun e2 => hbk (st_ext e1 e2)
          clear hbk
          go_wp2_with fail
          go_roundg (L.length - (k + 1))
          case measure => rw [HG.out]; omega
          case rel => exact ⟨k + 1, rfl, hlt, by go_num, by rw [HS2.out], by rw [HS2.out, Below.heap_alloc _ _ _ zz2]; exact hbx, cell_alloc q0 _, cell_alloc q1 _, hB.alloc hB.size _⟩
        · clear hbk
          go_wp2_with fail
          go_roundg (L.length - (k + 1))
          case measure => rw [HG.out]; omega
          case rel => exact ⟨k + 1, rfl, hlt, by go_num, by rw [HS2.out], by rw [HS2.out, Below.heap_alloc _ _ _ zz2]; exact hbx, cell_alloc q0 _, cell_alloc q1 _, hB.alloc hB.size _⟩
    · obtain rfl : k = L.length := by omega
      rw [List.take_length] at HRB
      have HRR : Hid (∀ x, rb = some x → rightB x.at_ = true) := fun x hx => refBest_right L HRI.out _ x (HRB.out.trans hx)
      cases rb with
      | none =>
        simp only [atOf] at l0 l1
        go_wp2_with fail
        go_quiet (fail)
        go_wp2_with fail
        go_ret2
        exact ⟨by rw [HRB.out]; rfl, below_drewN hB _⟩
      | some y =>
        have hpos := right_pos (HRR.out y rfl)
        have hn : ¬ y.at_.n = 0 := by
          have := HRR.out y rfl
          simp only [rightB, decide_eq_true_eq] at this
          omega
        simp only [atOf] at l0 l1
        clear hpos HRR
        go_wp2_with fail
        go_quiet (fail)
        go_wp2_with fail
        go_ret2
        exact ⟨by rw [HRB.out]; rfl, below_drewN hB _⟩

end Go.Proofs.Ytkkffnejgbhbmaa
