/- The document's names: a contract. -/
import Derived.Test.YtgmdimbiipemhaaGreatDoorRNam08
namespace Go.Proofs.YtgmdimbiipemhaaGreatDoor
open Go.RowKit Go.Deep
set_option linter.unusedSimpArgs false
set_option linter.unusedVariables false

set_option maxRecDepth 20000 in
set_option maxHeartbeats 2000000 in
theorem rnames_any (o : OpD) (s : St) (nb : Bool) (w : World) : Calls Tryz.prog 134 #[o.val, .agg #[.int .i64 s.n, .int .i64 s.r], .bool nb] w fun e w' => e = .returned (.bool (nb && decide (s = ⟨0, 0⟩) || o.may s)) ∧ Below w.heap.size w w' := by
  unfold OpD.val
  obtain ⟨W1, hW1⟩ : ∃ W1, (w.alloc (.cells o.cells.toArray 68)).alloc (.cells #[.int .i64 s.n, .int .i64 s.r] 62) = W1 := ⟨_, rfl⟩
  have hb1 : Below w.heap.size w W1 := by rw [← hW1]; exact ((Below.refl _ _).alloc (Nat.le_refl _) _).alloc (by simp) _
  have ho : OB w.heap.size o W1 := by rw [← hW1]; exact (OB.new w o).alloc _
  have hs : W1.heap[w.heap.size + 1]? = some (.cells #[.int .i64 s.n, .int .i64 s.r] 62 (0, 0)) := by
    rw [← hW1]
    have := heap_new8 (w.alloc (.cells o.cells.toArray 68)) (.cells #[.int .i64 s.n, .int .i64 s.r] 62)
    rwa [World.size_alloc] at this
  have c0 : W1.cell? ⟨w.heap.size + 1, 0, none⟩ = some (.int .i64 s.n) := by simp [World.cell?, hs]
  have c1 : W1.cell? ⟨w.heap.size + 1, 1, none⟩ = some (.int .i64 s.r) := by simp [World.cell?, hs]
  have HV := Lib.hid (And.intro ho (And.intro hs hb1))
  clear ho hs hb1
  cases nb
  case false =>
    go_enter Tryz.func134, Tryz.ntmps134
    go_wp2_with fail
    refine (rright_any s.n s.r _).mono ?_
    rintro e w2 ⟨rfl, b2⟩
    clear c0 c1
    simp only [show (⟨s.n, s.r⟩ : St) = s from rfl]
    have HV2 : Hid (OB w.heap.size o w2 ∧ w2.heap[w.heap.size + 1]? = some (.cells #[.int .i64 s.n, .int .i64 s.r] 62 (0, 0)) ∧ Below w.heap.size w w2) := Lib.hid ⟨HV.out.1.below b2 HV.out.1.lt, (b2.block _ (Array.getElem?_eq_some_iff.1 HV.out.2.1).1).trans HV.out.2.1, HV.out.2.2.trans (b2.mono HV.out.2.2.size)⟩
    clear b2
    cases hr : rightB s with
    | false =>
      have hm : o.may s = false := by unfold OpD.may; rw [hr]; rfl
      have HM := Lib.hid hm
      clear hm hr
      go_wp2_with fail
      go_ret
      exact ⟨by rw [HM.out]; simp, HV2.out.2.2⟩
    | true =>
      have hm : o.may s = hasV o.deps s := by unfold OpD.may; rw [hr]; rfl
      have HM := Lib.hid hm
      clear hm hr
      have k0 : w2.cell? ⟨w.heap.size + 1, 0, none⟩ = some (.int .i64 s.n) := by simp [World.cell?, HV2.out.2.1]
      have k1 : w2.cell? ⟨w.heap.size + 1, 1, none⟩ = some (.int .i64 s.r) := by simp [World.cell?, HV2.out.2.1]
      have e0 : w2.cell? ⟨w.heap.size, 2, none⟩ = some (.int .i64 o.d0) := HV2.out.1.cell rfl
      have e1 : w2.cell? ⟨w.heap.size, 3, none⟩ = some (.int .i64 o.d1) := HV2.out.1.cell rfl
      have e2 : w2.cell? ⟨w.heap.size, 4, none⟩ = some (.int .i64 o.d2) := HV2.out.1.cell rfl
      have e3 : w2.cell? ⟨w.heap.size, 5, none⟩ = some (.int .i64 o.d3) := HV2.out.1.cell rfl
      have e4 : w2.cell? ⟨w.heap.size, 6, none⟩ = some (.int .i64 o.d4) := HV2.out.1.cell rfl
      have e5 : w2.cell? ⟨w.heap.size, 7, none⟩ = some (.int .i64 o.d5) := HV2.out.1.cell rfl
      have e6 : w2.cell? ⟨w.heap.size, 8, none⟩ = some (.int .i64 o.d6) := HV2.out.1.cell rfl
      have e7 : w2.cell? ⟨w.heap.size, 9, none⟩ = some (.int .i64 o.d7) := HV2.out.1.cell rfl
      go_wp2_with fail
      refine (rhas_any o.d0 o.d1 o.d2 o.d3 o.d4 o.d5 o.d6 o.d7 s _).mono ?_
      rintro e w9 ⟨rfl, b9⟩
      have HZ := Lib.hid (HV2.out.2.2.trans (b9.mono HV2.out.2.2.size))
      clear b9 k0 k1 e0 e1 e2 e3 e4 e5 e6 e7
      have HMM : Hid (o.may s = hasV [o.d0, o.d1, o.d2, o.d3, o.d4, o.d5, o.d6, o.d7] s) := Lib.hid HM.out
      generalize hasV [o.d0, o.d1, o.d2, o.d3, o.d4, o.d5, o.d6, o.d7] s = hv at HMM ⊢
      go_wp2_with fail
      go_ret
      exact ⟨by rw [HMM.out]; simp, HZ.out⟩
  case true =>
    go_enter Tryz.func134, Tryz.ntmps134
    go_wp2_with fail
    refine (rright_any s.n s.r _).mono ?_
    rintro e w2 ⟨rfl, b2⟩
    clear c0 c1
    simp only [show (⟨s.n, s.r⟩ : St) = s from rfl]
    have HV2 : Hid (OB w.heap.size o w2 ∧ w2.heap[w.heap.size + 1]? = some (.cells #[.int .i64 s.n, .int .i64 s.r] 62 (0, 0)) ∧ Below w.heap.size w w2) := Lib.hid ⟨HV.out.1.below b2 HV.out.1.lt, (b2.block _ (Array.getElem?_eq_some_iff.1 HV.out.2.1).1).trans HV.out.2.1, HV.out.2.2.trans (b2.mono HV.out.2.2.size)⟩
    clear b2
    have k0 : w2.cell? ⟨w.heap.size + 1, 0, none⟩ = some (.int .i64 s.n) := by simp [World.cell?, HV2.out.2.1]
    have k1 : w2.cell? ⟨w.heap.size + 1, 1, none⟩ = some (.int .i64 s.r) := by simp [World.cell?, HV2.out.2.1]
    go_wp2_with fail
    refine (rnone_any s _).mono ?_
    rintro e w3 ⟨rfl, b3⟩
    clear k0 k1
    have HV3 : Hid (OB w.heap.size o w3 ∧ w3.heap[w.heap.size + 1]? = some (.cells #[.int .i64 s.n, .int .i64 s.r] 62 (0, 0)) ∧ Below w.heap.size w w3) := Lib.hid ⟨HV2.out.1.below b3 HV2.out.1.lt, (b3.block _ (Array.getElem?_eq_some_iff.1 HV2.out.2.1).1).trans HV2.out.2.1, HV2.out.2.2.trans (b3.mono HV2.out.2.2.size)⟩
    clear b3
    by_cases hz : s = ⟨0, 0⟩
    · have HZ := Lib.hid hz
      rw [decide_eq_true hz]
      clear hz
      go_wp2_with fail
      go_ret
      exact ⟨by rw [decide_eq_true HZ.out]; first | rfl | simp, HV3.out.2.2⟩
    · have HZ0 := Lib.hid hz
      rw [decide_eq_false hz]
      clear hz
      cases hr : rightB s with
      | false =>
        have hm : o.may s = false := by unfold OpD.may; rw [hr]; rfl
        have HM := Lib.hid hm
        clear hm hr
        go_wp2_with fail
        go_ret
        exact ⟨by rw [HM.out]; rw [decide_eq_false HZ0.out]; simp, HV3.out.2.2⟩
      | true =>
        have hm : o.may s = hasV o.deps s := by unfold OpD.may; rw [hr]; rfl
        have HM := Lib.hid hm
        clear hm hr
        have k0 : w3.cell? ⟨w.heap.size + 1, 0, none⟩ = some (.int .i64 s.n) := by simp [World.cell?, HV3.out.2.1]
        have k1 : w3.cell? ⟨w.heap.size + 1, 1, none⟩ = some (.int .i64 s.r) := by simp [World.cell?, HV3.out.2.1]
        have e0 : w3.cell? ⟨w.heap.size, 2, none⟩ = some (.int .i64 o.d0) := HV3.out.1.cell rfl
        have e1 : w3.cell? ⟨w.heap.size, 3, none⟩ = some (.int .i64 o.d1) := HV3.out.1.cell rfl
        have e2 : w3.cell? ⟨w.heap.size, 4, none⟩ = some (.int .i64 o.d2) := HV3.out.1.cell rfl
        have e3 : w3.cell? ⟨w.heap.size, 5, none⟩ = some (.int .i64 o.d3) := HV3.out.1.cell rfl
        have e4 : w3.cell? ⟨w.heap.size, 6, none⟩ = some (.int .i64 o.d4) := HV3.out.1.cell rfl
        have e5 : w3.cell? ⟨w.heap.size, 7, none⟩ = some (.int .i64 o.d5) := HV3.out.1.cell rfl
        have e6 : w3.cell? ⟨w.heap.size, 8, none⟩ = some (.int .i64 o.d6) := HV3.out.1.cell rfl
        have e7 : w3.cell? ⟨w.heap.size, 9, none⟩ = some (.int .i64 o.d7) := HV3.out.1.cell rfl
        go_wp2_with fail
        refine (rhas_any o.d0 o.d1 o.d2 o.d3 o.d4 o.d5 o.d6 o.d7 s _).mono ?_
        rintro e w9 ⟨rfl, b9⟩
        have HZ := Lib.hid (HV3.out.2.2.trans (b9.mono HV3.out.2.2.size))
        clear b9 k0 k1 e0 e1 e2 e3 e4 e5 e6 e7
        have HMM : Hid (o.may s = hasV [o.d0, o.d1, o.d2, o.d3, o.d4, o.d5, o.d6, o.d7] s) := Lib.hid HM.out
        generalize hasV [o.d0, o.d1, o.d2, o.d3, o.d4, o.d5, o.d6, o.d7] s = hv at HMM ⊢
        go_wp2_with fail
        go_ret
        exact ⟨by rw [HMM.out]; rw [decide_eq_false HZ0.out]; simp, HZ.out⟩

end Go.Proofs.YtgmdimbiipemhaaGreatDoor
