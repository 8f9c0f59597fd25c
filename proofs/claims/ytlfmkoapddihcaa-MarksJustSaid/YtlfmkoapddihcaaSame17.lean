/- Contract of stemmaref15.Same: are two lists one? -/
import Derived.Test.YtlfmkoapddihcaaHas17
import Derived.BigQuiet
import Derived.Deep.QuietTactic
import Derived.Deep.RegionHeld3
namespace Go.Proofs.Ytlfmkoapddihcaa
open Go.RowKit
set_option linter.unusedSimpArgs false
set_option linter.unusedVariables false

theorem take_ext {α : Type} {a b : List α} (hl : a.length = b.length) {k : Nat} (hk : ∀ j, j < k → a[j]? = b[j]?) (h : a.length ≤ k) : a = b :=
  List.ext_getElem? fun j => by
    by_cases hj : j < k
    · exact hk j hj
    · rw [List.getElem?_eq_none (by omega), List.getElem?_eq_none (by omega)]

set_option maxHeartbeats 1000000 in
theorem same_any (va vb : Value) (la lb : List Atr) (w : World) (ha : SliceIs Atr.cells 2 w va la) (hb : SliceIs Atr.cells 2 w vb lb) :
    Calls Try.prog 15 #[va, vb] w fun e w' => e = .returned (.bool (decide (la = lb))) ∧ Below w.heap.size w w' := by
  obtain ⟨aa, capa, rfl, hca, hma, hcella⟩ := ha
  obtain ⟨ab, capb, rfl, hcb, hmb, hcellb⟩ := hb
  unfold maxLen at hma hmb
  by_cases hl : la.length = lb.length
  · have HL := Lib.hid hl
    have hl1 : (((la.length : Nat) : Int) != ((lb.length : Nat) : Int)) = false := by simp [hl]
    clear hl
    go_enter Try.func15, Try.ntmps15
    go_wp2_with fail
    go_loopg [5] la.length (fun g i wr => ∃ k : Nat, g = la.length - k ∧ k ≤ la.length ∧ i = .int .i64 k ∧ Hid (∀ j, j < k → la[j]? = lb[j]?) ∧ Below w.heap.size w wr)
    case atStart => exact ⟨0, rfl, Nat.zero_le _, rfl, fun j hj => absurd hj (by omega), Below.refl _ _⟩
    case round =>
      obtain ⟨k, hg, hk, rfl, hpre, hB⟩ := hrel
      by_cases hlt : k < la.length
      · obtain ⟨x, hx⟩ : ∃ x, la[k]? = some x := ⟨_, List.getElem?_eq_getElem hlt⟩
        obtain ⟨y, hy⟩ : ∃ y, lb[k]? = some y := ⟨_, List.getElem?_eq_getElem (by rw [← HL.out]; exact hlt)⟩
        obtain ⟨b1, o1, rfl, hc1⟩ := hcella (by intro e; rw [e] at hlt; simp at hlt)
        obtain ⟨b2, o2, rfl, hc2⟩ := hcellb (by intro e; rw [e] at hy; simp at hy)
        have c10 : wr.cell? ⟨b1, o1 + k * 2, none⟩ = some (.string x.name) := keepB hB (hc1 k x hx 0 _ rfl)
        have c11 : wr.cell? ⟨b1, o1 + k * 2 + 1, none⟩ = some (.string x.value) := keepB hB (hc1 k x hx 1 _ rfl)
        have c20 : wr.cell? ⟨b2, o2 + k * 2, none⟩ = some (.string y.name) := keepB hB (hc2 k y hy 0 _ rfl)
        have c21 : wr.cell? ⟨b2, o2 + k * 2 + 1, none⟩ = some (.string y.value) := keepB hB (hc2 k y hy 1 _ rfl)
        have hlt2 : k < lb.length := (List.getElem?_eq_some_iff.1 hy).1
        have HX := Lib.hid hx
        have HY := Lib.hid hy
        have HG := Lib.hid hg
        clear hx hy hg hcella hcellb hc1 hc2
        by_cases hxy : x = y
        · subst hxy
          go_wp2_with fail
          go_region_held3 (fun W => W.cell? ⟨b1, o1 + k * 2, none⟩ = some (.string x.name) ∧ W.cell? ⟨b1, o1 + k * 2 + 1, none⟩ = some (.string x.value) ∧ W.cell? ⟨b2, o2 + k * 2, none⟩ = some (.string x.name) ∧ W.cell? ⟨b2, o2 + k * 2 + 1, none⟩ = some (.string x.value)) (exact ⟨c10, c11, c20, c21⟩) (fail)
          go_wp2_with fail
          go_roundg (la.length - (k + 1))
          case measure => rw [HG.out]; omega
          case rel =>
            refine ⟨k + 1, rfl, hlt, by go_num, fun j hj => ?_, hB.drew⟩
            by_cases hjk : j < k
            · exact hpre.out j hjk
            · have : j = k := by omega
              subst this
              rw [HX.out, HY.out]
        · have hres : decide (la = lb) = false := by
            rw [decide_eq_false_iff_not]
            intro e
            rw [e, HY.out] at HX
            exact hxy (Option.some.inj HX.out).symm
          have HR := Lib.hid hres
          clear hres
          by_cases h1 : x.name.toList = y.name.toList
          · have h2 : ¬ x.value.toList = y.value.toList := fun h2 => hxy (by
              obtain ⟨xn, xv⟩ := x
              obtain ⟨yn, yv⟩ := y
              have e1 := (eq_bytes _ _).1 h1
              have e2 := (eq_bytes _ _).1 h2
              simp only at e1 e2
              rw [e1, e2])
            go_wp2_with fail
            go_region_held3 (fun W => W.cell? ⟨b1, o1 + k * 2, none⟩ = some (.string x.name) ∧ W.cell? ⟨b1, o1 + k * 2 + 1, none⟩ = some (.string x.value) ∧ W.cell? ⟨b2, o2 + k * 2, none⟩ = some (.string y.name) ∧ W.cell? ⟨b2, o2 + k * 2 + 1, none⟩ = some (.string y.value)) (exact ⟨c10, c11, c20, c21⟩) (fail)
            go_wp2_with fail
            go_ret
            exact ⟨by rw [HR.out]; rfl, hB.drew⟩
          · go_wp2_with fail
            go_region_held3 (fun W => W.cell? ⟨b1, o1 + k * 2, none⟩ = some (.string x.name) ∧ W.cell? ⟨b1, o1 + k * 2 + 1, none⟩ = some (.string x.value) ∧ W.cell? ⟨b2, o2 + k * 2, none⟩ = some (.string y.name) ∧ W.cell? ⟨b2, o2 + k * 2 + 1, none⟩ = some (.string y.value)) (exact ⟨c10, c11, c20, c21⟩) (fail)
            go_wp2_with fail
            go_ret
            exact ⟨by rw [HR.out]; rfl, hB.drew⟩
      · have hres : decide (la = lb) = true := by
          rw [decide_eq_true_eq]
          exact take_ext HL.out hpre.out (by omega)
        have HR := Lib.hid hres
        clear hres
        go_wp2_with fail
        go_ret
        exact ⟨by rw [HR.out]; rfl, hB⟩
  · have hres : decide (la = lb) = false := by
      rw [decide_eq_false_iff_not]
      intro e
      exact hl (by rw [e])
    rw [hres]
    clear hres
    have hl1 : (((la.length : Nat) : Int) != ((lb.length : Nat) : Int)) = true := by simp; omega
    go_enter Try.func15, Try.ntmps15
    go_wp2_with fail
    go_ret
    exact ⟨rfl, Below.refl _ _⟩

end Go.Proofs.Ytlfmkoapddihcaa
