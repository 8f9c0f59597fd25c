/- Layer 6: the reading of how power goes. -/
import Derived.Test.YtmlaojfhmaamcaaOpenA06
namespace Go.Proofs.Ytmlaojfhmaamcaa
open Go.ChangeShapes Go.WideShapes Go.RowKit Go.Deep
set_option linter.unusedSimpArgs false
set_option linter.unusedVariables false

/-- How power goes, in memory. -/
structure CutC where
  at_ : Int
  names : Int
  keep : Sl
  torn : Int
  ks : List Bool
def CutC.cells (x : CutC) : List Value := [.int .i64 x.at_, .int .i64 x.names, .slice x.keep.a x.keep.n x.keep.cap, .int .i64 x.torn]
/-- Its slice, its numbers. -/
structure CutC.In (x : CutC) (w : World) : Prop where
  sl : SliceIs boolc 1 w (.slice x.keep.a x.keep.n x.keep.cap) x.ks
  a1 : -9223372036854775808 ≤ x.at_
  a2 : x.at_ ≤ 9223372036854775807
  n1 : -9223372036854775808 ≤ x.names
  n2 : x.names ≤ 9223372036854775807
  t1 : -9223372036854775808 ≤ x.torn
  t2 : x.torn ≤ 9223372036854775807

section
variable {H : Type} {enc : TypeId × Value → H} {w : World} {base : Nat} {spare : Nat → Bool} {held : Bool}
theorem trod_i64 {fuel : Nat} {a : Value} {x : DataW H × List MemPlace} (h : DataW.trod enc Try.prog w base spare held fuel 3 [a] = some x) : ∃ z : Int, a = .int .i64 z ∧ -9223372036854775808 ≤ z ∧ z ≤ 9223372036854775807 := by
  obtain ⟨z, hz, _, hw⟩ := DataW.trod_int (k := .i64) Try.underlying3 h
  have e1 : IntKind.i64.min = -9223372036854775808 := by decide
  have e2 : IntKind.i64.max = 9223372036854775807 := by decide
  simp [Lit.wf, e1, e2] at hw
  simp at hz
  exact ⟨z, hz, hw⟩
set_option maxRecDepth 100000 in
theorem open_cuts {r : Reach} {b0 : Nat} {v : Value} {d : DataW H} {p : List MemPlace} (hv : Value.okWide Try.prog w r b0 26 v) (h : DataW.Trod enc Try.prog w base spare held 26 v d p) : ∃ x : CutC, v = .agg #[.int .i64 x.at_, .int .i64 x.names, .slice x.keep.a x.keep.n x.keep.cap, .int .i64 x.torn] ∧ x.In w := by
  obtain ⟨cs, rfl, _⟩ := okWide_struct Try.underlying26 hv
  obtain ⟨fuel, hf⟩ := h
  have hcs : (Value.agg cs).cells.toList = cs.toList := rfl
  rw [hcs] at hf
  obtain ⟨cs⟩ := cs
  obtain ⟨ys, m, _, _, hlen2, hyl, hg⟩ := DataW.trod_struct Try.underlying26 hf
  have c1 : Try.prog.cellsOf 3 = 1 := by kernel_rfl
  have c4 : Try.prog.cellsOf 24 = 1 := by kernel_rfl
  have c5 : Try.prog.cellsOf 26 = 4 := by kernel_rfl
  rw [c5] at hlen2
  match cs, hlen2 with
  | [a4, a5, a6, a7], _ =>
    have g0 : DataW.trod enc Try.prog w base spare held m 3 [a4] = ys[0]? := by simpa [c1] using hg 0 _ rfl
    have g1 : DataW.trod enc Try.prog w base spare held m 3 [a5] = ys[1]? := by simpa [c1] using hg 1 _ rfl
    have g2 : DataW.trod enc Try.prog w base spare held m 24 [a6] = ys[2]? := by simpa [c4] using hg 2 _ rfl
    have g3 : DataW.trod enc Try.prog w base spare held m 3 [a7] = ys[3]? := by simpa [c1] using hg 3 _ rfl
    simp at hyl
    obtain ⟨at_, rfl, b1, b2⟩ := trod_i64 (g0.trans (List.getElem?_eq_getElem (by omega)))
    obtain ⟨ns, rfl, b3, b4⟩ := trod_i64 (g1.trans (List.getElem?_eq_getElem (by omega)))
    obtain ⟨vk, ks, h6, hk, _⟩ := open_slice_p (ea := boolc) (k := 1) (p := fun _ => True) Try.underlying24 (by kernel_rfl) (by omega) (fun _ => rfl) (fun _ _ _ h => trod_bo h) (g2.trans (List.getElem?_eq_getElem (by omega)))
    obtain ⟨tn, rfl, b5, b6⟩ := trod_i64 (g3.trans (List.getElem?_eq_getElem (by omega)))
    obtain ⟨ka, kc, ek, _⟩ := id hk
    simp only [List.cons.injEq, and_true] at h6
    subst h6 ek
    exact ⟨⟨at_, ns, ⟨ka, ks.length, kc⟩, tn, ks⟩, rfl, hk, b1, b2, b3, b4, b5, b6⟩
end

end Go.Proofs.Ytmlaojfhmaamcaa
