/- Layer 17: the reading of elements and of a range. -/
import Derived.Test.YtlfmkoapddihcaaOpen
import Derived.Test.YtlfmkoapddihcaaOp17
namespace Go.Proofs.Ytlfmkoapddihcaa
open Go.ChangeShapes Go.WideShapes Go.RowKit Go.Deep
set_option linter.unusedSimpArgs false
set_option linter.unusedVariables false

/-- What a mark is to be over, or a span. -/
structure Rg where
  lo : Int
  hi : Int
  grow : Bool

section
variable {H : Type} {enc : TypeId × Value → H} {w : World} {base : Nat} {spare : Nat → Bool} {held : Bool}

set_option maxRecDepth 100000 in
theorem trod_el {fuel : Nat} {cs : List Value} {x : DataW H × List MemPlace} (h : DataW.trod enc Try.prog w base spare held fuel 48 cs = some x) : ∃ y : El, cs = y.cells := by
  obtain ⟨xs, n, _, _, hlen, hxl, hf⟩ := DataW.trod_struct Try.underlying48 h
  have hc : Try.prog.cellsOf 48 = 4 := by kernel_rfl
  have hc1 : Try.prog.cellsOf 31 = 2 := by kernel_rfl
  have hc2 : Try.prog.cellsOf 3 = 1 := by kernel_rfl
  have hc3 : Try.prog.cellsOf 4 = 1 := by kernel_rfl
  rw [hc] at hlen
  match cs, hlen with
  | [a, b, c, d], _ =>
    have f0 : DataW.trod enc Try.prog w base spare held n 31 [a, b] = xs[0]? := by simpa [hc1] using hf 0 _ rfl
    have f1 : DataW.trod enc Try.prog w base spare held n 3 [c] = xs[1]? := by simpa [hc2] using hf 1 _ rfl
    have f2 : DataW.trod enc Try.prog w base spare held n 4 [d] = xs[2]? := by simpa [hc3] using hf 2 _ rfl
    simp at hxl
    obtain ⟨s, hs⟩ := trod_stamp (f0.trans (List.getElem?_eq_getElem (by omega)))
    obtain ⟨p, hp, _⟩ := DataW.trod_int Try.underlying3 (f1.trans (List.getElem?_eq_getElem (by omega)))
    obtain ⟨q, hq, _⟩ := DataW.trod_bool Try.underlying4 (f2.trans (List.getElem?_eq_getElem (by omega)))
    simp at hs hp hq
    exact ⟨⟨s, p, q⟩, by simp [El.cells, hs, hp, hq]⟩

set_option maxRecDepth 100000 in
theorem open_els {r : Reach} {b0 : Nat} {v : Value} {d : DataW H} {p : List MemPlace} (hv : Value.okWide Try.prog w r b0 22 v) (h : DataW.Trod enc Try.prog w base spare held 22 v d p) : ∃ l, SliceIs El.cells 4 w v l :=
  open_structs Try.underlying22 (by kernel_rfl) (by omega) (fun _ => rfl) (fun _ _ _ h => trod_el h) hv h

set_option maxRecDepth 100000 in
theorem open_rg {r : Reach} {b0 : Nat} {v : Value} {d : DataW H} {p : List MemPlace} (hv : Value.okWide Try.prog w r b0 42 v) (h : DataW.Trod enc Try.prog w base spare held 42 v d p) : ∃ y : Rg, v = .agg #[.int .i64 y.lo, .int .i64 y.hi, .bool y.grow] := by
  obtain ⟨cs, rfl, _⟩ := okWide_struct Try.underlying42 hv
  obtain ⟨fuel, hf⟩ := h
  obtain ⟨xs, n, _, _, hlen, hxl, hf⟩ := DataW.trod_struct Try.underlying42 hf
  have hc : Try.prog.cellsOf 42 = 3 := by kernel_rfl
  have hc2 : Try.prog.cellsOf 3 = 1 := by kernel_rfl
  have hc3 : Try.prog.cellsOf 4 = 1 := by kernel_rfl
  rw [hc] at hlen
  have hcs : (Value.agg cs).cells.toList = cs.toList := rfl
  rw [hcs] at hf
  obtain ⟨cs⟩ := cs
  match cs, hlen with
  | [a, b, c], _ =>
    have f0 : DataW.trod enc Try.prog w base spare held n 3 [a] = xs[0]? := by simpa [hc2] using hf 0 _ rfl
    have f1 : DataW.trod enc Try.prog w base spare held n 3 [b] = xs[1]? := by simpa [hc2] using hf 1 _ rfl
    have f2 : DataW.trod enc Try.prog w base spare held n 4 [c] = xs[2]? := by simpa [hc3] using hf 2 _ rfl
    simp at hxl
    obtain ⟨p, hp, _⟩ := DataW.trod_int Try.underlying3 (f0.trans (List.getElem?_eq_getElem (by omega)))
    obtain ⟨q, hq, _⟩ := DataW.trod_int Try.underlying3 (f1.trans (List.getElem?_eq_getElem (by omega)))
    obtain ⟨s, hs, _⟩ := DataW.trod_bool Try.underlying4 (f2.trans (List.getElem?_eq_getElem (by omega)))
    simp at hp hq hs
    exact ⟨⟨p, q, s⟩, by simp [hp, hq, hs]⟩
end

end Go.Proofs.Ytlfmkoapddihcaa
