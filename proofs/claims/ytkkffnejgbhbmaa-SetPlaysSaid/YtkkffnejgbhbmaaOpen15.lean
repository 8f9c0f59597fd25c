/- The reading of a write, and of a slice of writes. -/
import Derived.Test.YtkkffnejgbhbmaaOpen
namespace Go.Proofs.Ytkkffnejgbhbmaa
open Go.ChangeShapes Go.WideShapes Go.RowKit Go.Deep
set_option linter.unusedSimpArgs false
set_option linter.unusedVariables false

/-- A write as it comes in. -/
structure Write where
  at_ : St
  blk : St
  name : ByteArray
  value : ByteArray
  deriving DecidableEq
def Write.cells (x : Write) : List Value := [.int .i64 x.at_.n, .int .i64 x.at_.r, .int .i64 x.blk.n, .int .i64 x.blk.r, .string x.name, .string x.value]

section
variable {H : Type} {enc : TypeId × Value → H} {w : World} {base : Nat} {spare : Nat → Bool} {held : Bool}

theorem trod_write {fuel : Nat} {cs : List Value} {x : DataW H × List MemPlace} (h : DataW.trod enc Try.prog w base spare held fuel 32 cs = some x) : ∃ y : Write, cs = y.cells := by
  obtain ⟨xs, n, _, _, hlen, hxl, hf⟩ := DataW.trod_struct Try.underlying32 h
  have hc : Try.prog.cellsOf 32 = 6 := by kernel_rfl
  have hc1 : Try.prog.cellsOf 30 = 2 := by kernel_rfl
  have hc2 : Try.prog.cellsOf 9 = 1 := by kernel_rfl
  rw [hc] at hlen
  match cs, hlen with
  | [a, b, c, d, e, f], _ =>
    have f0 : DataW.trod enc Try.prog w base spare held n 30 [a, b] = xs[0]? := by simpa [hc1] using hf 0 _ rfl
    have f1 : DataW.trod enc Try.prog w base spare held n 30 [c, d] = xs[1]? := by simpa [hc1] using hf 1 _ rfl
    have f2 : DataW.trod enc Try.prog w base spare held n 9 [e] = xs[2]? := by simpa [hc2] using hf 2 _ rfl
    have f3 : DataW.trod enc Try.prog w base spare held n 9 [f] = xs[3]? := by simpa [hc2] using hf 3 _ rfl
    simp at hxl
    obtain ⟨s, hs⟩ := trod_stamp (f0.trans (List.getElem?_eq_getElem (by omega)))
    obtain ⟨u, hu⟩ := trod_stamp (f1.trans (List.getElem?_eq_getElem (by omega)))
    obtain ⟨p, hp, _⟩ := DataW.trod_string Try.underlying9 (f2.trans (List.getElem?_eq_getElem (by omega)))
    obtain ⟨q, hq, _⟩ := DataW.trod_string Try.underlying9 (f3.trans (List.getElem?_eq_getElem (by omega)))
    simp at hs hu hp hq
    exact ⟨⟨s, u, p, q⟩, by simp [Write.cells, hs, hu, hp, hq]⟩

theorem open_write {r : Reach} {b0 : Nat} {v : Value} {d : DataW H} {p : List MemPlace} (hv : Value.okWide Try.prog w r b0 32 v) (h : DataW.Trod enc Try.prog w base spare held 32 v d p) : ∃ y : Write, v = .agg y.cells.toArray := by
  obtain ⟨cs, rfl, _⟩ := okWide_struct Try.underlying32 hv
  obtain ⟨fuel, hf⟩ := h
  obtain ⟨y, hy⟩ := trod_write hf
  exact ⟨y, by rw [← hy]; simp [Value.cells]⟩

theorem open_writes {r : Reach} {b0 : Nat} {v : Value} {d : DataW H} {p : List MemPlace} (hv : Value.okWide Try.prog w r b0 22 v) (h : DataW.Trod enc Try.prog w base spare held 22 v d p) : ∃ l, SliceIs Write.cells 6 w v l :=
  open_structs Try.underlying22 (by kernel_rfl) (by omega) (fun _ => rfl) (fun _ _ _ h => trod_write h) hv h
end

end Go.Proofs.Ytkkffnejgbhbmaa
