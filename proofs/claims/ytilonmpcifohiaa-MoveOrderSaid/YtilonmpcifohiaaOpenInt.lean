/- The reading of a slice of ints that comes in. -/
import Derived.Test.YtilonmpcifohiaaOpenSt
namespace Go.Proofs.Ytilonmpcifohiaa
open Go.ChangeShapes Go.WideShapes Go.RowKit Go.Deep
set_option linter.unusedSimpArgs false
set_option linter.unusedVariables false
abbrev intC (z : Int) : List Value := [.int .i64 z]
def IntR := { z : Int // -9223372036854775808 ≤ z ∧ z ≤ 9223372036854775807 }
set_option maxRecDepth 100000 in
theorem open_ints1 {H : Type} {enc : TypeId × Value → H} {w : World} {base : Nat} {spare : Nat → Bool} {held : Bool} {r : Reach} {b0 : Nat} {v : Value} {d : DataW H} {p : List MemPlace} (hv : Value.okWide Try.prog w r b0 51 v) (h : DataW.Trod enc Try.prog w base spare held 51 v d p) :
    ∃ l : List Int, SliceIs intC 1 w v l ∧ ∀ z ∈ l, -9223372036854775808 ≤ z ∧ z ≤ 9223372036854775807 := by
  obtain ⟨l, hl⟩ := open_structs (α := IntR) (ea := fun z => intC z.1) (k := 1) Try.underlying51 (by kernel_rfl) (by omega) (fun _ => rfl) (fun _ _ _ h => by
    obtain ⟨n, h1, _, h3⟩ := DataW.trod_int Try.underlying3 h
    simp only [Lit.wf, Bool.and_eq_true, decide_eq_true_eq] at h3
    exact ⟨⟨n, by have h4 := h3.1; have h5 := h3.2; simp [IntKind.min, IntKind.max, IntKind.bits, IntKind.signed] at h4 h5; exact ⟨h4, h5⟩⟩, h1⟩) hv h
  refine ⟨l.map (·.1), ?_, fun z hz => ?_⟩
  · obtain ⟨a, cap, e, h1, h2, h3⟩ := hl
    refine ⟨a, cap, by rw [List.length_map]; exact e, by rw [List.length_map]; exact h1, h2, fun hne => ?_⟩
    obtain ⟨b, o, e2, h4⟩ := h3 (fun e => hne (by rw [e]; rfl))
    refine ⟨b, o, e2, fun i x hi j u hj => ?_⟩
    rw [List.getElem?_map] at hi
    cases hy : l[i]? with
    | none => rw [hy] at hi; cases hi
    | some y =>
      rw [hy] at hi
      cases hi
      exact h4 i y hy j u hj
  · obtain ⟨y, _, rfl⟩ := List.mem_map.1 hz
    exact y.2
end Go.Proofs.Ytilonmpcifohiaa
