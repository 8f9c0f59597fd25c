/- Layer 17: how long a text that came in may be. -/
import Derived.Test.YtlfmkoapddihcaaOpenEl17
import Derived.SizedLaws
namespace Go.Proofs.Ytlfmkoapddihcaa
open Go.ChangeShapes Go.WideShapes Go.RowKit Go.Deep
set_option linter.unusedSimpArgs false
set_option linter.unusedVariables false

theorem bytes_el : Try.prog.bytesOf 48 = 32 := by kernel_rfl

section
variable {H : Type} {enc : TypeId × Value → H} {w : World} {base : Nat} {spare : Nat → Bool} {held : Bool}
theorem els_len {a : Option Addr} {len cap : Nat} {d : DataW H} {p : List MemPlace} (h : DataW.Trod enc Try.prog w base spare held 22 (.slice a len cap) d p) : len = 0 ∨ ∃ elems rest, d = .slice elems rest ∧ elems.length = len := by
  obtain ⟨fuel, hf⟩ := h
  rcases open_slice Try.underlying22 hf with ⟨hcs, _⟩ | ⟨a', len', cap', m, n, D, Pl, hcs, hb, hl, hm, hmm, hx, hi⟩
  · simp [Value.cells] at hcs
    exact .inl hcs.2.1
  · simp [Value.cells] at hcs
    obtain ⟨rfl, rfl, rfl⟩ := hcs
    simp only [Prod.mk.injEq] at hx
    exact .inr ⟨_, _, hx.1, by simp⟩
theorem els_sized {ts : List TypeId} {ds : List (DataW H)} {a : Option Addr} {len cap : Nat} {d : DataW H} {p : List MemPlace} (hsz : (DataW.weightsEach Try.prog ts ds).all (· ≤ reachBytes) = true) {j : Nat} (ht : ts[j]? = some 22) (hd : ds[j]? = some d)
    (h : DataW.Trod enc Try.prog w base spare held 22 (.slice a len cap) d p) : len ≤ 4398046510976 := by
  rcases els_len h with e | ⟨elems, rest, rfl, e⟩
  · omega
  · have := sized_slice hsz ht hd Try.underlying22
    rw [bytes_el] at this
    unfold reachBytes at this
    omega
end

end Go.Proofs.Ytlfmkoapddihcaa
