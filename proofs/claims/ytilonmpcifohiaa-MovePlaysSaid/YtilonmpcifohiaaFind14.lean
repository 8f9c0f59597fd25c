/- Layer 14: find, New. -/
import Derived.Test.YtilonmpcifohiaaMv14
import Derived.Test.YtilonmpcifohiaaIter
namespace Go.Proofs.Ytilonmpcifohiaa
open Go.RowKit
set_option linter.unusedSimpArgs false
set_option linter.unusedVariables false

set_option maxHeartbeats 1000000 in
theorem find_any (t : Nat) (v : Value) (l : List Mv) (x y : Int) (w : World) (hc : w.cell? ⟨t, 0, none⟩ = some v) (hv : SliceIs Mv.cells 9 w v l) (hs : Rising l) (hsz : l.length ≤ 1000) :
    Calls Try.prog 28 #[.pointer (some ⟨t, 0, none⟩), .agg #[.int .i64 x, .int .i64 y]] w
      fun e w' => ∃ (i : Nat) (is : Bool), e = .returned (.tuple #[.int .i64 i, .bool is]) ∧ i ≤ l.length ∧ (∀ (k : Nat) m, l[k]? = some m → (k < i ↔ stLt m.at_ ⟨x, y⟩)) ∧ (is = true ↔ ∃ m, l[i]? = some m ∧ m.at_ = ⟨x, y⟩) ∧ Below w.heap.size w w' := by
  have hv' := hv
  obtain ⟨va, vc, rfl, hcap, hmax, _⟩ := hv'
  unfold maxLen at hmax
  have HV := Lib.hid hv
  have hB1 : Below w.heap.size w (w.alloc (.cells #[.int .i64 x, .int .i64 y] 24)) := (Below.refl _ _).alloc (Nat.le_refl _) _
  have d0 := cell_alloc hc (.cells #[.int .i64 x, .int .i64 y] 24)
  have d1 : (w.alloc (.cells #[.int .i64 x, .int .i64 y] 24)).cell? ⟨w.heap.size, 0, none⟩ = some (.int .i64 x) := by go_simp
  have d2 : (w.alloc (.cells #[.int .i64 x, .int .i64 y] 24)).cell? ⟨w.heap.size, 1, none⟩ = some (.int .i64 y) := by go_simp
  have hv1 := hv.below hB1
  clear hv hc
  go_enter Try.func28, Try.ntmps28
  go_wp2_with fail
  generalize w.alloc (.cells #[.int .i64 x, .int .i64 y] 24) = w1 at *
  have hS : ∀ W, SliceIs Mv.cells 9 W (.slice va l.length vc) l → _ := fun W hW => search_any _ l x y W hW hs hsz
  have HS := Lib.hid hS
  have hv2 := hv1.below (Below.refl _ w1).drew
  clear hS
  go_region_held3 (fun W => W.cell? ⟨t, 0, none⟩ = some (.slice va l.length vc) ∧ W.cell? ⟨w.heap.size, 0, none⟩ = some (.int .i64 x) ∧ W.cell? ⟨w.heap.size, 1, none⟩ = some (.int .i64 y)) (first | exact ⟨d0, d1, d2⟩ | exact ⟨keepB b5 d0, keepB b5 d1, keepB b5 d2⟩) ((go_at_call 45; ((with_reducible refine (HS.out _ hv2).mono ?_); rintro e w5 ⟨i, is, rfl, h1, h2, h3, b5⟩; simp only [heap_drew, below_drew] at b5)))
  have HF : Hid (∃ (i' : Nat) (is' : Bool), Ending.returned (.tuple #[.int .i64 i, .bool is]) = .returned (.tuple #[.int .i64 i', .bool is']) ∧ i' ≤ l.length ∧ (∀ (k : Nat) m, l[k]? = some m → (k < i' ↔ stLt m.at_ ⟨x, y⟩)) ∧ (is' = true ↔ ∃ m, l[i']? = some m ∧ m.at_ = ⟨x, y⟩) ∧ Below w.heap.size w w5) := ⟨i, is, rfl, h1, h2, h3, hB1.trans (b5.mono hB1.size)⟩
  clear h1 h2 h3 b5 d0 d1 d2 hB1 HS
  go_wp2_with fail
  go_ret2
  exact HF.out

end Go.Proofs.Ytilonmpcifohiaa
