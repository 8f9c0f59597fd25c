/- Layer 6: the reading of acts, with the ranges of their numbers. -/
import Derived.Test.YtmlaojfhmaamcaaOpenC06
namespace Go.Proofs.Ytmlaojfhmaamcaa
open Go.ChangeShapes Go.WideShapes Go.RowKit Go.Deep
set_option linter.unusedSimpArgs false
set_option linter.unusedVariables false

/-- How power goes: its numbers are Go's. -/
structure OpA.Ranged (x : OpA) : Prop where
  a1 : -9223372036854775808 ≤ x.at_
  a2 : x.at_ ≤ 9223372036854775807
  n1 : -9223372036854775808 ≤ x.names
  n2 : x.names ≤ 9223372036854775807
  t1 : -9223372036854775808 ≤ x.torn
  t2 : x.torn ≤ 9223372036854775807

section
variable {H : Type} {enc : TypeId × Value → H} {w : World} {base : Nat} {spare : Nat → Bool} {held : Bool}
set_option maxRecDepth 100000 in
set_option maxHeartbeats 2000000 in
theorem trod_opB {fuel : Nat} {cs : List Value} {x : DataW H × List MemPlace} (h : DataW.trod enc Try.prog w base spare held fuel 28 cs = some x) : ∃ y : OpA, cs = y.cells ∧ y.In w ∧ y.Ranged := by
  obtain ⟨xs, n, _, _, hlen, hxl, hf⟩ := DataW.trod_struct Try.underlying28 h
  have hc : Try.prog.cellsOf 28 = 8 := by kernel_rfl
  have c1 : Try.prog.cellsOf 3 = 1 := by kernel_rfl
  have c2 : Try.prog.cellsOf 9 = 1 := by kernel_rfl
  have c3 : Try.prog.cellsOf 23 = 1 := by kernel_rfl
  have c4 : Try.prog.cellsOf 24 = 1 := by kernel_rfl
  have c5 : Try.prog.cellsOf 26 = 4 := by kernel_rfl
  rw [hc] at hlen
  match cs, hlen with
  | [a0, a1, a2, a3, a4, a5, a6, a7], _ =>
    have f0 : DataW.trod enc Try.prog w base spare held n 3 [a0] = xs[0]? := by simpa [c1] using hf 0 _ rfl
    have f1 : DataW.trod enc Try.prog w base spare held n 9 [a1] = xs[1]? := by simpa [c2] using hf 1 _ rfl
    have f2 : DataW.trod enc Try.prog w base spare held n 9 [a2] = xs[2]? := by simpa [c2] using hf 2 _ rfl
    have f3 : DataW.trod enc Try.prog w base spare held n 23 [a3] = xs[3]? := by simpa [c3] using hf 3 _ rfl
    have f4 : DataW.trod enc Try.prog w base spare held n 26 [a4, a5, a6, a7] = xs[4]? := by simpa [c5] using hf 4 _ rfl
    simp at hxl
    obtain ⟨k, h0, _⟩ := DataW.trod_int Try.underlying3 (f0.trans (List.getElem?_eq_getElem (by omega)))
    obtain ⟨nm, h1, _, s1⟩ := DataW.trod_string Try.underlying9 (f1.trans (List.getElem?_eq_getElem (by omega)))
    obtain ⟨s, h2, _, s2⟩ := DataW.trod_string Try.underlying9 (f2.trans (List.getElem?_eq_getElem (by omega)))
    obtain ⟨vb, bs, h3, hb, _⟩ := open_slice_p (ea := u8c) (k := 1) (p := fun _ => True) Try.underlying23 (by kernel_rfl) (by omega) (fun _ => rfl) (fun _ _ _ h => trod_u8 h) (f3.trans (List.getElem?_eq_getElem (by omega)))
    obtain ⟨ys, m, _, _, hlen2, hyl, hg⟩ := DataW.trod_struct Try.underlying26 (f4.trans (List.getElem?_eq_getElem (by omega)))
    have g0 : DataW.trod enc Try.prog w base spare held m 3 [a4] = ys[0]? := by simpa [c1] using hg 0 _ rfl
    have g1 : DataW.trod enc Try.prog w base spare held m 3 [a5] = ys[1]? := by simpa [c1] using hg 1 _ rfl
    have g2 : DataW.trod enc Try.prog w base spare held m 24 [a6] = ys[2]? := by simpa [c4] using hg 2 _ rfl
    have g3 : DataW.trod enc Try.prog w base spare held m 3 [a7] = ys[3]? := by simpa [c1] using hg 3 _ rfl
    simp at hyl
    obtain ⟨at_, h4, h4a, h4b⟩ := trod_i64 (g0.trans (List.getElem?_eq_getElem (by omega)))
    obtain ⟨ns, h5, h5a, h5b⟩ := trod_i64 (g1.trans (List.getElem?_eq_getElem (by omega)))
    obtain ⟨vk, ks, h6, hk, _⟩ := open_slice_p (ea := boolc) (k := 1) (p := fun _ => True) Try.underlying24 (by kernel_rfl) (by omega) (fun _ => rfl) (fun _ _ _ h => trod_bo h) (g2.trans (List.getElem?_eq_getElem (by omega)))
    obtain ⟨tn, h7, h7a, h7b⟩ := trod_i64 (g3.trans (List.getElem?_eq_getElem (by omega)))
    obtain ⟨ba, bc, eb, _⟩ := id hb
    obtain ⟨ka, kc, ek, _⟩ := id hk
    simp only [List.cons.injEq, and_true] at h0 h1 h2 h3 h4 h5 h6 h7
    refine ⟨⟨k, nm, s, ⟨ba, bs.length, bc⟩, at_, ns, ⟨ka, ks.length, kc⟩, tn, bs, ks⟩, ?_, ⟨?_, ?_, s1, s2⟩, ⟨h4a, h4b, h5a, h5b, h7a, h7b⟩⟩
    · simp only [OpA.cells, h0, h1, h2, h3, h4, h5, h6, h7, eb, ek]
    · show SliceIs u8c 1 w (.slice ba bs.length bc) bs
      rw [← eb]; exact hb
    · show SliceIs boolc 1 w (.slice ka ks.length kc) ks
      rw [← ek]; exact hk

set_option maxRecDepth 100000 in
theorem open_scriptB {r : Reach} {b0 : Nat} {v : Value} {d : DataW H} {p : List MemPlace} (hv : Value.okWide Try.prog w r b0 22 v) (h : DataW.Trod enc Try.prog w base spare held 22 v d p) : ∃ l : List OpA, SliceIs OpA.cells 8 w v l ∧ ∀ x ∈ l, x.In w ∧ x.Ranged := by
  obtain ⟨a0, len0, cap0, rfl⟩ := okWide_slice Try.underlying22 hv
  obtain ⟨fuel, hf⟩ := h
  obtain ⟨v', l, hcs, hl, hp⟩ := open_slice_p (ea := OpA.cells) (k := 8) (p := fun x => OpA.In x w ∧ x.Ranged) Try.underlying22 (by kernel_rfl) (by omega) OpA.len (fun _ _ _ h => trod_opB h) hf
  simp [Value.cells] at hcs
  subst hcs
  exact ⟨l, hl, hp⟩
end

end Go.Proofs.Ytmlaojfhmaamcaa
