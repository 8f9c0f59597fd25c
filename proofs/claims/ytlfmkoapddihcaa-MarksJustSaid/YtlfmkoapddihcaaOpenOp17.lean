/- Layer 17: the reading of operations. -/
import Derived.Test.YtlfmkoapddihcaaOpenEl17
import Derived.OpenShut
namespace Go.Proofs.Ytlfmkoapddihcaa
open Go.ChangeShapes Go.WideShapes Go.RowKit Go.Deep
set_option linter.unusedSimpArgs false
set_option linter.unusedVariables false

theorem drop_take_one {α : Type} {l : List α} {i : Nat} {a : α} (h : l[i]? = some a) : (l.drop i).take 1 = [a] := by
  obtain ⟨hi, rfl⟩ := List.getElem?_eq_some_iff.1 h
  rw [List.drop_eq_getElem_cons hi]
  rfl

section
variable {H : Type} {enc : TypeId × Value → H} {w : World} {base : Nat} {spare : Nat → Bool} {held : Bool}

theorem trod_anch {fuel : Nat} {a b c : Value} {x : DataW H × List MemPlace} (h : DataW.trod enc Try.prog w base spare held fuel 37 [a, b, c] = some x) : ∃ (s : St) (q : Bool), a = .int .i64 s.n ∧ b = .int .i64 s.r ∧ c = .bool q := by
  obtain ⟨xs, n, _, _, hlen, hxl, hf⟩ := DataW.trod_struct Try.underlying37 h
  have hc1 : Try.prog.cellsOf 31 = 2 := by kernel_rfl
  have hc3 : Try.prog.cellsOf 4 = 1 := by kernel_rfl
  have f0 : DataW.trod enc Try.prog w base spare held n 31 [a, b] = xs[0]? := by simpa [hc1] using hf 0 _ rfl
  have f1 : DataW.trod enc Try.prog w base spare held n 4 [c] = xs[1]? := by simpa [hc3] using hf 1 _ rfl
  simp at hxl
  obtain ⟨s, hs⟩ := trod_stamp (f0.trans (List.getElem?_eq_getElem (by omega)))
  obtain ⟨q, hq, _⟩ := DataW.trod_bool Try.underlying4 (f1.trans (List.getElem?_eq_getElem (by omega)))
  simp at hs hq
  exact ⟨s, q, hs.1, hs.2, hq⟩

theorem trod_one {fuel : Nat} {a : Value} {T : TypeId} {x : DataW H × List MemPlace} (hu : Try.prog.underlying T = some (.int .i64)) (h : DataW.trod enc Try.prog w base spare held fuel T [a] = some x) : ∃ z : Int, a = .int .i64 z := by
  obtain ⟨p, hp, _⟩ := DataW.trod_int hu h
  simp at hp
  exact ⟨p, hp⟩

theorem trod_vec {fuel : Nat} {a0 a1 a2 a3 a4 a5 a6 a7 : Value} {x : DataW H × List MemPlace} (h : DataW.trod enc Try.prog w base spare held fuel 33 [a0, a1, a2, a3, a4, a5, a6, a7] = some x) :
    ∃ z0 z1 z2 z3 z4 z5 z6 z7 : Int, [a0, a1, a2, a3, a4, a5, a6, a7] = [.int .i64 z0, .int .i64 z1, .int .i64 z2, .int .i64 z3, .int .i64 z4, .int .i64 z5, .int .i64 z6, .int .i64 z7] := by
  obtain ⟨xs, m, _, _, hlen, hxl, hf⟩ := DataW.trod_array (n := 8) (e := 3) Try.underlying33 h
  have hc2 : Try.prog.cellsOf 3 = 1 := by kernel_rfl
  have hq : ∀ i (hi : i < 8) (a : Value), [a0, a1, a2, a3, a4, a5, a6, a7][i]? = some a → ∃ z : Int, a = .int .i64 z := fun i hi a ha => by
    have := hf i hi
    rw [hc2, Nat.mul_one, drop_take_one ha] at this
    exact trod_one Try.underlying3 (this.trans (List.getElem?_eq_getElem (by omega)))
  obtain ⟨z0, rfl⟩ := hq 0 (by omega) a0 rfl
  obtain ⟨z1, rfl⟩ := hq 1 (by omega) a1 rfl
  obtain ⟨z2, rfl⟩ := hq 2 (by omega) a2 rfl
  obtain ⟨z3, rfl⟩ := hq 3 (by omega) a3 rfl
  obtain ⟨z4, rfl⟩ := hq 4 (by omega) a4 rfl
  obtain ⟨z5, rfl⟩ := hq 5 (by omega) a5 rfl
  obtain ⟨z6, rfl⟩ := hq 6 (by omega) a6 rfl
  obtain ⟨z7, rfl⟩ := hq 7 (by omega) a7 rfl
  exact ⟨z0, z1, z2, z3, z4, z5, z6, z7, rfl⟩

set_option maxRecDepth 100000 in
set_option maxHeartbeats 2000000 in
theorem trod_op {fuel : Nat} {cs : List Value} {x : DataW H × List MemPlace} (h : DataW.trod enc Try.prog w base spare held fuel 39 cs = some x) : ∃ y : OpD, cs = y.cells := by
  obtain ⟨xs, n, _, _, hlen, hxl, hf⟩ := DataW.trod_struct Try.underlying39 h
  have hc : Try.prog.cellsOf 39 = 26 := by kernel_rfl
  have c1 : Try.prog.cellsOf 31 = 2 := by kernel_rfl
  have c2 : Try.prog.cellsOf 3 = 1 := by kernel_rfl
  have c3 : Try.prog.cellsOf 33 = 8 := by kernel_rfl
  have c4 : Try.prog.cellsOf 34 = 1 := by kernel_rfl
  have c5 : Try.prog.cellsOf 35 = 1 := by kernel_rfl
  have c6 : Try.prog.cellsOf 9 = 1 := by kernel_rfl
  have c7 : Try.prog.cellsOf 37 = 3 := by kernel_rfl
  rw [hc] at hlen
  match cs, hlen with
  | [a0, a1, a2, a3, a4, a5, a6, a7, a8, a9, a10, a11, a12, a13, a14, a15, a16, a17, a18, a19, a20, a21, a22, a23, a24, a25], _ =>
    have f0 : DataW.trod enc Try.prog w base spare held n 31 [a0, a1] = xs[0]? := by simpa [c1] using hf 0 _ rfl
    have f1 : DataW.trod enc Try.prog w base spare held n 33 [a2, a3, a4, a5, a6, a7, a8, a9] = xs[1]? := by simpa [c3] using hf 1 _ rfl
    have f2 : DataW.trod enc Try.prog w base spare held n 34 [a10] = xs[2]? := by simpa [c4] using hf 2 _ rfl
    have f3 : DataW.trod enc Try.prog w base spare held n 31 [a11, a12] = xs[3]? := by simpa [c1] using hf 3 _ rfl
    have f4 : DataW.trod enc Try.prog w base spare held n 35 [a13] = xs[4]? := by simpa [c5] using hf 4 _ rfl
    have f5 : DataW.trod enc Try.prog w base spare held n 3 [a14] = xs[5]? := by simpa [c2] using hf 5 _ rfl
    have f6 : DataW.trod enc Try.prog w base spare held n 31 [a15, a16] = xs[6]? := by simpa [c1] using hf 6 _ rfl
    have f7 : DataW.trod enc Try.prog w base spare held n 9 [a17] = xs[7]? := by simpa [c6] using hf 7 _ rfl
    have f8 : DataW.trod enc Try.prog w base spare held n 9 [a18] = xs[8]? := by simpa [c6] using hf 8 _ rfl
    have f9 : DataW.trod enc Try.prog w base spare held n 9 [a19] = xs[9]? := by simpa [c6] using hf 9 _ rfl
    have f10 : DataW.trod enc Try.prog w base spare held n 37 [a20, a21, a22] = xs[10]? := by simpa [c7] using hf 10 _ rfl
    have f11 : DataW.trod enc Try.prog w base spare held n 37 [a23, a24, a25] = xs[11]? := by simpa [c7] using hf 11 _ rfl
    simp at hxl
    obtain ⟨s0, h0⟩ := trod_stamp (f0.trans (List.getElem?_eq_getElem (by omega)))
    obtain ⟨z0, z1, z2, z3, z4, z5, z6, z7, h1⟩ := trod_vec (f1.trans (List.getElem?_eq_getElem (by omega)))
    obtain ⟨k, h2⟩ := trod_one Try.underlying34 (f2.trans (List.getElem?_eq_getElem (by omega)))
    obtain ⟨s3, h3⟩ := trod_stamp (f3.trans (List.getElem?_eq_getElem (by omega)))
    obtain ⟨sd, h4⟩ := trod_one Try.underlying35 (f4.trans (List.getElem?_eq_getElem (by omega)))
    obtain ⟨ch, h5⟩ := trod_one Try.underlying3 (f5.trans (List.getElem?_eq_getElem (by omega)))
    obtain ⟨s6, h6⟩ := trod_stamp (f6.trans (List.getElem?_eq_getElem (by omega)))
    obtain ⟨ky, h7, _⟩ := DataW.trod_string Try.underlying9 (f7.trans (List.getElem?_eq_getElem (by omega)))
    obtain ⟨nm, h8, _⟩ := DataW.trod_string Try.underlying9 (f8.trans (List.getElem?_eq_getElem (by omega)))
    obtain ⟨vl, h9, _⟩ := DataW.trod_string Try.underlying9 (f9.trans (List.getElem?_eq_getElem (by omega)))
    obtain ⟨s10, q10, i0, i1, i2⟩ := trod_anch (f10.trans (List.getElem?_eq_getElem (by omega)))
    obtain ⟨s11, q11, j0, j1, j2⟩ := trod_anch (f11.trans (List.getElem?_eq_getElem (by omega)))
    simp only [List.cons.injEq, and_true] at h0 h1 h3 h6 h7 h8 h9
    exact ⟨⟨s0, z0, z1, z2, z3, z4, z5, z6, z7, k, s3, sd, ch, s6, ky, nm, vl, s10, q10, s11, q11⟩, by simp only [OpD.cells, h0, h1, h2, h3, h4, h5, h6, h7, h8, h9, i0, i1, i2, j0, j1, j2]⟩

set_option maxRecDepth 100000 in
theorem open_ops {r : Reach} {b0 : Nat} {v : Value} {d : DataW H} {p : List MemPlace} (hv : Value.okWide Try.prog w r b0 23 v) (h : DataW.Trod enc Try.prog w base spare held 23 v d p) : ∃ l, SliceIs OpD.cells 26 w v l :=
  open_structs Try.underlying23 (by kernel_rfl) (by omega) (fun _ => rfl) (fun _ _ _ h => trod_op h) hv h
end

end Go.Proofs.Ytlfmkoapddihcaa
