/- Layer 17: SamePieces at equal lists; what stands at a place of a list of pieces. -/
import Derived.Test.YtlfmkoapddihcaaRPieces17
import Derived.Test.YtlfmkoapddihcaaOpenOp17
namespace Go.Proofs.Ytlfmkoapddihcaa
open Go.ChangeShapes Go.WideShapes Go.RowKit Go.Deep
set_option linter.unusedSimpArgs false
set_option linter.unusedVariables false

theorem PcsIs.at {base : Nat} {W : World} {u : Value} {P : Pcs} (h : PcsIs base W u P) {k : Nat} {t : ByteArray} {al : List Atr} (hk : P[k]? = some (t, al)) :
    ∃ (b o c : Nat) (s : Sl), u = .slice (some ⟨b, o, none⟩) P.length c ∧ P.length ≤ c ∧ c ≤ maxLen ∧ W.cell? ⟨b, o + k * 2, none⟩ = some (.string t) ∧ W.cell? ⟨b, o + k * 2 + 1, none⟩ = some (.slice s.a s.n s.cap) ∧ SliceIs Atr.cells 2 W (.slice s.a s.n s.cap) al := by
  obtain ⟨vs, h1, h2, h3⟩ := h
  obtain ⟨a, c, rfl, hc, hm, hh⟩ := h1.slice Pc.len
  have hkl := (List.getElem?_eq_some_iff.1 hk).1
  obtain ⟨x, hx⟩ : ∃ x, vs[k]? = some x := ⟨_, List.getElem?_eq_getElem (by omega)⟩
  obtain ⟨b, o, rfl, hh1⟩ := hh (by intro e; rw [e] at hx; simp at hx)
  obtain ⟨al', h4, h5⟩ := h3 k x hx
  rw [hk] at h4
  simp only [Option.some.injEq, Prod.mk.injEq] at h4
  obtain ⟨rfl, rfl⟩ := h4
  exact ⟨b, o, c, x.s, by rw [h2], by omega, hm, hh1 k x hx 0 _ rfl, hh1 k x hx 1 _ rfl, h5.slice (fun _ => rfl)⟩
theorem PcsIs.shape {base : Nat} {W : World} {u : Value} {P : Pcs} (h : PcsIs base W u P) : ∃ a c, u = .slice a P.length c ∧ P.length ≤ c ∧ c ≤ maxLen := by
  obtain ⟨vs, h1, h2, h3⟩ := h
  obtain ⟨a, c, rfl, hc, hm, hh⟩ := h1.slice Pc.len
  exact ⟨a, c, by rw [h2], by omega, hm⟩

set_option maxRecDepth 100000 in
set_option maxHeartbeats 1000000 in
theorem samePcs_any (b1 b2 : Nat) (u1 u2 : Value) (P : Pcs) (w : World) (h1 : PcsIs b1 w u1 P) (h2 : PcsIs b2 w u2 P) (hP : P.length ≤ 1000) :
    Calls Try.prog 20 #[u1, u2] w fun e w' => e = .returned (.bool true) ∧ Below w.heap.size w w' := by
  obtain ⟨a1, c1, rfl, hc1, hm1⟩ := h1.shape
  obtain ⟨a2, c2, rfl, hc2, hm2⟩ := h2.shape
  have H1 := Lib.hid h1
  have H2 := Lib.hid h2
  clear h1 h2
  go_enter Try.func20, Try.ntmps20
  go_wp2_with fail
  go_loopg [5] P.length (fun g iv wr => ∃ k : Nat, g = P.length - k ∧ k ≤ P.length ∧ iv = .int .i64 k ∧ Below w.heap.size w wr)
  case atStart => exact ⟨0, by omega, by omega, rfl, Below.refl _ _⟩
  case round =>
    obtain ⟨k, hg, hk, rfl, hB⟩ := hrel
    have HG := Lib.hid hg
    by_cases hkl : k < P.length
    · obtain ⟨⟨t, al⟩, hx⟩ : ∃ x, P[k]? = some x := ⟨_, List.getElem?_eq_getElem hkl⟩
      obtain ⟨ba, oa, ca, sa, e1, _, _, ta, ma, ya⟩ := (H1.out.ext hB).at hx
      cases e1
      obtain ⟨bb, ob, cb, sb, e2, _, _, tb, mb, yb⟩ := (H2.out.ext hB).at hx
      cases e2
      have hkk : (k : Int) < (P.length : Int) := by omega
      have HB := Lib.hid hB
      clear hg hB hx
      go_upto_region 6 with fail
      go_region_held3 (fun W => W.cell? ⟨ba, oa + k * 2 + 1, none⟩ = some (.slice sa.a sa.n sa.cap) ∧ W.cell? ⟨bb, ob + k * 2 + 1, none⟩ = some (.slice sb.a sb.n sb.cap)) (first | exact ⟨ma, mb⟩ | exact ⟨keepB b5 ma, keepB b5 mb⟩) ((go_at_call 15; ((with_reducible refine (same_any _ _ al al _ ya.drew yb.drew).mono ?_); rintro e w5 ⟨rfl, b5⟩; simp only [heap_drew, below_drew] at b5)))
      all_goals
        have hB5 := HB.out.trans (b5.mono HB.out.size)
        have ta5 := keepB b5 ta
        have tb5 := keepB b5 tb
        have HB5 := Lib.hid hB5
        clear ta ma tb mb ya yb b5 hB5
        go_upto_region 7 with fail
        go_quiet (fail)
        go_wp2_with fail
        go_roundg (P.length - (k + 1))
        case measure => rw [HG.out]; omega
        case rel => exact ⟨k + 1, rfl, by omega, by simp, by first | exact below_drewN HB5.out _ | exact below_drewN HB5.out.drew _⟩
    · obtain rfl : k = P.length := by omega
      go_wp2_with fail
      go_ret
      exact ⟨rfl, hB⟩

theorem piecesP_le (l : List El) (ms : List OpD) (fi ti : Int) : (piecesP l ms fi ti).length ≤ l.length := by
  unfold piecesP
  split
  · simp
  · have := pcsN_le l ms fi.toNat (ti.toNat - fi.toNat)
    omega

/-- A span. -/
structure Sp where
  n : Int
  r : Int
  lo : Int
  hi : Int
set_option maxRecDepth 100000 in
theorem open_sp {H : Type} {enc : TypeId × Value → H} {w : World} {base : Nat} {spare : Nat → Bool} {held : Bool} {r : Reach} {b0 : Nat} {v : Value} {d : DataW H} {p : List MemPlace} (hv : Value.okWide Try.prog w r b0 54 v) (h : DataW.Trod enc Try.prog w base spare held 54 v d p) : ∃ y : Sp, v = .agg #[.int .i64 y.n, .int .i64 y.r, .int .i64 y.lo, .int .i64 y.hi] := by
  obtain ⟨cs, rfl, _⟩ := okWide_struct Try.underlying54 hv
  obtain ⟨fuel, hf⟩ := h
  obtain ⟨xs, n, _, _, hlen, hxl, hf⟩ := DataW.trod_struct Try.underlying54 hf
  have hc : Try.prog.cellsOf 54 = 4 := by kernel_rfl
  have hc1 : Try.prog.cellsOf 31 = 2 := by kernel_rfl
  have hc2 : Try.prog.cellsOf 3 = 1 := by kernel_rfl
  rw [hc] at hlen
  have hcs : (Value.agg cs).cells.toList = cs.toList := rfl
  rw [hcs] at hf
  obtain ⟨cs⟩ := cs
  match cs, hlen with
  | [a, b, c, e], _ =>
    have f0 : DataW.trod enc Try.prog w base spare held n 31 [a, b] = xs[0]? := by simpa [hc1] using hf 0 _ rfl
    have f1 : DataW.trod enc Try.prog w base spare held n 3 [c] = xs[1]? := by simpa [hc2] using hf 1 _ rfl
    have f2 : DataW.trod enc Try.prog w base spare held n 3 [e] = xs[2]? := by simpa [hc2] using hf 2 _ rfl
    simp at hxl
    obtain ⟨s, hs⟩ := trod_stamp (f0.trans (List.getElem?_eq_getElem (by omega)))
    obtain ⟨p, hp, _⟩ := DataW.trod_int Try.underlying3 (f1.trans (List.getElem?_eq_getElem (by omega)))
    obtain ⟨q, hq, _⟩ := DataW.trod_int Try.underlying3 (f2.trans (List.getElem?_eq_getElem (by omega)))
    simp at hs hp hq
    exact ⟨⟨s.n, s.r, p, q⟩, by simp [hs, hp, hq]⟩

end Go.Proofs.Ytlfmkoapddihcaa
