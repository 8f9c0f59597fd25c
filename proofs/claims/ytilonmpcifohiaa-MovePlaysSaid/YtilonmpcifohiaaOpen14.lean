/- Layer 14: the reading of a move, and of a slice of moves. -/
import Derived.Test.YtilonmpcifohiaaOpen
import Derived.Test.YtilonmpcifohiaaTells14
namespace Go.Proofs.Ytilonmpcifohiaa
open Go.ChangeShapes Go.WideShapes Go.RowKit Go.Deep
set_option linter.unusedSimpArgs false
set_option linter.unusedVariables false

/-- A move as it comes in. -/
structure RMv where
  at_ : St
  block : St
  under : St
  key : ByteArray
  deriving DecidableEq
def RMv.cells (x : RMv) : List Value := [.int .i64 x.at_.n, .int .i64 x.at_.r, .int .i64 x.block.n, .int .i64 x.block.r, .int .i64 x.under.n, .int .i64 x.under.r, .string x.key]
def RMv.ch (x : RMv) : Ch := ⟨x.block, x.under, x.key⟩
theorem RMv.len (x : RMv) : x.cells.length = 7 := rfl

section
variable {H : Type} {enc : TypeId × Value → H} {w : World} {base : Nat} {spare : Nat → Bool} {held : Bool}

set_option maxRecDepth 100000 in
theorem trod_rmove {fuel : Nat} {cs : List Value} {x : DataW H × List MemPlace} (h : DataW.trod enc Try.prog w base spare held fuel 26 cs = some x) : ∃ y : RMv, cs = y.cells := by
  obtain ⟨xs, n, _, _, hlen, hxl, hf⟩ := DataW.trod_struct Try.underlying26 h
  have hc : Try.prog.cellsOf 26 = 7 := by kernel_rfl
  have hc1 : Try.prog.cellsOf 24 = 2 := by kernel_rfl
  have hc2 : Try.prog.cellsOf 9 = 1 := by kernel_rfl
  rw [hc] at hlen
  match cs, hlen with
  | [a, b, c, d, e, f, g], _ =>
    have f0 : DataW.trod enc Try.prog w base spare held n 24 [a, b] = xs[0]? := by simpa [hc1] using hf 0 _ rfl
    have f1 : DataW.trod enc Try.prog w base spare held n 24 [c, d] = xs[1]? := by simpa [hc1] using hf 1 _ rfl
    have f2 : DataW.trod enc Try.prog w base spare held n 24 [e, f] = xs[2]? := by simpa [hc1] using hf 2 _ rfl
    have f3 : DataW.trod enc Try.prog w base spare held n 9 [g] = xs[3]? := by simpa [hc2] using hf 3 _ rfl
    simp at hxl
    obtain ⟨s, hs⟩ := trod_stamp (f0.trans (List.getElem?_eq_getElem (by omega)))
    obtain ⟨u, hu⟩ := trod_stamp (f1.trans (List.getElem?_eq_getElem (by omega)))
    obtain ⟨p, hp⟩ := trod_stamp (f2.trans (List.getElem?_eq_getElem (by omega)))
    obtain ⟨q, hq, _⟩ := DataW.trod_string Try.underlying9 (f3.trans (List.getElem?_eq_getElem (by omega)))
    simp at hs hu hp hq
    exact ⟨⟨s, u, p, q⟩, by simp [RMv.cells, hs, hu, hp, hq]⟩

set_option maxRecDepth 100000 in
theorem open_rmove {r : Reach} {b0 : Nat} {v : Value} {d : DataW H} {p : List MemPlace} (hv : Value.okWide Try.prog w r b0 26 v) (h : DataW.Trod enc Try.prog w base spare held 26 v d p) : ∃ y : RMv, v = .agg y.cells.toArray := by
  obtain ⟨cs, rfl, _⟩ := okWide_struct Try.underlying26 hv
  obtain ⟨fuel, hf⟩ := h
  obtain ⟨y, hy⟩ := trod_rmove hf
  exact ⟨y, by rw [← hy]; simp [Value.cells]⟩

set_option maxRecDepth 100000 in
theorem open_rmoves {r : Reach} {b0 : Nat} {v : Value} {d : DataW H} {p : List MemPlace} (hv : Value.okWide Try.prog w r b0 22 v) (h : DataW.Trod enc Try.prog w base spare held 22 v d p) : ∃ l, SliceIs RMv.cells 7 w v l :=
  open_structs Try.underlying22 (by kernel_rfl) (by omega) (fun _ => rfl) (fun _ _ _ h => trod_rmove h) hv h
end

/-- A move's cells in memory. -/
def RMvAt (w : World) (b o : Nat) (x : RMv) : Prop := w.cell? ⟨b, o, none⟩ = some (.int .i64 x.at_.n) ∧ w.cell? ⟨b, o + 1, none⟩ = some (.int .i64 x.at_.r) ∧ w.cell? ⟨b, o + 2, none⟩ = some (.int .i64 x.block.n) ∧ w.cell? ⟨b, o + 3, none⟩ = some (.int .i64 x.block.r) ∧
  w.cell? ⟨b, o + 4, none⟩ = some (.int .i64 x.under.n) ∧ w.cell? ⟨b, o + 5, none⟩ = some (.int .i64 x.under.r) ∧ w.cell? ⟨b, o + 6, none⟩ = some (.string x.key)
theorem RMvAt.of {w w' : World} {b o : Nat} {x : RMv} (h : RMvAt w b o x) (hb : ∀ o u, w.cell? ⟨b, o, none⟩ = some u → w'.cell? ⟨b, o, none⟩ = some u) : RMvAt w' b o x := by
  obtain ⟨h0, h1, h2, h3, h4, h5, h6⟩ := h
  exact ⟨hb _ _ h0, hb _ _ h1, hb _ _ h2, hb _ _ h3, hb _ _ h4, hb _ _ h5, hb _ _ h6⟩
theorem RMvAt.below {w w' : World} {b o : Nat} {x : RMv} (h : RMvAt w b o x) (hb : Below w.heap.size w w') : RMvAt w' b o x := h.of (fun _ _ hu => keepB hb hu)
theorem RMvAt.ext {S : Nat → Prop} {w w' : World} {b o : Nat} {x : RMv} (h : RMvAt w b o x) (hx : Ext S w w') (hn : ¬ S b) : RMvAt w' b o x := h.of (fun _ _ hu => hx.keep hu hn)
theorem SliceIs.rcells {w : World} {v : Value} {l : List RMv} (h : SliceIs RMv.cells 7 w v l) (hne : l ≠ []) : ∃ b o cap, v = .slice (some ⟨b, o, none⟩) l.length cap ∧ ∀ i x, l[i]? = some x → RMvAt w b (o + i * 7) x := by
  obtain ⟨a, cap, rfl, _, _, h4⟩ := h
  obtain ⟨b, o, rfl, h6⟩ := h4 hne
  refine ⟨b, o, cap, rfl, fun i x hi => ⟨h6 i x hi 0 _ rfl, h6 i x hi 1 _ rfl, h6 i x hi 2 _ rfl, h6 i x hi 3 _ rfl, h6 i x hi 4 _ rfl, h6 i x hi 5 _ rfl, h6 i x hi 6 _ rfl⟩⟩

/-- Move writes what lies at base or behind it. -/
theorem touch_below {B base : Nat} {w0 w w' : World} {t mh : Nat} {c : List (St × Ch)} (hB : Below B w0 w) (hT : TreeHas base w t mh c) (hx : Ext (Touch base w t mh) w w') (hb : B ≤ base) : Below B w0 w' := by
  obtain ⟨l1, l2, l3, l4⟩ := hT.lt
  refine Ext.new hB hx (fun i hi _ => ?_) (by omega)
  rintro (h | h | ⟨h, _⟩) <;> omega

/-- A stamp's own box. -/
def BoxS (w : World) (Z : Nat) (u : St) : Prop := w.heap[Z]? = some (.cells #[.int .i64 u.n, .int .i64 u.r] 24 (0, 0))
section
variable {w w' : World} {Z : Nat} {u : St}
theorem BoxS.new (w : World) (u : St) : BoxS (w.alloc (.cells #[.int .i64 u.n, .int .i64 u.r] 24)) w.heap.size u := World.alloc_heap_new w _
theorem BoxS.c0 (h : BoxS w Z u) : w.cell? ⟨Z, 0, none⟩ = some (.int .i64 u.n) := by have h := show w.heap[Z]? = _ from h; simp [World.cell?, h]
theorem BoxS.c1 (h : BoxS w Z u) : w.cell? ⟨Z, 1, none⟩ = some (.int .i64 u.r) := by have h := show w.heap[Z]? = _ from h; simp [World.cell?, h]
theorem BoxS.f0 (h : BoxS w Z u) : w.frozen? ⟨Z, 0, none⟩ = false := by have h := show w.heap[Z]? = _ from h; simp [World.frozen?, h]
theorem BoxS.f1 (h : BoxS w Z u) : w.frozen? ⟨Z, 1, none⟩ = false := by have h := show w.heap[Z]? = _ from h; simp [World.frozen?, h]
theorem BoxS.lt (h : BoxS w Z u) : Z < w.heap.size := (Array.getElem?_eq_some_iff.1 h).1
theorem BoxS.ext {S : Nat → Prop} (h : BoxS w Z u) (hx : Ext S w w') (hn : ¬ S Z) : BoxS w' Z u := (hx.block Z h.lt hn).trans h
theorem BoxS.below (h : BoxS w Z u) (hb : Below w.heap.size w w') : BoxS w' Z u := (hb.block Z h.lt).trans h
theorem BoxS.alloc (h : BoxS w Z u) (o : Obj) : BoxS (w.alloc o) Z u := (Below.heap_alloc _ _ _ h.lt).trans h
theorem BoxS.set (h : BoxS w Z u) (a b : Int) : BoxS ((w.setCell ⟨Z, 0, none⟩ (.int .i64 a)).setCell ⟨Z, 1, none⟩ (.int .i64 b)) Z ⟨a, b⟩ := by
  have h := show w.heap[Z]? = _ from h
  show (World.heap _)[Z]? = _
  simp only [World.setCell, Array.getElem?_modify, if_true, h]
  rfl
/-- A tree is apart from a stamp's box. -/
theorem TreeHas.box {base t mh : Nat} {c : List (St × Ch)} (hT : TreeHas base w t mh c) (h : BoxS w Z u) (hx : Ext (· = Z) w w') : TreeHas base w' t mh c := by
  have h := show w.heap[Z]? = _ from h
  obtain ⟨v, l, hl, hI, _⟩ := id hT
  refine hT.ext hx ?_ ?_ ?_ ?_
  · intro e; have := hI.blk; rw [e, h] at this; cases this
  · intro e; obtain ⟨_, es, cl, hm, _⟩ := hI.map; rw [e, h] at hm; cases hm
  · intro b cur _ hb e; rw [e, h] at hb; cases hb
  · intro b c hb e; have hb := show w.heap[b]? = _ from hb; rw [e, h] at hb; simp [Ch.cells] at hb
end

end Go.Proofs.Ytilonmpcifohiaa
