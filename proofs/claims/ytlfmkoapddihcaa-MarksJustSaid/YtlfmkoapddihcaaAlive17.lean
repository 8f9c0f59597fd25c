/- Layer 17: the live question of the statements. -/
import Derived.Test.YtlfmkoapddihcaaStyle17
namespace Go.Proofs.Ytlfmkoapddihcaa
open Go.RowKit Go.Sort Go.Shelf
set_option linter.unusedSimpArgs false
set_option linter.unusedVariables false

theorem sliceIs_alloc {α : Type} {ea : α → List Value} {k : Nat} (hk : ∀ x, (ea x).length = k) (w : World) (T : TypeId) (l : List α) (hl : l.length ≤ maxLen) :
    SliceIs ea k (w.alloc (.cells (l.flatMap ea).toArray T)) (.slice (some ⟨w.heap.size, 0, none⟩) l.length l.length) l :=
  ⟨_, _, rfl, Nat.le_refl _, hl, fun _ => ⟨_, _, rfl, fun i x hi j u hj => by
    rw [Nat.zero_add]
    exact allocd_cells _ _ (getElem?_flatMap_k hk l i x hi j u hj)⟩⟩

def aliveL : List El := [⟨⟨1, 0⟩, 97, false⟩, ⟨⟨2, 0⟩, 98, false⟩]
def aliveO : OpD := ⟨⟨3, 0⟩, 0, 0, 0, 0, 0, 0, 0, 0, 0, ⟨0, 0⟩, 0, 0, ⟨0, 0⟩, ⟨#[]⟩, ⟨#[98, 111, 108, 100]⟩, ⟨#[121, 101, 115]⟩, ⟨2, 0⟩, false, ⟨2, 0⟩, true⟩
def aliveA : Atr := ⟨⟨#[98, 111, 108, 100]⟩, ⟨#[121, 101, 115]⟩⟩

theorem alive_raw : rawMarks (notedP (backXs aliveL)) (backXs [aliveO]) = [⟨aliveO, 1, 2⟩] := by rfl
theorem alive_F {F : List Mark} (h : StableOf stLt keyM (rawMarks (notedP (backXs aliveL)) (backXs [aliveO])) F) : F = [⟨aliveO, 1, 2⟩] := by
  have := h.perm
  rw [alive_raw] at this
  exact List.perm_singleton.1 this
theorem alive_0 {al : List Atr} (h : AttrsAt [⟨aliveO, 1, 2⟩] (0 : Nat) al) : al = [] := by
  have h1 := h.1
  rw [show attrsH (hasM [⟨aliveO, 1, 2⟩] (0 : Nat)) = [] from by rfl] at h1
  exact h1.eq_nil
theorem alive_1 {al : List Atr} (h : AttrsAt [⟨aliveO, 1, 2⟩] (1 : Nat) al) : al = [aliveA] := by
  have h1 := h.1
  rw [show attrsH (hasM [⟨aliveO, 1, 2⟩] (1 : Nat)) = [aliveA] from by rfl] at h1
  exact List.perm_singleton.1 h1

set_option maxRecDepth 100000 in
set_option maxHeartbeats 1000000 in
theorem alive_any (w : World) : Calls Try.prog 12 #[] w fun e w' => e = .returned (.bool true) ∧ Below w.heap.size w w' := by
  go_enter Try.func12, Try.ntmps12
  go_wp2_with fail
  have hl : SliceIs El.cells 4 ((w.alloc (.cells (aliveL.flatMap El.cells).toArray 48)).alloc (.cells ([aliveO].flatMap OpD.cells).toArray 39)) (.slice (some ⟨w.heap.size, 0, none⟩) 2 2) aliveL := (sliceIs_alloc El.len w 48 aliveL (by decide)).below ((Below.refl _ _).alloc (Nat.le_refl _) _)
  have hm : SliceIs OpD.cells 26 ((w.alloc (.cells (aliveL.flatMap El.cells).toArray 48)).alloc (.cells ([aliveO].flatMap OpD.cells).toArray 39)) (.slice (some ⟨w.heap.size + 1, 0, none⟩) 1 1) [aliveO] := by
    have := sliceIs_alloc OpD.len (w.alloc (.cells (aliveL.flatMap El.cells).toArray 48)) 39 [aliveO] (by decide)
    rwa [World.size_alloc] at this
  have hb0 : Below w.heap.size w ((w.alloc (.cells (aliveL.flatMap El.cells).toArray 48)).alloc (.cells ([aliveO].flatMap OpD.cells).toArray 39)) := ((Below.refl _ _).alloc (Nat.le_refl _) _).alloc (by simp) _
  refine (style_any (some ⟨w.heap.size, 0, none⟩) (some ⟨w.heap.size + 1, 0, none⟩) 2 1 aliveL [aliveO] _ hl hm (by decide) (by decide)).mono ?_
  rintro e w2 ⟨u, vs, F, rfl, hF, hO, hvl, hE, hb⟩
  obtain rfl := alive_F hF
  obtain ⟨s0, s1, rfl⟩ : ∃ s0 s1, vs = [s0, s1] := by
    match vs, hvl with
    | [s0, s1], _ => exact ⟨s0, s1, rfl⟩
  obtain ⟨al0, hA0, hT0⟩ := hE 0 s0 rfl
  obtain ⟨al1, hA1, hT1⟩ := hE 1 s1 rfl
  obtain rfl := alive_0 hT0
  obtain rfl := alive_1 hT1
  have hS1 := hA1.slice (fun _ => rfl)
  obtain ⟨a1, c1, e1, _, _, h1⟩ := hS1
  obtain ⟨b1, o1, rfl, h11⟩ := h1 (by simp)
  have n0 : s0.val = .slice s0.a 0 s0.cap := by
    rcases hA0.eq_slice with ⟨e, _⟩ | ⟨g, c, e, _⟩
    · unfold Sl.val at e ⊢; simp only [Value.slice.injEq] at e; rw [e.2.1]
    · unfold Sl.val at e ⊢; simp only [Value.slice.injEq] at e; rw [e.2.1]; rfl
  have hS := hO.slice Sl.len
  obtain ⟨a, c, rfl, _, _, hh⟩ := hS
  obtain ⟨b, o, rfl, hh1⟩ := hh (by simp)
  have c0 : w2.cell? ⟨b, o, none⟩ = some (.slice s0.a 0 s0.cap) := by
    have := hh1 0 s0 rfl 0 s0.val rfl
    rw [n0] at this
    simpa using this
  have c1 : w2.cell? ⟨b, o + 1, none⟩ = some (.slice (some ⟨b1, o1, none⟩) 1 c1) := by
    have := hh1 1 s1 rfl 0 s1.val rfl
    rw [e1] at this
    simpa using this
  have c2 : w2.cell? ⟨b1, o1, none⟩ = some (.string ⟨#[98, 111, 108, 100]⟩) := by
    have := h11 0 aliveA rfl 0 (.string ⟨#[98, 111, 108, 100]⟩) rfl
    simpa using this
  have hb2 := hb0.trans (hb.mono hb0.size)
  clear hl hm hb0 hb hE hA0 hA1 hT0 hT1 hO hh h1 hh1 h11 hF
  go_wp2_with fail
  go_ret
  exact ⟨rfl, hb2⟩

end Go.Proofs.Ytlfmkoapddihcaa
