/- A script under way; what is held of files. -/
import Derived.Test.YtmlaojfhmaamcaaInv06
import Derived.Test.YtmlaojfhmaamcaaAlive06
import Derived.Test.YtmlaojfhmaamcaaOpenA06
import Derived.SizedLaws
import Derived.OpenShut
import Derived.ShutString
import Derived.ChangeOld
import Derived.Below
namespace Go.Proofs.Ytmlaojfhmaamcaa
open Go.ChangeShapes Go.WideShapes Go.ChangeAt Go.RowKit Go.Deep
set_option linter.unusedSimpArgs false
set_option linter.unusedVariables false

/-- What is sure of a file, in memory. -/
structure Hd where
  name : ByteArray
  s : Sl
def Hd.cells (h : Hd) : List Value := [.string h.name, .slice h.s.a h.s.n h.s.cap]
theorem Hd.len (p : Hd) : p.cells.length = 2 := rfl
theorem Hd.one (p : Hd) : ∀ u ∈ p.cells, u.oneCell' = true := by
  intro u hu
  simp only [Hd.cells, List.mem_cons, List.not_mem_nil, or_false] at hu
  rcases hu with rfl | rfl <;> rfl
theorem info_sure : (Try.prog.info? 45).map (fun i => (i.zero, i.size, i.bytes)) = some (some (.agg #[.string ⟨#[]⟩, .slice none 0 0]), 2, 40) := by kernel_rfl
theorem hd_alloc (W : World) (x : Hd) : ∀ j u, (Hd.cells x)[j]? = some u → (W.alloc (.cells #[.string x.name, .slice x.s.a x.s.n x.s.cap] 45)).cell? ⟨W.heap.size, j, none⟩ = some u := by
  intro j u hj
  rw [World.cell?_alloc_at _ _ _ _ rfl, ← hj, Hd.cells]
  simp

/-- The first k names are held, with their bytes. -/
def HeldIs (B : Nat) (w : World) (vv : Value) (A : DiskA) (names : List ByteArray) (k : Nat) : Prop :=
  ∃ hs : List Hd, Own Hd.cells 2 45 B w vv hs ∧ hs.length = k ∧ ∀ (i : Nat) h, hs[i]? = some h → names[i]? = some h.name ∧ Own u8c 1 5 B w h.s.val (bytesA A h.name)
theorem HeldIs.ext {B : Nat} {w w' : World} {vv : Value} {A : DiskA} {names : List ByteArray} {k : Nat} {S : Nat → Prop} (h : HeldIs B w vv A names k) (hx : Ext S w w') (h1 : ∀ b, tagOf w b = some 45 → ¬ S b) (h2 : ∀ b, tagOf w b = some 5 → ¬ S b) : HeldIs B w' vv A names k := by
  obtain ⟨hs, ho, hl, hp⟩ := h
  exact ⟨hs, ho.ext hx (fun b hb => h1 b (tag_own ho hb)), hl, fun i q hq => ⟨(hp i q hq).1, (hp i q hq).2.ext hx (fun b hb => h2 b (tag_own (hp i q hq).2 hb))⟩⟩
theorem HeldIs.below {B : Nat} {w w' : World} {vv : Value} {A : DiskA} {names : List ByteArray} {k : Nat} (h : HeldIs B w vv A names k) (hb : Below w.heap.size w w') : HeldIs B w' vv A names k :=
  h.ext (Ext.of_below (S := fun _ => False) hb) (fun _ _ => id) (fun _ _ => id)
theorem HeldIs.both {B base : Nat} {w w' : World} {D D' : DSh} {A A' A0 : DiskA} {rb : Nat} {v v' : Value} {R R' : RefA} {vv : Value} {names : List ByteArray} {k : Nat} (h : HeldIs B w vv A0 names k) (hb : Both base w D A rb v w' D' A' v' R') (hd : DiskIs base w D A) (hr : RefIs base w rb v R) : HeldIs B w' vv A0 names k := by
  have key : ∀ b T, tagOf w b = some T → ¬ DTag (some T) → ¬ RTag (some T) → ¬ (Foot D A b ∨ RFoot rb v b) := fun b T ht h1 h2 hf => by
    rcases hf with hf | hf
    · exact h1 (ht ▸ hd.dtag hf)
    · rcases (hr.foot hf).2.2 with e | e
      · exact h2 (ht ▸ .inl e)
      · exact h2 (ht ▸ .inr e)
  exact h.ext hb.ext (fun b ht => key b _ ht (by simp [DTag]) (by simp [RTag])) (fun b ht => key b _ ht (by simp [DTag]) (by simp [RTag]))

/-- A script is under way. -/
structure Run (base : Nat) (w4 : World) (D0 : DSh) (rb : Nat) (N : Nat) (wr : World) (D : DSh) (A : DiskA) (v : Value) (R : RefA) : Prop where
  both : Both base w4 D0 disk0 rb (.slice none 0 0) wr D A v R
  sA : A.Small N
  sR : R.Small N
  held : ∀ f, (heldR R.L f).length ≤ 1048576
  inj : A.Inj
theorem Run.more {base : Nat} {w4 : World} {D0 : DSh} {rb N M : Nat} {wr : World} {D : DSh} {A : DiskA} {v : Value} {R : RefA} (h : Run base w4 D0 rb N wr D A v R) (hm : N ≤ M) : Run base w4 D0 rb M wr D A v R := ⟨h.both, h.sA.mono hm, h.sR.mono hm, h.held, h.inj⟩
theorem Run.act {base : Nat} {w4 : World} {D0 : DSh} {rb N : Nat} {wr w' : World} {D D' : DSh} {A A' : DiskA} {v v' : Value} {R : RefA} {x : OpA} {c : Int} (h : Run base w4 D0 rb N wr D A v R) (ha : ActA x A c A') (hb : Both base wr D A rb v w' D' A' v' (ractR x R)) : Run base w4 D0 rb (N + 1) w' D' A' v' (ractR x R) :=
  ⟨h.both.trans hb, ha.small h.sA, (ract_small x h.sR h.held).1, (ract_small x h.sR h.held).2, ha.inj h.inj⟩
theorem run_frame {w w1 w4 wr : World} {D0 D : DSh} {A : DiskA} {v : Value} {R : RefA} {rb N : Nat} (h1 : Below w.heap.size w w1) (hs : w1.heap.size = w.heap.size + 1) (h4 : Below w1.heap.size w1 w4) (hd : DiskIs w1.heap.size w4 D0 disk0) (hr : RefIs w1.heap.size w4 rb (.slice none 0 0) ⟨[], 0, 0⟩) (h : Run w1.heap.size w4 D0 rb N wr D A v R) : Below w.heap.size w wr :=
  (h1.trans (h4.mono (by omega))).trans (h.both.frame hd hr (Below.refl w.heap.size w4) (by omega) (by have := h4.size; omega))
theorem run_frame1 {w1 w4 wr : World} {D0 D : DSh} {A : DiskA} {v : Value} {R : RefA} {rb N : Nat} (h4 : Below w1.heap.size w1 w4) (hd : DiskIs w1.heap.size w4 D0 disk0) (hr : RefIs w1.heap.size w4 rb (.slice none 0 0) ⟨[], 0, 0⟩) (h : Run w1.heap.size w4 D0 rb N wr D A v R) : Below w1.heap.size w1 wr :=
  h4.trans (h.both.frame hd hr (Below.refl w1.heap.size w4) (Nat.le_refl _) h4.size)
theorem small0 : disk0.Small 0 := ⟨by decide, by decide, by decide, by decide, fun f hf => (by cases hf), by decide⟩

end Go.Proofs.Ytmlaojfhmaamcaa
