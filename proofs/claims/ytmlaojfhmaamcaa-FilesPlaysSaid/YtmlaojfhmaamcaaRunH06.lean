/- A script under way, with its history. -/
import Derived.Test.YtmlaojfhmaamcaaRun06
import Derived.Test.YtmlaojfhmaamcaaCalm06
namespace Go.Proofs.Ytmlaojfhmaamcaa
open Go.ChangeShapes Go.WideShapes Go.ChangeAt Go.RowKit Go.Deep
set_option linter.unusedSimpArgs false
set_option linter.unusedVariables false

/-- The first names stay. -/
theorem ActA.base {x : OpA} {A A' : DiskA} {c : Int} (h : ActA x A c A') : A'.base = A.base := by
  unfold ActA at h
  split at h
  · rcases h with ⟨_, ⟨_, rfl⟩ | ⟨_, fb, hfb, rfl⟩⟩ <;> rfl
  · split at h
    · rcases h with ⟨_, _, rfl⟩ | ⟨f, _, _, _, rfl⟩ | ⟨f, _, _, _, rfl⟩ <;> rfl
    · split at h
      · rcases h with ⟨_, _, rfl⟩ | ⟨f, _, _, rfl⟩ <;> rfl
      · split at h
        · rcases h with ⟨_, _, rfl⟩ | ⟨_, _, _, rfl⟩ | ⟨f, _, hf, _, rfl⟩ <;> rfl
        · split at h
          · rcases h with ⟨_, _, rfl⟩ | ⟨f, hf, _, rfl⟩ <;> rfl
          · split at h
            · rcases h with ⟨_, rfl⟩; rfl
            · rcases h with ⟨_, rfl⟩; rfl
theorem upto_len {safe at_ : Int} : ∀ {cs : List Chg} {op : Nat} {m : List (ByteArray × Nat)}, (upto safe at_ cs op m).length ≤ m.length + cs.length
  | [], _, m => by simp [upto]
  | c :: cs, op, m => by
    have h1 := applyC_len c m
    have h2 := fun op => upto_len (safe := safe) (at_ := at_) (cs := cs) (op := op) (m := applyC c m)
    unfold upto
    rw [List.length_cons]
    split
    · split
      · omega
      · have := h2 (op - 1); omega
    · have := h2 op; omega
/-- How many names a loss of power leaves. -/
theorem CutA.len {A A' : DiskA} {at_ a nm torn : Int} {ks : List Bool} (h : CutA A (namesAtA A a nm) at_ ks torn A') : A'.base.length ≤ A.base.length + A.chg.length := by
  have := h.perm.length_eq
  rw [List.length_map, List.length_map] at this
  rw [this]
  exact upto_len

/-- A script is under way, with its history. -/
structure RunH (base : Nat) (w4 : World) (D0 : DSh) (rb : Nat) (N : Nat) (wr : World) (D : DSh) (A : DiskA) (v : Value) (R : RefA) : Prop where
  run : Run base w4 D0 rb N wr D A v R
  hist : A.Hist
  bas : A.base = []
theorem RunH.more {base : Nat} {w4 : World} {D0 : DSh} {rb N M : Nat} {wr : World} {D : DSh} {A : DiskA} {v : Value} {R : RefA} (h : RunH base w4 D0 rb N wr D A v R) (hm : N ≤ M) : RunH base w4 D0 rb M wr D A v R := ⟨h.run.more hm, h.hist, h.bas⟩
theorem RunH.act {base : Nat} {w4 : World} {D0 : DSh} {rb N : Nat} {wr w' : World} {D D' : DSh} {A A' : DiskA} {v v' : Value} {R : RefA} {x : OpA} {c : Int} (h : RunH base w4 D0 rb N wr D A v R) (ha : ActA x A c A') (hb : Both base wr D A rb v w' D' A' v' (ractR x R)) : RunH base w4 D0 rb (N + 1) w' D' A' v' (ractR x R) :=
  ⟨h.run.act ha hb, ha.hist h.run.sA.now0 h.hist, ha.base.trans h.bas⟩

theorem Turned.own {base B : Nat} {w w' : World} {D D' : DSh} {A A' : DiskA} (h : Turned base w D A w' D' A') (hd : DiskIs base w D A) {α : Type} {ea : α → List Value} {k : Nat} {e : TypeId} {v : Value} {l : List α} (ho : Own ea k e B w v l) (he : ¬ DTag (some e)) : Own ea k e B w' v l :=
  ho.ext h.ext (fun b hb hf => he (tag_own ho hb ▸ hd.dtag hf))

theorem HeldIs.turned {B base : Nat} {w w' : World} {D D' : DSh} {A A' A0 : DiskA} {vv : Value} {names : List ByteArray} {k : Nat} (h : HeldIs B w vv A0 names k) (ht : Turned base w D A w' D' A') (hd : DiskIs base w D A) : HeldIs B w' vv A0 names k :=
  h.ext ht.ext (fun b hb hf => by have := hd.dtag hf; rw [hb] at this; simp [DTag] at this) (fun b hb hf => by have := hd.dtag hf; rw [hb] at this; simp [DTag] at this)
/-- What writes other kinds of blocks, none of the first ones, leaves it turned. -/
theorem Turned.other {base : Nat} {w w' w'' : World} {D D' : DSh} {A A' : DiskA} {S : Nat → Prop} {T : TypeId} (h : Turned base w D A w' D' A') (hx : Ext S w' w'') (hS : ∀ b, b < w'.heap.size → S b → tagOf w' b = some T ∧ w.heap.size ≤ b) (hT : ¬ DTag (some T)) (hu : T ≠ 5) : Turned base w D A w'' D' A' where
  is_ := h.is_.ext hx (fun b hb hs => hT ((hS b (h.is_.foot hb).2.1 hs).1 ▸ h.is_.dtag hb)) (fun b _ ht hs => hu (Option.some.inj ((hS b (tag_lt ht) hs).1.symm.trans ht)))
  pb := h.pb
  ext := h.ext.andThen hx (fun b hb hs => by
    have := (hS b (Nat.lt_of_lt_of_le hb h.ext.size) hs).2
    omega)
  foot := h.foot
theorem RefIs.other {base : Nat} {w w' : World} {rb : Nat} {v : Value} {R : RefA} {S : Nat → Prop} {T : TypeId} (h : RefIs base w rb v R) (hx : Ext S w w') (hS : ∀ b, b < w.heap.size → S b → tagOf w b = some T) (hT : ¬ RTag (some T)) (hu : T ≠ 5) : RefIs base w' rb v R :=
  h.ext hx (fun b hb hs => by
    obtain ⟨_, h2, h3⟩ := h.foot hb
    have := hS b h2 hs
    exact hT (by rw [← this]; exact h3)) (fun b _ ht hs => hu (Option.some.inj ((hS b (tag_lt ht) hs).symm.trans ht)))

end Go.Proofs.Ytmlaojfhmaamcaa
