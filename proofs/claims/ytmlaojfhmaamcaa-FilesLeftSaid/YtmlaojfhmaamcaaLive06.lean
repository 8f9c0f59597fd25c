/- A script under way, losses of power and all: both disks stay alike. -/
import Derived.Test.YtmlaojfhmaamcaaRunH06
import Derived.Test.YtmlaojfhmaamcaaRefL06
import Derived.Test.YtmlaojfhmaamcaaSimD06
namespace Go.Proofs.Ytmlaojfhmaamcaa
open Go.ChangeShapes Go.WideShapes Go.ChangeAt Go.RowKit Go.Deep
set_option linter.unusedSimpArgs false
set_option linter.unusedVariables false

theorem leftR_len (L : List StepA) (f : Int) (ks : List Bool) (torn : Int) : (leftR L f ks torn).length ≤ (heldR L f).length := by
  unfold leftR
  have := leftRS_ok f ks torn (lastS f L) L
  rw [List.length_take]
  omega
theorem held_fresh (l : List StepA) (ks : List Bool) (torn : Int) (hl : ∀ f, (heldR l f).length ≤ 1048576) : ∀ t : List Nm, (∀ f : Int, (t.length : Int) ≤ f → heldR (freshL l ks torn t) f = []) ∧ ∀ f, (heldR (freshL l ks torn t) f).length ≤ 1048576 := by
  refine snoc_ind ⟨fun f _ => by simp [freshL, heldR], fun f => by simp [freshL, heldR]⟩ (fun t x ih => ?_)
  have e : ∀ f, heldR (freshL l ks torn (t ++ [x])) f = heldR (freshL l ks torn t) f ++ if (t.length : Int) = f then leftR l x.file ks torn else [] := fun f => by
    rw [freshL_snoc, show freshL l ks torn t ++ [⟨1, t.length, x.name, []⟩, ⟨2, t.length, ⟨#[]⟩, leftR l x.file ks torn⟩, ⟨5, t.length, ⟨#[]⟩, []⟩] = ((freshL l ks torn t ++ [⟨1, t.length, x.name, []⟩]) ++ [⟨2, t.length, ⟨#[]⟩, leftR l x.file ks torn⟩]) ++ [⟨5, t.length, ⟨#[]⟩, []⟩] by simp]
    rw [heldR_push, heldR_push, heldR_push]
    simp
  refine ⟨fun f hf => ?_, fun f => ?_⟩
  · rw [List.length_append, List.length_cons, List.length_nil] at hf
    rw [e, ih.1 f (by omega), if_neg (by omega)]
    rfl
  · rw [e]
    by_cases hf : (t.length : Int) = f
    · rw [if_pos hf, ih.1 f (by omega), List.nil_append]
      exact Nat.le_trans (leftR_len _ _ _ _) (hl _)
    · rw [if_neg hf, List.append_nil]
      exact ih.2 f
theorem held_cut (R : RefA) (at_ names : Int) (ks : List Bool) (torn : Int) (hl : ∀ f, (heldR R.L f).length ≤ 1048576) (f : Int) : (heldR (cutR R at_ names ks torn).L f).length ≤ 1048576 := by
  unfold cutR
  dsimp only
  rw [heldR_push]
  simp only [show ¬ ((6 : Int) = 2) by decide, false_and, if_false, List.append_nil]
  exact (held_fresh _ ks torn (fun g => Nat.le_trans (heldR_take R.L g _) (hl g)) _).2 f

theorem FileIs.lower {B B' : Nat} {w : World} {fb : Nat} {v : Value} {ps : List PcA} (h : FileIs B w fb v ps) (hb : B' ≤ B) : FileIs B' w fb v ps := by
  obtain ⟨hl, hk, qs, ho, hn, hp⟩ := h
  exact ⟨Nat.le_trans hb hl, hk, qs, ho.mono hb, hn, fun i q p h1 h2 => ⟨(hp i q p h1 h2).1.mono hb, (hp i q p h1 h2).2⟩⟩
theorem DiskIs.lower {B B' : Nat} {w : World} {D : DSh} {A : DiskA} (h : DiskIs B w D A) (hb : B' ≤ B) : DiskIs B' w D A where
  blk := h.blk
  lo := Nat.le_trans hb h.lo
  lof := Nat.le_trans hb h.lof
  lob := Nat.le_trans hb h.lob
  ne := h.ne
  mfiles := h.mfiles
  mbase := h.mbase
  ochg := h.ochg.mono hb
  osyn := h.osyn.mono hb
  file f hf := (h.file f hf).lower hb
  apart := h.apart
  ok := h.ok
theorem RefIs.lower2 {B B' : Nat} {W : World} {ob : Nat} {v : Value} {R : RefA} (h : RefIs B W ob v R) (hb : B' ≤ B) : RefIs B' W ob v R := by
  obtain ⟨qs, ho, hl, hp⟩ := h.steps
  exact ⟨h.blk, Nat.le_trans hb h.lo, qs, ho.mono hb, hl, fun i q p h1 h2 => ⟨(hp i q p h1 h2).1, (hp i q p h1 h2).2.1, (hp i q p h1 h2).2.2.1, (hp i q p h1 h2).2.2.2.mono hb⟩⟩

/-- A script is under way: both disks, in memory, alike. -/
structure Live (base : Nat) (w1 wr : World) (N : Nat) (D : DSh) (A : DiskA) (rb : Nat) (v : Value) (R : RefA) : Prop where
  disk : DiskIs base wr D A
  ref : RefIs base wr rb v R
  frame : Below base w1 wr
  sA : A.Small N
  sR : R.Small N
  held : ∀ f, (heldR R.L f).length ≤ 1048576
  inj : A.Inj
  sim : ∃ F pre J, Sim F A R pre J
theorem Live.more {base : Nat} {w1 wr : World} {N M : Nat} {D : DSh} {A : DiskA} {rb : Nat} {v : Value} {R : RefA} (h : Live base w1 wr N D A rb v R) (hm : N ≤ M) : Live base w1 wr M D A rb v R := ⟨h.disk, h.ref, h.frame, h.sA.mono hm, h.sR.mono hm, h.held, h.inj, h.sim⟩
theorem Live.below {base : Nat} {w1 wr w' : World} {N : Nat} {D : DSh} {A : DiskA} {rb : Nat} {v : Value} {R : RefA} (h : Live base w1 wr N D A rb v R) (hs : base ≤ wr.heap.size) (hb : Below wr.heap.size wr w') : Live base w1 w' N D A rb v R :=
  ⟨h.disk.below hb, h.ref.below hb, h.frame.trans (hb.mono hs), h.sA, h.sR, h.held, h.inj, h.sim⟩
/-- One act. -/
theorem Live.act {base : Nat} {w1 wr w' : World} {N : Nat} {D D' : DSh} {A A' : DiskA} {rb : Nat} {v v' : Value} {R : RefA} {x : OpA} {c : Int} (h : Live base w1 wr N D A rb v R) (hs : base ≤ wr.heap.size) (ha : ActA x A c A') (hb : Both base wr D A rb v w' D' A' v' (ractR x R)) :
    c = ractC x R ∧ Live base w1 w' (N + 1) D' A' rb v' (ractR x R) := by
  obtain ⟨F, pre, J, hsim⟩ := h.sim
  obtain ⟨hc, F', J', hs'⟩ := hsim.act h.inj ha
  exact ⟨hc, hb.disk, hb.ref, hb.frame h.disk h.ref h.frame (Nat.le_refl _) hs, ha.small h.sA, (ract_small x h.sR h.held).1, (ract_small x h.sR h.held).2, ha.inj h.inj, ⟨F', pre, J', hs'⟩⟩
/-- A loss of power. -/
theorem Live.cut {base : Nat} {w1 wr w2 w3 : World} {N : Nat} {D D' : DSh} {A A' : DiskA} {rb rb' : Nat} {v v' : Value} {R : RefA} {at_ names torn : Int} {ks : List Bool} (h : Live base w1 wr N D A rb v R) (hs : base ≤ wr.heap.size)
    (hd : DiskIs wr.heap.size w2 D' A') (hf : A'.files = A'.base) (hc : CutA A (namesAtA A (pickN at_ (A.now + 1).toNat) names) (pickN at_ (A.now + 1).toNat) ks torn A') (hb2 : Below wr.heap.size wr w2)
    (hr : RefIs w2.heap.size w3 rb' v' (cutR R at_ names ks torn)) (hb3 : Below w2.heap.size w2 w3) :
    Live base w1 w3 25 D' A' rb' v' (cutR R at_ names ks torn) := by
  obtain ⟨F, pre, J, hsim⟩ := h.sim
  obtain ⟨⟨F', hs'⟩, hi, h8, hL, hbo, hb0⟩ := hsim.cut hc hf
  refine ⟨(hd.below hb3).lower hs, hr.lower2 (Nat.le_trans hs hb2.size), h.frame.trans ((hb2.trans (hb3.mono hb2.size)).mono hs), ?_, ⟨hL, hb0, by omega⟩, held_cut R at_ names ks torn h.held, hi, ⟨F', _, [], hs'⟩⟩
  exact ⟨by rw [hc.now]; decide, by rw [hc.now]; decide, by rw [hc.chg]; decide, by rw [hc.syn]; decide, fun f hf => Nat.le_trans (hc.ln f hf) (by decide), by rw [hf]; omega⟩
/-- What is asked of the document's disk ahead of a loss of power. -/
theorem Live.bse {base : Nat} {w1 wr : World} {N : Nat} {D : DSh} {A : DiskA} {rb : Nat} {v : Value} {R : RefA} (h : Live base w1 wr N D A rb v R) : ∃ nb : Nat, R.bse = nb ∧ nb ≤ R.L.length := by
  obtain ⟨F, pre, J, hsim⟩ := h.sim
  exact ⟨pre.length, hsim.bse, by rw [hsim.L, List.length_append]; omega⟩

end Go.Proofs.Ytmlaojfhmaamcaa
