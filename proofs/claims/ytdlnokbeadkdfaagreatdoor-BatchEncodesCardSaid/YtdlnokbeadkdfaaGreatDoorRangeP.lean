/- A range over a function whose rounds may write blocks of the caller's own: what has come so far, and the world. -/
import Derived.RangeFuncNested
import Derived.RangeFuncBound
import Derived.RangeFuncCalls
import Derived.RangeFuncLeaves
import Derived.Test.YtdlnokbeadkdfaaGreatDoorMaps
namespace Go.Proofs.YtdlnokbeadkdfaaGreatDoor
open Go.RowKit
set_option linter.unusedSimpArgs false
set_option linter.unusedVariables false

/-- How a round's body goes on. -/
def roundOn (R : Nat → Prop) (J : World → Prop) (W : World) : Exit → Act → World → Prop
  | .normal, _, W' => J W' ∧ Ext R W W'
  | .ret, _, _ => False
  | .exit _, _, _ => False
  | .goto _, _, _ => False
  | .panic _, _, _ => False
  | .outgrown, _, _ => False

theorem ext_putObjP (w : World) (l : Nat) (o : Obj) : Ext (· = l) w (w.putObj l o) :=
  ⟨rfl, rfl, rfl, by simp [World.putObj], fun k hk hn => World.putObj_heap_other (by omega)⟩

/-- What is asked of the iterator: all of xs come, one by one. -/
def IterGives {U : Type} (P : Program) (n gf : Nat) (lb : Array Value) (encs : U → Array Value) (R : Nat → Prop) (xs : List U) (w : World) : Prop :=
  ∀ (l : Nat) (I : List U → World → Prop) (W : World), w.heap.size < l → Below w.heap.size w W → (∀ pre W W', I pre W → Ext (fun _ => False) W W' → I pre W') →
    (∀ pre x W1, I pre W1 → pre ++ [x] <+: xs → YieldAt Fence.wide (n - 1) P l (encs x) W1 fun e W' => e = .returned (.bool true) ∧ I (pre ++ [x]) W' ∧ Ext (fun k => k = l ∨ R k) W1 W') → I [] W →
    CallsIn Fence.wide n P gf (#[.func (.yield l) #[] #[]] ++ lb) W fun e W' => (∃ v, e = .returned v) ∧ I xs W'

theorem range_pre {U : Type} {P : Program} {n : Nat} (h1 : 1 ≤ n) {g : Operand} {ps : Array Tmp} {assign body : Code} {Q : Exit → Act → World → Prop} {a : Act} {w : World} {gf : Nat} {lb : Array Value}
    (hg : a.eval g = .func (.func gf) #[] lb) (eg : ∀ args w, (callFunc gf args).run P w = .ok (.enter gf args) w)
    (encs : U → Array Value) (hps : ∀ x, (encs x).size = ps.size) (R : Nat → Prop) (hR : ∀ k, R k → k ≠ w.heap.size ∧ k ≠ w.heap.size + 1) (xs : List U)
    (J : List U → World → Prop) (hJ : ∀ pre W W', J pre W → Ext (fun k => k = w.heap.size ∨ k = w.heap.size + 1) W W' → J pre W')
    (hseq : IterGives P (n - 1) gf lb encs R xs w)
    (h00 : J [] w)
    (hround : ∀ (l : Nat) (pre : List U) (x : U) (W : World), J pre W → pre ++ [x] <+: xs → w.heap.size + 1 < W.heap.size →
      assign.wpIn (Fence.wide.inRound l) (n - 1 - 1) P (Exit.then (fun a₁ W₁ => Ext (fun _ => False) W W₁ ∧ J pre W₁ ∧ ∀ W₂, J pre W₂ → Ext (fun k => k = w.heap.size + 1) W₁ W₂ → body.wpIn (Fence.wide.inRound l) (n - 1 - 1) P (roundOn R (J (pre ++ [x])) W₂) a₁ W₂) (fun _ _ _ => False))
        { tmps := (ps.zip (encs x)).foldl (fun t (p, v) => t.setIfInBounds p v) a.tmps, defers := [] } W)
    (hdone : ∀ W, J xs W → W.heap[w.heap.size]? = some (.deferred (some [])) → Q .normal { a with defers := { target := .collected w.heap.size, args := #[] } :: a.defers } W) :
    (Code.rangeFunc g ps assign body).wpIn Fence.wide n P Q a w := by
  refine wpIn_rangeFunc ?_
  intro fn hfn
  obtain ⟨rec, hrec⟩ : ∃ rec : LoopState → Option Code → Loop, rec = fun st pe => { state := st, pending := pe, fn, tmps := a.tmps, params := ps, assign, body, defers := w.heap.size } := ⟨_, rfl⟩
  obtain ⟨W1, hW1⟩ : ∃ W1, (w.alloc (.deferred (some []))).alloc (.loop (rec .ready none)) = W1 := ⟨_, rfl⟩
  have hL1 : W1.heap[w.heap.size + 1]? = some (.loop (rec .ready none)) := by
    rw [← hW1]; have := World.alloc_heap_new (w.alloc (.deferred (some []))) (.loop (rec .ready none)); rwa [World.size_alloc] at this
  have hK1 : W1.heap[w.heap.size]? = some (.deferred (some [])) := by
    rw [← hW1]; exact (Below.heap_alloc _ _ _ (by simp)).trans (World.alloc_heap_new w _)
  have hb1 : Below w.heap.size w W1 := by
    rw [← hW1]; exact (((Below.refl _ w).alloc (Nat.le_refl _) _).alloc (by simp) _)
  have hJ1 : J [] W1 := hJ _ _ _ h00 (Ext.of_below hb1)
  refine ⟨w.heap.size + 1, [{ target := .collected w.heap.size, args := #[] }], W1, { target := .fn (.func gf) lb, args := #[.func (.yield (w.heap.size + 1)) #[] #[]] }, W1, gf,
    #[.func (.yield (w.heap.size + 1)) #[] #[]] ++ lb, W1, ?_, ?_, ?_, ?_, fun _ => h1, ?_⟩
  · rw [← hW1, hrec]; exact run_enterLoop_outer _ _ _ _ _
  · simp only [resolve, hg]
    simp [go_sem]
  · intro f' hf'; trivial
  · simp [invoke, go_sem, eg]
  · refine (hseq (w.heap.size + 1)
      (fun pre W => J pre W ∧ W.heap[w.heap.size + 1]? = some (.loop (rec .ready none)) ∧ W.heap[w.heap.size]? = some (.deferred (some [])))
      W1 (Nat.lt_succ_self _) hb1
      (fun pre A B hs hx => ⟨hJ _ _ _ hs.1 (hx.mono (fun _ _ f => f.elim)), (hx.block _ (Array.getElem?_eq_some_iff.1 hs.2.1).1 id).trans hs.2.1, (hx.block _ (Array.getElem?_eq_some_iff.1 hs.2.2).1 id).trans hs.2.2⟩)
      ?_ ⟨hJ1, hL1, hK1⟩).mono ?_
    · rintro pre x W ⟨hi, hl, hk⟩ hpx
      have hlt : w.heap.size + 1 < W.heap.size := (Array.getElem?_eq_some_iff.1 hl).1
      have hy := run_yield (P := P) (args := encs x) hl (by rw [hrec]; exact hps x)
      rw [hrec] at hy
      refine ⟨fn, _, assign, body, hy, roundIn_of_wpIn hfn (wpIn_mono (hround _ pre x W hi hpx hlt) ?_)⟩
      rintro e a1 W' hp
      cases e with
      | normal =>
        obtain ⟨hxa, hja, hbody⟩ := hp
        have hla := (hxa.block _ hlt id).trans hl
        have hka := (hxa.block _ (by omega) id).trans hk
        have hlt' : w.heap.size + 1 < W'.heap.size := (Array.getElem?_eq_some_iff.1 hla).1
        refine ⟨_, run_beginRound hla (by rw [hrec]), ?_⟩
        have hl2 : (W'.putObj (w.heap.size + 1) (.loop { rec .ready none with state := .busy })).heap[w.heap.size + 1]? = some (.loop { rec .ready none with state := .busy }) := World.putObj_heap_same hlt'
        have hk2 : (W'.putObj (w.heap.size + 1) (.loop { rec .ready none with state := .busy })).heap[w.heap.size]? = some (.deferred (some [])) := (World.putObj_heap_other (by omega)).trans hka
        have hx2 : Ext (fun k => k = w.heap.size + 1) W' (W'.putObj (w.heap.size + 1) (.loop { rec .ready none with state := .busy })) := ext_putObjP _ _ _
        have hmono : ∀ {A B : World}, Ext (fun k => k = w.heap.size + 1) A B → Ext (fun k => k = w.heap.size ∨ k = w.heap.size + 1) A B := fun hx => hx.mono (fun k _ hk => .inr hk)
        refine wpIn_mono (hbody _ (hJ _ _ _ hja (hmono hx2)) hx2) ?_
        have s1 := (Array.getElem?_eq_some_iff.1 hl2).1
        have s0 := (Array.getElem?_eq_some_iff.1 hk2).1
        have nR1 : ¬ R (w.heap.size + 1) := fun h => (hR _ h).2 rfl
        have nR0 : ¬ R w.heap.size := fun h => (hR _ h).1 rfl
        rintro e a3 W3 hp
        cases e with
        | normal =>
          obtain ⟨hj3, hx3⟩ := hp
          have hl3 := (hx3.block _ s1 nR1).trans hl2
          have hk3 := (hx3.block _ s0 nR0).trans hk2
          have hr := run_endRound (P := P) none hl3
          rw [hrec] at hr
          refine ⟨_, _, hr, rfl, ⟨hJ _ _ _ hj3 (hmono (ext_putObjP _ _ _)), ?_, (World.putObj_heap_other (by omega)).trans hk3⟩, ?_⟩
          · rw [hrec]; exact World.putObj_heap_same (Array.getElem?_eq_some_iff.1 hl3).1
          · have e1 : Ext (fun k => k = w.heap.size + 1 ∨ R k) W W' := hxa.mono (fun _ _ f => f.elim)
            have e2 : Ext (fun k => k = w.heap.size + 1 ∨ R k) W' (W'.putObj (w.heap.size + 1) (.loop { rec .ready none with state := .busy })) := hx2.mono (fun _ _ h => .inl h)
            have e3 : Ext (fun k => k = w.heap.size + 1 ∨ R k) (W'.putObj (w.heap.size + 1) (.loop { rec .ready none with state := .busy })) W3 := hx3.mono (fun _ _ h => .inr h)
            exact ((e1.trans e2).trans e3).trans ((ext_putObjP _ _ _).mono (fun _ _ h => .inl h))
        | ret => exact hp.elim
        | exit id => exact hp.elim
        | goto t => exact hp.elim
        | panic ch => exact hp.elim
        | outgrown => exact hp.elim
      | ret => exact hp.elim
      | exit id => exact hp.elim
      | goto t => exact hp.elim
      | panic ch => exact hp.elim
      | outgrown => exact hp.elim
    · rintro e W2 ⟨⟨v, rfl⟩, hi, hl, hk⟩
      refine ⟨none, _, by have := run_endLoop (P := P) hl (by rw [hrec]; simp); rw [hrec] at this; exact this, hdone _ (hJ _ _ _ hi ?_) ((World.putObj_heap_other (by omega)).trans hk)⟩
      have hx := ext_putObjP W2 (w.heap.size + 1) (.loop { (rec .ready none) with state := .exhausted })
      rw [hrec] at hx
      exact hx.mono (fun k _ hk => .inr hk)

end Go.Proofs.YtdlnokbeadkdfaaGreatDoor
