/- A range over a function, invariants over worlds alone: for iterators that keep their state in cells of their own. -/
import Derived.RangeFuncNested
import Derived.RangeFuncBound
import Derived.RangeFuncCalls
import Derived.RangeFuncLeaves
import Derived.Test.YtilonmpcifohiaaMaps
namespace Go.Proofs.Ytilonmpcifohiaa
open Go.RowKit
set_option linter.unusedSimpArgs false
set_option linter.unusedVariables false

/-- How a round's body may be left. -/
def roundEnd (B : Nat) (J : World → Prop) (Jx : Code → World → Prop) (ok stop : Prop) (W : World) : Exit → Act → World → Prop
  | .normal, _, W' => ok ∧ J W' ∧ Ext (fun _ => False) W W'
  | .ret, _, W' => stop ∧ Jx .ret W' ∧ Ext (fun k => k < B) W W'
  | .exit id, _, W' => stop ∧ Jx (.exit id) W' ∧ Ext (fun k => k < B) W W'
  | .goto _, _, _ => False
  | .panic _, _, _ => False
  | .outgrown, _, _ => False

theorem ext_putObj (w : World) (l : Nat) (o : Obj) : Ext (· = l) w (w.putObj l o) :=
  ⟨rfl, rfl, rfl, by simp [World.putObj], fun k hk hn => World.putObj_heap_other (by omega)⟩

theorem range_ext {U : Type} {P : Program} {n : Nat} (h1 : 1 ≤ n) {g : Operand} {ps : Array Tmp} {assign body : Code} {Q : Exit → Act → World → Prop} {a : Act} {w : World} {gf : Nat} {lb : Array Value}
    (hg : a.eval g = .func (.func gf) #[] lb) (eg : ∀ args w, (callFunc gf args).run P w = .ok (.enter gf args) w)
    (encs : U → Array Value) (hps : ∀ x, (encs x).size = ps.size) (T : Nat → Prop) (hT : ∀ k, T k → k < w.heap.size)
    (J : World → Prop) (Jx : Code → World → Prop) (hJ : ∀ W W', J W → Ext (fun k => T k ∨ w.heap.size ≤ k) W W' → J W') (hJx : ∀ c W W', Jx c W → Ext (fun k => w.heap.size ≤ k) W W' → Jx c W')
    (ok stop : U → Prop) (DoneP StopP : Prop)
    (hseq : ∀ (l : Nat) (I X : World → Prop) (W : World), w.heap.size < l → Below w.heap.size w W → (∀ W W', I W → Ext T W W' → I W') →
      (∀ x W1, I W1 → YieldAt Fence.wide (n - 1 - 1) P l (encs x) W1 fun e W' => (ok x ∧ e = .returned (.bool true) ∧ I W' ∧ Ext (· = l) W1 W') ∨ (stop x ∧ e = .returned (.bool false) ∧ X W')) → I W →
      CallsIn Fence.wide (n - 1) P gf (#[.func (.yield l) #[] #[]] ++ lb) W fun e W' => (∃ v, e = .returned v) ∧ ((DoneP ∧ I W') ∨ (StopP ∧ X W')))
    (h0 : J w)
    (hround : ∀ (l : Nat) (x : U) (W : World), J W → w.heap.size + 1 < W.heap.size →
      assign.wpIn (Fence.wide.inRound l) (n - 1 - 1) P (Exit.then (fun a₁ W₁ => Ext (fun _ => False) W W₁ ∧ J W₁ ∧ ∀ W₂, J W₂ → Ext (fun k => k = w.heap.size + 1) W₁ W₂ → body.wpIn (Fence.wide.inRound l) (n - 1 - 1) P (roundEnd w.heap.size J Jx (ok x) (stop x) W₂) a₁ W₂) (fun _ _ _ => False))
        { tmps := (ps.zip (encs x)).foldl (fun t (p, v) => t.setIfInBounds p v) a.tmps, defers := [] } W)
    (hdone : ∀ W, DoneP → J W → W.heap[w.heap.size]? = some (.deferred (some [])) → Q .normal { a with defers := { target := .collected w.heap.size, args := #[] } :: a.defers } W)
    (hstop : ∀ c W, StopP → Jx c W → W.heap[w.heap.size]? = some (.deferred (some [])) → c.wpIn Fence.wide n P Q { a with defers := { target := .collected w.heap.size, args := #[] } :: a.defers } W) :
    (Code.rangeFunc g ps assign body).wpIn Fence.wide n P Q a w := by
  refine wpIn_rangeFunc ?_
  intro fn hfn
  obtain ⟨rec, hrec⟩ : ∃ rec : LoopState → Option Code → Loop, rec = fun st pe => { state := st, pending := pe, fn, tmps := a.tmps, params := ps, assign, body, defers := w.heap.size } := ⟨_, rfl⟩
  obtain ⟨W1, hW1⟩ : ∃ W1, (w.alloc (.deferred (some []))).alloc (.loop (rec .ready none)) = W1 := ⟨_, rfl⟩
  have hL1 : W1.heap[w.heap.size + 1]? = some (.loop (rec .ready none)) := by
    rw [← hW1]; have := World.alloc_heap_new (w.alloc (.deferred (some []))) (.loop (rec .ready none)); rwa [World.size_alloc] at this
  have hK1 : W1.heap[w.heap.size]? = some (.deferred (some [])) := by
    rw [← hW1]; exact (Below.heap_alloc _ _ _ (by simp)).trans (World.alloc_heap_new w _)
  have hb1 : Below w.heap.size w W1 := by
    rw [← hW1]; exact (((Below.refl _ w).alloc (Nat.le_refl _) _).alloc (by simp) _)
  have hJ1 : J W1 := hJ _ _ h0 (Ext.of_below hb1)
  refine ⟨w.heap.size + 1, [{ target := .collected w.heap.size, args := #[] }], W1, { target := .fn (.func gf) lb, args := #[.func (.yield (w.heap.size + 1)) #[] #[]] }, W1, gf,
    #[.func (.yield (w.heap.size + 1)) #[] #[]] ++ lb, W1, ?_, ?_, ?_, ?_, fun _ => h1, ?_⟩
  · rw [← hW1, hrec]; exact run_enterLoop_outer _ _ _ _ _
  · simp only [resolve, hg]
    simp [go_sem]
  · intro f' hf'; trivial
  · simp [invoke, go_sem, eg]
  · refine (hseq (w.heap.size + 1)
      (fun W => J W ∧ W.heap[w.heap.size + 1]? = some (.loop (rec .ready none)) ∧ W.heap[w.heap.size]? = some (.deferred (some [])))
      (fun W => ∃ c, Jx c W ∧ W.heap[w.heap.size + 1]? = some (.loop (rec .done (some c))) ∧ W.heap[w.heap.size]? = some (.deferred (some [])))
      W1 (Nat.lt_succ_self _) hb1
      (fun A B hs hx => ⟨hJ _ _ hs.1 ⟨hx.os, hx.tape, hx.output, hx.size, fun k hk hn => hx.block k hk (fun e => hn (.inl e))⟩, (hx.block _ (Array.getElem?_eq_some_iff.1 hs.2.1).1 (fun e => by have := hT _ e; omega)).trans hs.2.1, (hx.block _ (Array.getElem?_eq_some_iff.1 hs.2.2).1 (fun e => by have := hT _ e; omega)).trans hs.2.2⟩)
      ?_ ⟨hJ1, hL1, hK1⟩).mono ?_
    · rintro x W ⟨hi, hl, hk⟩
      have hlt : w.heap.size + 1 < W.heap.size := (Array.getElem?_eq_some_iff.1 hl).1
      have hy := run_yield (P := P) (args := encs x) hl (by rw [hrec]; exact hps x)
      rw [hrec] at hy
      refine ⟨fn, _, assign, body, hy, roundIn_of_wpIn hfn (wpIn_mono (hround _ x W hi hlt) ?_)⟩
      rintro e a1 W' hp
      cases e with
      | normal =>
        obtain ⟨hxa, hja, hbody⟩ := hp
        have hla := (hxa.block _ hlt id).trans hl
        have hka := (hxa.block _ (by omega) id).trans hk
        have hlt' : w.heap.size + 1 < W'.heap.size := (Array.getElem?_eq_some_iff.1 hla).1
        refine ⟨_, run_beginRound hla (by rw [hrec]), ?_⟩
        have hl2 : (W'.putObj (w.heap.size + 1) (.loop { rec .ready none with state := .busy })).heap[w.heap.size + 1]? = some (.loop { rec .ready none with state := .busy }) := World.putObj_heap_same hlt'
        have hk2 : (W'.putObj (w.heap.size + 1) (.loop { rec .ready none with state := .busy })).heap[w.heap.size]? = some (.deferred (some [])) := (World.putObj_heap_other (by omega)).trans hka
        have hx2 : Ext (fun k => k = w.heap.size + 1) W' (W'.putObj (w.heap.size + 1) (.loop { rec .ready none with state := .busy })) := ext_putObj _ _ _
        have hmono : ∀ {A B : World}, Ext (fun k => k = w.heap.size + 1) A B → Ext (fun k => T k ∨ w.heap.size ≤ k) A B := fun hx => ⟨hx.os, hx.tape, hx.output, hx.size, fun k hk hn => hx.block k hk (fun e => hn (.inr (by omega)))⟩
        have hmonox : ∀ {A B : World}, Ext (fun k => k = w.heap.size + 1) A B → Ext (fun k => w.heap.size ≤ k) A B := fun hx => ⟨hx.os, hx.tape, hx.output, hx.size, fun k hk hn => hx.block k hk (fun e => hn (by omega))⟩
        refine wpIn_mono (hbody _ (hJ _ _ hja (hmono hx2)) hx2) ?_
        have fin : ∀ (jump : Option Code) (W3 : World), W3.heap[w.heap.size + 1]? = some (.loop { rec .ready none with state := .busy }) → W3.heap[w.heap.size]? = some (.deferred (some [])) →
            (Instr.endRound (w.heap.size + 1) jump).run P W3 = .ok (.bool jump.isNone) (W3.putObj (w.heap.size + 1) (.loop (rec (if jump.isNone then .ready else .done) jump))) ∧
            (W3.putObj (w.heap.size + 1) (.loop (rec (if jump.isNone then .ready else .done) jump))).heap[w.heap.size + 1]? = some (.loop (rec (if jump.isNone then .ready else .done) jump)) ∧
            (W3.putObj (w.heap.size + 1) (.loop (rec (if jump.isNone then .ready else .done) jump))).heap[w.heap.size]? = some (.deferred (some [])) := fun jump W3 hl3 hk3 => by
          have := run_endRound (P := P) jump hl3
          rw [hrec] at this ⊢
          exact ⟨this, World.putObj_heap_same (Array.getElem?_eq_some_iff.1 hl3).1, (World.putObj_heap_other (by omega)).trans hk3⟩
        have s1 := (Array.getElem?_eq_some_iff.1 hl2).1
        have s0 := (Array.getElem?_eq_some_iff.1 hk2).1
        rintro e a3 W3 hp
        cases e with
        | normal =>
          obtain ⟨hok, hj3, hx3⟩ := hp
          obtain ⟨hr, hl4, hk4⟩ := fin none W3 ((hx3.block _ s1 id).trans hl2) ((hx3.block _ s0 id).trans hk2)
          refine ⟨_, _, hr, .inl ⟨hok, rfl, ⟨hJ _ _ hj3 (hmono (ext_putObj _ _ _)), hl4, hk4⟩, ?_⟩⟩
          have e1 : Ext (· = w.heap.size + 1) W W' := ⟨hxa.os, hxa.tape, hxa.output, hxa.size, fun k hk _ => hxa.block k hk id⟩
          have e3 : Ext (· = w.heap.size + 1) (W'.putObj (w.heap.size + 1) (.loop { rec .ready none with state := .busy })) W3 := ⟨hx3.os, hx3.tape, hx3.output, hx3.size, fun k hk _ => hx3.block k hk id⟩
          exact ((e1.trans hx2).trans e3).trans (ext_putObj _ _ _)
        | ret =>
          obtain ⟨hst, hj3, hx3⟩ := hp
          obtain ⟨hr, hl4, hk4⟩ := fin (some .ret) W3 ((hx3.block _ s1 (by omega)).trans hl2) ((hx3.block _ s0 (by omega)).trans hk2)
          exact ⟨_, _, hr, .inr ⟨hst, rfl, .ret, hJx _ _ _ hj3 (hmonox (ext_putObj _ _ _)), hl4, hk4⟩⟩
        | exit id =>
          obtain ⟨hst, hj3, hx3⟩ := hp
          obtain ⟨hr, hl4, hk4⟩ := fin (some (.exit id)) W3 ((hx3.block _ s1 (by omega)).trans hl2) ((hx3.block _ s0 (by omega)).trans hk2)
          exact ⟨_, _, hr, .inr ⟨hst, rfl, .exit id, hJx _ _ _ hj3 (hmonox (ext_putObj _ _ _)), hl4, hk4⟩⟩
        | goto t => exact hp.elim
        | panic ch => exact hp.elim
        | outgrown => exact hp.elim
      | ret => exact hp.elim
      | exit id => exact hp.elim
      | goto t => exact hp.elim
      | panic ch => exact hp.elim
      | outgrown => exact hp.elim
    · rintro e W2 ⟨⟨v, rfl⟩, (⟨hS, hi, hl, hk⟩ | ⟨hSp, c, hi, hl, hk⟩)⟩
      · refine ⟨none, _, by have := run_endLoop (P := P) hl (by rw [hrec]; simp); rw [hrec] at this; exact this, hdone _ hS (hJ _ _ hi ?_) ((World.putObj_heap_other (by omega)).trans hk)⟩
        have hx := ext_putObj W2 (w.heap.size + 1) (.loop { (rec .ready none) with state := .exhausted })
        rw [hrec] at hx
        exact ⟨hx.os, hx.tape, hx.output, hx.size, fun k hk hn => hx.block k hk (fun e => hn (.inr (by omega)))⟩
      · refine ⟨some c, _, by have := run_endLoop (P := P) hl (by rw [hrec]; simp); rw [hrec] at this; exact this, hstop c _ hSp (hJx _ _ _ hi ?_) ((World.putObj_heap_other (by omega)).trans hk)⟩
        have hx := ext_putObj W2 (w.heap.size + 1) (.loop { (rec .done (some c)) with state := .exhausted })
        rw [hrec] at hx
        exact ⟨hx.os, hx.tape, hx.output, hx.size, fun k hk hn => hx.block k hk (fun e => hn (by omega))⟩

end Go.Proofs.Ytilonmpcifohiaa
