/- Keys that are structs: what a map asks of them, out of their equality. -/
import Derived.Test.YtilonmpcifohiaaMaps
namespace Go.Proofs.Ytilonmpcifohiaa
open Go.RowKit
set_option linter.unusedSimpArgs false
set_option linter.unusedVariables false

theorem run_findAsking {K V : Type} [DecidableEq K] {P : Program} {kt : TypeId} {ek : K → Value} (heq : ∀ a b (w : World), (Op.equal kt (ek a) (ek b)).run P w = .ok (decide (a = b)) w) (k : K) (w : World) :
    ∀ (es : List MapEntry) (l : List (K × V)) (i : Nat), es.map (·.key) = l.map (fun p => ek p.1) →
    (Instr.findAsking kt (ek k) es i).run P w = .ok ((aidx l k).map fun j => (i + j, ((es[j]?).map (·.val)).getD undef)) w
  | [], [], i, _ => by simp [Instr.findAsking, aidx]
  | [], _ :: _, _, h => by simp at h
  | _ :: _, [], _, h => by simp at h
  | e :: es, p :: l, i, h => by
    obtain ⟨k', v⟩ := p
    simp only [List.map_cons, List.cons.injEq] at h
    obtain ⟨h1, h2⟩ := h
    have ih := run_findAsking heq k w es l (i + 1) h2
    simp only [Instr.findAsking, Sem.run_bind, h1, heq k k' w, Result.andThen_ok, Sem.run_ite]
    by_cases hk : k' = k
    · subst hk
      simp [aidx]
    · have hk' : ¬ k = k' := fun e => hk e.symm
      simp only [hk', decide_false, Bool.false_eq_true, if_false, ih, aidx, hk]
      cases aidx l k with
      | none => rfl
      | some j => simp [Nat.add_assoc, Nat.add_comm 1 j]

theorem KeyTy.of_equal {K V : Type} [DecidableEq K] {P : Program} {kt : TypeId} {ek : K → Value} {fs : Array Field} (hu : P.underlying kt = some (.struct fs))
    (hagg : ∀ a, ∃ cs, ek a = .agg cs)
    (check : ∀ (em : Bool) (k : K) (w : World), (Instr.checkKey em 10000 kt (ek k)).run P w = .ok () w)
    (heq : ∀ a b (w : World), (Op.equal kt (ek a) (ek b)).run P w = .ok (decide (a = b)) w)
    (hsame : ∀ a, Instr.sameBits 10000 (ek a) (ek a) = true) : KeyTy (V := V) P kt ek := by
  refine ⟨check, fun k es l w h => ?_, fun k w => by simp [Instr.keyThatStays, hsame]⟩
  cases es with
  | nil =>
    cases l with
    | nil => simp [Instr.findKey, run_underlying hu, Instr.findNow, aidx]
    | cons p l => simp at h
  | cons e es =>
    have hn : Instr.findNow (.struct fs) (ek k) (e :: es) 0 = none := by
      obtain ⟨cs, hc⟩ := hagg k
      simp [Instr.findNow, hc, Instr.sameNow]
    have := run_findAsking (V := V) heq k w (e :: es) l 0 h
    simp only [Instr.findKey, Sem.run_bind, run_underlying hu, Result.andThen_ok, hn]
    rw [this]
    simp

end Go.Proofs.Ytilonmpcifohiaa
