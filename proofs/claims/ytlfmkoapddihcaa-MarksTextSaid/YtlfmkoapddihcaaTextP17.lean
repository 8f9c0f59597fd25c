/- Layer 17, plain: the texts of a span's pieces. -/
import Derived.Test.YtlfmkoapddihcaaSamePcs17
namespace Go.Proofs.Ytlfmkoapddihcaa
open Go.RowKit
set_option linter.unusedSimpArgs false
set_option linter.unusedVariables false

theorem append_assocB (a b c : ByteArray) : a ++ b ++ c = a ++ (b ++ c) := by
  apply ByteArray.ext
  simp only [ByteArray.data_append, Array.append_assoc]
/-- The texts, one behind the other. -/
def textOf (P : Pcs) : ByteArray := P.foldl (fun s q => s ++ q.1) ⟨#[]⟩
theorem textOf_snoc (P : Pcs) (q : ByteArray × List Atr) : textOf (P ++ [q]) = textOf P ++ q.1 := by simp [textOf]
theorem textOf_take {P : Pcs} {k : Nat} {q : ByteArray × List Atr} (h : P[k]? = some q) : textOf (P.take (k + 1)) = textOf (P.take k) ++ q.1 := by
  rw [List.take_add_one, h, Option.toList_some, textOf_snoc]
theorem textOf_size {P : Pcs} (h : ∀ q ∈ P, q.1.size ≤ 1000) : (textOf P).size ≤ P.length * 1000 := by
  have : ∀ (P : Pcs) (s : ByteArray), (∀ q ∈ P, q.1.size ≤ 1000) → (P.foldl (fun s q => s ++ q.1) s).size ≤ s.size + P.length * 1000 := by
    intro P
    induction P with
    | nil => intro s _; simp
    | cons q P ih =>
      intro s hq
      rw [List.foldl_cons, List.length_cons]
      refine Nat.le_trans (ih _ (fun z hz => hq z (List.mem_cons_of_mem _ hz))) ?_
      have := hq q (List.mem_cons_self ..)
      rw [ByteArray.size_append]
      omega
  have h2 := this P ⟨#[]⟩ h
  have e : (⟨#[]⟩ : ByteArray).size = 0 := rfl
  rw [e] at h2
  unfold textOf
  omega

/-- A span's characters. -/
def charsN (l : List El) (f : Nat) : Nat → ByteArray
  | 0 => ⟨#[]⟩
  | n + 1 => match l[f + n]? with
    | some x => if x.ch = 0 ∨ x.gone = true then charsN l f n else charsN l f n ++ chB x.ch
    | none => charsN l f n
theorem step_text {x : El} {al : List Atr} {P : Pcs} : textOf (stepPc x al P) = if x.ch = 0 ∨ x.gone = true then textOf P else textOf P ++ chB x.ch := by
  by_cases h : x.ch = 0 ∨ x.gone = true
  · rw [stepPc_skip h, if_pos h]
  · rw [if_neg h]
    rcases snoc_cases P with rfl | ⟨Q, ⟨t, bl⟩, rfl⟩
    · rw [stepPc_first h]
      rfl
    · by_cases e : bl = al
      · subst e
        rw [stepPc_more h, textOf_snoc, textOf_snoc, append_assocB]
      · rw [stepPc_new h e, textOf_snoc]
theorem text_chars (l : List El) (ms : List OpD) (f : Nat) : ∀ n, textOf (pcsN l ms f n) = charsN l f n
  | 0 => rfl
  | n + 1 => by
    have ih := text_chars l ms f n
    cases hx : l[f + n]? with
    | none => simp only [pcsN, charsN, hx]; exact ih
    | some x => simp only [pcsN, charsN, hx, step_text, ih]
theorem pieces_text (l : List El) (ms : List OpD) (fi ti : Int) : textOf (piecesP l ms fi ti) = textOf (piecesP l [] fi ti) := by
  unfold piecesP
  split
  · rfl
  · rw [text_chars, text_chars]

/-- No text is empty; no two that follow one another have the same marks. -/
def Fair (P : Pcs) : Prop := (∀ q ∈ P, 0 < q.1.size) ∧ ∀ k p q, P[k]? = some p → P[k + 1]? = some q → p.2 ≠ q.2
theorem fair_snoc {P : Pcs} {q : ByteArray × List Atr} (h : Fair P) (hq : 0 < q.1.size) (hd : ∀ p, P.getLast? = some p → p.2 ≠ q.2) : Fair (P ++ [q]) := by
  refine ⟨fun z hz => ?_, fun k p z hp hz => ?_⟩
  · rw [List.mem_append, List.mem_singleton] at hz
    rcases hz with hz | rfl
    · exact h.1 z hz
    · exact hq
  · have hk1 := (List.getElem?_eq_some_iff.1 hz).1
    rw [List.length_append, List.length_singleton] at hk1
    by_cases hk : k + 1 < P.length
    · rw [List.getElem?_append_left (by omega)] at hp
      rw [List.getElem?_append_left hk] at hz
      exact h.2 k p z hp hz
    · have hk2 : k + 1 = P.length := by omega
      rw [List.getElem?_append_left (by omega)] at hp
      rw [hk2, List.getElem?_append_right (Nat.le_refl _), Nat.sub_self] at hz
      simp at hz
      subst hz
      refine hd p ?_
      rw [List.getLast?_eq_getElem?, show P.length - 1 = k by omega]
      exact hp
theorem fair_step {x : El} {al : List Atr} {P : Pcs} (h : Fair P) : Fair (stepPc x al P) := by
  have hc : (chB x.ch).size = 1 := rfl
  by_cases hs : x.ch = 0 ∨ x.gone = true
  · rw [stepPc_skip hs]; exact h
  · rcases snoc_cases P with rfl | ⟨Q, ⟨t, bl⟩, rfl⟩
    · rw [stepPc_first hs]
      exact fair_snoc (P := []) ⟨by simp, by simp⟩ (by simp only [hc]; omega) (by simp)
    · by_cases e : bl = al
      · subst e
        rw [stepPc_more hs]
        refine fair_snoc ⟨fun z hz => h.1 z (List.mem_append_left _ hz), fun k p q hp hq => ?_⟩ (by simp only [ByteArray.size_append, hc]; omega) (fun p hp => ?_)
        · have h1 := (List.getElem?_eq_some_iff.1 hp).1
          have h2 := (List.getElem?_eq_some_iff.1 hq).1
          exact h.2 k p q (by rw [List.getElem?_append_left h1]; exact hp) (by rw [List.getElem?_append_left h2]; exact hq)
        · rw [List.getLast?_eq_getElem?] at hp
          have h1 := (List.getElem?_eq_some_iff.1 hp).1
          refine h.2 (Q.length - 1) p (t, bl) (by rw [List.getElem?_append_left h1]; exact hp) ?_
          rw [show Q.length - 1 + 1 = Q.length by omega]
          simp
      · rw [stepPc_new hs e]
        refine fair_snoc h (by simp only [hc]; omega) (fun p hp => ?_)
        simp at hp
        subst hp
        exact e
theorem fair_pcsN (l : List El) (ms : List OpD) (f : Nat) : ∀ n, Fair (pcsN l ms f n)
  | 0 => ⟨by simp [pcsN], by simp [pcsN]⟩
  | n + 1 => by
    rw [pcsN]
    split
    · exact fair_step (fair_pcsN l ms f n)
    · exact fair_pcsN l ms f n
theorem fair_pieces (l : List El) (ms : List OpD) (fi ti : Int) : Fair (piecesP l ms fi ti) := by
  unfold piecesP
  split
  · exact ⟨by simp, by simp⟩
  · exact fair_pcsN _ _ _ _
theorem hasOf_nil (l : List El) (k : Nat) : hasOf l [] k = [] :=
  hasOf_eq ⟨List.Pairwise.nil, fun a => by
    constructor
    · intro h; cases h
    · rintro ⟨_, q, o, hw, _⟩
      have := hw.1
      simp at this⟩
theorem plain_pcsN (l : List El) (f : Nat) : ∀ n, pcsN l [] f n = [] ∨ ∃ t, pcsN l [] f n = [(t, [])]
  | 0 => .inl rfl
  | n + 1 => by
    have ih := plain_pcsN l f n
    rw [pcsN]
    split
    · rename_i x hx
      rw [hasOf_nil]
      by_cases hs : x.ch = 0 ∨ x.gone = true
      · rw [stepPc_skip hs]; exact ih
      · rcases ih with e | ⟨t, e⟩
        · rw [e, stepPc_first hs]; exact .inr ⟨_, rfl⟩
        · rw [e, show [(t, ([] : List Atr))] = [] ++ [(t, [])] from rfl, stepPc_more hs]; exact .inr ⟨_, rfl⟩
    · exact ih
theorem plain_pieces (l : List El) (fi ti : Int) : (piecesP l [] fi ti).length ≤ 1 := by
  unfold piecesP
  split
  · simp
  · rcases plain_pcsN l fi.toNat (ti.toNat - fi.toNat) with e | ⟨t, e⟩ <;> rw [e] <;> simp
theorem pieces_small {l : List El} (ms : List OpD) (fi ti : Int) (hl : l.length ≤ 1000) : ∀ q ∈ piecesP l ms fi ti, q.1.size ≤ 1000 := by
  unfold piecesP
  split
  · simp
  · intro q hq
    have := pcsN_size l ms fi.toNat (ti.toNat - fi.toNat) q hq
    omega

end Go.Proofs.Ytlfmkoapddihcaa
