/- Layer 17, plain: pieces. -/
import Derived.Test.YtlfmkoapddihcaaTwo17
import Derived.Laws.BytesString
import Derived.Laws.Concat
namespace Go.Proofs.Ytlfmkoapddihcaa
open Go.RowKit
set_option linter.unusedSimpArgs false
set_option linter.unusedVariables false

/-- What an element has. -/
noncomputable def hasOf (l : List El) (ms : List OpD) (k : Nat) : List Atr := @dite _ (∃ al, HasL l ms (k : Int) al) (Classical.propDecidable _) (fun h => Classical.choose h) (fun _ => [])
theorem hasOf_eq {l : List El} {ms : List OpD} {k : Nat} {al : List Atr} (h : HasL l ms k al) : hasOf l ms k = al := by
  have h1 : ∃ al, HasL l ms (k : Int) al := ⟨al, h⟩
  unfold hasOf
  rw [dif_pos h1]
  exact (Classical.choose_spec h1).unique h

/-- A character as a string of one byte. -/
def chB (c : Int) : ByteArray := ⟨#[UInt8.ofNat (c % 256).toNat]⟩
theorem emptyB (b : ByteArray) : (⟨#[]⟩ : ByteArray) ++ b = b := by
  apply ByteArray.ext
  rw [ByteArray.data_append]
  simp
abbrev Pcs := List (ByteArray × List Atr)
def stepPc (x : El) (al : List Atr) (P : Pcs) : Pcs :=
  if x.ch = 0 ∨ x.gone = true then P
  else match P.getLast? with
    | some q => if q.2 = al then P.dropLast ++ [(q.1 ++ chB x.ch, al)] else P ++ [(chB x.ch, al)]
    | none => P ++ [(chB x.ch, al)]
noncomputable def pcsN (l : List El) (ms : List OpD) (f : Nat) : Nat → Pcs
  | 0 => []
  | n + 1 => match l[f + n]? with
    | some x => stepPc x (hasOf l ms (f + n)) (pcsN l ms f n)
    | none => pcsN l ms f n
theorem pcsN_succ {l : List El} {ms : List OpD} {f n : Nat} {x : El} (hx : l[f + n]? = some x) : pcsN l ms f (n + 1) = stepPc x (hasOf l ms (f + n)) (pcsN l ms f n) := by
  rw [pcsN, hx]
theorem stepPc_skip {x : El} {al : List Atr} {P : Pcs} (h : x.ch = 0 ∨ x.gone = true) : stepPc x al P = P := if_pos h
theorem stepPc_first {x : El} {al : List Atr} (h : ¬ (x.ch = 0 ∨ x.gone = true)) : stepPc x al [] = [(chB x.ch, al)] := by
  unfold stepPc
  rw [if_neg h]
  rfl
theorem stepPc_more {x : El} {t : ByteArray} {al : List Atr} {P : Pcs} (h : ¬ (x.ch = 0 ∨ x.gone = true)) : stepPc x al (P ++ [(t, al)]) = P ++ [(t ++ chB x.ch, al)] := by
  unfold stepPc
  rw [if_neg h]
  simp
theorem stepPc_new {x : El} {t : ByteArray} {al bl : List Atr} {P : Pcs} (h : ¬ (x.ch = 0 ∨ x.gone = true)) (hne : bl ≠ al) : stepPc x al (P ++ [(t, bl)]) = P ++ [(t, bl)] ++ [(chB x.ch, al)] := by
  unfold stepPc
  rw [if_neg h]
  simp [hne]
theorem pcsN_le (l : List El) (ms : List OpD) (f : Nat) : ∀ n, (pcsN l ms f n).length ≤ n
  | 0 => by simp [pcsN]
  | n + 1 => by
    have ih := pcsN_le l ms f n
    rw [pcsN]
    split
    · unfold stepPc
      split
      · omega
      · split
        · rename_i q hq
          have hne : pcsN l ms f n ≠ [] := fun e => by rw [e] at hq; cases hq
          have := List.length_pos_iff.2 hne
          split <;> simp <;> omega
        · simp; omega
    · omega

theorem pcsN_size (l : List El) (ms : List OpD) (f : Nat) : ∀ n, ∀ q ∈ pcsN l ms f n, q.1.size ≤ n
  | 0 => by simp [pcsN]
  | n + 1 => by
    have ih := pcsN_size l ms f n
    have hc : ∀ c, (chB c).size = 1 := fun c => rfl
    rw [pcsN]
    split
    · unfold stepPc
      split
      · intro q hq; have := ih q hq; omega
      · split
        · rename_i q hq
          have hq1 := ih q (List.mem_of_getLast? hq)
          split
          · intro z hz
            rw [List.mem_append, List.mem_singleton] at hz
            rcases hz with hz | rfl
            · have := ih z ((List.dropLast_subset _) hz); omega
            · simp only [ByteArray.size_append, hc]; omega
          · intro z hz
            rw [List.mem_append, List.mem_singleton] at hz
            rcases hz with hz | rfl
            · have := ih z hz; omega
            · simp only [hc]; omega
        · intro z hz
          rw [List.mem_append, List.mem_singleton] at hz
          rcases hz with hz | rfl
          · have := ih z hz; omega
          · simp only [hc]; omega
    · intro q hq; have := ih q hq; omega

/-- A piece: its text and its marks. -/
structure Pc where
  t : ByteArray
  s : Sl
def Pc.cells (x : Pc) : List Value := [.string x.t, .slice x.s.a x.s.n x.s.cap]
theorem Pc.len (x : Pc) : x.cells.length = 2 := rfl
theorem Pc.one (x : Pc) : ∀ u ∈ x.cells, u.oneCell' = true := by
  intro u hu
  simp only [Pc.cells, List.mem_cons, List.not_mem_nil, or_false] at hu
  rcases hu with rfl | rfl <;> rfl
/-- These pieces, in the call's own memory. -/
def PcsIs (base : Nat) (W : World) (u : Value) (P : Pcs) : Prop :=
  ∃ vs : List Pc, Own Pc.cells 2 60 base W u vs ∧ vs.length = P.length ∧ ∀ (j : Nat) (x : Pc), vs[j]? = some x → ∃ al, P[j]? = some (x.t, al) ∧ Own Atr.cells 2 51 base W x.s.val al
theorem PcsIs.ext {base : Nat} {W W' : World} {u : Value} {P : Pcs} (h : PcsIs base W u P) (hb : Below W.heap.size W W') : PcsIs base W' u P := by
  obtain ⟨vs, h1, h2, h3⟩ := h
  have hx : Ext (fun _ => False) W W' := Ext.of_below hb
  refine ⟨vs, h1.ext hx (fun _ _ f => f), h2, fun j x hj => ?_⟩
  obtain ⟨al, h4, h5⟩ := h3 j x hj
  exact ⟨al, h4, h5.ext hx (fun _ _ f => f)⟩
theorem info_piece : (Try.prog.info? 60).map (fun i => (i.zero, i.size, i.bytes)) = some (some (.agg #[.string ⟨#[]⟩, .slice none 0 0]), 2, 40) := by kernel_rfl

theorem conv_ch (W : World) (b : Nat) (c : Int) (h : W.cell? ⟨b, 0, none⟩ = some (.int .u8 (c % 256))) : (convert 67 9 (.slice (some ⟨b, 0, none⟩) 1 1)).run Try.prog W = .ok (.string (chB c)) W := by
  rw [run_convert_bytes_string W 67 9 5 (some ⟨b, 0, none⟩) 1 1 Try.underlying67 (by kernel_rfl) Try.underlying9]
  have hl := run_loadCells_list (P := Try.prog) W ⟨b, 0, none⟩ [.int .u8 (c % 256)] (fun j v hj => by
    rw [addr_add, Nat.zero_add]
    match j, hj with
    | 0, hj => simp at hj; subst hj; exact h
    | n + 1, hj => simp at hj)
  have := run_bytesToString (P := Try.prog) W ⟨b, 0, none⟩ 1 1 [c % 256] hl
  rw [this]
  rfl

end Go.Proofs.Ytlfmkoapddihcaa
