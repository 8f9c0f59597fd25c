/- Sums and differences made in place, plain. -/
import Derived.Test.YtdlnokbeadkdfaaGreatDoorDiffP08
namespace Go.Proofs.YtdlnokbeadkdfaaGreatDoor
open Go.RowKit Go.Deep
set_option linter.unusedSimpArgs false
set_option linter.unusedVariables false

theorem sumsF_len : ∀ (l : List Int) (p : Int), (sumsF p l).length = l.length
  | [], _ => rfl
  | x :: l, p => by rw [sumsF, List.length_cons, sumsF_len l, List.length_cons]
theorem sumsB_len (l : List Int) : (sumsB l).length = l.length := by
  cases l with
  | nil => rfl
  | cons x l => rw [sumsB, List.length_cons, sumsF_len, List.length_cons]
theorem sumsF_get : ∀ (l : List Int) (p : Int) (j : Nat) (x y : Int), l[j]? = some x → (p :: sumsF p l)[j]? = some y → (sumsF p l)[j]? = some (wrapI (x + y))
  | [], _, _, _, _, h, _ => by simp at h
  | z :: l, p, 0, x, y, h, h2 => by
    simp at h h2
    subst h h2
    rw [sumsF]; rfl
  | z :: l, p, j + 1, x, y, h, h2 => by
    rw [sumsF] at h2 ⊢
    rw [List.getElem?_cons_succ] at h h2 ⊢
    exact sumsF_get l _ j x y h h2
theorem sumsB_get {l : List Int} {j : Nat} {x y : Int} (hx : l[j + 1]? = some x) (hy : (sumsB l)[j]? = some y) : (sumsB l)[j + 1]? = some (wrapI (x + y)) := by
  cases l with
  | nil => simp at hx
  | cons z l =>
    rw [sumsB] at hy ⊢
    rw [List.getElem?_cons_succ] at hx ⊢
    exact sumsF_get l z j x y hx hy
theorem diffsF_get : ∀ (l : List Int) (p : Int) (j : Nat) (x y : Int), l[j]? = some x → (p :: l)[j]? = some y → (diffsF p l)[j]? = some (wrapI (x - y))
  | [], _, _, _, _, h, _ => by simp at h
  | z :: l, p, 0, x, y, h, h2 => by
    simp at h h2
    subst h h2
    rw [diffsF]; rfl
  | z :: l, p, j + 1, x, y, h, h2 => by
    rw [diffsF]
    rw [List.getElem?_cons_succ] at h h2 ⊢
    exact diffsF_get l _ j x y h h2
theorem diffsB_get {l : List Int} {j : Nat} {x y : Int} (hx : l[j + 1]? = some x) (hy : l[j]? = some y) : (diffsB l)[j + 1]? = some (wrapI (x - y)) := by
  cases l with
  | nil => simp at hx
  | cons z l =>
    rw [diffsB]
    rw [List.getElem?_cons_succ] at hx ⊢
    exact diffsF_get l z j x y hx hy
/-- So many are done in place. -/
def mixP (a b : List Int) (i : Nat) : List Int := a.take i ++ b.drop i
theorem mixP_zero (a b : List Int) : mixP a b 0 = b := by simp [mixP]
theorem mixP_len {a b : List Int} (h : a.length = b.length) {i : Nat} (hi : i ≤ b.length) : (mixP a b i).length = b.length := by simp [mixP]; omega
theorem mixP_all {a b : List Int} (h : a.length = b.length) : mixP a b b.length = a := by simp [mixP, ← h]
theorem mixP_at {a b : List Int} (h : a.length = b.length) {i : Nat} {x : Int} (hx : b[i]? = some x) : (mixP a b i)[i]? = some x := by
  have hi := (List.getElem?_eq_some_iff.1 hx).1
  unfold mixP
  rw [List.getElem?_append_right (by simp; omega), List.length_take, Nat.min_eq_left (by omega), Nat.sub_self, List.getElem?_drop]
  exact hx
theorem mixP_before {a b : List Int} (h : a.length = b.length) {i j : Nat} {x : Int} (hx : a[j]? = some x) (hj : j < i) : (mixP a b i)[j]? = some x := by
  have hi := (List.getElem?_eq_some_iff.1 hx).1
  unfold mixP
  rw [List.getElem?_append_left (by simp; omega), List.getElem?_take, if_pos hj]
  exact hx
theorem mixP_step {a b : List Int} (h : a.length = b.length) {i : Nat} {x : Int} (hx : a[i]? = some x) : (mixP a b i).set i x = mixP a b (i + 1) := by
  have hi := (List.getElem?_eq_some_iff.1 hx).1
  unfold mixP
  rw [List.set_append_right _ _ (by simp; omega), List.length_take, Nat.min_eq_left (by omega), Nat.sub_self, List.take_add_one, hx, Option.toList_some, List.append_assoc]
  congr 1
  have : b.drop i = b[i] :: b.drop (i + 1) := List.drop_eq_getElem_cons (by omega)
  rw [this]
  rfl
theorem mixP_same {a b : List Int} (h : a.length = b.length) {i : Nat} {x : Int} (hx : a[i]? = some x) (hb : b[i]? = some x) : mixP a b i = mixP a b (i + 1) := by
  rw [← mixP_step h hx]
  apply List.ext_getElem?
  intro k
  rw [List.getElem?_set]
  split
  · rename_i e
    subst e
    rw [mixP_at h hb]
    have hi := (List.getElem?_eq_some_iff.1 hb).1
    rw [if_pos (by rw [mixP_len h (by omega)]; exact hi)]
  · rfl
theorem sumsB_head {l : List Int} {x : Int} (h : l[0]? = some x) : (sumsB l)[0]? = some x := by
  cases l with
  | nil => simp at h
  | cons y l => rw [sumsB]; simpa using h
theorem diffsB_head {l : List Int} {x : Int} (h : l[0]? = some x) : (diffsB l)[0]? = some x := by
  cases l with
  | nil => simp at h
  | cons y l => rw [diffsB]; simpa using h


end Go.Proofs.YtdlnokbeadkdfaaGreatDoor
