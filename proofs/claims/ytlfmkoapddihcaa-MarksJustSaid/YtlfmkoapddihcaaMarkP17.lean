/- Layer 17, plain: where an anchor stands, which marks are found. -/
import Derived.Test.YtlfmkoapddihcaaBack17
import Derived.Test.YtlfmkoapddihcaaAt17
namespace Go.Proofs.Ytlfmkoapddihcaa
open Go.RowKit
set_option linter.unusedSimpArgs false
set_option linter.unusedVariables false

/-- The places that are noted behind some elements. -/
def notedP (pre : List (Nat × El)) : List (St × Int) := pre.foldl (fun h p => aset h p.2.id (p.1 : Int)) []
theorem notedP_snoc (pre : List (Nat × El)) (x : Nat × El) : notedP (pre ++ [x]) = aset (notedP pre) x.2.id (x.1 : Int) := by simp [notedP]

/-- The place of the first element with this stamp. -/
def placeOf (l : List El) (k : St) : Option Nat := l.findIdx? (fun x => decide (x.id = k))

theorem noted_aux (k : St) : ∀ (l : List El) (n : Nat), aget (((l.zipIdx n).map fun p => (p.2, p.1)).foldr (fun (p : Nat × El) h => aset h p.2.id (p.1 : Int)) []) k = (placeOf l k).map (fun i => ((n + i : Nat) : Int))
  | [], n => by simp [placeOf, aget]
  | x :: l, n => by
    have ih := noted_aux k l (n + 1)
    simp only [List.zipIdx_cons, List.map_cons, List.foldr_cons]
    unfold placeOf at ih ⊢
    rw [List.findIdx?_cons]
    by_cases h : x.id = k
    · subst h
      rw [aget_aset_same]
      simp
    · rw [aget_aset_other _ _ h, ih]
      simp only [h, decide_false, Bool.false_eq_true, if_false, Option.map_map]
      congr 1
      funext i
      simp only [Function.comp_apply]
      omega
theorem noted_get (l : List El) (k : St) : aget (notedP (backXs l)) k = (placeOf l k).map (fun i : Nat => (i : Int)) := by
  unfold notedP backXs
  rw [List.foldl_reverse]
  have := noted_aux k l 0
  simp only [Nat.zero_add] at this
  exact this
theorem placeOf_lt {l : List El} {k : St} {i : Nat} (h : placeOf l k = some i) : i < l.length := by
  unfold placeOf at h
  rw [List.findIdx?_eq_some_iff_findIdx_eq] at h
  exact h.1
theorem noted_bound {l : List El} (hl : l.length ≤ 1000) (k : St) (i : Int) (h : aget (notedP (backXs l)) k = some i) : 0 ≤ i ∧ i ≤ 1000 := by
  rw [noted_get] at h
  cases hp : placeOf l k with
  | none => rw [hp] at h; cases h
  | some j =>
    rw [hp] at h
    have := placeOf_lt hp
    simp at h
    omega

theorem backXs_mem {α : Type} {l : List α} {x : Nat × α} (h : x ∈ backXs l) : x.2 ∈ l := by
  unfold backXs at h
  rw [List.mem_reverse, List.mem_map] at h
  obtain ⟨⟨y, i⟩, h1, rfl⟩ := h
  exact List.mem_of_getElem? (List.mem_zipIdx_iff_getElem?.1 h1)

/-- The mark of an operation, if both its anchors are there. -/
def markOf (h : List (St × Int)) (o : OpD) : Option Mark := if ((aget h o.fr).isSome && (aget h o.tr).isSome) = true then some ⟨o, atI h o.fr o.fa, atI h o.tr o.ta⟩ else none
def rawMarks (h : List (St × Int)) (pre : List (Nat × OpD)) : List Mark := pre.filterMap fun p => markOf h p.2
theorem rawMarks_snoc (h : List (St × Int)) (pre : List (Nat × OpD)) (x : Nat × OpD) : rawMarks h (pre ++ [x]) = rawMarks h pre ++ (markOf h x.2).toList := by
  unfold rawMarks
  rw [List.filterMap_append]
  congr 1
theorem rawMarks_le (h : List (St × Int)) (pre : List (Nat × OpD)) : (rawMarks h pre).length ≤ pre.length := List.length_filterMap_le _ _

end Go.Proofs.Ytlfmkoapddihcaa
