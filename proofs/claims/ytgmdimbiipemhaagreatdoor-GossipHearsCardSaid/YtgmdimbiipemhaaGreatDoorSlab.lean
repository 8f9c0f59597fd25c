/- A row of structs in one block, as a function of the place; a struct written at a place. -/
import Derived.Test.YtgmdimbiipemhaaGreatDoorRow
namespace Go.Proofs.YtgmdimbiipemhaaGreatDoor
open Go.RowKit
set_option linter.unusedSimpArgs false
set_option linter.unusedVariables false

/-- One place changed. -/
def upd {α : Type} (f : Nat → α) (i : Nat) (x : α) : Nat → α := fun t => if t = i then x else f t
theorem upd_same {α : Type} (f : Nat → α) (i : Nat) (x : α) : upd f i x i = x := by simp [upd]
theorem upd_other {α : Type} (f : Nat → α) {i t : Nat} (x : α) (h : t ≠ i) : upd f i x t = f t := by simp [upd, h]

/-- The cells of a struct laid one behind the other. -/
def putFrom (w : World) (blk o : Nat) : Nat → List Value → World
  | _, [] => w
  | j, v :: vs => putFrom (w.setCell ⟨blk, o + j, none⟩ v) blk o (j + 1) vs
def putArr (cur : Array Value) (o : Nat) : Nat → List Value → Array Value
  | _, [] => cur
  | j, v :: vs => putArr (cur.setIfInBounds (o + j) v) o (j + 1) vs
theorem putArr_size (o : Nat) : ∀ (vs : List Value) (j : Nat) (cur : Array Value), (putArr cur o j vs).size = cur.size
  | [], _, _ => rfl
  | v :: vs, j, cur => by rw [putArr, putArr_size o vs]; simp
theorem putArr_get (o : Nat) : ∀ (vs : List Value) (j : Nat) (cur : Array Value), o + j + vs.length ≤ cur.size → ∀ t, (putArr cur o j vs)[t]? = if o + j ≤ t ∧ t < o + j + vs.length then vs[t - (o + j)]? else cur[t]?
  | [], j, cur, _, t => by simp [putArr]; intro h1 h2; omega
  | v :: vs, j, cur, hs, t => by
    simp only [List.length_cons] at hs
    rw [putArr, putArr_get o vs (j + 1) _ (by simp; omega) t]
    by_cases h1 : t = o + j
    · subst h1
      have : (o + j) < cur.size := by omega
      rw [if_neg (by omega), if_pos (by simp)]
      simp [this]
    · by_cases h2 : o + (j + 1) ≤ t ∧ t < o + (j + 1) + vs.length
      · rw [if_pos h2, if_pos (by simp only [List.length_cons]; omega)]
        have : t - (o + j) = (t - (o + (j + 1))) + 1 := by omega
        rw [this, List.getElem?_cons_succ]
      · rw [if_neg h2, if_neg (by simp only [List.length_cons]; omega), Array.getElem?_setIfInBounds_ne (fun e => h1 e.symm)]
theorem heap_setCell {w : World} {blk o : Nat} {cur : Array Value} {T : TypeId} {fr : Nat × Nat} (h : w.heap[blk]? = some (.cells cur T fr)) (v : Value) : (w.setCell ⟨blk, o, none⟩ v).heap[blk]? = some (.cells (cur.setIfInBounds o v) T fr) := by
  simp only [World.setCell, Array.getElem?_modify, if_true, h]
  rfl
theorem heap_putFrom {blk o : Nat} {T : TypeId} {fr : Nat × Nat} : ∀ (vs : List Value) (j : Nat) (w : World) (cur : Array Value), w.heap[blk]? = some (.cells cur T fr) → (putFrom w blk o j vs).heap[blk]? = some (.cells (putArr cur o j vs) T fr)
  | [], _, _, _, h => h
  | v :: vs, j, w, cur, h => heap_putFrom vs (j + 1) _ _ (heap_setCell h v)
theorem ext_putFrom {blk o : Nat} : ∀ (vs : List Value) (j : Nat) (w : World), Ext (· = blk) w (putFrom w blk o j vs)
  | [], _, _ => Ext.refl _ _
  | v :: vs, j, w => ((Ext.refl (· = blk) w).setCell (p := ⟨blk, o + j, none⟩) (.inr rfl) v).trans (ext_putFrom vs (j + 1) _)

section
variable {α : Type} {ea : α → List Value} {k : Nat} {T : TypeId} {sz : Nat} {w w' : World} {blk n : Nat} {f : Nat → α}

/-- The block holds these structs, k cells each. -/
def Slab (ea : α → List Value) (k : Nat) (T : TypeId) (sz : Nat) (w : World) (blk n : Nat) (f : Nat → α) : Prop :=
  ∃ cur, w.heap[blk]? = some (.cells cur T (0, 0)) ∧ cur.size = sz ∧ n * k ≤ sz ∧ ∀ i, i < n → ∀ j u, (ea (f i))[j]? = some u → cur[i * k + j]? = some u

theorem Slab.cell (h : Slab ea k T sz w blk n f) {i j : Nat} {u : Value} (hi : i < n) (hj : (ea (f i))[j]? = some u) : w.cell? ⟨blk, i * k + j, none⟩ = some u := by
  obtain ⟨cur, h1, _, _, h2⟩ := h
  simp only [World.cell?, h1]
  exact h2 i hi j u hj
theorem Slab.frozen (h : Slab ea k T sz w blk n f) (o : Nat) : w.frozen? ⟨blk, o, none⟩ = false := by
  obtain ⟨cur, h1, _⟩ := h
  simp [World.frozen?, h1]
theorem Slab.lt (h : Slab ea k T sz w blk n f) : blk < w.heap.size := by
  obtain ⟨cur, h1, _⟩ := h
  exact (Array.getElem?_eq_some_iff.1 h1).1
theorem Slab.ext {S : Nat → Prop} (h : Slab ea k T sz w blk n f) (hx : Ext S w w') (hn : ¬ S blk) : Slab ea k T sz w' blk n f := by
  have hl := h.lt
  obtain ⟨cur, h1, h2⟩ := h
  exact ⟨cur, (hx.block blk hl hn).trans h1, h2⟩
theorem Slab.below (h : Slab ea k T sz w blk n f) (hb : Below w.heap.size w w') : Slab ea k T sz w' blk n f :=
  h.ext (Ext.of_below (S := fun _ => False) hb) id
theorem Slab.drew (h : Slab ea k T sz w blk n f) : Slab ea k T sz w.drew blk n f := h
theorem Slab.congr {g : Nat → α} (h : Slab ea k T sz w blk n f) (hg : ∀ i, i < n → g i = f i) : Slab ea k T sz w blk n g := by
  obtain ⟨cur, h1, h2, h3, h4⟩ := h
  exact ⟨cur, h1, h2, h3, fun i hi j u hj => h4 i hi j u (by rw [← hg i hi]; exact hj)⟩
theorem Slab.put (h : Slab ea k T sz w blk n f) (hk : ∀ x, (ea x).length = k) {i : Nat} (hi : i < n) (x : α) : Slab ea k T sz (putFrom w blk (i * k) 0 (ea x)) blk n (upd f i x) := by
  obtain ⟨cur, h1, h2, h3, h4⟩ := h
  have hik : i * k + k ≤ n * k := by
    have := Nat.mul_le_mul_right k (show i + 1 ≤ n from hi)
    rwa [Nat.add_mul, Nat.one_mul] at this
  refine ⟨putArr cur (i * k) 0 (ea x), heap_putFrom _ _ _ _ h1, by rw [putArr_size]; exact h2, h3, fun t ht j u hj => ?_⟩
  rw [putArr_get _ _ _ _ (by rw [hk]; omega), hk]
  by_cases hti : t = i
  · subst hti
    rw [upd_same] at hj
    have hjk : j < k := by rw [← hk x]; exact (List.getElem?_eq_some_iff.1 hj).1
    rw [if_pos (by omega)]
    have : t * k + j - (t * k + 0) = j := by omega
    rw [this]; exact hj
  · rw [upd_other _ _ hti] at hj
    have hjk : j < k := by rw [← hk (f t)]; exact (List.getElem?_eq_some_iff.1 hj).1
    have hne : ¬ (i * k + 0 ≤ t * k + j ∧ t * k + j < i * k + 0 + k) := by
      rintro ⟨a1, a2⟩
      rcases Nat.lt_or_gt_of_ne hti with hlt | hgt
      · have := Nat.mul_le_mul_right k (show t + 1 ≤ i from hlt)
        rw [Nat.add_mul, Nat.one_mul] at this; omega
      · have := Nat.mul_le_mul_right k (show i + 1 ≤ t from hgt)
        rw [Nat.add_mul, Nat.one_mul] at this; omega
    rw [if_neg hne]
    exact h4 t ht j u hj

/-- Two places exchanged. -/
def swapF (f : Nat → α) (p q : Nat) : Nat → α := fun t => if t = p then f q else if t = q then f p else f t
theorem Slab.swap (h : Slab ea k T sz w blk n f) (hk : ∀ x, (ea x).length = k) {p q : Nat} (hp : p < n) (hq : q < n) :
    Slab ea k T sz (putFrom (putFrom w blk (p * k) 0 (ea (f q))) blk (q * k) 0 (ea (f p))) blk n (swapF f p q) ∧ Ext (· = blk) w (putFrom (putFrom w blk (p * k) 0 (ea (f q))) blk (q * k) 0 (ea (f p))) := by
  refine ⟨((h.put hk hp (f q)).put hk hq (f p)).congr (fun t _ => ?_), (ext_putFrom _ _ _).trans (ext_putFrom _ _ _)⟩
  unfold swapF upd
  by_cases h1 : t = p <;> by_cases h2 : t = q <;> simp_all

/-- Out of the call's own slice, and back. -/
theorem Own.slab {base g cap : Nat} {l : List α} [Inhabited α] (hk : ∀ x, (ea x).length = k) (h : Own ea k T base w (.slice (some ⟨g, 0, none⟩) l.length cap) l) : Slab ea k T (cap * k) w g l.length (fun i => l[i]!) ∧ base ≤ g ∧ l.length ≤ cap ∧ cap ≤ maxLen := by
  obtain ⟨h1, h2⟩ := h
  rcases h2 with ⟨h3, _⟩ | ⟨g', cap', cur, h3, hb, hg, hnc, hcm, hcs, htake⟩
  · cases h3
  · cases h3
    refine ⟨⟨cur, hg, hcs, Nat.mul_le_mul_right k hnc, fun i hi j u hj => ?_⟩, hb, hnc, hcm⟩
    have hx : l[i]? = some l[i]! := by rw [List.getElem?_eq_getElem hi, getElem!_pos l i hi]
    have h4 := getElem?_flatMap_k hk l i _ hx j u hj
    rw [← htake, List.getElem?_take] at h4
    split at h4
    · rw [Array.getElem?_toList] at h4; exact h4
    · cases h4
theorem Slab.own {base cap : Nat} (hk : ∀ x, (ea x).length = k) (hk0 : 0 < k) (h : Slab ea k T (cap * k) w blk n f) (hb : base ≤ blk) (hc : n ≤ cap) (hm : cap ≤ maxLen) : Own ea k T base w (.slice (some ⟨blk, 0, none⟩) n cap) ((List.range n).map f) := by
  obtain ⟨cur, h1, h2, h3, h4⟩ := h
  have hlen : ((List.range n).map f).length = n := by simp
  refine ⟨length_flatMap_k hk _, .inr ⟨blk, cap, cur, by rw [hlen], hb, h1, by rw [hlen]; exact hc, hm, h2, ?_⟩⟩
  rw [hlen]
  refine List.ext_getElem? fun t => ?_
  rw [List.getElem?_take]
  by_cases ht : t < n * k
  · rw [if_pos ht, Array.getElem?_toList]
    have hd : t / k < n := (Nat.div_lt_iff_lt_mul hk0).2 ht
    have hm' : t % k < k := Nat.mod_lt _ hk0
    have he : t / k * k + t % k = t := by rw [Nat.mul_comm]; exact Nat.div_add_mod t k
    obtain ⟨u, hu⟩ : ∃ u, (ea (f (t / k)))[t % k]? = some u := ⟨_, List.getElem?_eq_getElem (by rw [hk]; exact hm')⟩
    have h5 := h4 (t / k) hd (t % k) u hu
    have h6 := getElem?_flatMap_k hk ((List.range n).map f) (t / k) (f (t / k)) (by simp [hd]) (t % k) u hu
    rw [he] at h5 h6
    rw [h5, h6]
  · rw [if_neg ht, List.getElem?_eq_none]
    rw [length_flatMap_k hk, hlen]; omega
end

end Go.Proofs.YtgmdimbiipemhaaGreatDoor
