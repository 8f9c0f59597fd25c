/- Slices of structs that the call itself makes: sorted by slices.SortFunc. -/
import Derived.Test.YtilonmpcifohiaaRow
import Derived.Shelf.SlSortCmp.NoneTotal
namespace Go.Proofs.Ytilonmpcifohiaa
open Go.RowKit Go.Sort Go.Shelf
set_option linter.unusedSimpArgs false
set_option linter.unusedVariables false

section
variable {α : Type} {ea : α → List Value} {k : Nat} {e : TypeId} {base : Nat} {w : World} {v : Value} {l : List α}
variable [Inhabited α]

theorem flatMap_flatK (hk : ∀ x, (ea x).length = k) (hk0 : 0 < k) (l : List α) (t : Nat) (ht : t < l.length * k) : (l.flatMap ea)[t]? = some ((flatK ea k l.toArray)[t]!) := by
  have hd : t / k < l.length := (Nat.div_lt_iff_lt_mul hk0).2 ht
  have hm : t % k < k := Nat.mod_lt _ hk0
  have he : t = t / k * k + t % k := by rw [Nat.mul_comm]; exact (Nat.div_add_mod t k).symm
  rw [get_flatK _ _ _ _ (by simpa using ht)]
  have hx : l[t / k]? = some (l[t / k]) := List.getElem?_eq_getElem hd
  have h2 : (l.toArray)[t / k]! = l[t / k] := by simp [hd]
  rw [h2]
  have hu : (ea l[t / k])[t % k]? = some ((ea l[t / k])[t % k]!) := by
    rw [List.getElem!_eq_getElem?_getD, List.getElem?_eq_getElem (by rw [hk]; exact hm)]
    rfl
  have := getElem?_flatMap_k hk l (t / k) _ hx (t % k) _ hu
  rw [← he] at this
  exact this

theorem Own.holdsK (hk : ∀ x, (ea x).length = k) (hk0 : 0 < k) {g cap : Nat} (h : Own ea k e base w (.slice (some ⟨g, 0, none⟩) l.length cap) l) : HoldsK ea k w g 0 l.toArray := by
  intro t ht
  simp only [size_flatK, List.size_toArray] at ht
  have h1 := World.ownsRow.cellAt h t ht
  have h2 := World.ownsRow.frozenAt h t
  rw [flatMap_flatK hk hk0 l t ht] at h1
  rw [Nat.zero_add]
  exact ⟨h1, h2⟩

theorem sliceIs_of_holdsK (hk : ∀ x, (ea x).length = k) {g cap : Nat} {d : Array α} (h : HoldsK ea k w g 0 d) (hc : d.size ≤ cap) (hm : cap ≤ maxLen) : SliceIs ea k w (.slice (some ⟨g, 0, none⟩) d.size cap) d.toList := by
  refine ⟨some ⟨g, 0, none⟩, cap, by simp, by simpa using hc, hm, fun _ => ⟨g, 0, rfl, fun i x hi j u hj => ?_⟩⟩
  have hil : i < d.size := by simpa using (List.getElem?_eq_some_iff.1 hi).1
  have hjl := (List.getElem?_eq_some_iff.1 hj).1
  rw [hk] at hjl
  have h1 := (h.cell (i := i) (c := j) hil hjl).1
  have hx : d[i]! = x := by
    rw [getElem!_pos d i hil]
    simpa [hil] using hi
  rw [hx] at h1
  rw [h1, List.getElem!_eq_getElem?_getD, hj]
  rfl

theorem ext_sortWorldK (w : World) (g n : Nat) (d : Array α) (os : Array Obj) : Ext (· = g) w (sortWorldK ea k w g 0 n d os) := by
  refine ⟨rfl, rfl, rfl, ?_, fun b hb hne => ?_⟩
  · simp [sortWorldK, grow, putRowK, show (Sort.ahead w n).heap.size = w.heap.size from rfl]
  · unfold sortWorldK grow putRowK putRow mapBlock
    have hlt : b < ((Sort.ahead w n).heap.modify g (onCells (putCells id 0 (flatK ea k d)))).size := by simpa using hb
    show (((Sort.ahead w n).heap.modify g _) ++ os)[b]? = _
    rw [Array.getElem?_append_left hlt, Array.getElem?_modify, if_neg (fun e => hne e.symm)]
    rfl

theorem heap_sortWorldK (w : World) (g n : Nat) (d : Array α) (os : Array Obj) {cur : Array Value} {e : TypeId} {fr : Nat × Nat} (h : w.heap[g]? = some (.cells cur e fr)) :
    (sortWorldK ea k w g 0 n d os).heap[g]? = some (.cells (putCells id 0 (flatK ea k d) cur) e fr) := by
  have hg := (Array.getElem?_eq_some_iff.1 h).1
  unfold sortWorldK grow putRowK putRow mapBlock
  have hlt : g < ((Sort.ahead w n).heap.modify g (onCells (putCells id 0 (flatK ea k d)))).size := by simpa using hg
  show (((Sort.ahead w n).heap.modify g _) ++ os)[g]? = _
  rw [Array.getElem?_append_left hlt, Array.getElem?_modify, if_pos rfl]
  show (w.heap[g]?).map _ = _
  rw [h]
  rfl

theorem own_sorted (hk : ∀ x, (ea x).length = k) (hk0 : 0 < k) {g cap n : Nat} {d : Array α} {os : Array Obj} (h : Own ea k e base w (.slice (some ⟨g, 0, none⟩) l.length cap) l) (hz : d.size = l.length) :
    Own ea k e base (sortWorldK ea k w g 0 n d os) (.slice (some ⟨g, 0, none⟩) l.length cap) d.toList := by
  obtain ⟨h1, h2⟩ := h
  rcases h2 with ⟨h3, _⟩ | ⟨g', cap', cur, h3, hb, hg, hnc, hcm, hcs, htake⟩
  · cases h3
  · cases h3
    have hzl : d.toList.length = l.length := by simpa using hz
    refine ⟨by rw [length_flatMap_k hk], .inr ⟨g, cap, _, by rw [hzl], hb, heap_sortWorldK w g n d os hg, by rw [hzl]; exact hnc, hcm, by simpa [putCells] using hcs, ?_⟩⟩
    refine List.ext_getElem? fun t => ?_
    rw [List.getElem?_take]
    split
    · rename_i ht
      rw [flatMap_flatK hk hk0 d.toList t ht]
      have hF : t < (flatK ea k d).size := by rw [size_flatK]; simpa using ht
      have htc : t < cur.size := by
        rw [hcs]
        rw [hzl] at ht
        exact Nat.lt_of_lt_of_le ht (Nat.mul_le_mul_right _ hnc)
      rw [Array.getElem?_toList]
      unfold putCells
      rw [Array.getElem?_mapIdx, Array.getElem?_eq_getElem htc]
      simp only [Option.map_some, Nat.zero_le, true_and, Nat.zero_add, Nat.sub_zero, id_eq]
      rw [if_pos hF]
    · rename_i ht
      rw [List.getElem?_eq_none]
      rw [length_flatMap_k hk]
      omega

/-- The library's sort over the call's own slice. -/
theorem sort_own {P : Program} {f : Nat} {fv : Value} {lt : α → α → Bool} (hk : ∀ x, (ea x).length = k) (hk0 : 0 < k)
    (hS : ∀ (blk cap : Nat) (d : Array α) (w : World), HoldsK ea k w blk 0 d → blk < w.heap.size → d.size < 4611686018427387904 → Calls P f #[.slice (some ⟨blk, 0, none⟩) d.size cap, fv] w fun e w' =>
      e = .returned (.tuple #[]) ∧ ∃ d' n os, PermIn 0 d.size d d' ∧ SortedIn lt 0 d.size d' ∧ w' = sortWorldK ea k w blk 0 n d' os)
    (h0 : ∀ (p : Option Addr) (cap : Nat) (w : World), Calls P f #[.slice p 0 cap, fv] w fun e w' => e = .returned (.tuple #[]) ∧ w' = w)
    (h : Own ea k e base w v l) (hl : l.length < 4611686018427387904) :
    Calls P f #[v, fv] w fun e' w' => e' = .returned (.tuple #[]) ∧ ∃ l', l'.Perm l ∧ l'.Pairwise (fun a b => lt b a = false) ∧ Own ea k e base w' v l' ∧ Ext (fun b => v.ownBlock = some b) w w' := by
  rcases h.eq_slice with ⟨rfl, rfl⟩ | ⟨g, cap, rfl, hb, hg⟩
  · exact (h0 none 0 w).mono fun e w' ⟨he, hw⟩ => ⟨he, [], .nil, .nil, by rw [hw]; exact h, by rw [hw]; exact Ext.refl _ _⟩
  · obtain ⟨_, _, hcap⟩ : ∃ a c, (l.length ≤ cap ∧ cap ≤ maxLen) := by
      obtain ⟨h1, h2⟩ := h
      rcases h2 with ⟨h3, _⟩ | ⟨g', cap', cur, h3, _, _, h4, h5, _⟩
      · cases h3
      · cases h3; exact ⟨0, 0, h4, h5⟩
    have hH := h.holdsK hk hk0
    have := hS g cap l.toArray w hH hg (by simpa using hl)
    simp only [List.size_toArray] at this
    refine this.mono fun e w' ⟨he, d', n, os, hp, hs, hw⟩ => ⟨he, d'.toList, ?_, ?_, ?_, ?_⟩
    · obtain ⟨hz, _, hperm⟩ := hp
      have hz' : d'.size = l.length := by simpa using hz
      have e1 : d'.extract 0 l.length = d' := by rw [← hz']; exact Array.extract_size
      rw [e1] at hperm
      simpa using hperm
    · have hz : d'.size = l.length := by have := hp.1; simpa using this
      rw [List.pairwise_iff_getElem]
      intro i j hi hj hij
      simp only [Array.length_toList] at hi hj
      have := hs i j (Nat.zero_le _) hij (by omega)
      rw [getElem!_pos d' i hi, getElem!_pos d' j hj] at this
      simpa using this
    · have hz : d'.size = l.length := by have := hp.1; simpa using this
      rw [hw]
      exact own_sorted hk hk0 h hz
    · rw [hw]
      exact (ext_sortWorldK w g n d' os).mono (fun b _ hb => by rw [hb]; rfl)
end

end Go.Proofs.Ytilonmpcifohiaa
