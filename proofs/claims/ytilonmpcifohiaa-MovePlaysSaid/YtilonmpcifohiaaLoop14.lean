/- Layer 14: the moves from the new one on are done anew: the state of that loop. -/
import Derived.Test.YtilonmpcifohiaaTree14
namespace Go.Proofs.Ytilonmpcifohiaa
open Go.RowKit
set_option linter.unusedSimpArgs false
set_option linter.unusedVariables false

/-- What a move is, without what the tree notes of it. -/
def Mv.core (m : Mv) : St × Ch := (m.at_, m.child)

theorem kids_core (l : List Mv) : kids l = (l.map Mv.core).map (·.2) := by simp [kids, Mv.core, Function.comp_def]
theorem kids_take (l : List Mv) (k : Nat) : kids (l.take k) = (kids l).take k := by simp [kids, List.map_take]
theorem kids_of_core {l l' : List Mv} (h : l.map Mv.core = l'.map Mv.core) : kids l = kids l' := by rw [kids_core, kids_core, h]
theorem rising_core {l l' : List Mv} (h : l.map Mv.core = l'.map Mv.core) (hr : Rising l') : Rising l := by
  have e : ∀ l : List Mv, Rising l ↔ (l.map Mv.core).Pairwise (fun a b => stLt a.1 b.1) := fun l => by
    unfold Rising
    rw [List.pairwise_map]
    rfl
  rw [e, h, ← e]
  exact hr
theorem core_set {l : List Mv} {k : Nat} {m m' : Mv} (hk : l[k]? = some m) (h1 : m'.at_ = m.at_) (h2 : m'.child = m.child) : (l.set k m').map Mv.core = l.map Mv.core := by
  rw [List.map_set]
  have e : m'.core = m.core := by unfold Mv.core; rw [h1, h2]
  rw [e]
  apply List.ext_getElem? 
  intro i
  rw [List.getElem?_set]
  split
  · rename_i hki
    subst hki
    rw [List.getElem?_map, hk]
    have := (List.getElem?_eq_some_iff.1 hk).1
    simp [this]
  · rfl

/-- The loop that does the moves anew stands at number k. -/
structure DoInv (base : Nat) (w : World) (t mh g cap : Nat) (c0 : List (St × Ch)) (k : Nat) (l : List Mv) (hl : List (St × Ch)) : Prop where
  blk : w.heap[t]? = some (.cells #[.slice (some ⟨g, 0, none⟩) l.length cap, .map (some mh)] 58 (0, 0))
  lo : base ≤ t
  lom : base ≤ mh
  own : Own Mv.cells 9 66 base w (.slice (some ⟨g, 0, none⟩) l.length cap) l
  map : MapIs St.val Ch.val w mh hl
  agree : Agree hl (play (kids (l.take k)))
  same : l.map Mv.core = c0
  noted : ∀ i m, i < k → l[i]? = some m → Noted w base (play (kids (l.take i))) m

section
variable {base : Nat} {w : World} {t mh g cap : Nat} {c0 : List (St × Ch)} {k : Nat} {l : List Mv} {hl : List (St × Ch)}

theorem DoInv.ne (h : DoInv base w t mh g cap c0 k l hl) : t ≠ mh ∧ t ≠ g ∧ g ≠ mh ∧ ∀ b c, BoxC w b c → b ≠ mh ∧ b ≠ t ∧ b ≠ g := by
  obtain ⟨_, es, cl, hm, _⟩ := h.map
  have ht := h.blk
  obtain ⟨cur, hc⟩ := h.own.tag (b := g) rfl
  refine ⟨fun e => ?_, fun e => ?_, fun e => ?_, fun b c hb => ⟨fun e => ?_, fun e => ?_, fun e => ?_⟩⟩
  · rw [e, hm] at ht; cases ht
  · rw [e, hc] at ht; cases ht
  · rw [e, hm] at hc; cases hc
  · have hb := show w.heap[b]? = _ from hb
    rw [e, hm] at hb; cases hb
  · have hb := show w.heap[b]? = _ from hb
    rw [e, ht] at hb; cases hb
  · have hb := show w.heap[b]? = _ from hb
    rw [e, hc] at hb; cases hb

theorem DoInv.step (h : DoInv base w t mh g cap c0 k l hl) {m : Mv} (hk : l[k]? = some m) :
    Calls Try.prog 31 #[.pointer (some ⟨t, 0, none⟩), .pointer (some ⟨g, k * 9, none⟩)] w
      fun e w' => (∃ v, e = .returned v) ∧ (∃ l' hl', DoInv base w' t mh g cap c0 (k + 1) l' hl' ∧ l'.length = l.length) ∧ Ext (fun b => b = g ∨ b = mh) w w' := by
  obtain ⟨n1, n2, n3, n4⟩ := h.ne
  have hbg := h.own.blk g rfl
  refine (do_step t mh g cap base k m l hl w hk (by simp [World.cell?, h.blk]) h.map h.own n2 (by omega) h.agree).mono ?_
  rintro e w' ⟨he, m', hl', e1, e2, hm, ha, ho, hn, hx⟩
  have hcs := core_set hk e1 e2
  have hkd := kids_of_core hcs
  refine ⟨he, ⟨l.set k m', hl', ⟨?_, h.lo, h.lom, ?_, hm, ?_, hcs.trans h.same, ?_⟩, by simp⟩, hx⟩
  · rw [List.length_set]
    exact (hx.block t (Array.getElem?_eq_some_iff.1 h.blk).1 (by omega)).trans h.blk
  · rw [List.length_set]; exact ho
  · rw [kids_take, hkd, ← kids_take]; exact ha
  · intro i q hi hq
    rw [kids_take, hkd, ← kids_take]
    by_cases hik : i = k
    · subst hik
      have := (List.getElem?_eq_some_iff.1 hk).1
      rw [List.getElem?_set_self this] at hq
      cases hq
      exact hn
    · rw [List.getElem?_set_ne (Ne.symm hik)] at hq
      exact (h.noted i q (by omega) hq).ext hx (fun b c hb => by have := n4 b c hb; omega)

theorem DoInv.done (h : DoInv base w t mh g cap c0 l.length l hl) (hr : Rising l) : TreeIs base w t mh (.slice (some ⟨g, 0, none⟩) l.length cap) l hl :=
  ⟨h.blk, h.lo, h.lom, h.own, h.map, by have := h.agree; rwa [List.take_length] at this, hr, fun i m hi => h.noted i m (List.getElem?_eq_some_iff.1 hi).1 hi⟩
end

theorem take_insM (l : List Mv) (i : Nat) (y : Mv) (hi : i ≤ l.length) (j : Nat) (hj : j ≤ i) : (insM l i y).take j = l.take j := by
  unfold insM
  rw [List.take_append_of_le_length (by rw [List.length_take]; omega), List.take_take, Nat.min_eq_left hj]
theorem get_insM (l : List Mv) (i : Nat) (y : Mv) (hi : i ≤ l.length) (j : Nat) (hj : j < i) : (insM l i y)[j]? = l[j]? := by
  unfold insM
  rw [List.getElem?_append_left (by rw [List.length_take]; omega), List.getElem?_take_of_lt hj]

theorem DoInv.start {base : Nat} {w w' : World} {t mh : Nat} {v v' : Value} {l : List Mv} {hl hl' : List (St × Ch)} {i : Nat} {y : Mv} (hT : TreeIs base w t mh v l hl) (hx : Ext (fun b => b = mh ∨ v.ownBlock = some b ∨ b = t) w w')
    (hbox : ∀ b c, BoxC w b c → b ≠ mh ∧ b ≠ t ∧ v.ownBlock ≠ some b)
    (hblk : w'.heap[t]? = some (.cells #[v', .map (some mh)] 58 (0, 0))) (hown : Own Mv.cells 9 66 base w' v' (insM l i y)) (hm : MapIs St.val Ch.val w' mh hl') (ha : Agree hl' (play (kids (l.take i)))) (hi : i ≤ l.length) :
    ∃ g cap, v' = .slice (some ⟨g, 0, none⟩) (l.length + 1) cap ∧ DoInv base w' t mh g cap ((insM l i y).map Mv.core) i (insM l i y) hl' := by
  have hlen := insM_length l i y hi
  rcases hown.eq_slice with ⟨_, e⟩ | ⟨g, cap, rfl, _, _⟩
  · rw [e] at hlen; simp at hlen
  · refine ⟨g, cap, by rw [hlen], hblk, hT.lo, hT.lom, hown, hm, by rw [take_insM l i y hi i (Nat.le_refl _)]; exact ha, rfl, fun j m hj hm => ?_⟩
    rw [get_insM l i y hi j hj] at hm
    rw [take_insM l i y hi j (by omega)]
    exact (hT.noted j m hm).ext hx (fun b c hb => by
      obtain ⟨h1, h2, h3⟩ := hbox b c hb
      rintro (h | h | h)
      · exact h1 h
      · exact h3 h
      · exact h2 h)

theorem rising_insM {l : List Mv} {a : St} {i : Nat} {y : Mv} (hr : Rising l) (hi : i ≤ l.length) (h2 : ∀ (k : Nat) m, l[k]? = some m → (k < i ↔ stLt m.at_ a)) (hn : ∀ m ∈ l, m.at_ ≠ a) (hy : y.at_ = a) : Rising (insM l i y) := by
  unfold insM Rising
  have hr1 : (l.take i ++ l.drop i).Pairwise (fun a b => stLt a.at_ b.at_) := by rw [List.take_append_drop]; exact hr
  rw [List.pairwise_append] at hr1 ⊢
  have hA : ∀ x ∈ l.take i, stLt x.at_ a := fun x hx => by
    obtain ⟨k, hk⟩ := List.getElem?_of_mem hx
    rw [List.getElem?_take] at hk
    split at hk
    · exact (h2 k x hk).1 (by omega)
    · cases hk
  have hB : ∀ x ∈ l.drop i, stLt a x.at_ := fun x hx => by
    have hx' := List.mem_of_mem_drop hx
    obtain ⟨k, hk⟩ := List.getElem?_of_mem hx
    rw [List.getElem?_drop] at hk
    have h3 : ¬ stLt x.at_ a := fun e => by have := (h2 _ x hk).2 e; omega
    rcases stLt_total a x.at_ with h | h | h
    · exact h
    · exact absurd h.symm (hn x hx')
    · exact absurd h h3
  refine ⟨hr1.1, ?_, ?_⟩
  · rw [List.pairwise_cons]
    exact ⟨fun x hx => by rw [hy]; exact hB x hx, hr1.2.1⟩
  · intro x hx z hz
    rcases List.mem_cons.1 hz with rfl | hz
    · rw [hy]; exact hA x hx
    · exact hr1.2.2 x hx z hz

/-- What a move of a tree may change. -/
def Touch (base : Nat) (w : World) (t mh : Nat) (b : Nat) : Prop := b = t ∨ b = mh ∨ (base ≤ b ∧ ∃ cur, w.heap[b]? = some (.cells cur 66 (0, 0)))

theorem ext_touch {base : Nat} {w w1 w2 : World} {t mh g : Nat} {v v' : Value} {l l' : List Mv} (hown : Own Mv.cells 9 66 base w v l) (xA : Ext (fun b => b = mh ∨ v.ownBlock = some b ∨ b = t) w w1)
    (hown' : Own Mv.cells 9 66 base w1 v' l') (hg : v'.ownBlock = some g) (xB : Ext (fun b => b = g ∨ b = mh) w1 w2) : Ext (Touch base w t mh) w w2 := by
  refine ⟨xB.os.trans xA.os, xB.tape.trans xA.tape, xB.output.trans xA.output, Nat.le_trans xA.size xB.size, fun b hb hn => ?_⟩
  have h1 : w1.heap[b]? = w.heap[b]? := xA.block b hb (by
    rintro (h | h | h)
    · exact hn (.inr (.inl h))
    · exact hn (.inr (.inr ⟨(hown.blk b h).1, hown.tag h⟩))
    · exact hn (.inl h))
  have hs := xA.size
  have h2 : w2.heap[b]? = w1.heap[b]? := xB.block b (by omega) (by
    rintro (h | h)
    · refine hn (.inr (.inr ⟨?_, ?_⟩))
      · rw [h]; exact (hown'.blk g hg).1
      · obtain ⟨cur, hc⟩ := hown'.tag hg
        rw [← h, h1] at hc
        exact ⟨cur, hc⟩
    · exact hn (.inr (.inl h)))
  rw [h2, h1]

theorem loop_start {base : Nat} {w wr w7 : World} {t mh : Nat} {v v7 : Value} {l : List Mv} {hl : List (St × Ch)} {i : Nat} {y : Mv} (hT : TreeIs base w t mh v l hl) (ne1 : t ≠ mh) (ne2 : ∀ b, v.ownBlock = some b → b ≠ mh ∧ b ≠ t)
    (ne3 : ∀ b c, BoxC w b c → b ≠ mh ∧ b ≠ t ∧ v.ownBlock ≠ some b) (hx : Ext (· = mh) w wr) (hbt : wr.heap[t]? = some (.cells #[v, .map (some mh)] 58 (0, 0)))
    (hmp : ∃ hlj, MapIs St.val Ch.val wr mh hlj ∧ Agree hlj (play (kids (l.take i)))) (o : Obj) (x7 : Ext (fun b => v.ownBlock = some b) (wr.drew.alloc o) w7) (hown : Own Mv.cells 9 66 base w7 v7 (insM l i y)) (hi : i ≤ l.length) :
    ∃ g cap hl', v7 = .slice (some ⟨g, 0, none⟩) (l.length + 1) cap ∧ DoInv base (w7.setCell ⟨t, 0, none⟩ v7) t mh g cap ((insM l i y).map Mv.core) i (insM l i y) hl' ∧
      Ext (fun b => b = mh ∨ v.ownBlock = some b ∨ b = t) w (w7.setCell ⟨t, 0, none⟩ v7) := by
  obtain ⟨hlj, hm, ha⟩ := hmp
  have hxa : Ext (· = mh) w (wr.drew.alloc o) := (hx.drew).alloc _
  have h7 : Ext (fun b => b = mh ∨ v.ownBlock = some b ∨ b = t) w w7 := by
    refine ⟨x7.os.trans hxa.os, x7.tape.trans hxa.tape, x7.output.trans hxa.output, Nat.le_trans hxa.size x7.size, fun b hb hn => ?_⟩
    have hs := hxa.size
    rw [x7.block b (by omega) (fun e => hn (.inr (.inl e))), hxa.block b hb (fun e => hn (.inl e))]
  have h8 : Ext (fun b => b = mh ∨ v.ownBlock = some b ∨ b = t) w (w7.setCell ⟨t, 0, none⟩ v7) := h7.setCell (.inr (.inr (.inr rfl))) _
  have htr : t < wr.heap.size := (Array.getElem?_eq_some_iff.1 hbt).1
  have hmr : mh < wr.heap.size := hm.lt
  have ht7 : w7.heap[t]? = some (.cells #[v, .map (some mh)] 58 (0, 0)) := by
    rw [x7.block t (by simp; omega) (fun e => (ne2 t e).2 rfl)]
    exact (Below.heap_alloc wr.drew o t htr).trans hbt
  have ht8 : (w7.setCell ⟨t, 0, none⟩ v7).heap[t]? = some (.cells #[v7, .map (some mh)] 58 (0, 0)) := heap_setCell_same w7 t 0 _ _ _ ht7
  have hm7 : MapIs St.val Ch.val w7 mh hlj := ((hm.drew).alloc o).ext x7 (fun e => (ne2 mh e).1 rfl)
  have ho8 : Own Mv.cells 9 66 base (w7.setCell ⟨t, 0, none⟩ v7) v7 (insM l i y) :=
    hown.ext (S := (· = t)) ((Ext.refl (· = t) w7).setCell (.inr rfl) _) (fun b hb e => by
      obtain ⟨cur, hc⟩ := hown.tag hb
      rw [e, ht7] at hc
      cases hc)
  obtain ⟨g, cap, e, hD⟩ := DoInv.start hT h8 ne3 ht8 ho8 (hm7.setCell _ _) ha hi
  exact ⟨g, cap, hlj, e, hD, h8⟩

theorem loop_end {base : Nat} {w w5 w8 wx : World} {t mh g cap : Nat} {v : Value} {l lk l8 : List Mv} {hl hlk hl8 : List (St × Ch)} {i k : Nat} {y : Mv} {c8 : List (St × Ch)} {a : St} (hT : TreeIs base w t mh v l hl) (hb0 : Below w.heap.size w w5)
    (xA : Ext (fun b => b = mh ∨ v.ownBlock = some b ∨ b = t) w5 w8) (hD8 : DoInv base w8 t mh g cap c8 i l8 hl8) (xB : Ext (fun b => b = g ∨ b = mh) w8 wx) (hD : DoInv base wx t mh g cap ((insM l i y).map Mv.core) k lk hlk) (hk : k = lk.length)
    (hi : i ≤ l.length) (h2 : ∀ (k : Nat) m, l[k]? = some m → (k < i ↔ stLt m.at_ a)) (hn : ∀ m ∈ l, m.at_ ≠ a) (hy : y.at_ = a) :
    TreeIs base wx t mh (.slice (some ⟨g, 0, none⟩) lk.length cap) lk hlk ∧ Ext (Touch base w t mh) w wx := by
  subst hk
  exact ⟨hD.done (rising_core hD.same (rising_insM hT.rising hi h2 hn hy)), ext_touch hT.own ((Ext.of_below hb0).trans xA) hD8.own rfl xB⟩

end Go.Proofs.Ytilonmpcifohiaa
