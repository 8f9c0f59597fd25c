/- Layer 14: a tree in memory; undo and do as steps of the plain law. -/
import Derived.Test.YtilonmpcifohiaaDo14
namespace Go.Proofs.Ytilonmpcifohiaa
open Go.RowKit
set_option linter.unusedSimpArgs false
set_option linter.unusedVariables false

/-- What a move in the log notes of the tree ahead of it. -/
def Noted (w : World) (base : Nat) (h : Hang) (m : Mv) : Prop := m.took = tookH h m.child ∧ (m.took = true → WasIs (h m.child.block) m.was base w)

theorem WasIs.ext {S : Nat → Prop} {x : Option Ch} {wb : Option Nat} {n : Nat} {w w' : World} (h : WasIs x wb n w) (hx : Ext S w w') (hn : ∀ b c, BoxC w b c → ¬ S b) : WasIs x wb n w' := by
  revert h
  unfold WasIs
  cases x with
  | none => exact id
  | some c =>
    rintro ⟨b, e, hb, hbx⟩
    exact ⟨b, e, hb, (hx.block b (Array.getElem?_eq_some_iff.1 (show w.heap[b]? = _ from hbx)).1 (hn b c hbx)).trans hbx⟩
theorem WasIs.mono {x : Option Ch} {wb : Option Nat} {n n' : Nat} {w : World} (h : WasIs x wb n w) (hn : n' ≤ n) : WasIs x wb n' w := by
  revert h
  unfold WasIs
  cases x with
  | none => exact id
  | some c => rintro ⟨b, e, hb, hbx⟩; exact ⟨b, e, by omega, hbx⟩
theorem Noted.ext {S : Nat → Prop} {n : Nat} {h : Hang} {m : Mv} {w w' : World} (hm : Noted w n h m) (hx : Ext S w w') (hn : ∀ b c, BoxC w b c → ¬ S b) : Noted w' n h m :=
  ⟨hm.1, fun e => (hm.2 e).ext hx hn⟩

def kids (l : List Mv) : List Ch := l.map Mv.child
theorem play_take (l : List Mv) (k : Nat) (m : Mv) (hk : l[k]? = some m) : play (kids (l.take (k + 1))) = stepH (play (kids (l.take k))) m.child := by
  unfold kids
  rw [List.take_add_one, hk, List.map_append]
  exact play_snoc _ _

/-- A tree in memory. -/
structure TreeIs (base : Nat) (w : World) (t mh : Nat) (v : Value) (l : List Mv) (hl : List (St × Ch)) : Prop where
  blk : w.heap[t]? = some (.cells #[v, .map (some mh)] 58 (0, 0))
  lo : base ≤ t
  lom : base ≤ mh
  own : Own Mv.cells 9 66 base w v l
  map : MapIs St.val Ch.val w mh hl
  agree : Agree hl (play (kids l))
  rising : Rising l
  noted : ∀ i m, l[i]? = some m → Noted w base (play (kids (l.take i))) m

/-- The blocks that a tree's moves write. -/
def Foot (t mh : Nat) (v : Value) (k : Nat) : Prop := k = t ∨ k = mh ∨ v.ownBlock = some k

theorem MvAt.of {w : World} {base : Nat} {g cap : Nat} {l : List Mv} (h : Own Mv.cells 9 66 base w (.slice (some ⟨g, 0, none⟩) l.length cap) l) {k : Nat} {m : Mv} (hk : l[k]? = some m) : MvAt w g (k * 9) m := by
  obtain ⟨a, cap', e, _, _, h4⟩ := h.slice Mv.len
  have hl : l ≠ [] := fun e => by rw [e] at hk; simp at hk
  obtain ⟨b, off, rfl, hc⟩ := h4 hl
  cases e
  have hc : ∀ j u, m.cells[j]? = some u → w.cell? ⟨g, k * 9 + j, none⟩ = some u := fun j u hj => by
    have := hc k m hk j u hj
    rwa [Nat.zero_add] at this
  exact ⟨hc 0 _ rfl, hc 1 _ rfl, hc 2 _ rfl, hc 3 _ rfl, hc 4 _ rfl, hc 5 _ rfl, hc 6 _ rfl, hc 7 _ rfl, hc 8 _ rfl⟩

theorem undo_step (t mh g o base : Nat) (m : Mv) (hl : List (St × Ch)) (h : Hang) (w : World) (hc : w.cell? ⟨t, 1, none⟩ = some (.map (some mh))) (hh : MapIs St.val Ch.val w mh hl) (hm : MvAt w g o m) (hn : Noted w base h m) (ha : Agree hl (stepH h m.child)) :
    Calls Try.prog 29 #[.pointer (some ⟨t, 0, none⟩), .pointer (some ⟨g, o, none⟩)] w
      fun e w' => (∃ v, e = .returned v) ∧ ∃ hl', MapIs St.val Ch.val w' mh hl' ∧ Agree hl' h ∧ Ext (· = mh) w w' := by
  obtain ⟨h1, h2⟩ := hn
  cases ht : m.took with
  | false =>
    rw [ht] at h1
    rw [stepH_not h1.symm] at ha
    refine (undo_not t g o m w hm ht).mono ?_
    rintro e w' ⟨he, hb⟩
    exact ⟨he, hl, hh.below hb, ha, Ext.of_below hb⟩
  | true =>
    rw [ht] at h1
    rw [stepH_took h1.symm] at ha
    have hw := h2 ht
    cases hb : h m.child.block with
    | none =>
      rw [hb] at hw
      refine (undo_del t mh g o m hl w hc hh hm ht hw).mono ?_
      rintro e w' ⟨he, hm', hx⟩
      exact ⟨he, _, hm', ha.undo hh.nodup hb, hx⟩
    | some c =>
      rw [hb] at hw
      obtain ⟨b, hwb, _, hbx⟩ := hw
      refine (undo_put t mh g o b m c hl w hc hh hm ht hwb hbx).mono ?_
      rintro e w' ⟨he, hm', hx⟩
      exact ⟨he, _, hm', ha.back hb, hx⟩

theorem flat_set : ∀ (l : List Mv) (k : Nat) (m : Mv), l[k]? = some m → ∀ (tk : Bool) (wb : Option Nat),
    ((l.flatMap Mv.cells).set (k * 9 + 7) (.bool tk)).set (k * 9 + 8) (ptr wb) = (l.set k { m with took := tk, was := wb }).flatMap Mv.cells
  | [], k, m, h, _, _ => by simp at h
  | x :: l, 0, m, h, tk, wb => by
    simp only [List.getElem?_cons_zero, Option.some.injEq] at h
    subst h
    simp [List.flatMap_cons, Mv.cells]
  | x :: l, k + 1, m, h, tk, wb => by
    have ih := flat_set l k m (by simpa using h) tk wb
    rw [List.set_cons_succ, List.flatMap_cons, List.flatMap_cons, ← ih]
    rw [List.set_append_right _ _ (by rw [Mv.len]; omega), Mv.len, List.set_append_right _ _ (by rw [Mv.len]; omega), Mv.len]
    rw [show (k + 1) * 9 + 7 - 9 = k * 9 + 7 by omega, show (k + 1) * 9 + 8 - 9 = k * 9 + 8 by omega]

theorem own_set {base : Nat} {w w' : World} {g cap : Nat} {l : List Mv} (h : Own Mv.cells 9 66 base w (.slice (some ⟨g, 0, none⟩) l.length cap) l) {k : Nat} {m : Mv} (hk : l[k]? = some m) (tk : Bool) (wb : Option Nat) {cur : Array Value}
    (hg : w.heap[g]? = some (.cells cur 66 (0, 0))) (hg' : w'.heap[g]? = some (.cells ((cur.setIfInBounds (k * 9 + 7) (.bool tk)).setIfInBounds (k * 9 + 8) (ptr wb)) 66 (0, 0))) :
    Own Mv.cells 9 66 base w' (.slice (some ⟨g, 0, none⟩) l.length cap) (l.set k { m with took := tk, was := wb }) := by
  obtain ⟨h1, h2⟩ := h
  have hf := flat_set l k m hk tk wb
  have hlf := length_flatMap_k (ea := Mv.cells) Mv.len l
  refine ⟨by rw [length_flatMap_k Mv.len], .inr ?_⟩
  rcases h2 with ⟨h2, _⟩ | ⟨g0, cap0, cur0, hv, hb, hg0, hnc, hcm, hcs, htake⟩
  · cases h2
  · cases hv
    rw [hg] at hg0
    cases hg0
    refine ⟨g, cap, _, by rw [List.length_set], hb, hg', by rw [List.length_set]; exact hnc, hcm, by simpa using hcs, ?_⟩
    rw [← hf, Array.toList_setIfInBounds, Array.toList_setIfInBounds, List.length_set, List.take_set, List.take_set, htake]

theorem do_step (t mh g cap base : Nat) (k : Nat) (m : Mv) (l : List Mv) (hl : List (St × Ch)) (w : World) (hk : l[k]? = some m) (hc : w.cell? ⟨t, 1, none⟩ = some (.map (some mh))) (hh : MapIs St.val Ch.val w mh hl)
    (hown : Own Mv.cells 9 66 base w (.slice (some ⟨g, 0, none⟩) l.length cap) l) (htg : t ≠ g) (hbw : base ≤ w.heap.size) (ha : Agree hl (play (kids (l.take k)))) :
    Calls Try.prog 31 #[.pointer (some ⟨t, 0, none⟩), .pointer (some ⟨g, k * 9, none⟩)] w
      fun e w' => (∃ v, e = .returned v) ∧ ∃ m' hl', m'.at_ = m.at_ ∧ m'.child = m.child ∧ MapIs St.val Ch.val w' mh hl' ∧ Agree hl' (play (kids (l.take (k + 1)))) ∧
        Own Mv.cells 9 66 base w' (.slice (some ⟨g, 0, none⟩) l.length cap) (l.set k m') ∧ Noted w' base (play (kids (l.take k))) m' ∧ Ext (fun b => b = g ∨ b = mh) w w' := by
  obtain ⟨cur, hg⟩ := hown.tag (b := g) rfl
  refine (do_any t mh g (k * 9) m cur hl _ ha (acyc_play _) w hc hh hg (MvAt.of hown hk) htg).mono ?_
  rintro e w' ⟨he, wb, hl', h1, h2, h3, h4, h5⟩
  refine ⟨he, { m with took := tookH (play (kids (l.take k))) m.child, was := wb }, hl', rfl, rfl, h1, by rw [play_take l k m hk]; exact h2, own_set hown hk _ _ hg h3, ⟨rfl, fun e => (h4 e).mono hbw⟩, h5⟩

end Go.Proofs.Ytilonmpcifohiaa
