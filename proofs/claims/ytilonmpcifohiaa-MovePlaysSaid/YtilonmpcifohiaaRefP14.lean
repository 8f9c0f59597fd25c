/- Layer 14: the document's tree, plain. -/
import Derived.Test.YtilonmpcifohiaaPlainLast14
import Derived.Test.YtilonmpcifohiaaEnds14
import Derived.Test.YtilonmpcifohiaaInsR
namespace Go.Proofs.Ytilonmpcifohiaa
open Go.RowKit
set_option linter.unusedSimpArgs false
set_option linter.unusedVariables false

/-- A move of the document's, as a stamp and what hangs. -/
def coreR (x : RMv) : St × Ch := (x.at_, x.ch)
def RLt (x y : RMv) : Prop := stLt x.at_ y.at_
def BLt (x y : Ch) : Prop := stLt x.block y.block
/-- The document's moves are these, by rising stamps. -/
def CoreOf (L : List RMv) (c : List (St × Ch)) : Prop := L.map coreR = c ∧ L.Pairwise RLt

theorem coreOf_nil : CoreOf [] [] := ⟨rfl, List.Pairwise.nil⟩
theorem CoreOf.ris {L : List RMv} {c : List (St × Ch)} (h : CoreOf L c) : RisC c := by
  rw [← h.1]
  exact List.pairwise_map.2 h.2
theorem CoreOf.len {L : List RMv} {c : List (St × Ch)} (h : CoreOf L c) : L.length = c.length := by rw [← h.1, List.length_map]
theorem risC_unique {a b : List (St × Ch)} (ha : RisC a) (hb : RisC b) (h : ∀ x, x ∈ a ↔ x ∈ b) : a = b :=
  sorted_unique (R := fun x y : St × Ch => stLt x.1 y.1) (fun x => stLt_irrefl x.1) (fun _ _ _ h k => stLt_trans h k) ha hb h
/-- One more, put to its place. -/
theorem CoreOf.add {L M : List RMv} {c : List (St × Ch)} (h : CoreOf L c) {x : RMv} (hn : ∀ y ∈ c, y.1 ≠ x.at_) (hp : M.Perm (L ++ [x])) (hs : M.Pairwise RLt) : CoreOf M (insC c (x.at_, x.ch)) := by
  refine ⟨risC_unique (List.pairwise_map.2 hs) (insC_ris h.ris hn) (fun z => ?_), hs⟩
  rw [mem_insC, ← h.1, List.mem_map, List.mem_map]
  constructor
  · rintro ⟨y, hy, rfl⟩
    rcases List.mem_append.1 (hp.mem_iff.1 hy) with hy | hy
    · exact .inr ⟨y, hy, rfl⟩
    · exact .inl (by rw [List.mem_singleton.1 hy]; rfl)
  · rintro (rfl | ⟨y, hy, rfl⟩)
    · exact ⟨x, hp.mem_iff.2 (by simp), rfl⟩
    · exact ⟨y, hp.mem_iff.2 (by simp [hy]), rfl⟩
theorem rlt_trans (a b c : RMv) (h : RLt a b) (k : RLt b c) : RLt a c := stLt_trans h k
theorem blt_trans (a b c : Ch) (h : BLt a b) (k : BLt b c) : BLt a c := stLt_trans h k

/-- A block's place among those that hang. -/
def findB : List Ch → St → Option Nat
  | [], _ => none
  | x :: l, b => if x.block = b then some 0 else (findB l b).map (· + 1)
theorem findB_some : ∀ {l : List Ch} {b : St} {i : Nat}, findB l b = some i → ∃ x, l[i]? = some x ∧ x.block = b ∧ ∀ j y, j < i → l[j]? = some y → y.block ≠ b
  | [], _, _, h => by cases h
  | x :: l, b, i, h => by
    unfold findB at h
    split at h
    · cases h; exact ⟨x, rfl, by assumption, fun j y hj => absurd hj (by omega)⟩
    · rename_i hn
      cases hf : findB l b with
      | none => rw [hf] at h; cases h
      | some k =>
        rw [hf] at h
        cases h
        obtain ⟨y, h1, h2, h3⟩ := findB_some hf
        refine ⟨y, by simpa using h1, h2, fun j z hj hz => ?_⟩
        cases j with
        | zero => simp at hz; subst hz; exact hn
        | succ j => exact h3 j z (Nat.lt_of_succ_lt_succ hj) (by simpa using hz)
theorem findB_none : ∀ {l : List Ch} {b : St}, findB l b = none ↔ ∀ x ∈ l, x.block ≠ b
  | [], b => by simp [findB]
  | x :: l, b => by
    unfold findB
    split
    · rename_i h; constructor
      · intro e; cases e
      · intro e; exact absurd h (e x (by simp))
    · rename_i h
      rw [Option.map_eq_none_iff, findB_none]
      simp [h]
theorem findB_of {l : List Ch} {b : St} {i : Nat} {x : Ch} (hx : l[i]? = some x) (hb : x.block = b) (hn : ∀ j y, j < i → l[j]? = some y → y.block ≠ b) : findB l b = some i := by
  cases hf : findB l b with
  | none => exact absurd hb (findB_none.1 hf x (List.mem_of_getElem? hx))
  | some k =>
    obtain ⟨y, h1, h2, h3⟩ := findB_some hf
    rcases Nat.lt_trichotomy i k with h | h | h
    · exact absurd hb (h3 i x h hx)
    · rw [h]
    · exact absurd h2 (hn k y h h1)
/-- What Find answers. -/
def findI (l : List Ch) (b : St) : Int := match findB l b with
  | some i => i
  | none => -1
theorem AllOf.find {h : Hang} {l : List Ch} (a : AllOf h l) (hk : Keyed h) {b : St} : (findB l b = none ∧ h b = none) ∨ ∃ i x, findB l b = some i ∧ l[i]? = some x ∧ h b = some x ∧ x.block = b := by
  cases hf : findB l b with
  | none =>
    refine .inl ⟨rfl, ?_⟩
    cases hb : h b with
    | none => rfl
    | some x =>
      have := hk b x hb
      exact absurd this (findB_none.1 hf x ((a.1 x).2 (by rw [this]; exact hb)))
  | some i =>
    obtain ⟨x, h1, h2, _⟩ := findB_some hf
    refine .inr ⟨i, x, rfl, h1, ?_, h2⟩
    have := (a.1 x).1 (List.mem_of_getElem? h1)
    rw [h2] at this
    exact this
/-- A block that hangs is hung anew. -/
theorem AllOf.setAt {h : Hang} {l : List Ch} (a : AllOf h l) (hk : Keyed h) {c x : Ch} {i : Nat} (hi : l[i]? = some x) (hb : x.block = c.block) : AllOf (setH h c.block c) (l.set i c) := by
  have hil := (List.getElem?_eq_some_iff.1 hi).1
  have hp := pairR_get.1 a.2
  refine ⟨fun d => ?_, pairR_get.2 (fun p q y z hpq hy hz => ?_)⟩
  · constructor
    · intro hd
      obtain ⟨p, hpd⟩ := List.getElem?_of_mem hd
      rw [List.getElem?_set] at hpd
      by_cases e : i = p
      · rw [if_pos e, if_pos (by omega)] at hpd
        cases hpd
        rw [setH_same]
      · rw [if_neg e] at hpd
        have hne : d.block ≠ c.block := fun e2 => by
          rcases Nat.lt_or_gt_of_ne e with h1 | h1
          · have := hp i p x d h1 hi hpd; rw [hb, ← e2] at this; exact stLt_irrefl _ this
          · have := hp p i d x h1 hpd hi; rw [hb, ← e2] at this; exact stLt_irrefl _ this
        rw [setH_other _ _ hne]
        exact (a.1 d).1 (List.mem_of_getElem? hpd)
    · intro hd
      by_cases e : d.block = c.block
      · rw [e, setH_same] at hd
        cases hd
        exact List.mem_of_getElem? (i := i) (by rw [List.getElem?_set, if_pos rfl, if_pos (by omega)])
      · rw [setH_other _ _ e] at hd
        obtain ⟨p, hpd⟩ := List.getElem?_of_mem ((a.1 d).2 hd)
        have : i ≠ p := fun e2 => by
          subst e2
          rw [hi] at hpd; cases hpd; exact e hb
        exact List.mem_of_getElem? (i := p) (by rw [List.getElem?_set, if_neg this]; exact hpd)
  · have key : ∀ (p : Nat) (y : Ch), (l.set i c)[p]? = some y → ∃ y', l[p]? = some y' ∧ y'.block = y.block := fun p y hy => by
      rw [List.getElem?_set] at hy
      by_cases e : i = p
      · rw [if_pos e, if_pos (by omega)] at hy
        cases hy
        exact ⟨x, e ▸ hi, hb⟩
      · rw [if_neg e] at hy
        exact ⟨y, hy, rfl⟩
    obtain ⟨y', h1, h2⟩ := key p y hy
    obtain ⟨z', h3, h4⟩ := key q z hz
    rw [← h2, ← h4]
    exact hp p q y' z' hpq h1 h3
/-- A block is hung for the first time. -/
theorem AllOf.insert {h : Hang} {l M : List Ch} (a : AllOf h l) (hk : Keyed h) {c : Ch} (hn : h c.block = none) (hp : M.Perm (l ++ [c])) (hs : M.Pairwise BLt) : AllOf (setH h c.block c) M := by
  refine ⟨fun d => ?_, hs⟩
  rw [hp.mem_iff, List.mem_append, List.mem_singleton]
  by_cases e : d.block = c.block
  · rw [e, setH_same]
    constructor
    · rintro (h1 | rfl)
      · have := (a.1 d).1 h1
        rw [e, hn] at this
        cases this
      · rfl
    · intro h1; cases h1; exact .inr rfl
  · rw [setH_other _ _ e, a.1 d]
    constructor
    · rintro (h1 | rfl)
      · exact h1
      · exact absurd rfl e
    · exact .inl
theorem AllOf.nil : AllOf (hang []) [] := ⟨fun c => by simp [hang_nil], List.Pairwise.nil⟩
theorem hang_keyed (c : List (St × Ch)) : Keyed (hang c) := keyed_play _
theorem hang_acyc (c : List (St × Ch)) : Acyc (hang c) := acyc_play _
theorem hang_take {c : List (St × Ch)} {k : Nat} {x : St × Ch} (h : c[k]? = some x) : hang (c.take (k + 1)) = stepH (hang (c.take k)) x.2 := by
  unfold hang
  rw [List.take_add_one, h, Option.toList_some, List.map_append, List.map_cons, List.map_nil, play_snoc]
/-- Which moves took effect. -/
noncomputable def tookL (c : List (St × Ch)) : List Bool := (List.range c.length).map fun i => match c[i]? with
  | some x => tookH (hang (c.take i)) x.2
  | none => false
theorem tookL_get {c : List (St × Ch)} {i : Nat} {x : St × Ch} (h : c[i]? = some x) : (tookL c)[i]? = some (tookH (hang (c.take i)) x.2) := by
  have hi := (List.getElem?_eq_some_iff.1 h).1
  unfold tookL
  rw [List.getElem?_map, List.getElem?_range hi, Option.map_some, h]
theorem tookL_len (c : List (St × Ch)) : (tookL c).length = c.length := by simp [tookL]
theorem tookL_take {c : List (St × Ch)} {k : Nat} {x : St × Ch} (h : c[k]? = some x) : tookL (c.take (k + 1)) = tookL (c.take k) ++ [tookH (hang (c.take k)) x.2] := by
  have hk := (List.getElem?_eq_some_iff.1 h).1
  apply List.ext_getElem?
  intro i
  by_cases h1 : i < k
  · obtain ⟨y, hy⟩ : ∃ y, c[i]? = some y := ⟨_, List.getElem?_eq_getElem (by omega)⟩
    rw [List.getElem?_append_left (by rw [tookL_len, List.length_take]; omega)]
    rw [tookL_get (x := y) (by rw [List.getElem?_take, if_pos (by omega)]; exact hy), tookL_get (x := y) (by rw [List.getElem?_take, if_pos (by omega)]; exact hy), List.take_take, List.take_take, Nat.min_eq_left (by omega), Nat.min_eq_left (by omega)]
  · by_cases h2 : i = k
    · subst h2
      rw [tookL_get (x := x) (by rw [List.getElem?_take, if_pos (by omega)]; exact h), List.getElem?_append_right (by rw [tookL_len, List.length_take]; omega), tookL_len, List.length_take, Nat.min_eq_left (by omega), List.take_take, Nat.min_eq_left (by omega)]
      simp
    · rw [List.getElem?_eq_none (by rw [tookL_len, List.length_take]; omega), List.getElem?_eq_none (by rw [List.length_append, tookL_len, List.length_take]; simp; omega)]
theorem tookC_get {c : List (St × Ch)} (hr : RisC c) {i : Nat} {a : St} {x : Ch} (h : c[i]? = some (a, x)) : tookC c a = tookH (hang (c.take i)) x :=
  tookC_found h (fun j y hj hy e => by
    have := pairR_get.1 hr j i y (a, x) hj hy h
    rw [e] at this
    exact stLt_irrefl _ this)

/-- What hangs under a block: the first of a list, by their keys. -/
structure UnderTo (h : Hang) (u : St) (l : List Ch) (k : Nat) (M : List Ch) : Prop where
  mem : ∀ c, c ∈ M ↔ c ∈ l.take k ∧ c.under = u
  ord : M.Pairwise kidLt
theorem underTo_zero (h : Hang) (u : St) (l : List Ch) : UnderTo h u l 0 [] := ⟨fun c => by simp, List.Pairwise.nil⟩
theorem UnderTo.skip {h : Hang} {u : St} {l M : List Ch} {k : Nat} (t : UnderTo h u l k M) {x : Ch} (hx : l[k]? = some x) (hne : x.under ≠ u) : UnderTo h u l (k + 1) M := by
  refine ⟨fun c => ?_, t.ord⟩
  rw [t.mem, List.take_add_one, hx, Option.toList_some, List.mem_append, List.mem_singleton]
  constructor
  · rintro ⟨h1, h2⟩; exact ⟨.inl h1, h2⟩
  · rintro ⟨h1 | rfl, h2⟩
    · exact ⟨h1, h2⟩
    · exact absurd h2 hne
theorem UnderTo.put {h : Hang} {u : St} {l M M' : List Ch} {k : Nat} (t : UnderTo h u l k M) {x : Ch} (hx : l[k]? = some x) (he : x.under = u) (hp : M'.Perm (M ++ [x])) (hs : M'.Pairwise kidLt) : UnderTo h u l (k + 1) M' := by
  refine ⟨fun c => ?_, hs⟩
  rw [hp.mem_iff, List.mem_append, List.mem_singleton, t.mem, List.take_add_one, hx, Option.toList_some, List.mem_append, List.mem_singleton]
  constructor
  · rintro (⟨h1, h2⟩ | rfl)
    · exact ⟨.inl h1, h2⟩
    · exact ⟨.inr rfl, he⟩
  · rintro ⟨h1 | rfl, h2⟩
    · exact .inl ⟨h1, h2⟩
    · exact .inr rfl
theorem UnderTo.len {h : Hang} {u : St} {l M : List Ch} {k : Nat} (t : UnderTo h u l k M) (hk : k ≤ l.length) : M.length ≤ k := by
  have hn : M.Nodup := t.ord.imp fun {x y} h e => by rw [e] at h; exact kidLt_irrefl _ h
  have := hn.length_le_of_subset (l₂ := l.take k) fun c hc => ((t.mem c).1 hc).1
  rw [List.length_take] at this
  omega
theorem UnderTo.all {h : Hang} {u : St} {l M : List Ch} (a : AllOf h l) (t : UnderTo h u l l.length M) : KidsOf h u M := by
  refine ⟨fun c => ?_, t.ord⟩
  rw [t.mem, List.take_length, a.1 c]
/-- An element that stands with a smaller key ahead of a later one. -/
theorem UnderTo.later {h : Hang} {u : St} {l M : List Ch} {k : Nat} (a : AllOf h l) (t : UnderTo h u l k M) {x y : Ch} (hx : l[k]? = some x) (hy : y ∈ M) : stLt y.block x.block := by
  obtain ⟨h1, _⟩ := (t.mem y).1 hy
  obtain ⟨j, hj⟩ := List.getElem?_of_mem h1
  rw [List.getElem?_take] at hj
  split at hj
  · exact pairR_get.1 a.2 j k y x (by assumption) hj hx
  · cases hj

end Go.Proofs.Ytilonmpcifohiaa
