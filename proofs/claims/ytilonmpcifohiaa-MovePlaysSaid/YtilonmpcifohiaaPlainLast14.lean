/- Layer 14, plain: the last move of a block that took effect put it where it hangs; what is kept behind moves. -/
import Derived.Test.YtilonmpcifohiaaMoved14
namespace Go.Proofs.Ytilonmpcifohiaa
set_option linter.unusedSimpArgs false
set_option linter.unusedVariables false

theorem st_eq {a b : St} (h1 : a.n = b.n) (h2 : a.r = b.r) : a = b := by cases a; cases b; simp_all
/-- By rising stamps. -/
def RisC (c : List (St × Ch)) : Prop := c.Pairwise (fun a b => stLt a.1 b.1)

theorem snoc_rec {α : Type} {p : List α → Prop} (h0 : p []) (h1 : ∀ l x, p l → p (l ++ [x])) (l : List α) : p l := by
  have : ∀ l : List α, p l.reverse := fun l => by
    induction l with
    | nil => exact h0
    | cons x l ih => rw [List.reverse_cons]; exact h1 _ _ ih
  have := this l.reverse
  rwa [List.reverse_reverse] at this

theorem hang_snoc (c : List (St × Ch)) (x : St × Ch) : hang (c ++ [x]) = stepH (hang c) x.2 := by
  unfold hang; rw [List.map_append]; exact play_snoc _ _

theorem tookAt_append_in : ∀ (c : List (St × Ch)) (d : List (St × Ch)) (h : Hang) (a : St), (∃ x ∈ c, x.1 = a) → tookAt h (c ++ d) a = tookAt h c a
  | [], d, h, a, hx => by obtain ⟨x, hx, _⟩ := hx; simp at hx
  | y :: c, d, h, a, hx => by
    rw [List.cons_append, tookAt, tookAt]
    by_cases hy : y.1 = a
    · rw [if_pos hy, if_pos hy]
    · rw [if_neg hy, if_neg hy]
      refine tookAt_append_in c d _ a ?_
      obtain ⟨x, hx, e⟩ := hx
      rcases List.mem_cons.1 hx with rfl | hx
      · exact absurd e hy
      · exact ⟨x, hx, e⟩
theorem tookC_append_in {c d : List (St × Ch)} {a : St} (h : ∃ x ∈ c, x.1 = a) : tookC (c ++ d) a = tookC c a := tookAt_append_in c d _ a h
theorem tookC_snoc {c : List (St × Ch)} {x : St × Ch} (h : ∀ y ∈ c, y.1 ≠ x.1) : tookC (c ++ [x]) x.1 = tookH (hang c) x.2 := by
  have hx : (c ++ [x])[c.length]? = some (x.1, x.2) := by simp
  rw [tookC_found hx (fun j y hj hy e => ?_)]
  · simp
  · rw [List.getElem?_append_left hj] at hy
    exact h y (List.mem_of_getElem? hy) e

theorem RisC.init {c : List (St × Ch)} {x : St × Ch} (h : RisC (c ++ [x])) : RisC c ∧ ∀ y ∈ c, stLt y.1 x.1 := by
  have := List.pairwise_append.1 h
  exact ⟨this.1, fun y hy => this.2.2 y hy x (by simp)⟩

/-- Where a block hangs: where the last move of it that took effect put it. -/
theorem hang_char : ∀ (c : List (St × Ch)), RisC c → ∀ b,
    (hang c b = none ∧ ∀ y ∈ c, y.2.block = b → tookC c y.1 = false) ∨
    (∃ y ∈ c, hang c b = some y.2 ∧ y.2.block = b ∧ tookC c y.1 = true ∧ ∀ z ∈ c, z.2.block = b → tookC c z.1 = true → z = y ∨ stLt z.1 y.1) := by
  intro c
  refine snoc_rec (p := fun c => RisC c → ∀ b, (hang c b = none ∧ ∀ y ∈ c, y.2.block = b → tookC c y.1 = false) ∨
    (∃ y ∈ c, hang c b = some y.2 ∧ y.2.block = b ∧ tookC c y.1 = true ∧ ∀ z ∈ c, z.2.block = b → tookC c z.1 = true → z = y ∨ stLt z.1 y.1)) ?_ ?_ c
  · intro _ b
    exact .inl ⟨rfl, fun y hy => by simp at hy⟩
  · intro c x ih hr b
    obtain ⟨hr0, hx⟩ := hr.init
    have hne : ∀ y ∈ c, y.1 ≠ x.1 := fun y hy e => by have := hx y hy; rw [e] at this; exact stLt_irrefl _ this
    have hin : ∀ y ∈ c, tookC (c ++ [x]) y.1 = tookC c y.1 := fun y hy => tookC_append_in ⟨y, hy, rfl⟩
    have hxx := tookC_snoc (c := c) hne
    rw [hang_snoc]
    cases ht : tookH (hang c) x.2 with
    | false =>
      rw [stepH_not ht]
      rw [ht] at hxx
      rcases ih hr0 b with ⟨h1, h2⟩ | ⟨y, hy, h1, h2, h3, h4⟩
      · refine .inl ⟨h1, fun y hy hb => ?_⟩
        rcases List.mem_append.1 hy with hy | hy
        · rw [hin y hy]; exact h2 y hy hb
        · rw [List.mem_singleton.1 hy]; exact hxx
      · refine .inr ⟨y, List.mem_append.2 (.inl hy), h1, h2, by rw [hin y hy]; exact h3, fun z hz hb hk => ?_⟩
        rcases List.mem_append.1 hz with hz | hz
        · rw [hin z hz] at hk; exact h4 z hz hb hk
        · rw [List.mem_singleton.1 hz, hxx] at hk; cases hk
    | true =>
      rw [stepH_took ht]
      rw [ht] at hxx
      by_cases hb : b = x.2.block
      · subst hb
        refine .inr ⟨x, by simp, setH_same _ _ _, rfl, hxx, fun z hz _ _ => ?_⟩
        rcases List.mem_append.1 hz with hz | hz
        · exact .inr (hx z hz)
        · exact .inl (List.mem_singleton.1 hz)
      · rw [setH_other _ _ hb]
        rcases ih hr0 b with ⟨h1, h2⟩ | ⟨y, hy, h1, h2, h3, h4⟩
        · refine .inl ⟨h1, fun y hy hb' => ?_⟩
          rcases List.mem_append.1 hy with hy | hy
          · rw [hin y hy]; exact h2 y hy hb'
          · rw [List.mem_singleton.1 hy] at hb'; exact absurd hb'.symm hb
        · refine .inr ⟨y, List.mem_append.2 (.inl hy), h1, h2, by rw [hin y hy]; exact h3, fun z hz hb' hk => ?_⟩
          rcases List.mem_append.1 hz with hz | hz
          · rw [hin z hz] at hk; exact h4 z hz hb' hk
          · rw [List.mem_singleton.1 hz] at hb'; exact absurd hb'.symm hb

theorem mem_insC {c : List (St × Ch)} {x z : St × Ch} : z ∈ insC c x ↔ z = x ∨ z ∈ c := by
  induction c with
  | nil => simp [insC]
  | cons y c ih =>
    unfold insC
    split
    · rw [List.mem_cons, ih, List.mem_cons]
      constructor
      · rintro (h | h | h)
        · exact .inr (.inl h)
        · exact .inl h
        · exact .inr (.inr h)
      · rintro (h | h | h)
        · exact .inr (.inl h)
        · exact .inl h
        · exact .inr (.inr h)
    · rw [List.mem_cons]
theorem insC_ris {c : List (St × Ch)} {x : St × Ch} (hr : RisC c) (hn : ∀ y ∈ c, y.1 ≠ x.1) : RisC (insC c x) := by
  induction c with
  | nil => simp [insC, RisC]
  | cons y c ih =>
    have h := List.pairwise_cons.1 hr
    unfold insC
    split
    · rename_i hlt
      refine List.pairwise_cons.2 ⟨fun z hz => ?_, ih h.2 (fun z hz => hn z (by simp [hz]))⟩
      rcases mem_insC.1 hz with rfl | hz
      · exact hlt
      · exact h.1 z hz
    · rename_i hlt
      have hxy : stLt x.1 y.1 := by
        rcases stLt_total x.1 y.1 with t | t | t
        · exact t
        · exact absurd t.symm (hn y (by simp))
        · exact absurd t hlt
      refine List.pairwise_cons.2 ⟨fun z hz => ?_, hr⟩
      rcases List.mem_cons.1 hz with rfl | hz
      · exact hxy
      · exact stLt_trans hxy (h.1 z hz)

theorem moveCode_zero {c : List (St × Ch)} {a b u : St} (h : moveCode c a b u = 0) : goodB a b u = true ∧ ∀ x ∈ c, x.1 ≠ a := by
  unfold moveCode at h
  split at h
  · rename_i hg
    split at h
    · cases h
    · rename_i hn
      exact ⟨hg, fun x hx e => hn ⟨x, hx, e⟩⟩
  · cases h

/-- What is kept behind some moves: c by the stamps, all as they came. -/
structure Kept (c : List (St × Ch)) (all : List RMv) : Prop where
  ris : RisC c
  mem : ∀ z, z ∈ c ↔ ∃ x ∈ all, z = (x.at_, x.ch)
  good : ∀ x ∈ all, goodB x.at_ x.block x.under = true
  apart : all.Pairwise (fun x y => x.at_ ≠ y.at_)
  len : c.length = all.length

theorem addAll_kept (l : List RMv) : Kept (addAll l).1 (addAll l).2 := by
  refine snoc_rec (p := fun l => Kept (addAll l).1 (addAll l).2) ?_ ?_ l
  · exact ⟨List.Pairwise.nil, fun z => by simp [addAll_nil], fun x hx => by simp [addAll_nil] at hx, List.Pairwise.nil, rfl⟩
  · intro l x ih
    rw [addAll_snoc]
    by_cases hm : moveCode (addAll l).1 x.at_ x.block x.under = 0
    · obtain ⟨hg, hn⟩ := moveCode_zero hm
      have e : addStep (addAll l) x = (insC (addAll l).1 (x.at_, x.ch), (addAll l).2 ++ [x]) := by
        rw [addStep, if_pos hm, addC_ok (show moveCode (addAll l).1 x.at_ x.ch.block x.ch.under = 0 from hm)]
      rw [e]
      refine ⟨insC_ris ih.ris hn, fun z => ?_, fun y hy => ?_, ?_, by simp [insC_length, ih.len]⟩
      · rw [mem_insC, ih.mem]
        constructor
        · rintro (h | ⟨y, hy, h⟩)
          · exact ⟨x, by simp, h⟩
          · exact ⟨y, by simp [hy], h⟩
        · rintro ⟨y, hy, h⟩
          rcases List.mem_append.1 hy with hy | hy
          · exact .inr ⟨y, hy, h⟩
          · rw [List.mem_singleton.1 hy] at h; exact .inl h
      · rcases List.mem_append.1 hy with hy | hy
        · exact ih.good y hy
        · rw [List.mem_singleton.1 hy]; exact hg
      · refine List.pairwise_append.2 ⟨ih.apart, List.pairwise_singleton _ _, fun y hy z hz e => ?_⟩
        rw [List.mem_singleton.1 hz] at e
        exact hn _ ((ih.mem _).2 ⟨y, hy, rfl⟩) e
    · have e : addStep (addAll l) x = addAll l := by
        have : addC (addAll l).1 x.at_ x.ch = (addAll l).1 := if_neg hm
        rw [addStep, if_neg hm, this]
      rw [e]
      exact ih

/-- The last one of a block among the first k that were taken: what the law keeps. -/
def LastOf (c : List (St × Ch)) (all : List RMv) (b : St) (k : Nat) (last : Int) : Prop :=
  (last = -1 ∧ ∀ j x, j < k → all[j]? = some x → ¬ (x.block = b ∧ tookC c x.at_ = true)) ∨
  (∃ (m : Nat) (y : RMv), last = m ∧ m < k ∧ all[m]? = some y ∧ y.block = b ∧ tookC c y.at_ = true ∧ ∀ j x, j < k → all[j]? = some x → x.block = b → tookC c x.at_ = true → ¬ stLt y.at_ x.at_)

theorem LastOf.zero {c : List (St × Ch)} {all : List RMv} {b : St} : LastOf c all b 0 (-1) := .inl ⟨rfl, fun j x hj => by omega⟩
theorem LastOf.skip {c : List (St × Ch)} {all : List RMv} {b : St} {k : Nat} {last : Int} {x : RMv} (h : LastOf c all b k last) (hx : all[k]? = some x) (hn : ¬ (x.block = b ∧ tookC c x.at_ = true)) : LastOf c all b (k + 1) last := by
  rcases h with ⟨h1, h2⟩ | ⟨m, y, h1, h2, h3, h4, h5, h6⟩
  · refine .inl ⟨h1, fun j z hj hz => ?_⟩
    by_cases hjk : j < k
    · exact h2 j z hjk hz
    · obtain rfl : j = k := by omega
      rw [hx] at hz; cases hz; exact hn
  · refine .inr ⟨m, y, h1, by omega, h3, h4, h5, fun j z hj hz hb hk => ?_⟩
    by_cases hjk : j < k
    · exact h6 j z hjk hz hb hk
    · obtain rfl : j = k := by omega
      rw [hx] at hz; cases hz; exact absurd ⟨hb, hk⟩ hn
theorem LastOf.first {c : List (St × Ch)} {all : List RMv} {b : St} {k : Nat} {x : RMv} (h : LastOf c all b k (-1)) (hx : all[k]? = some x) (hb : x.block = b) (hk : tookC c x.at_ = true) : LastOf c all b (k + 1) k := by
  rcases h with ⟨_, h2⟩ | ⟨m, y, h1, _⟩
  · refine .inr ⟨k, x, rfl, by omega, hx, hb, hk, fun j z hj hz hb' hk' => ?_⟩
    by_cases hjk : j < k
    · exact absurd ⟨hb', hk'⟩ (h2 j z hjk hz)
    · obtain rfl : j = k := by omega
      rw [hx] at hz; cases hz; exact stLt_irrefl _
  · omega
theorem LastOf.more {c : List (St × Ch)} {all : List RMv} {b : St} {k m : Nat} {x y : RMv} (h : LastOf c all b k m) (hx : all[k]? = some x) (hy : all[m]? = some y) (hb : x.block = b) (hk : tookC c x.at_ = true) (hlt : stLt y.at_ x.at_) : LastOf c all b (k + 1) k := by
  rcases h with ⟨h1, _⟩ | ⟨m', y', h1, h2, h3, h4, h5, h6⟩
  · omega
  · obtain rfl : m = m' := by omega
    rw [hy] at h3; cases h3
    refine .inr ⟨k, x, rfl, by omega, hx, hb, hk, fun j z hj hz hb' hk' hl => ?_⟩
    by_cases hjk : j < k
    · exact h6 j z hjk hz hb' hk' (stLt_trans hlt hl)
    · obtain rfl : j = k := by omega
      rw [hx] at hz; cases hz; exact stLt_irrefl _ hl
theorem LastOf.stay {c : List (St × Ch)} {all : List RMv} {b : St} {k m : Nat} {x y : RMv} (h : LastOf c all b k m) (hx : all[k]? = some x) (hy : all[m]? = some y) (hlt : ¬ stLt y.at_ x.at_) : LastOf c all b (k + 1) m := by
  rcases h with ⟨h1, _⟩ | ⟨m', y', h1, h2, h3, h4, h5, h6⟩
  · omega
  · obtain rfl : m = m' := by omega
    rw [hy] at h3; cases h3
    refine .inr ⟨m, y, rfl, by omega, hy, h4, h5, fun j z hj hz hb' hk' hl => ?_⟩
    by_cases hjk : j < k
    · exact h6 j z hjk hz hb' hk' hl
    · obtain rfl : j = k := by omega
      rw [hx] at hz; cases hz; exact hlt hl
theorem LastOf.get {c : List (St × Ch)} {all : List RMv} {b : St} {k : Nat} {last : Int} (h : LastOf c all b k last) : last = -1 ∨ ∃ (m : Nat) (y : RMv), last = m ∧ m < k ∧ all[m]? = some y := by
  rcases h with ⟨h1, _⟩ | ⟨m', y', h1, h2, h3, _⟩
  · exact .inl h1
  · exact .inr ⟨m', y', h1, h2, h3⟩

theorem last_hang {c : List (St × Ch)} {all : List RMv} (hK : Kept c all) {b : St} {last : Int} (h : LastOf c all b all.length last) :
    (last = -1 ∧ hang c b = none) ∨ ∃ (m : Nat) (y : RMv), last = m ∧ m < all.length ∧ all[m]? = some y ∧ hang c b = some y.ch ∧ y.block = b := by
  rcases h with ⟨h1, h2⟩ | ⟨m, y, h1, h2, h3, h4, h5, h6⟩
  · refine .inl ⟨h1, ?_⟩
    rcases hang_char c hK.ris b with ⟨k1, _⟩ | ⟨z, hz, k1, k2, k3, _⟩
    · exact k1
    · obtain ⟨x, hx, rfl⟩ := (hK.mem z).1 hz
      obtain ⟨j, hj⟩ := List.getElem?_of_mem hx
      exact absurd ⟨k2, k3⟩ (h2 j x (List.getElem?_eq_some_iff.1 hj).1 hj)
  · refine .inr ⟨m, y, h1, h2, h3, ?_, h4⟩
    have hy : (y.at_, y.ch) ∈ c := (hK.mem _).2 ⟨y, List.mem_of_getElem? h3, rfl⟩
    rcases hang_char c hK.ris b with ⟨_, k2⟩ | ⟨z, hz, k1, k2, k3, k4⟩
    · have := k2 _ hy h4
      rw [show (y.at_, y.ch).1 = y.at_ from rfl, h5] at this; cases this
    · obtain ⟨x, hx, rfl⟩ := (hK.mem z).1 hz
      obtain ⟨j, hj⟩ := List.getElem?_of_mem hx
      have hn := h6 j x (List.getElem?_eq_some_iff.1 hj).1 hj k2 k3
      rcases k4 _ hy h4 h5 with e | e
      · rw [k1, ← e]
      · exact absurd e hn

end Go.Proofs.Ytilonmpcifohiaa
