/- Layer 14, plain: the tree of those of lesser stamps tells whether a move took effect. -/
import Derived.Test.YtilonmpcifohiaaPlainLast14
namespace Go.Proofs.Ytilonmpcifohiaa
set_option linter.unusedSimpArgs false
set_option linter.unusedVariables false

theorem ris_ext : ∀ {c d : List (St × Ch)}, RisC c → RisC d → (∀ z, z ∈ c ↔ z ∈ d) → c = d
  | [], [], _, _, _ => rfl
  | [], y :: d, _, _, h => absurd ((h y).2 (by simp)) (by simp)
  | x :: c, [], _, _, h => absurd ((h x).1 (by simp)) (by simp)
  | x :: c, y :: d, hc, hd, h => by
    have h1 := List.pairwise_cons.1 hc
    have h2 := List.pairwise_cons.1 hd
    have hxy : x = y := by
      rcases List.mem_cons.1 ((h x).1 (by simp)) with e | hx
      · exact e
      · rcases List.mem_cons.1 ((h y).2 (by simp)) with e | hy
        · exact e.symm
        · exact absurd (stLt_trans (h1.1 y hy) (h2.1 x hx)) (stLt_irrefl _)
    subst hxy
    rw [ris_ext h1.2 h2.2 (fun z => ?_)]
    constructor
    · intro hz
      rcases List.mem_cons.1 ((h z).1 (by simp [hz])) with e | hz'
      · have := h1.1 z hz; rw [e] at this; exact absurd this (stLt_irrefl _)
      · exact hz'
    · intro hz
      rcases List.mem_cons.1 ((h z).2 (by simp [hz])) with e | hz'
      · have := h2.1 z hz; rw [e] at this; exact absurd this (stLt_irrefl _)
      · exact hz'

theorem addAll_fst_snoc (l : List RMv) (x : RMv) : (addAll (l ++ [x])).1 = addC (addAll l).1 x.at_ x.ch := by rw [addAll_snoc]; rfl

/-- Good moves at stamps of their own are all taken. -/
theorem addAll_all (l : List RMv) : (∀ x ∈ l, goodB x.at_ x.block x.under = true) → l.Pairwise (fun x y => x.at_ ≠ y.at_) → (addAll l).2 = l := by
  refine snoc_rec (p := fun l => (∀ x ∈ l, goodB x.at_ x.block x.under = true) → l.Pairwise (fun x y => x.at_ ≠ y.at_) → (addAll l).2 = l) ?_ ?_ l
  · intro _ _; rfl
  · intro l x ih hg hp
    have hp' := List.pairwise_append.1 hp
    have h1 := ih (fun y hy => hg y (by simp [hy])) hp'.1
    have hK := addAll_kept l
    rw [addAll_snoc, addStep, if_pos (moveCode_ok (hg x (by simp)) (fun z hz e => ?_)), h1]
    obtain ⟨y, hy, rfl⟩ := (hK.mem z).1 hz
    rw [h1] at hy
    exact hp'.2.2 y hy x (by simp) e

open Classical in
/-- Those of lesser stamps. -/
noncomputable def lessL (l : List RMv) (a : St) : List RMv := l.filter (fun y => decide (stLt y.at_ a))
theorem lessL_snoc_lt {l : List RMv} {a : St} {y : RMv} (h : stLt y.at_ a) : lessL (l ++ [y]) a = lessL l a ++ [y] := by simp [lessL, List.filter_append, h]
theorem lessL_snoc_ge {l : List RMv} {a : St} {y : RMv} (h : ¬ stLt y.at_ a) : lessL (l ++ [y]) a = lessL l a := by simp [lessL, List.filter_append, h]
theorem lessL_length (l : List RMv) (a : St) : (lessL l a).length ≤ l.length := List.length_filter_le _ _
theorem mem_lessL {l : List RMv} {a : St} {y : RMv} : y ∈ lessL l a ↔ y ∈ l ∧ stLt y.at_ a := by simp [lessL]

theorem less_kept {c : List (St × Ch)} {all : List RMv} (hK : Kept c all) (a : St) : RisC (addAll (lessL all a)).1 ∧ ∀ z, z ∈ (addAll (lessL all a)).1 ↔ z ∈ c ∧ stLt z.1 a := by
  have hK2 := addAll_kept (lessL all a)
  have h2 : (addAll (lessL all a)).2 = lessL all a := addAll_all _ (fun x hx => hK.good x (mem_lessL.1 hx).1) (hK.apart.filter _)
  refine ⟨hK2.ris, fun z => ?_⟩
  rw [hK2.mem, h2, hK.mem]
  constructor
  · rintro ⟨y, hy, rfl⟩
    have := mem_lessL.1 hy
    exact ⟨⟨y, this.1, rfl⟩, this.2⟩
  · rintro ⟨⟨y, hy, rfl⟩, hlt⟩
    exact ⟨y, mem_lessL.2 ⟨hy, hlt⟩, rfl⟩

/-- The moves: those of lesser stamps, x, the others. -/
theorem less_split {c : List (St × Ch)} {all : List RMv} (hK : Kept c all) {x : RMv} (hx : x ∈ all) : ∃ c2, c = (addAll (lessL all x.at_)).1 ++ (x.at_, x.ch) :: c2 := by
  have hxc : (x.at_, x.ch) ∈ c := (hK.mem _).2 ⟨x, hx, rfl⟩
  obtain ⟨c1, c2, hc⟩ := List.append_of_mem hxc
  refine ⟨c2, ?_⟩
  obtain ⟨h1, h2⟩ := less_kept hK x.at_
  have hr := hK.ris
  rw [hc] at hr
  have hp := List.pairwise_append.1 hr
  have hp2 := List.pairwise_cons.1 hp.2.1
  have : (addAll (lessL all x.at_)).1 = c1 := ris_ext h1 hp.1 (fun z => by
    rw [h2, hc]
    constructor
    · rintro ⟨hz, hlt⟩
      rcases List.mem_append.1 hz with hz | hz
      · exact hz
      · rcases List.mem_cons.1 hz with rfl | hz
        · exact absurd hlt (stLt_irrefl _)
        · exact absurd (stLt_trans hlt (hp2.1 z hz)) (stLt_irrefl _)
    · intro hz
      exact ⟨List.mem_append.2 (.inl hz), hp.2.2 z hz (x.at_, x.ch) (by simp)⟩)
  rw [this, hc]

theorem takes_all {c : List (St × Ch)} {all : List RMv} (hK : Kept c all) {x : RMv} (hx : x ∈ all) : tookC c x.at_ = tookH (hang (addAll (lessL all x.at_)).1) x.ch := by
  obtain ⟨c2, hc⟩ := less_split hK hx
  have h2 := (less_kept hK x.at_).2
  generalize (addAll (lessL all x.at_)).1 = cu at *
  have hi : c[cu.length]? = some (x.at_, x.ch) := by rw [hc]; simp
  rw [tookC_found hi (fun j y hj hy e => ?_), hc]
  · simp
  · rw [hc, List.getElem?_append_left hj] at hy
    have := ((h2 y).1 (List.mem_of_getElem? hy)).2
    rw [e] at this
    exact stLt_irrefl _ this

section
variable {cu : List (St × Ch)} {x : RMv}
theorem insC_last : ∀ {cu : List (St × Ch)} {y : St × Ch}, (∀ z ∈ cu, stLt z.1 y.1) → insC cu y = cu ++ [y]
  | [], y, _ => insC_nil y
  | z :: cu, y, h => by
    unfold insC
    rw [if_pos (h z (by simp)), insC_last (fun z' hz' => h z' (by simp [hz']))]
    rfl
theorem less_code (hg : goodB x.at_ x.block x.under = true) (hl : ∀ z ∈ cu, stLt z.1 x.at_) : moveCode cu x.at_ x.block x.under = 0 :=
  moveCode_ok hg (fun z hz e => by have := hl z hz; rw [e] at this; exact stLt_irrefl _ this)
theorem less_add (hg : goodB x.at_ x.block x.under = true) (hl : ∀ z ∈ cu, stLt z.1 x.at_) : addC cu x.at_ x.ch = cu ++ [(x.at_, x.ch)] := by
  rw [addC_ok (show moveCode cu x.at_ x.ch.block x.ch.under = 0 from less_code hg hl), insC_last hl]
theorem less_took (hl : ∀ z ∈ cu, stLt z.1 x.at_) : tookC (cu ++ [(x.at_, x.ch)]) x.at_ = tookH (hang cu) x.ch :=
  tookC_snoc (x := (x.at_, x.ch)) (fun y hy e => by have := hl y hy; rw [e] at this; exact stLt_irrefl _ this)
theorem less_hang (ht : tookH (hang cu) x.ch = true) : hang (cu ++ [(x.at_, x.ch)]) x.block = some x.ch := by
  rw [hang_snoc, stepH_took ht]
  exact setH_same _ _ _
end

/-! ### The way up is no longer than the moves are many -/
theorem ends_fun {h : Hang} : ∀ (n m : Nat) (u : St), Ends h n u → Ends h m u → n = m
  | 0, 0, _, _, _ => rfl
  | 0, m + 1, u, h1, ⟨c, hc, _⟩ => by rw [show h u = none from h1] at hc; cases hc
  | n + 1, 0, u, ⟨c, hc, _⟩, h2 => by rw [show h u = none from h2] at hc; cases hc
  | n + 1, m + 1, u, ⟨c, hc, h1⟩, ⟨d, hd, h2⟩ => by
    rw [hc] at hd
    cases hd
    rw [ends_fun n m _ h1 h2]
theorem nodup_sub {α : Type} [DecidableEq α] : ∀ (l m : List α), l.Nodup → (∀ x ∈ l, x ∈ m) → l.length ≤ m.length
  | [], m, _, _ => Nat.zero_le _
  | x :: l, m, hn, hs => by
    have hx := hs x (by simp)
    have h1 := List.nodup_cons.1 hn
    have := nodup_sub l (m.erase x) h1.2 (fun y hy => (List.mem_erase_of_ne (fun e => h1.1 (by rw [← e]; exact hy))).2 (hs y (by simp [hy])))
    rw [List.length_erase_of_mem hx] at this
    have : 0 < m.length := List.length_pos_of_mem hx
    simp only [List.length_cons]
    omega
/-- The blocks on the way up that hang somewhere. -/
theorem ends_path {h : Hang} : ∀ (n : Nat) (u : St), Ends h n u → ∃ p : List St, p.length = n ∧ p.Nodup ∧ ∀ b ∈ p, (∃ c, h b = some c) ∧ ∃ k, k ≤ n ∧ Ends h k b
  | 0, u, _ => ⟨[], rfl, List.nodup_nil, fun b hb => by simp at hb⟩
  | n + 1, u, he => by
    obtain ⟨c, hc, hn⟩ := id he
    obtain ⟨p, h1, h2, h3⟩ := ends_path n c.under hn
    refine ⟨u :: p, by simp [h1], List.nodup_cons.2 ⟨fun hu => ?_, h2⟩, fun b hb => ?_⟩
    · obtain ⟨_, k, hk, hE⟩ := h3 u hu
      have := ends_fun _ _ _ he hE
      omega
    · rcases List.mem_cons.1 hb with rfl | hb
      · exact ⟨⟨c, hc⟩, n + 1, Nat.le_refl _, he⟩
      · obtain ⟨h4, k, hk, hE⟩ := h3 b hb
        exact ⟨h4, k, by omega, hE⟩
theorem hang_mem (c : List (St × Ch)) : ∀ b d, hang c b = some d → b ∈ c.map (fun z => z.2.block) := by
  refine snoc_rec (p := fun c => ∀ b d, hang c b = some d → b ∈ c.map (fun z => z.2.block)) ?_ ?_ c
  · intro b d h; rw [hang_nil] at h; cases h
  · intro c x ih b d h
    rw [hang_snoc] at h
    rw [List.map_append, List.mem_append]
    cases ht : tookH (hang c) x.2 with
    | false => rw [stepH_not ht] at h; exact .inl (ih b d h)
    | true =>
      rw [stepH_took ht] at h
      by_cases hb : b = x.2.block
      · exact .inr (by simp [hb])
      · rw [setH_other _ _ hb] at h; exact .inl (ih b d h)
theorem hang_ends (c : List (St × Ch)) (u : St) : ∃ k, k ≤ c.length ∧ Ends (hang c) k u := by
  obtain ⟨k, hk⟩ := acyc_play (c.map (·.2)) u
  refine ⟨k, ?_, hk⟩
  obtain ⟨p, h1, h2, h3⟩ := ends_path k u hk
  have := nodup_sub p (c.map (fun z => z.2.block)) h2 (fun b hb => by
    obtain ⟨⟨d, hd⟩, _⟩ := h3 b hb
    exact hang_mem c b d hd)
  rw [List.length_map] at this
  omega

/-- What the law's own walk up knows, ahead of and behind its look at u. -/
def RingIs (h : Hang) (x : RMv) (r : Bool) (u : St) : Prop := (r = true ∧ Up h x.under x.block) ∨ (r = false ∧ (Up h x.under x.block ↔ Up h u x.block))
def RingB (h : Hang) (x : RMv) (r : Bool) (u : St) : Prop := (r = true ∧ Up h x.under x.block) ∨ (r = false ∧ u ≠ x.block ∧ (Up h x.under x.block ↔ Up h u x.block))
theorem RingIs.start (h : Hang) (x : RMv) : RingIs h x false x.under := .inr ⟨rfl, Iff.rfl⟩
theorem RingIs.look {h : Hang} {x : RMv} {r : Bool} {u : St} (k : RingIs h x r u) : RingB h x (r || decide (u = x.block)) u := by
  rcases k with ⟨rfl, hu⟩ | ⟨rfl, hu⟩
  · exact .inl ⟨rfl, hu⟩
  · by_cases he : u = x.block
    · exact .inl ⟨by simp [he], hu.2 (by rw [he]; exact .refl _)⟩
    · exact .inr ⟨by simp [he], he, hu⟩
theorem RingB.next {h : Hang} {x : RMv} {r : Bool} {u : St} {d : Ch} (k : RingB h x r u) (hd : h u = some d) : RingIs h x r d.under := by
  rcases k with ⟨rfl, hu⟩ | ⟨rfl, hn, hu⟩
  · exact .inl ⟨rfl, hu⟩
  · exact .inr ⟨rfl, hu.trans (up_some hd hn)⟩
theorem RingB.last {h : Hang} {x : RMv} {r : Bool} {u : St} (k : RingB h x r u) (hd : h u = none) : tookH h x.ch = !r := by
  rcases k with ⟨rfl, hu⟩ | ⟨rfl, hn, hu⟩
  · exact tookH_of hu
  · exact tookH_of_not (fun e => up_none hd hn (hu.1 e))

end Go.Proofs.Ytilonmpcifohiaa
