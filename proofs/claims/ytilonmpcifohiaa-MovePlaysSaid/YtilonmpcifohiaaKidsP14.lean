/- Layer 14, plain: what All and Kids tell. -/
import Derived.Test.YtilonmpcifohiaaTells14
import Derived.Test.YtilonmpcifohiaaKeySort14
import Derived.Test.YtilonmpcifohiaaDelete14
namespace Go.Proofs.Ytilonmpcifohiaa
open Go.RowKit
set_option linter.unusedSimpArgs false
set_option linter.unusedVariables false

/-- Each block is told under its own stamp. -/
def Keyed (h : Hang) : Prop := ∀ k c, h k = some c → c.block = k
theorem keyed_nil : Keyed (fun _ => none) := fun k c h => by cases h
theorem keyed_step {h : Hang} (hk : Keyed h) (c : Ch) : Keyed (stepH h c) := by
  cases ht : tookH h c with
  | false => rw [stepH_not ht]; exact hk
  | true =>
    rw [stepH_took ht]
    intro k d hd
    by_cases e : k = c.block
    · subst e; rw [setH_same] at hd; cases hd; rfl
    · rw [setH_other _ _ e] at hd; exact hk k d hd
theorem keyed_play (cs : List Ch) : Keyed (play cs) := by
  have : ∀ (cs : List Ch) (h : Hang), Keyed h → Keyed (cs.foldl stepH h) := fun cs => by
    induction cs with
    | nil => intro h ha; exact ha
    | cons c cs ih => intro h ha; exact ih _ (keyed_step ha c)
  exact this cs _ keyed_nil
/-- What hangs somewhere was moved. -/
theorem play_mem : ∀ (cs : List Ch) (h : Hang) (k : St) (c : Ch), cs.foldl stepH h k = some c → c ∈ cs ∨ h k = some c
  | [], h, k, c, e => .inr e
  | d :: cs, h, k, c, e => by
    rcases play_mem cs (stepH h d) k c e with m | m
    · exact .inl (List.mem_cons_of_mem _ m)
    · cases ht : tookH h d with
      | false => rw [stepH_not ht] at m; exact .inr m
      | true =>
        rw [stepH_took ht] at m
        by_cases e : k = d.block
        · subst e; rw [setH_same] at m; cases m; exact .inl (List.mem_cons_self ..)
        · rw [setH_other _ _ e] at m; exact .inr m

theorem aget_in {K V : Type} [DecidableEq K] {l : List (K × V)} {k : K} {v : V} (h : aget l k = some v) : (k, v) ∈ l := by
  induction l with
  | nil => cases h
  | cons p r ih =>
    obtain ⟨k', v'⟩ := p
    simp only [aget] at h
    split at h
    · rename_i e; subst e; cases h; exact List.mem_cons_self ..
    · exact List.mem_cons_of_mem _ (ih h)
theorem mem_aget {K V : Type} [DecidableEq K] {l : List (K × V)} {k : K} {v : V} (hn : (l.map (·.1)).Nodup) (h : (k, v) ∈ l) : aget l k = some v := by
  induction l with
  | nil => cases h
  | cons p r ih =>
    obtain ⟨k', v'⟩ := p
    simp only [List.map_cons, List.nodup_cons] at hn
    rcases List.mem_cons.1 h with e | e
    · cases e; simp [aget]
    · have hne : k' ≠ k := fun e2 => hn.1 (by rw [e2]; exact List.mem_map.2 ⟨_, e, rfl⟩)
      simp only [aget, if_neg hne]
      exact ih hn.2 e

/-- All blocks that hang somewhere, by their stamps. -/
def AllOf (h : Hang) (l : List Ch) : Prop := (∀ c, c ∈ l ↔ h c.block = some c) ∧ l.Pairwise (fun a b => stLt a.block b.block)
/-- By keys, of one key by stamps. -/
def kidLt (a b : Ch) : Prop := keyB a < keyB b ∨ (keyB a = keyB b ∧ stLt a.block b.block)
/-- What hangs under a block. -/
def KidsOf (h : Hang) (u : St) (l : List Ch) : Prop := (∀ c, c ∈ l ↔ h c.block = some c ∧ c.under = u) ∧ l.Pairwise kidLt

theorem kidLt_irrefl (a : Ch) : ¬ kidLt a a := by
  rintro (h | ⟨_, h⟩)
  · exact List.lt_irrefl _ h
  · exact stLt_irrefl _ h
theorem kidLt_trans {a b c : Ch} (h : kidLt a b) (k : kidLt b c) : kidLt a c := by
  rcases h with h | ⟨e, h⟩ <;> rcases k with k | ⟨e2, k⟩
  · exact .inl (List.lt_trans h k)
  · exact .inl (by rw [← e2]; exact h)
  · exact .inl (by rw [e]; exact k)
  · exact .inr ⟨e.trans e2, stLt_trans h k⟩
theorem kidLt_total (a b : Ch) : kidLt a b ∨ a.block = b.block ∨ kidLt b a := by
  by_cases h1 : keyB a < keyB b
  · exact .inl (.inl h1)
  · by_cases h2 : keyB b < keyB a
    · exact .inr (.inr (.inl h2))
    · have e := list_total _ _ h1 h2
      rcases stLt_total a.block b.block with t | t | t
      · exact .inl (.inr ⟨e, t⟩)
      · exact .inr (.inl t)
      · exact .inr (.inr (.inr ⟨e.symm, t⟩))

/-- Two lists that stand by one order and have the same members are one. -/
theorem sorted_unique {α : Type} {R : α → α → Prop} (irr : ∀ a, ¬ R a a) (tr : ∀ a b c, R a b → R b c → R a c) : ∀ {l l' : List α}, l.Pairwise R → l'.Pairwise R → (∀ x, x ∈ l ↔ x ∈ l') → l = l'
  | [], [], _, _, _ => rfl
  | [], y :: l', _, _, h => absurd ((h y).2 (List.mem_cons_self ..)) (by simp)
  | x :: l, [], _, _, h => absurd ((h x).1 (List.mem_cons_self ..)) (by simp)
  | x :: l, y :: l', h1, h2, h => by
    rw [List.pairwise_cons] at h1 h2
    have e : x = y := by
      rcases List.mem_cons.1 ((h x).1 (List.mem_cons_self ..)) with e | e
      · exact e
      · rcases List.mem_cons.1 ((h y).2 (List.mem_cons_self ..)) with e' | e'
        · exact e'.symm
        · exact absurd (tr _ _ _ (h2.1 x e) (h1.1 y e')) (irr _)
    subst e
    congr 1
    refine sorted_unique irr tr h1.2 h2.2 fun z => ?_
    constructor
    · intro hz
      rcases List.mem_cons.1 ((h z).1 (List.mem_cons_of_mem _ hz)) with e | e
      · rw [e] at hz; exact absurd (h1.1 x hz) (irr _)
      · exact e
    · intro hz
      rcases List.mem_cons.1 ((h z).2 (List.mem_cons_of_mem _ hz)) with e | e
      · rw [e] at hz; exact absurd (h2.1 x hz) (irr _)
      · exact e
theorem AllOf.unique {h : Hang} {l l' : List Ch} (a : AllOf h l) (b : AllOf h l') : l = l' :=
  sorted_unique (R := fun a b : Ch => stLt a.block b.block) (fun x => stLt_irrefl x.block) (fun _ _ _ h k => stLt_trans h k) a.2 b.2 fun c => (a.1 c).trans (b.1 c).symm
theorem KidsOf.unique {h : Hang} {u : St} {l l' : List Ch} (a : KidsOf h u l) (b : KidsOf h u l') : l = l' :=
  sorted_unique kidLt_irrefl (fun _ _ _ h k => kidLt_trans h k) a.2 b.2 fun c => (a.1 c).trans (b.1 c).symm

theorem all_of_pairs {hl : List (St × Ch)} {h : Hang} {l : List Ch} (hk : Keyed h) (ha : Agree hl h) (hn : (hl.map (·.1)).Nodup) (hp : l.Perm (hl.map (·.2))) (hs : l.Pairwise (fun a b => ¬ stLt b.block a.block)) : AllOf h l := by
  have hm : ∀ c, c ∈ l ↔ h c.block = some c := fun c => by
    rw [hp.mem_iff, List.mem_map]
    constructor
    · rintro ⟨⟨k, d⟩, h1, rfl⟩
      have h2 := mem_aget hn h1
      rw [ha k] at h2
      have := hk k d h2
      simp only
      rw [this]; exact h2
    · intro hc
      rw [← ha] at hc
      exact ⟨_, aget_mem hc, rfl⟩
  refine ⟨hm, ?_⟩
  have hnb : (l.map Ch.block).Nodup := by
    rw [(hp.map Ch.block).nodup_iff, List.map_map]
    have : hl.map (Ch.block ∘ Prod.snd) = hl.map (·.1) := List.map_congr_left fun p hp' => by
      obtain ⟨k, d⟩ := p
      have h2 := mem_aget hn hp'
      rw [ha k] at h2
      exact hk k d h2
    rw [this]; exact hn
  rw [List.nodup_iff_pairwise_ne, List.pairwise_map] at hnb
  refine (hs.and hnb).imp fun {a b} hab => ?_
  rcases stLt_total a.block b.block with t | t | t
  · exact t
  · exact absurd t hab.2
  · exact absurd t hab.1
theorem agree_length {hl : List (St × Ch)} {cs : List Ch} (ha : Agree hl (play cs)) (hn : (hl.map (·.1)).Nodup) : hl.length ≤ cs.length := by
  have := hn.length_le_of_subset (l₂ := cs.map Ch.block) fun k hk => by
    obtain ⟨⟨k', d⟩, h1, rfl⟩ := List.mem_map.1 hk
    have h2 := mem_aget hn h1
    rw [ha] at h2
    have hb := keyed_play cs k' d h2
    rcases play_mem cs _ k' d h2 with m | m
    · exact List.mem_map.2 ⟨d, m, hb⟩
    · cases m
  simpa using this
theorem AllOf.length {cs : List Ch} {l : List Ch} (a : AllOf (play cs) l) : l.length ≤ cs.length := by
  have hn : l.Nodup := a.2.imp fun {x y} h e => by rw [e] at h; exact stLt_irrefl _ h
  refine hn.length_le_of_subset fun c hc => ?_
  rcases play_mem cs _ _ c ((a.1 c).1 hc) with m | m
  · exact m
  · cases m
theorem kids_of_all {h : Hang} {u : St} {l l' : List Ch} (a : AllOf h l) (hs : StableOf (· < ·) keyB (l.filter (underB u)) l') : KidsOf h u l' := by
  refine ⟨fun c => ?_, (hs.pairwise (a.2.filter _))⟩
  rw [hs.perm.mem_iff, List.mem_filter, a.1 c]
  simp [underB]

end Go.Proofs.Ytilonmpcifohiaa
