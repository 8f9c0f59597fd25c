/- Layer 14: slices.SortStableFunc at Kids' own comparison, over the call's own slice. -/
import Derived.Test.YtilonmpcifohiaaSta14E
import Derived.Test.YtilonmpcifohiaaTags
namespace Go.Proofs.Ytilonmpcifohiaa
open Go.RowKit
set_option linter.unusedSimpArgs false
set_option linter.unusedVariables false

instance : Inhabited Ch := ⟨⟨⟨0, 0⟩, ⟨0, 0⟩, ⟨#[]⟩⟩⟩
def keyB (c : Ch) : List UInt8 := c.key.toList
theorem cfKey_lt (x y : Ch) : cfKey x y < 0 ↔ keyB x < keyB y := by
  have := ltB x.key y.key
  unfold cfKey keyB
  constructor
  · intro h; rw [decide_eq_true h] at this; exact of_decide_eq_true this.symm
  · intro h; rw [decide_eq_true h] at this; exact of_decide_eq_true this
theorem key_ranks : Ranks (ltT (· < ·) keyB) Prod.snd (fun x y : Ch × Nat => cfKey x.1 y.1) :=
  ranks_of_key (fun a => List.lt_irrefl a) (fun a b c h k => List.lt_trans h k) (fun a b => by
    by_cases h1 : a < b
    · exact .inl h1
    · by_cases h2 : b < a
      · exact .inr (.inr h2)
      · exact .inr (.inl (list_total a b h1 h2))) cfKey_lt

set_option maxHeartbeats 1000000 in
theorem sortStable_own {base : Nat} {w : World} {v : Value} {l : List Ch} (h : Own Ch.cells 5 36 base w v l) (hl : l.length ≤ 1000000) :
    Calls Try.prog 40 #[v, .func (.func 41) #[] #[]] w
      fun e w' => (∃ u, e = .returned u) ∧ Hid (∃ l', StableOf (· < ·) keyB l l' ∧ Own Ch.cells 5 36 base w' v l') ∧ Ext (fun b => v.ownBlock = some b) w w' := by
  rcases h.eq_slice with ⟨rfl, rfl⟩ | ⟨g, cap, rfl, hb, hg⟩
  · go_enter Try.func40, Try.ntmps40
    go_wp2_with fail
    refine (stable_none _ _ _).mono ?_
    rintro e w' ⟨⟨u, rfl⟩, rfl⟩
    have HO := Lib.hid h
    clear h
    go_wp2_with fail
    go_end0
    exact ⟨⟨_, rfl⟩, Lib.hid ⟨[], ⟨[], List.Perm.refl _, List.Pairwise.nil, rfl⟩, HO.out⟩, Ext.refl _ _⟩
  · obtain ⟨hS, hbg, hlc, hcm⟩ := Own.slab (ea := Ch.cells) (k := 5) (fun _ => rfl) h
    have hS2 : Slab celT 5 36 (cap * 5) w g l.length (tagF l) := hS
    have HC := Lib.hid (stable_any (tagF l) w hS2 key_ranks hlc hcm hl (fun p q h1 _ => h1))
    have hll : (l.length : Int) ≤ 1000000 := by omega
    have HB := Lib.hid hbg
    have HL := Lib.hid hlc
    have HM := Lib.hid hcm
    clear h hS hS2 hb hbg hlc hcm hl
    go_enter Try.func40, Try.ntmps40
    go_wp2_with fail
    refine HC.out.mono ?_
    rintro e w' ⟨⟨u, rfl⟩, hq, hx⟩
    clear HC
    have HX := Lib.hid hx
    clear hx
    go_wp2_with fail
    go_end0
    obtain ⟨f, h1, h2, h3⟩ := hq.out
    refine ⟨⟨_, rfl⟩, Lib.hid ⟨((List.range l.length).map f).map (·.1), ⟨_, by rw [← tag_list]; exact h2.list, h3.list, rfl⟩, ?_⟩, HX.out.mono (fun b _ e => by rw [e]; rfl)⟩
    have h4 : Slab Ch.cells 5 36 (cap * 5) w' g l.length (fun i => (f i).1) := h1
    have := Slab.own (ea := Ch.cells) (k := 5) (fun _ => rfl) (by omega) h4 HB.out HL.out HM.out
    rw [List.map_map]
    have e1 : ((List.range l.length).map (Prod.fst ∘ f)).length = l.length := by simp
    exact this
end Go.Proofs.Ytilonmpcifohiaa
