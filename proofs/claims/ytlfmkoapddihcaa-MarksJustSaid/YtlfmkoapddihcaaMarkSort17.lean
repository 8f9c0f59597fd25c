/- Layer 17: slices.SortStableFunc at marks, over the call's own slice. -/
import Derived.Test.YtlfmkoapddihcaaSta17E
import Derived.Test.YtlfmkoapddihcaaTags
namespace Go.Proofs.Ytlfmkoapddihcaa
open Go.RowKit
set_option linter.unusedSimpArgs false
set_option linter.unusedVariables false

instance : Inhabited Mark := ⟨⟨⟨⟨0, 0⟩, 0, 0, 0, 0, 0, 0, 0, 0, 0, ⟨0, 0⟩, 0, 0, ⟨0, 0⟩, ⟨#[]⟩, ⟨#[]⟩, ⟨#[]⟩, ⟨0, 0⟩, false, ⟨0, 0⟩, false⟩, 0, 0⟩⟩
def keyM (x : Mark) : St := x.op.id
theorem mark_ranks : Ranks (ltT stLt keyM) Prod.snd (fun x y : Mark × Nat => cfMark x.1 y.1) :=
  ranks_of_key stLt_irrefl (fun a b c h k => stLt_trans h k) stLt_total (fun x y => cmpS_lt _ _)

set_option maxHeartbeats 1000000 in
theorem sortStable_own {base : Nat} {w : World} {v : Value} {l : List Mark} (h : Own Mark.cells 28 78 base w v l) (hl : l.length ≤ 1000000) :
    Calls Try.prog 31 #[v, .func (.func 32) #[] #[]] w
      fun e w' => (∃ u, e = .returned u) ∧ Hid (∃ l', StableOf stLt keyM l l' ∧ Own Mark.cells 28 78 base w' v l') ∧ Ext (fun b => v.ownBlock = some b) w w' := by
  rcases h.eq_slice with ⟨rfl, rfl⟩ | ⟨g, cap, rfl, hb, hg⟩
  · go_enter Try.func31, Try.ntmps31
    go_wp2_with fail
    refine (stable_none _ _ _).mono ?_
    rintro e w' ⟨⟨u, rfl⟩, rfl⟩
    have HO := Lib.hid h
    clear h
    go_wp2_with fail
    go_end0
    exact ⟨⟨_, rfl⟩, Lib.hid ⟨[], ⟨[], List.Perm.refl _, List.Pairwise.nil, rfl⟩, HO.out⟩, Ext.refl _ _⟩
  · obtain ⟨hS, hbg, hlc, hcm⟩ := Own.slab (ea := Mark.cells) (k := 28) (fun _ => rfl) h
    have hS2 : Slab celT 28 78 (cap * 28) w g l.length (tagF l) := hS
    have HC := Lib.hid (stable_any (tagF l) w hS2 mark_ranks hlc hcm hl (fun p q h1 _ => h1))
    have hll : (l.length : Int) ≤ 1000000 := by omega
    have HB := Lib.hid hbg
    have HL := Lib.hid hlc
    have HM := Lib.hid hcm
    clear h hS hS2 hb hbg hlc hcm hl
    go_enter Try.func31, Try.ntmps31
    go_wp2_with fail
    refine HC.out.mono ?_
    rintro e w' ⟨⟨u, rfl⟩, hq, hx⟩
    clear HC
    have HX := Lib.hid hx
    clear hx
    go_wp2_with fail
    go_end0
    obtain ⟨f, h1, h2, h3⟩ := hq.out
    refine ⟨⟨_, rfl⟩, Lib.hid ⟨((List.range l.length).map f).map (·.1), ⟨_, by rw [← tag_list]; exact h2.list, h3.list, rfl⟩, ?_⟩, HX.out.mono (fun b _ e => by rw [e]; rfl)⟩
    have h4 : Slab Mark.cells 28 78 (cap * 28) w' g l.length (fun i => (f i).1) := h1
    have := Slab.own (ea := Mark.cells) (k := 28) (fun _ => rfl) (by omega) h4 HB.out HL.out HM.out
    rw [List.map_map]
    have e1 : ((List.range l.length).map (Prod.fst ∘ f)).length = l.length := by simp
    exact this
end Go.Proofs.Ytlfmkoapddihcaa
