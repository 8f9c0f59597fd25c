/- Layer 14: what a law over moves and kids carries along. -/
import Derived.Test.YtilonmpcifohiaaKids14
import Derived.Test.YtilonmpcifohiaaPlainLast14
import Derived.Test.YtilonmpcifohiaaEq14
namespace Go.Proofs.Ytilonmpcifohiaa
open Go.RowKit
set_option linter.unusedSimpArgs false
set_option linter.unusedVariables false

theorem SliceIs.scells {w : World} {v : Value} {l : List St} (h : SliceIs St.cells 2 w v l) (hne : l ≠ []) : ∃ b o cap, v = .slice (some ⟨b, o, none⟩) l.length cap ∧ ∀ i x, l[i]? = some x → w.cell? ⟨b, o + i * 2, none⟩ = some (.int .i64 x.n) ∧ w.cell? ⟨b, o + i * 2 + 1, none⟩ = some (.int .i64 x.r) := by
  obtain ⟨a, cap, rfl, _, _, h4⟩ := h
  obtain ⟨b, o, rfl, h6⟩ := h4 hne
  exact ⟨b, o, cap, rfl, fun i x hi => ⟨h6 i x hi 0 _ rfl, h6 i x hi 1 _ rfl⟩⟩

theorem SliceIs.kcells {w : World} {v : Value} {K : List Ch} (h : SliceIs St.cells 2 w v (K.map Ch.block)) (hne : K ≠ []) : ∃ b o cap, v = .slice (some ⟨b, o, none⟩) K.length cap ∧ ∀ i y, K[i]? = some y → w.cell? ⟨b, o + i * 2, none⟩ = some (.int .i64 y.block.n) ∧ w.cell? ⟨b, o + i * 2 + 1, none⟩ = some (.int .i64 y.block.r) := by
  obtain ⟨b, o, cap, e, h2⟩ := h.scells (by simpa using hne)
  exact ⟨b, o, cap, by rw [e, List.length_map], fun i y hi => h2 i y.block (by rw [List.getElem?_map, hi]; rfl)⟩

theorem BoxC.cs {w : World} {b : Nat} {c : Ch} (h : BoxC w b c) : w.cell? ⟨b, 0, none⟩ = some (.int .i64 c.block.n) ∧ w.cell? ⟨b, 1, none⟩ = some (.int .i64 c.block.r) ∧ w.cell? ⟨b, 2, none⟩ = some (.int .i64 c.under.n) ∧ w.cell? ⟨b, 3, none⟩ = some (.int .i64 c.under.r) ∧ w.cell? ⟨b, 4, none⟩ = some (.string c.key) := by
  have h := show w.heap[b]? = _ from h
  simp [World.cell?, h, Ch.cells]
theorem BoxC.below {w w' : World} {b : Nat} {c : Ch} (h : BoxC w b c) (hb : Below w.heap.size w w') : BoxC w' b c := by
  have h := show w.heap[b]? = _ from h
  exact (hb.block b (Array.getElem?_eq_some_iff.1 h).1).trans h

/-- The tree, the moves that were taken, what Kids told, the block asked for. -/
structure KIn (base : Nat) (w : World) (c : List (St × Ch)) (all : List RMv) (va : Value) (K : List St) (kv : Value) (Z : Nat) (u : St) (wx : World) : Prop where
  tree : TreeHas base wx (base + 1) base c
  alls : SliceIs RMv.cells 7 wx va all
  kids : SliceIs St.cells 2 wx kv K
  box : BoxS wx Z u
  bel : Below w.heap.size w wx
section
variable {base : Nat} {w wx wy : World} {c : List (St × Ch)} {all : List RMv} {va kv : Value} {K : List St} {Z : Nat} {u : St}
theorem KIn.below (h : KIn base w c all va K kv Z u wx) (hb : Below wx.heap.size wx wy) : KIn base w c all va K kv Z u wy :=
  ⟨h.tree.below hb, h.alls.below hb, h.kids.below hb, h.box.below hb, h.bel.trans (hb.mono h.bel.size)⟩
end

theorem parent_some {base : Nat} {w : World} {mh : Nat} {c : List (St × Ch)} (t : Nat) (bn br : Int) {x : Ch} (hx : hang c ⟨bn, br⟩ = some x) (h : TreeHas base w t mh c) :
    Calls Try.prog 15 #[.pointer (some ⟨t, 0, none⟩), .agg #[.int .i64 bn, .int .i64 br]] w
      fun e w' => e = .returned (.tuple #[.agg #[.int .i64 x.block.n, .int .i64 x.block.r, .int .i64 x.under.n, .int .i64 x.under.r, .string x.key], .bool true]) ∧ Below w.heap.size w w' := by
  refine (parent_any t bn br w h).mono ?_
  rintro e w' ⟨y, is, rfl, hy, hb⟩
  rcases hy with ⟨rfl, h1⟩ | ⟨rfl, h1, _⟩
  · rw [hx] at h1; cases h1; exact ⟨rfl, hb⟩
  · rw [hx] at h1; cases h1
theorem parent_kid {base : Nat} {w : World} {mh : Nat} {c : List (St × Ch)} (t : Nat) {bn br un ur : Int} {k : ByteArray} (hx : hang c ⟨bn, br⟩ = some ⟨⟨bn, br⟩, ⟨un, ur⟩, k⟩) (h : TreeHas base w t mh c) :
    Calls Try.prog 15 #[.pointer (some ⟨t, 0, none⟩), .agg #[.int .i64 bn, .int .i64 br]] w
      fun e w' => e = .returned (.tuple #[.agg #[.int .i64 bn, .int .i64 br, .int .i64 un, .int .i64 ur, .string k], .bool true]) ∧ Below w.heap.size w w' := parent_some t bn br hx h
theorem parent_none {base : Nat} {w : World} {mh : Nat} {c : List (St × Ch)} (t : Nat) (bn br : Int) (hx : hang c ⟨bn, br⟩ = none) (h : TreeHas base w t mh c) :
    Calls Try.prog 15 #[.pointer (some ⟨t, 0, none⟩), .agg #[.int .i64 bn, .int .i64 br]] w
      fun e w' => e = .returned (.tuple #[.agg #[.int .i64 0, .int .i64 0, .int .i64 0, .int .i64 0, .string ⟨#[]⟩], .bool false]) ∧ Below w.heap.size w w' := by
  refine (parent_any t bn br w h).mono ?_
  rintro e w' ⟨y, is, rfl, hy, hb⟩
  rcases hy with ⟨rfl, h1⟩ | ⟨rfl, h1, rfl⟩
  · rw [hx] at h1; cases h1
  · exact ⟨rfl, hb⟩

theorem KidsOf.length {c : List (St × Ch)} {u : St} {K : List Ch} (h : KidsOf (hang c) u K) : K.length ≤ c.length := by
  have hn : K.Nodup := h.2.imp fun {x y} h e => by rw [e] at h; exact kidLt_irrefl _ h
  have := hn.length_le_of_subset (l₂ := c.map (fun p : St × Ch => p.2)) fun x hx => by
    rcases play_mem (c.map (fun p : St × Ch => p.2)) (fun _ => none) x.block x ((h.1 x).1 hx).1 with m | m
    · exact m
    · cases m
  simpa using this
theorem kids_le {c : List (St × Ch)} {all : List RMv} {u : St} {K : List Ch} (hK : Kept c all) (h : KidsOf (hang c) u K) (ha : all.length ≤ 60) : K.length ≤ 60 := by
  have := h.length; have := hK.len; omega
/-- Each one once, where it comes first. -/
def dd (l : List St) : List St := l.foldl (fun acc x => if x ∈ acc then acc else acc ++ [x]) []
theorem dd_nil : dd [] = [] := rfl
theorem mem_dd (l : List St) (x : St) : x ∈ dd l ↔ x ∈ l := by
  have : ∀ (l acc : List St), x ∈ l.foldl (fun acc x => if x ∈ acc then acc else acc ++ [x]) acc ↔ x ∈ acc ∨ x ∈ l := fun l => by
    induction l with
    | nil => intro acc; simp
    | cons y l ih =>
      intro acc
      rw [List.foldl_cons, ih]
      by_cases h : y ∈ acc
      · rw [if_pos h, List.mem_cons]
        constructor
        · rintro (h1 | h1)
          · exact .inl h1
          · exact .inr (.inr h1)
        · rintro (h1 | rfl | h1)
          · exact .inl h1
          · exact .inl h
          · exact .inr h1
      · rw [if_neg h]; simp only [List.mem_append, List.mem_singleton, List.mem_cons, or_assoc, List.not_mem_nil, or_false]
  have h := this l []
  simpa [dd] using h
theorem dd_snoc (l : List St) (x : St) : dd (l ++ [x]) = if x ∈ l then dd l else dd l ++ [x] := by
  have e : dd (l ++ [x]) = if x ∈ dd l then dd l else dd l ++ [x] := by unfold dd; rw [List.foldl_append]; rfl
  rw [e]
  by_cases h : x ∈ l
  · rw [if_pos h, if_pos ((mem_dd l x).2 h)]
  · rw [if_neg h, if_neg (fun k => h ((mem_dd l x).1 k))]
theorem dd_nodup (l : List St) : (dd l).Nodup := by
  refine snoc_rec (p := fun l => (dd l).Nodup) List.nodup_nil (fun l x ih => ?_) l
  rw [dd_snoc]
  split
  · exact ih
  · rename_i h
    rw [List.nodup_append]
    refine ⟨ih, by simp, fun a ha b hb => ?_⟩
    rw [List.mem_singleton.1 hb]
    rintro rfl
    exact h ((mem_dd l a).1 ha)
/-- It hangs under u. -/
def hangsU (h : Hang) (u : St) (b : St) : Bool := match h b with
  | some y => decide (y.under = u)
  | none => false
/-- How many of the blocks of the first moves hang under u. -/
def kidsN (h : Hang) (u : St) (l : List RMv) : Nat := ((dd (l.map RMv.block)).filter (hangsU h u)).length
theorem kidsN_snoc (h : Hang) (u : St) (l : List RMv) (x : RMv) : kidsN h u (l ++ [x]) = kidsN h u l + if x.block ∉ l.map RMv.block ∧ hangsU h u x.block = true then 1 else 0 := by
  unfold kidsN
  rw [List.map_append, List.map_cons, List.map_nil, dd_snoc]
  by_cases h1 : x.block ∈ l.map RMv.block
  · rw [if_pos h1, if_neg (fun k => k.1 h1)]; rfl
  · rw [if_neg h1, List.filter_append, List.length_append]
    by_cases h2 : hangsU h u x.block = true
    · rw [if_pos ⟨h1, h2⟩]; simp [h2]
    · rw [if_neg (fun k => h2 k.2)]; simp [h2]
theorem kidsN_le (h : Hang) (u : St) (l : List RMv) : kidsN h u l ≤ l.length := by
  refine snoc_rec (p := fun l => kidsN h u l ≤ l.length) (Nat.le_refl _) (fun l x ih => ?_) l
  rw [kidsN_snoc, List.length_append]
  split <;> simp <;> omega
theorem kidsN_all {c : List (St × Ch)} {all : List RMv} {u : St} {K : List Ch} (hK : Kept c all) (hk : KidsOf (hang c) u K) : kidsN (hang c) u all = K.length := by
  have key : ∀ k d, hang c k = some d → d.block = k := keyed_play _
  have hn : (K.map Ch.block).Nodup := by
    rw [List.nodup_iff_pairwise_ne, List.pairwise_map]
    refine (hk.2.imp_of_mem fun {a b} ha hb hab e => ?_)
    have h1 := ((hk.1 a).1 ha).1
    have h2 := ((hk.1 b).1 hb).1
    rw [e, h2] at h1
    cases h1
    exact kidLt_irrefl _ hab
  have hp : ((dd (all.map RMv.block)).filter (hangsU (hang c) u)).Perm (K.map Ch.block) := by
    refine (List.perm_ext_iff_of_nodup ((dd_nodup _).filter _) hn).2 fun b => ?_
    rw [List.mem_filter, mem_dd]
    constructor
    · rintro ⟨_, hb⟩
      unfold hangsU at hb
      split at hb
      · rename_i y hy
        have e := key b y hy
        subst e
        exact List.mem_map.2 ⟨y, (hk.1 y).2 ⟨hy, of_decide_eq_true hb⟩, rfl⟩
      · cases hb
    · intro hb'
      obtain ⟨y, hy, rfl⟩ := List.mem_map.1 hb'
      obtain ⟨h1, h2⟩ := (hk.1 y).1 hy
      refine ⟨List.mem_map.2 ?_, by unfold hangsU; rw [h1]; simpa using h2⟩
      rcases play_mem (c.map (fun p : St × Ch => p.2)) (fun _ => none) y.block y h1 with m | m
      · obtain ⟨z, hz, rfl⟩ := List.mem_map.1 m
        obtain ⟨x, hx, rfl⟩ := (hK.mem z).1 hz
        exact ⟨x, hx, rfl⟩
      · cases m
  have := hp.length_eq
  rw [List.length_map] at this
  exact this

theorem beq_bytes_ne {a b : ByteArray} (h : a ≠ b) : (a == b) = false := by
  rw [show (a == b) = (a.data == b.data) from by cases a; cases b; rfl, beq_eq_false_iff_ne]; intro e; exact h (by cases a; cases b; cases e; rfl)
theorem pair_at {α : Type} {R : α → α → Prop} {l : List α} (h : l.Pairwise R) {i j : Nat} {a b : α} (hij : i < j) (ha : l[i]? = some a) (hb : l[j]? = some b) : R a b := by
  obtain ⟨h1, rfl⟩ := List.getElem?_eq_some_iff.1 ha
  obtain ⟨h2, rfl⟩ := List.getElem?_eq_some_iff.1 hb
  exact List.pairwise_iff_getElem.1 h i j h1 h2 hij

end Go.Proofs.Ytilonmpcifohiaa
