/- Layer 17: the reference's Has: what an element has, by rising names. -/
import Derived.Test.YtlfmkoapddihcaaRefC17
import Derived.Deep.RegionLaw
namespace Go.Proofs.Ytlfmkoapddihcaa
open Go.RowKit
set_option linter.unusedSimpArgs false
set_option linter.unusedVariables false

theorem flat_set2 (l : List Atr) (i : Nat) (x : Atr) (hi : i < l.length) : ((l.flatMap Atr.cells).set (i * 2) (.string x.name)).set (i * 2 + 1) (.string x.value) = (l.set i x).flatMap Atr.cells := by
  induction l generalizing i with
  | nil => simp at hi
  | cons y l ih =>
    cases i with
    | zero => simp [Atr.cells]
    | succ i =>
      have := ih i (by simpa using hi)
      rw [List.set_cons_succ, List.flatMap_cons, List.flatMap_cons, ← this]
      show (([.string y.name, .string y.value] ++ _ : List Value).set _ _).set _ _ = [.string y.name, .string y.value] ++ _
      rw [show (i + 1) * 2 = i * 2 + 1 + 1 from by omega]
      rfl

theorem own_set2 {base : Nat} {w : World} {g cap : Nat} {l : List Atr} (h : Own Atr.cells 2 51 base w (.slice (some ⟨g, 0, none⟩) l.length cap) l) (i : Nat) (x : Atr) (hi : i < l.length) :
    Own Atr.cells 2 51 base ((w.setCell ⟨g, i * 2, none⟩ (.string x.name)).setCell ⟨g, i * 2 + 1, none⟩ (.string x.value)) (.slice (some ⟨g, 0, none⟩) l.length cap) (l.set i x) := by
  have h1 := (World.ownsRow.stored h (i * 2) (.string x.name)).1
  have h2 := (World.ownsRow.stored h1 (i * 2 + 1) (.string x.value)).1
  unfold Own
  rw [← flat_set2 l i x hi, List.length_set]
  exact h2

/-- a moved down to place k in O. -/
def insAt (O : List Atr) (a : Atr) (k : Nat) : List Atr := O.take k ++ a :: O.drop k

theorem insAt_len (O : List Atr) (a : Atr) (k : Nat) (h : k ≤ O.length) : (insAt O a k).length = O.length + 1 := by
  simp [insAt]; omega
theorem insAt_at (O : List Atr) (a : Atr) (k : Nat) (h : k ≤ O.length) : (insAt O a k)[k]? = some a := by
  rw [insAt, List.getElem?_append_right (by simp; omega)]
  simp [Nat.min_eq_left h]
theorem insAt_before (O : List Atr) (a : Atr) (k : Nat) (h : k < O.length) : (insAt O a (k + 1))[k]? = O[k]? := by
  rw [insAt, List.getElem?_append_left (by simp; omega), List.getElem?_take, if_pos (by omega)]
theorem insAt_swap (O : List Atr) (a c : Atr) (k : Nat) (h : O[k]? = some c) : ((insAt O a (k + 1)).set (k + 1) c).set k a = insAt O a k := by
  obtain ⟨hk, hc⟩ := List.getElem?_eq_some_iff.1 h
  have hlen : k < O.length := hk
  refine List.ext_getElem? fun j => ?_
  have e1 : O.drop k = c :: O.drop (k + 1) := by rw [List.drop_eq_getElem_cons hk, hc]
  have e2 : O.take (k + 1) = O.take k ++ [c] := by rw [List.take_succ_eq_append_getElem hk, hc]
  have e3 : insAt O a (k + 1) = O.take k ++ [c, a] ++ O.drop (k + 1) := by simp [insAt, e2]
  have e4 : insAt O a k = O.take k ++ [a, c] ++ O.drop (k + 1) := by simp [insAt, e1]
  have hl : (O.take k).length = k := by simp; omega
  rw [e3, e4, List.append_assoc, List.set_append_right _ _ (by rw [hl]; omega), hl, List.set_append_right _ _ (by rw [hl]; omega), hl]
  simp

theorem rising_insAt {O : List Atr} {a : Atr} {k : Nat} (hk : k ≤ O.length) (hO : O.Pairwise (fun x y => x.name.toList < y.name.toList)) (hd : ∀ x ∈ O.drop k, a.name.toList < x.name.toList) (ht : ∀ x ∈ O.take k, x.name.toList < a.name.toList) :
    (insAt O a k).Pairwise (fun x y => x.name.toList < y.name.toList) := by
  unfold insAt
  have h0 := hO
  rw [← List.take_append_drop k O, List.pairwise_append] at h0
  rw [List.pairwise_append, List.pairwise_cons]
  refine ⟨h0.1, ⟨hd, h0.2.1⟩, fun x hx y hy => ?_⟩
  rcases List.mem_cons.1 hy with rfl | hy
  · exact ht x hx
  · exact h0.2.2 x hx y hy

theorem mem_insAt {O : List Atr} {a x : Atr} {k : Nat} : x ∈ insAt O a k ↔ x = a ∨ x ∈ O := by
  unfold insAt
  rw [List.mem_append, List.mem_cons]
  have := List.take_append_drop k O
  constructor
  · rintro (h | h | h)
    · exact .inr (List.mem_of_mem_take h)
    · exact .inl h
    · exact .inr (List.mem_of_mem_drop h)
  · rintro (h | h)
    · exact .inr (.inl h)
    · rw [← this, List.mem_append] at h
      exact h.elim .inl (fun h => .inr (.inr h))

theorem own_attr {base : Nat} {w : World} {g n cap : Nat} {l : List Atr} (h : Own Atr.cells 2 51 base w (.slice (some ⟨g, 0, none⟩) n cap) l) :
    n = l.length ∧ n ≤ cap ∧ cap ≤ maxLen ∧ g < w.heap.size ∧ ∀ (i : Nat) (a : Atr), l[i]? = some a → w.cell? ⟨g, i * 2, none⟩ = some (.string a.name) ∧ w.cell? ⟨g, i * 2 + 1, none⟩ = some (.string a.value) ∧ w.frozen? ⟨g, i * 2, none⟩ = false ∧ w.frozen? ⟨g, i * 2 + 1, none⟩ = false := by
  rcases h.eq_slice with ⟨h1, _⟩ | ⟨g', cap', h1, _, hlt⟩
  · simp at h1
  · simp only [Value.slice.injEq, Option.some.injEq, Addr.mk.injEq, and_true] at h1
    obtain ⟨rfl, rfl, rfl⟩ := h1
    obtain ⟨va, vc, hv, h2, h3, h4⟩ := h.slice (fun _ => rfl)
    simp only [Value.slice.injEq, true_and] at hv
    obtain ⟨rfl, rfl⟩ := hv
    refine ⟨rfl, h2, h3, hlt, fun i a hi => ?_⟩
    obtain ⟨b, o, he, hc⟩ := h4 (by intro e; rw [e] at hi; simp at hi)
    simp only [Option.some.injEq, Addr.mk.injEq, and_true] at he
    obtain ⟨rfl, rfl⟩ := he
    have c1 := hc i a hi 0 _ rfl
    have c2 := hc i a hi 1 _ rfl
    rw [Nat.zero_add] at c1 c2
    exact ⟨c1, c2, World.ownsRow.frozenAt h _, World.ownsRow.frozenAt h _⟩

theorem own_set2n {base : Nat} {w : World} {g n cap : Nat} {l : List Atr} (h : Own Atr.cells 2 51 base w (.slice (some ⟨g, 0, none⟩) n cap) l) (i : Nat) (x : Atr) (hi : i < l.length) :
    Own Atr.cells 2 51 base ((w.setCell ⟨g, i * 2, none⟩ (.string x.name)).setCell ⟨g, i * 2 + 1, none⟩ (.string x.value)) (.slice (some ⟨g, 0, none⟩) n cap) (l.set i x) := by
  obtain ⟨rfl, _⟩ := own_attr h
  exact own_set2 h i x hi

theorem own_swap {base : Nat} {w : World} {g n cap : Nat} {O : List Atr} {a c : Atr} {k : Nat} (h : Own Atr.cells 2 51 base w (.slice (some ⟨g, 0, none⟩) n cap) (insAt O a (k + 1))) (hc : O[k]? = some c) :
    Own Atr.cells 2 51 base ((((w.setCell ⟨g, (k + 1) * 2, none⟩ (.string c.name)).setCell ⟨g, (k + 1) * 2 + 1, none⟩ (.string c.value)).setCell ⟨g, k * 2, none⟩ (.string a.name)).setCell ⟨g, k * 2 + 1, none⟩ (.string a.value)) (.slice (some ⟨g, 0, none⟩) n cap) (insAt O a k) := by
  have hk := (List.getElem?_eq_some_iff.1 hc).1
  have hl := insAt_len O a (k + 1) hk
  have h1 := own_set2n h (k + 1) c (by omega)
  have h3 := own_set2n h1 k a (by rw [List.length_set]; omega)
  rw [insAt_swap O a c k hc] at h3
  exact h3

/-- What was gathered of the first marks. -/
structure GathH (l : List El) (ms : List OpD) (i : Int) (k : Nat) (O : List Atr) : Prop where
  rising : O.Pairwise (fun x y => x.name.toList < y.name.toList)
  mem : ∀ a, a ∈ O ↔ a.value ≠ ⟨#[]⟩ ∧ ∃ q o, q < k ∧ Win l ms i a.name q o ∧ a.value = o.value

theorem GathH.zero (l : List El) (ms : List OpD) (i : Int) : GathH l ms i 0 [] := ⟨List.Pairwise.nil, fun a => by simp⟩
theorem GathH.skip {l : List El} {ms : List OpD} {i : Int} {k : Nat} {O : List Atr} {x : OpD} (h : GathH l ms i k O) (hx : ms[k]? = some x) (hn : ¬ (Win l ms i x.name k x ∧ x.value ≠ ⟨#[]⟩)) : GathH l ms i (k + 1) O := by
  refine ⟨h.rising, fun a => ?_⟩
  rw [h.mem a]
  constructor
  · rintro ⟨hv, q, o, hq, r⟩; exact ⟨hv, q, o, by omega, r⟩
  · rintro ⟨hv, q, o, hq, hw, e⟩
    by_cases hqk : q < k
    · exact ⟨hv, q, o, hqk, hw, e⟩
    · obtain rfl : q = k := by omega
      have h1 := hw.1
      rw [hx] at h1
      cases h1
      have h2 := hw.2.2.1
      exact absurd ⟨by rw [h2]; exact hw, by rw [← e]; exact hv⟩ hn
theorem GathH.fresh {l : List El} {ms : List OpD} {i : Int} {k : Nat} {O : List Atr} {x : OpD} (h : GathH l ms i k O) (hw : Win l ms i x.name k x) : ∀ a ∈ O, a.name.toList ≠ x.name.toList := by
  intro a ha e
  obtain ⟨_, q, o, hq, hw', _⟩ := (h.mem a).1 ha
  rw [(eq_bytes _ _).1 e] at hw'
  have := (hw.unique hw').1
  omega
theorem GathH.ins {l : List El} {ms : List OpD} {i : Int} {k : Nat} {O : List Atr} {x : OpD} (h : GathH l ms i k O) (hw : Win l ms i x.name k x) (hv : x.value ≠ ⟨#[]⟩) {j : Nat} (hj : j ≤ O.length)
    (hd : ∀ y ∈ O.drop j, x.name.toList < y.name.toList) (ht : ∀ y ∈ O.take j, y.name.toList < x.name.toList) : GathH l ms i (k + 1) (insAt O ⟨x.name, x.value⟩ j) := by
  refine ⟨rising_insAt hj h.rising hd ht, fun a => ?_⟩
  rw [mem_insAt, h.mem a]
  constructor
  · rintro (rfl | ⟨hv', q, o, hq, r⟩)
    · exact ⟨hv, k, x, by omega, hw, rfl⟩
    · exact ⟨hv', q, o, by omega, r⟩
  · rintro ⟨hv', q, o, hq, hw', e⟩
    by_cases hqk : q < k
    · exact .inr ⟨hv', q, o, hqk, hw', e⟩
    · obtain rfl : q = k := by omega
      left
      have h1 := hw'.1
      rw [hw.1] at h1
      cases h1
      obtain ⟨an, av⟩ := a
      have h2 := hw'.2.2.1
      simp only at h2 e
      rw [e, h2]
theorem GathH.hasL {l : List El} {ms : List OpD} {i : Int} {O : List Atr} (h : GathH l ms i ms.length O) : HasL l ms i O := by
  refine ⟨h.rising, fun a => ?_⟩
  rw [h.mem a]
  constructor
  · rintro ⟨hv, q, o, _, hw, e⟩; exact ⟨hv, q, o, hw, e⟩
  · rintro ⟨hv, q, o, hw, e⟩; exact ⟨hv, q, o, (List.getElem?_eq_some_iff.1 hw.1).1, hw, e⟩

set_option maxRecDepth 100000 in
set_option maxHeartbeats 4000000 in
theorem rhas_any (va vb : Option Addr) (ca cb : Nat) (l : List El) (ms : List OpD) (i : Int) (w : World) (hl : SliceIs El.cells 4 w (.slice va l.length ca) l) (hm : SliceIs OpD.cells 26 w (.slice vb ms.length cb) ms) (hln : l.length ≤ 1000) (hmn : ms.length ≤ 1000) (hi0 : 0 ≤ i) (hi1 : i ≤ 1000) :
    Calls Try.prog 25 #[.slice va l.length ca, .slice vb ms.length cb, .int .i64 i] w fun e w' => ∃ u O, e = .returned u ∧ Own Atr.cells 2 51 w.heap.size w' u O ∧ Hid (HasL l ms i O) ∧ Below w.heap.size w w' := by
  obtain ⟨i0, hi, hz0, hz1', hz2⟩ := info_parts info_attr
  obtain ⟨_, _, e0, hcap, hmax, hcs⟩ := id hm
  cases e0
  have HC := Lib.hid hcs
  have HL := Lib.hid hl
  have HM := Lib.hid hm
  clear hcs hm hl
  go_enter Try.func25, Try.ntmps25
  go_wp2_with fail
  go_loopg [7, 8] ms.length (fun g s iv wx => ∃ (k : Nat) (O : List Atr), g = ms.length - k ∧ k ≤ ms.length ∧ iv = .int .i64 k ∧ O.length ≤ k ∧ Hid (GathH l ms i k O) ∧ Own Atr.cells 2 51 w.heap.size wx s O ∧ Below w.heap.size w wx)
  case atStart => exact ⟨0, [], by omega, by omega, rfl, Nat.le_refl _, Lib.hid (GathH.zero l ms i), Own.nil, Below.refl _ _⟩
  case round =>
    obtain ⟨k, O, hg, hk, rfl, hol, hgath, hown, hB⟩ := hrel
    have HB := Lib.hid hB
    have HG := Lib.hid hg
    by_cases hlt : k < ms.length
    · obtain ⟨x, hx⟩ : ∃ x, ms[k]? = some x := ⟨_, List.getElem?_eq_getElem hlt⟩
      obtain ⟨b, o, rfl, hcc⟩ := HC.out (by intro e; rw [e] at hx; simp at hx)
      have hkp : ∀ {b o u}, w.cell? ⟨b, o, none⟩ = some u → wr.cell? ⟨b, o, none⟩ = some u := fun h => (World.cell?_of_block (w := w) (hB.block _ (cell_lt h))).trans h
      have x18 : wr.cell? ⟨b, o + k * 26 + 18, none⟩ = some (.string x.name) := hkp (hcc k x hx 18 _ rfl)
      have x19 : wr.cell? ⟨b, o + k * 26 + 19, none⟩ = some (.string x.value) := hkp (hcc k x hx 19 _ rfl)
      have hlr := HL.out.of (fun b o u h => hkp h)
      have hmr := HM.out.of (fun b o u h => hkp h)
      have hkk : (k : Int) < (ms.length : Int) := by omega
      have HX := Lib.hid hx
      clear hcc hB hg hx hkp
      go_wp2_with fail
      refine (counts_any va (some ⟨b, o, none⟩) ca cb l ms i x.name wr hlr hmr hln hmn hi0 hi1).mono ?_
      rintro e w1 ⟨c, rfl, hcnt, hb1⟩
      have y18 := keepB hb1 x18
      have y19 := keepB hb1 x19
      have hown1 := hown.ext (Ext.of_below (S := fun _ => False) hb1) (fun _ _ h => h)
      have hB1 := HB.out.trans (hb1.mono HB.out.size)
      have hcw := hcnt.out.eq_iff HX.out
      have HCW := Lib.hid hcw
      clear x18 x19 hown hb1 hlr hmr hcnt hcw
      by_cases hck : c = (k : Int)
      · subst hck
        have HW : Hid (Win l ms i x.name k x) := Lib.hid (HCW.out.1 rfl)
        by_cases hv : x.value = ⟨#[]⟩
        · have HN : Hid (¬ (Win l ms i x.name k x ∧ x.value ≠ ⟨#[]⟩)) := Lib.hid (fun h => h.2 hv)
          rw [hv] at y19
          clear hv
          go_wp2_with fail
          go_roundg (ms.length - (k + 1))
          case measure => rw [HG.out]; omega
          case rel => exact ⟨k + 1, O, rfl, by omega, by simp, by omega, Lib.hid (hgath.out.skip HX.out HN.out), hown1, hB1⟩
        · have hv1 : (x.value.toList == []) = false := by
            cases h : (x.value.toList == []) with
            | false => rfl
            | true => exact absurd ((eq_bytes x.value ⟨#[]⟩).1 (by simpa using eq_of_beq h)) hv
          have hv2 : (x.value == ⟨#[]⟩) = false := by rw [beq_bytes]; simp [hv]
          have HV := Lib.hid hv
          have HLN := Lib.hid (hgath.out.fresh HW.out)
          clear hv
          obtain ⟨oa, oc, rfl, hocap, homax, hocs⟩ := hown1.slice (fun _ => rfl)
          clear hocs
          go_upto_region 6 with fail
          unfold maxLen at homax
          have hown5 := hown1.alloc (.cells #[.string x.name, .string x.value] 51)
          have hB5 := hB1.alloc hB1.size (.cells #[.string x.name, .string x.value] 51)
          have hnb : ∀ j u, (Atr.cells ⟨x.name, x.value⟩)[j]? = some u → (w1.alloc (.cells #[.string x.name, .string x.value] 51)).cell? ⟨w1.heap.size, j, none⟩ = some u := fun j u h => allocd_cells j u h
          have HOW := Lib.hid hown5
          have HNB := Lib.hid hnb
          have hs5 := hB5.size
          have hbl : b < w1.heap.size := cell_lt y18
          clear hnb
          go_region_law (refine step_append_struct (v := .slice oa O.length oc) (l := O) rfl (.tmp 36) (.tmp 48) 29 rfl i0 (.agg #[.string ⟨#[]⟩, .string ⟨#[]⟩]) 32 Try.underlying29 hi hz0 hz1' hz2 rfl (by omega) (fun _ => rfl) (fun x u hu => by simp [Atr.cells] at hu; rcases hu with rfl | rfl <;> rfl) rfl HOW.out ⟨x.name, x.value⟩ w1.heap.size 1 rfl HNB.out (by unfold maxLen; omega) (by omega) hs5 ?_; intro v' w6 hown6 hx6)
          all_goals
            have hne : ∀ b, (Value.slice oa O.length oc).ownBlock = some b → w.heap.size ≤ b := fun b hb => (hown5.blk b hb).1
            have hB6 : Below w.heap.size w w6 := by
              refine Ext.new ?_ hx6 (fun b hb _ e => by have := hne _ e; omega) hs5
              first | exact hB5 | exact hB5.drew
            obtain ⟨g6, cp6, rfl, hg6⟩ : ∃ g c, v' = .slice (some ⟨g, 0, none⟩) (O.length + 1) c ∧ w.heap.size ≤ g := by
              rcases hown6.eq_slice with ⟨_, h⟩ | ⟨g, c, h, h2, _⟩
              · simp at h
              · exact ⟨g, c, by simpa using h, h2⟩
            clear HOW HNB hs5 hbl hown1 hB1 y18 y19
            clear hx6 hown5 hB5 hne HC
            have hins : O ++ [⟨x.name, x.value⟩] = insAt O ⟨x.name, x.value⟩ O.length := by simp [insAt]
            rw [hins] at hown6
            clear hins
            go_wp2_with fail
            go_loopg [9] O.length (fun g kk wz => ∃ j : Nat, g = j ∧ j ≤ O.length ∧ kk = .int .i64 j ∧ Hid (∀ y ∈ O.drop j, x.name.toList < y.name.toList) ∧ Own Atr.cells 2 51 w.heap.size wz (.slice (some ⟨g6, 0, none⟩) (O.length + 1) cp6) (insAt O ⟨x.name, x.value⟩ j) ∧ Below w.heap.size w wz)
            case atStart => exact ⟨O.length, rfl, Nat.le_refl _, by go_num, fun y hy => by simp at hy, hown6, hB6⟩
            case round =>
              obtain ⟨j, hjg, hj, rfl, hdrop, hown7, hB7⟩ := hrel
              have HJG := Lib.hid hjg
              clear hjg
              obtain ⟨-, hcap7, hmax7, hg7, hcells7⟩ := own_attr hown7
              unfold maxLen at hmax7
              cases j with
              | zero =>
                clear hcells7
                go_wp2_with fail
                go_quiet (fail)
                go_wp2_with fail
                go_roundg (ms.length - (k + 1))
                case measure => rw [HG.out]; omega
                case rel =>
                  refine ⟨k + 1, _, rfl, hlt, by simp, ?_, Lib.hid (hgath.out.ins HW.out HV.out (j := 0) (Nat.zero_le _) hdrop.out (fun y hy => by simp at hy)), ?_, below_drewN hB7 _⟩
                  · rw [insAt_len _ _ _ (Nat.zero_le _)]; omega
                  · exact hown7
              | succ j =>
                obtain ⟨c, hc⟩ : ∃ c, O[j]? = some c := ⟨_, List.getElem?_eq_getElem hj⟩
                obtain ⟨s0, s1, s2, s3⟩ := hcells7 (j + 1) _ (insAt_at O _ (j + 1) hj)
                obtain ⟨s4, s5, s6, s7⟩ := hcells7 j c ((insAt_before O _ j hj).trans hc)
                simp only at s0 s1
                have HC := Lib.hid hc
                have hne : ¬ g6 = wr.heap.size := by omega
                clear hcells7 hc
                by_cases hcl : x.name.toList < c.name.toList
                · have hcl' : Op.bytesLess x.name.toList c.name.toList = true := by rw [bytesLess_eq]; simpa using hcl
                  have HCL := Lib.hid hcl
                  clear hcl
                  go_wp2_with fail
                  go_quiet (fail)
                  have hbq : Below wr.heap.size wr (wr.drewN nq) := below_drewN (Below.refl _ _) _
                  have hown8 := hown7.ext (Ext.of_below (S := fun _ => False) hbq) (fun _ _ h => h)
                  have hB8 : Below w.heap.size w (wr.drewN nq) := below_drewN hB7 _
                  clear hbq s0 s1 s2 s3 s4 s5 s6 s7 hg7 hne
                  generalize wr.drewN nq = wq at *
                  obtain ⟨-, -, -, hg7, hcells7⟩ := own_attr hown8
                  obtain ⟨s0, s1, s2, s3⟩ := hcells7 (j + 1) _ (insAt_at O _ (j + 1) hj)
                  obtain ⟨s4, s5, s6, s7⟩ := hcells7 j c ((insAt_before O _ j hj).trans HC.out)
                  simp only at s0 s1
                  have hne : ¬ g6 = wq.heap.size := by omega
                  clear hcells7
                  go_wp2_with fail
                  go_roundg j
                  case measure => rw [HJG.out]; omega
                  case rel =>
                    have hs8 := hB8.size
                    refine ⟨j, rfl, by omega, by go_num, ?_, (own_swap hown8 HC.out).alloc _, ?_⟩
                    · intro y hy
                      obtain ⟨hj', hc'⟩ := List.getElem?_eq_some_iff.1 HC.out
                      rw [List.drop_eq_getElem_cons hj', hc'] at hy
                      rcases List.mem_cons.1 hy with rfl | hy
                      · exact HCL.out
                      · exact hdrop.out y hy
                    · exact ((((hB8.setCell (by simp; omega) _).setCell (by simp; omega) _).setCell (by simp; omega) _).setCell (by simp; omega) _).alloc (by simp; omega) _
                · have hcl' : Op.bytesLess x.name.toList c.name.toList = false := by rw [bytesLess_eq]; simpa using hcl
                  have HCL := Lib.hid hcl
                  clear hcl
                  go_wp2_with fail
                  go_quiet (fail)
                  go_wp2_with fail
                  go_roundg (ms.length - (k + 1))
                  case measure => rw [HG.out]; omega
                  case rel =>
                    refine ⟨k + 1, _, rfl, hlt, by simp, ?_, Lib.hid (hgath.out.ins HW.out HV.out (j := j + 1) hj hdrop.out ?_), ?_, below_drewN hB7 _⟩
                    · rw [insAt_len _ _ _ hj]; omega
                    · have hcx : c.name.toList < x.name.toList := by
                        refine Classical.byContradiction fun h => HLN.out c (List.mem_of_getElem? HC.out) (list_total _ _ h HCL.out)
                      intro y hy
                      obtain ⟨hj', hc'⟩ := List.getElem?_eq_some_iff.1 HC.out
                      rw [List.take_succ_eq_append_getElem hj', hc'] at hy
                      rcases List.mem_append.1 hy with hy | hy
                      · have hp := hgath.out.rising
                        rw [← List.take_append_drop j O, List.pairwise_append] at hp
                        exact List.lt_trans (hp.2.2 y hy c (by rw [List.drop_eq_getElem_cons hj', hc']; simp)) hcx
                      · rw [List.mem_singleton.1 hy]; exact hcx
                    · exact hown7
      · have HN : Hid (¬ (Win l ms i x.name k x ∧ x.value ≠ ⟨#[]⟩)) := Lib.hid (fun h => hck (HCW.out.2 h.1))
        clear HCW
        go_wp2_with fail
        go_roundg (ms.length - (k + 1))
        case measure => rw [HG.out]; omega
        case rel => exact ⟨k + 1, O, rfl, by omega, by simp, by omega, Lib.hid (hgath.out.skip HX.out HN.out), hown1, hB1⟩
    · obtain rfl : k = ms.length := by omega
      clear hB hg
      go_wp2_with fail
      go_ret
      exact ⟨_, O, rfl, hown, Lib.hid hgath.out.hasL, HB.out⟩

end Go.Proofs.Ytlfmkoapddihcaa
