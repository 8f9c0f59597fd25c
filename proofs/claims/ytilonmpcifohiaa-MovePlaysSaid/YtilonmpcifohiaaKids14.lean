/- Layer 14: Kids: what hangs under a block, by keys. -/
import Derived.Test.YtilonmpcifohiaaAll14
import Derived.Test.YtilonmpcifohiaaKidsP14
import Derived.Test.YtilonmpcifohiaaNil14
namespace Go.Proofs.Ytilonmpcifohiaa
open Go.RowKit
set_option linter.unusedSimpArgs false
set_option linter.unusedVariables false

def St.cells (s : St) : List Value := [.int .i64 s.n, .int .i64 s.r]
theorem info_stamp : (Try.prog.info? 24).map (fun i => (i.zero, i.size, i.bytes)) = some (some (.agg #[.int .i64 0, .int .i64 0]), 2, 16) := by kernel_rfl

theorem range_map_bang (l : List Ch) : (List.range l.length).map (fun i => l[i]!) = l := by
  refine List.ext_getElem (by simp) fun i h1 h2 => ?_
  simp [h2]

theorem delete_own {base : Nat} {w : World} {v : Value} {l : List Ch} (u : St) (ub : Nat) (h : Own Ch.cells 5 36 base w v l) (h0 : w.cell? ⟨ub, 0, none⟩ = some (.int .i64 u.n)) (h1 : w.cell? ⟨ub, 1, none⟩ = some (.int .i64 u.r)) (hub : ub < base) (hl : l.length ≤ 1000000) :
    Calls Try.prog 38 #[v, .func (.func 39) #[] #[.pointer (some ⟨ub, 0, none⟩)]] w
      fun e w' => ∃ v', e = .returned v' ∧ v'.ownBlock = v.ownBlock ∧ Own Ch.cells 5 36 base w' v' (l.filter (underB u)) ∧ Ext (fun b => v.ownBlock = some b) w w' := by
  rcases h.eq_slice with ⟨rfl, rfl⟩ | ⟨g, cap, rfl, hb, hg⟩
  · refine (delete_nil _ w).mono ?_
    rintro e w' ⟨rfl, rfl⟩
    exact ⟨_, rfl, rfl, h, Ext.refl _ _⟩
  · obtain ⟨hS, hbg, hlc, hcm⟩ := Own.slab (ea := Ch.cells) (k := 5) (fun _ => rfl) h
    refine (deleteS_any (fun i => l[i]!) u ub w hS h0 h1 (by omega) hlc (by unfold maxLen at hcm; omega) hl).mono ?_
    rintro e w' ⟨i, rfl, hq, hx⟩
    obtain ⟨f, h2, h3, h4⟩ := hq.out
    have e1 : keptL (underB u) (fun i => l[i]!) l.length = l.filter (underB u) := by unfold keptL; rw [range_map_bang]
    rw [e1] at h4
    have h5 := Slab.own (ea := Ch.cells) (k := 5) (fun _ => rfl) (by omega) h2 hbg (by omega) hcm
    rw [h4] at h5
    exact ⟨_, rfl, rfl, h5, hx.mono (fun b _ e => by rw [e]; rfl)⟩

section
variable {base : Nat} {w : World} {mh : Nat} {c : List (St × Ch)}

theorem all_any (t : Nat) (h : TreeHas base w t mh c) (hsz : c.length ≤ 1000) :
    Calls Try.prog 20 #[.pointer (some ⟨t, 0, none⟩)] w
      fun e w' => ∃ v l, e = .returned v ∧ Own Ch.cells 5 36 w.heap.size w' v l ∧ AllOf (hang c) l ∧ Below w.heap.size w w' := by
  obtain ⟨v, l, hl, hT, rfl⟩ := h
  rw [List.length_map] at hsz
  have hag := hT.agree
  rw [kids_core] at hag
  have hn := hT.map.nodup
  have hlen : hl.length ≤ 1000 := by
    have := agree_length hag hn
    rw [List.length_map, List.length_map] at this
    omega
  have hc : w.cell? ⟨t, 1, none⟩ = some (.map (some mh)) := by simp [World.cell?, hT.blk]
  refine (allT_any t mh hl w hc hT.map (by omega)).mono ?_
  rintro e w' ⟨v', l', rfl, h1, h2, h3, h4⟩
  refine ⟨v', l', rfl, h1, all_of_pairs (keyed_play _) hag hn h2 (h3.imp fun {a b} hab hlt => ?_), h4⟩
  simp only [ltOf, decide_eq_false_iff_not] at hab
  exact hab ((cmpS_lt _ _).2 hlt)

set_option maxRecDepth 100000 in
set_option maxHeartbeats 4000000 in
theorem kids_any (t : Nat) (un ur : Int) (h : TreeHas base w t mh c) (hsz : c.length ≤ 1000) :
    Calls Try.prog 23 #[.pointer (some ⟨t, 0, none⟩), .agg #[.int .i64 un, .int .i64 ur]] w
      fun e w' => ∃ v l, e = .returned v ∧ Own St.cells 2 24 w.heap.size w' v (l.map Ch.block) ∧ KidsOf (hang c) ⟨un, ur⟩ l ∧ Below w.heap.size w w' := by
  obtain ⟨i0, hi, hz0, hz1', hz2⟩ := info_parts info_stamp
  have HT := Lib.hid h
  have hcn : c.length ≤ 1000 := hsz
  clear h
  go_enter Try.func23, Try.ntmps23
  go_wp2_with fail
  have q0 : (w.alloc (.cells #[.int .i64 un, .int .i64 ur] 24)).cell? ⟨w.heap.size, 0, none⟩ = some (.int .i64 un) := by go_simp
  have q1 : (w.alloc (.cells #[.int .i64 un, .int .i64 ur] 24)).cell? ⟨w.heap.size, 1, none⟩ = some (.int .i64 ur) := by go_simp
  have hB0 : Below w.heap.size w (w.alloc (.cells #[.int .i64 un, .int .i64 ur] 24)) := (Below.refl _ _).alloc (Nat.le_refl _) _
  have HT1 := Lib.hid (HT.out.alloc (.cells #[.int .i64 un, .int .i64 ur] 24))
  have hz : (w.alloc (.cells #[.int .i64 un, .int .i64 ur] 24)).heap.size = w.heap.size + 1 := by simp
  have HZ := Lib.hid hz
  clear HT hz
  generalize w.alloc (.cells #[.int .i64 un, .int .i64 ur] 24) = w1 at *
  refine (all_any t HT1.out hsz).mono ?_
  rintro e w2 ⟨v2, l2, rfl, o2, a2, b2⟩
  replace q0 := keepB b2 q0
  replace q1 := keepB b2 q1
  have hB2 := Lib.hid (hB0.trans (b2.mono (by have := hB0.size; omega)))
  have ho2 := Lib.hid (o2.mono (b' := w.heap.size + 1) (by rw [HZ.out]; exact Nat.le_refl _))
  have ha2 := Lib.hid a2
  have hl2 : l2.length ≤ 1000 := by have := a2.length; rw [List.length_map] at this; omega
  clear o2 a2 b2 hB0 HT1
  go_wp2_with fail
  refine (delete_own ⟨un, ur⟩ w.heap.size ho2.out q0 q1 (Nat.lt_succ_self _) (by omega)).mono ?_
  rintro e w3 ⟨v3, rfl, hv3, o3, x3⟩
  have hlf : (l2.filter (underB ⟨un, ur⟩)).length ≤ 1000 := Nat.le_trans (List.length_filter_le _ _) hl2
  have hB3 : Hid (Below w.heap.size w w3) := Lib.hid (Ext.new hB2.out x3 (fun i hi _ e => by have := (ho2.out.blk i e).1; omega) hB2.out.size)
  have HO3 := Lib.hid o3
  have HV := Lib.hid hv3
  clear o3 hv3 x3 ho2 hB2 q0 q1
  go_wp2_with fail
  refine (sortStable_own HO3.out (by omega)).mono ?_
  rintro e w4 ⟨⟨u4, rfl⟩, hq4, x4⟩
  obtain ⟨l4, s4, o4⟩ := hq4.out
  have hB4 : Below w.heap.size w w4 := Ext.new hB3.out x4 (fun i hi _ e => by have := (HO3.out.blk i e).1; omega) hB3.out.size
  have hl4 : l4.length ≤ 1000 := by rw [s4.perm.length_eq]; exact hlf
  have hK : Hid (KidsOf (hang c) ⟨un, ur⟩ l4) := Lib.hid (kids_of_all ha2.out s4)
  have hsl := o4.slice (fun _ => rfl)
  clear hq4 x4 s4 HO3 HV hB3 hlf ha2 hl2
  obtain ⟨va, vc, rfl, hcap, hmax, hcs⟩ := hsl
  unfold maxLen at hmax
  have HC := Lib.hid hcs
  have hsz4 : w.heap.size ≤ w4.heap.size := hB4.size
  clear hcs o4
  go_wp2_with fail
  go_loopg [6, 17] l4.length (fun g ov iv wx => ∃ k : Nat, g = l4.length - k ∧ k ≤ l4.length ∧ iv = .int .i64 k ∧ Own St.cells 2 24 w4.heap.size wx ov ((l4.take k).map Ch.block) ∧ Below w4.heap.size w4 wx)
  case atStart => exact ⟨0, rfl, Nat.zero_le _, rfl, Own.nil, Below.refl _ _⟩
  case round =>
    obtain ⟨k, hg, hk, rfl, hown, hB⟩ := hrel
    have HG := Lib.hid hg
    clear hg
    by_cases hlt : k < l4.length
    · obtain ⟨m, hm⟩ : ∃ m, l4[k]? = some m := ⟨_, List.getElem?_eq_getElem hlt⟩
      obtain ⟨b, o, rfl, hcc⟩ := HC.out (by intro e; rw [e] at hlt; simp at hlt)
      have x0 : wr.cell? ⟨b, o + k * 5, none⟩ = some (.int .i64 m.block.n) := keepB hB (hcc k m hm 0 _ rfl)
      have x1 : wr.cell? ⟨b, o + k * 5 + 1, none⟩ = some (.int .i64 m.block.r) := keepB hB (hcc k m hm 1 _ rfl)
      have x2 : wr.cell? ⟨b, o + k * 5 + 2, none⟩ = some (.int .i64 m.under.n) := keepB hB (hcc k m hm 2 _ rfl)
      have x3 : wr.cell? ⟨b, o + k * 5 + 3, none⟩ = some (.int .i64 m.under.r) := keepB hB (hcc k m hm 3 _ rfl)
      have x4 : wr.cell? ⟨b, o + k * 5 + 4, none⟩ = some (.string m.key) := keepB hB (hcc k m hm 4 _ rfl)
      have hlk : ((l4.take k).map Ch.block).length ≤ 1000 := by rw [List.length_map]; exact Nat.le_trans (List.length_take_le _ _) (by omega)
      have ht : (l4.take (k + 1)).map Ch.block = (l4.take k).map Ch.block ++ [m.block] := by rw [List.take_add_one, hm]; simp
      have HTK := Lib.hid ht
      have hBs := hB.size
      clear hcc hm ht
      go_wp2_with (at_builtin; refine wpList_append_struct rfl _ _ _ rfl i0 (.agg #[.int .i64 0, .int .i64 0]) 16 Try.underlying49 hi hz0 hz1' hz2 rfl (by omega) (fun _ => rfl) (fun x u hu => by simp [St.cells] at hu; rcases hu with rfl | rfl <;> rfl) rfl ((hown.alloc _).alloc _) m.block (wr.heap.size + 1) 1 rfl ?_ (by unfold maxLen; omega) (by omega) (by simp; omega) ?_)
      · intro j u hj
        match j, hj with
        | 0, hj => simp [St.cells] at hj; subst hj; go_simp
        | 1, hj => simp [St.cells] at hj; subst hj; go_simp
        | n + 2, hj => simp [St.cells] at hj
      · intro v' w5 hown5 hx5
        clear x0 x1 x2 x3 x4
        go_wp2_with fail
        go_roundg (l4.length - (k + 1))
        case measure => rw [HG.out]; omega
        case rel =>
          have hne : ∀ b, u6.ownBlock = some b → w4.heap.size ≤ b := fun b hb => (hown.blk b hb).1
          refine ⟨k + 1, rfl, hlt, by go_num, by rw [HTK.out, List.map_take]; exact hown5, ?_⟩
          exact Ext.new ((hB.alloc (by omega) _).alloc (by simp; omega) _) hx5 (fun b hb _ e => by have := hne _ e; omega) (by simp; omega)
    · obtain rfl : k = l4.length := by omega
      go_wp2_with fail
      go_ret
      refine ⟨_, l4, rfl, ?_, hK.out, hB4.trans (hB.mono hsz4)⟩
      have := hown.mono hsz4
      rwa [List.take_length] at this
end

end Go.Proofs.Ytilonmpcifohiaa
