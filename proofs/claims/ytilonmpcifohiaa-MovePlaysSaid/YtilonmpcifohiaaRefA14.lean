/- Layer 14's document answer: contracts of Find, Within. Layer 14's document answer: contract of Under. Layer 14's document answer: contract of After. -/
import Derived.Test.YtilonmpcifohiaaRefP14
import Derived.BigQuiet
import Derived.Deep.QuietTactic
import Derived.Deep.LoopGhost
import Derived.Test.YtilonmpcifohiaaKids14
import Derived.Deep.RegionHeld3
import Derived.Outline
import Derived.IntWalk
namespace Go.Proofs.Ytilonmpcifohiaa
open Go.RowKit
set_option linter.unusedSimpArgs false
set_option linter.unusedVariables false

theorem findI_some {l : List Ch} {b : St} {k : Nat} {x : Ch} (hx : l[k]? = some x) (hb : x.block = b) (hn : ∀ j y, j < k → l[j]? = some y → y.block ≠ b) : findI l b = k := by
  unfold findI
  rw [findB_of hx hb hn]
theorem findI_none {l : List Ch} {b : St} (hn : ∀ j y, j < l.length → l[j]? = some y → y.block ≠ b) : findI l b = -1 := by
  unfold findI
  rw [findB_none.2 (fun x hx => by
    obtain ⟨i, hi⟩ := List.getElem?_of_mem hx
    exact hn i x (List.getElem?_eq_some_iff.1 hi).1 hi)]
theorem none_snoc {l : List Ch} {b : St} {k : Nat} {x : Ch} (h : ∀ j y, j < k → l[j]? = some y → y.block ≠ b) (hx : l[k]? = some x) (hb : x.block ≠ b) : ∀ j y, j < k + 1 → l[j]? = some y → y.block ≠ b := fun j y hj hy => by
  by_cases e : j = k
  · subst e; rw [hx] at hy; cases hy; exact hb
  · exact h j y (by omega) hy
theorem ch_ne_r {x : Ch} {bn br : Int} (h : x.block ≠ ⟨bn, br⟩) (e : x.block.n = bn) : ¬ x.block.r = br := fun e2 => h (by
  obtain ⟨⟨n, r⟩, u, k⟩ := x
  simp only at e e2
  rw [e, e2])

set_option maxRecDepth 20000 in
set_option maxHeartbeats 2000000 in
theorem rfind_any (v : Value) (l : List Ch) (bn br : Int) (w : World) (h : SliceIs Ch.cells 5 w v l) (hl : l.length ≤ 1000000) :
    Calls Try.prog 34 #[v, .agg #[.int .i64 bn, .int .i64 br]] w fun e w' => e = .returned (.int .i64 (findI l ⟨bn, br⟩)) ∧ Below w.heap.size w w' := by
  obtain ⟨a, cap, rfl, hcap, hmax, _⟩ := id h
  unfold maxLen at hmax
  have q0 : (w.alloc (.cells #[.int .i64 bn, .int .i64 br] 24)).cell? ⟨w.heap.size, 0, none⟩ = some (.int .i64 bn) := by go_simp
  have q1 : (w.alloc (.cells #[.int .i64 bn, .int .i64 br] 24)).cell? ⟨w.heap.size, 1, none⟩ = some (.int .i64 br) := by go_simp
  have hB0 : Below w.heap.size w (w.alloc (.cells #[.int .i64 bn, .int .i64 br] 24)) := (Below.refl _ _).alloc (Nat.le_refl _) _
  have HH := Lib.hid (h.below hB0)
  have HB0 := Lib.hid hB0
  clear h hB0
  go_enter Try.func34, Try.ntmps34
  go_upto_block 0 with fail
  generalize w.alloc (.cells #[.int .i64 bn, .int .i64 br] 24) = w1 at *
  go_wp2_with fail
  go_loopg [5] l.length (fun g iv wx => ∃ k : Nat, g = l.length - k ∧ k ≤ l.length ∧ iv = .int .i64 k ∧ Hid (∀ j y, j < k → l[j]? = some y → y.block ≠ ⟨bn, br⟩) ∧ Hid (Below w1.heap.size w1 wx))
  case atStart => exact ⟨0, rfl, Nat.zero_le _, rfl, Lib.hid (fun j y hj => absurd hj (by omega)), Lib.hid (Below.refl _ _)⟩
  case round =>
    obtain ⟨k, hg, hk, rfl, HP, HB⟩ := hrel
    have HG := Lib.hid hg
    clear hg
    by_cases hlt : k < l.length
    · obtain ⟨x, hx⟩ : ∃ x, l[k]? = some x := ⟨_, List.getElem?_eq_getElem hlt⟩
      obtain ⟨b, o, c1, e1, h1⟩ := (HH.out.below HB.out).dcells (by intro e; rw [e] at hlt; simp at hlt)
      cases e1
      obtain ⟨x0, x1, -, -, -⟩ := h1 k x hx
      replace q0 := keepB HB.out q0
      replace q1 := keepB HB.out q1
      have HX := Lib.hid hx
      have HD : Hid (∀ n, Below w.heap.size w (wr.drewN n)) := Lib.hid (fun n => below_drewN (HB0.out.trans (HB.out.mono HB0.out.size)) n)
      have HD1 : Hid (∀ n, Below w1.heap.size w1 (wr.drewN n)) := Lib.hid (fun n => below_drewN HB.out n)
      clear h1 hx
      by_cases hb : x.block = ⟨bn, br⟩
      · have e1 : x.block.n = bn := by rw [hb]
        have e2 : x.block.r = br := by rw [hb]
        rw [e1] at x0
        rw [e2] at x1
        have HF := Lib.hid (findI_some HX.out hb HP.out)
        clear hb e1 e2
        go_wp2_with fail
        go_quiet (fail)
        go_wp2_with fail
        go_ret
        exact ⟨by rw [HF.out]; rfl, HD.out _⟩
      · have HN := Lib.hid (none_snoc HP.out HX.out hb)
        have hb' := ch_ne_r hb
        clear hb
        by_cases e1 : x.block.n = bn
        · have e2 := hb' e1
          rw [e1] at x0
          clear hb' e1
          go_wp2_with fail
          go_quiet (fail)
          go_wp2_with fail
          go_roundg (l.length - (k + 1))
          case measure => rw [HG.out]; omega
          case rel => exact ⟨k + 1, rfl, hlt, by go_num, HN, Lib.hid (HD1.out _)⟩
        · clear hb'
          go_wp2_with fail
          go_quiet (fail)
          go_wp2_with fail
          go_roundg (l.length - (k + 1))
          case measure => rw [HG.out]; omega
          case rel => exact ⟨k + 1, rfl, hlt, by go_num, HN, Lib.hid (HD1.out _)⟩
    · obtain rfl : k = l.length := by omega
      have HF := Lib.hid (findI_none HP.out)
      have HD := Lib.hid (HB0.out.trans (HB.out.mono HB0.out.size))
      have hll : ¬ (l.length : Int) < (l.length : Int) := by omega
      clear hlt hk
      go_wp2_with fail
      go_ret
      exact ⟨by rw [HF.out]; rfl, HD.out⟩

open Classical in
/-- Does a block hang under another one? -/
noncomputable def upB (h : Hang) (u b : St) : Bool := decide (Up h u b)
theorem upB_self (h : Hang) (u : St) : upB h u u = true := by simp [upB, Up.refl]
theorem upB_none {h : Hang} {u b : St} (hn : h u = none) (hne : u ≠ b) : upB h u b = false := by simp [upB, up_none hn hne]
theorem upB_some {h : Hang} {u b : St} {c : Ch} (hc : h u = some c) (hne : u ≠ b) : upB h u b = upB h c.under b := by simp [upB, up_some hc hne]
theorem tookH_upB (h : Hang) (c : Ch) : tookH h c = !(upB h c.under c.block) := rfl

set_option maxRecDepth 20000 in
set_option maxHeartbeats 4000000 in
theorem rwithin_any (v : Value) (l : List Ch) (un ur bn br : Int) (w : World) (h : SliceIs Ch.cells 5 w v l) (hl : l.length ≤ 1000000) {hh : Hang} (ha : AllOf hh l) (hk : Keyed hh) (hac : Acyc hh) :
    Calls Try.prog 52 #[v, .agg #[.int .i64 un, .int .i64 ur], .agg #[.int .i64 bn, .int .i64 br]] w fun e w' => e = .returned (.bool (upB hh ⟨un, ur⟩ ⟨bn, br⟩)) ∧ Below w.heap.size w w' := by
  obtain ⟨a, cap, rfl, hcap, hmax, _⟩ := id h
  unfold maxLen at hmax
  obtain ⟨u, hu⟩ : ∃ u : St, u = ⟨un, ur⟩ := ⟨_, rfl⟩
  obtain ⟨m0, he0, hm0⟩ := ends_le hk hac ha u
  have hb1 : BoxS ((w.alloc (.cells #[.int .i64 un, .int .i64 ur] 24)).alloc (.cells #[.int .i64 bn, .int .i64 br] 24)) w.heap.size u := by rw [hu]; exact (BoxS.new w ⟨un, ur⟩).alloc _
  have hb2 : BoxS ((w.alloc (.cells #[.int .i64 un, .int .i64 ur] 24)).alloc (.cells #[.int .i64 bn, .int .i64 br] 24)) (w.heap.size + 1) ⟨bn, br⟩ := by
    have := BoxS.new (w.alloc (.cells #[.int .i64 un, .int .i64 ur] 24)) ⟨bn, br⟩
    simpa using this
  have hB0 : Below w.heap.size w ((w.alloc (.cells #[.int .i64 un, .int .i64 ur] 24)).alloc (.cells #[.int .i64 bn, .int .i64 br] 24)) := ((Below.refl _ _).alloc (Nat.le_refl _) _).alloc (by simp) _
  rw [← hu]
  have HH := Lib.hid h
  have HA := Lib.hid (And.intro ha hk)
  have HB0 := Lib.hid hB0
  have HE0 := Lib.hid he0
  have HX1 := Lib.hid hb1
  have HX2 := Lib.hid hb2
  clear h hB0 ha hk hac he0 hb1 hb2 hu
  go_enter Try.func52, Try.ntmps52
  go_upto_block 0 with fail
  generalize (w.alloc (.cells #[.int .i64 un, .int .i64 ur] 24)).alloc (.cells #[.int .i64 bn, .int .i64 br] 24) = w1 at *
  go_wp2_with fail
  go_loopg [7] (l.length + 1) (fun g iv wx => ∃ (k m : Nat) (x : St), g = l.length + 1 - k ∧ k + m ≤ l.length ∧ iv = .int .i64 k ∧ Hid (Ends hh m x ∧ upB hh u ⟨bn, br⟩ = upB hh x ⟨bn, br⟩) ∧ Hid (BoxS wx w.heap.size x ∧ BoxS wx (w.heap.size + 1) ⟨bn, br⟩ ∧ Below w.heap.size w wx))
  case atStart => exact ⟨0, m0, u, rfl, by omega, rfl, Lib.hid ⟨HE0.out, rfl⟩, Lib.hid ⟨HX1.out, HX2.out, HB0.out⟩⟩
  case round =>
    obtain ⟨k, m, ⟨xn, xr⟩, hg, hkm, rfl, HE, HB⟩ := hrel
    have HG := Lib.hid hg
    clear hg
    have hk1 : (k : Int) ≤ (l.length : Int) := by omega
    have q0 := HB.out.1.c0
    have q1 := HB.out.1.c1
    have q2 := HB.out.2.1.c0
    have q3 := HB.out.2.1.c1
    dsimp only at q0 q1 q2 q3
    by_cases hxb : (⟨xn, xr⟩ : St) = ⟨bn, br⟩
    · cases hxb
      have HU : Hid (upB hh u ⟨bn, br⟩ = true) := Lib.hid (by rw [HE.out.2, upB_self])
      go_wp2_with fail
      go_ret
      exact ⟨by rw [HU.out]; rfl, HB.out.2.2⟩
    · have HNE := Lib.hid hxb
      have HFI := Lib.hid (fun (W : World) (hW : Below w.heap.size w W) => rfind_any (.slice a l.length cap) l xn xr W (HH.out.below hW) hl)
      have hfind := HA.out.1.find HA.out.2 (b := ⟨xn, xr⟩)
      have hor : (¬ xn = bn) ∨ (xn = bn ∧ ¬ xr = br) := by
        by_cases e1 : xn = bn
        · exact .inr ⟨e1, fun e2 => hxb (by rw [e1, e2])⟩
        · exact .inl e1
      have HF := Lib.hid hfind
      clear hxb hfind
      rcases hor with e1 | ⟨rfl, e2⟩
      all_goals
        go_wp2_with fail
        refine (HFI.out _ HB.out.2.2).mono ?_
        rintro e w2 ⟨rfl, b2⟩
        have hbx := HB.out.1.below b2
        have hby := HB.out.2.1.below b2
        have hbz := HB.out.2.2.trans (b2.mono HB.out.2.2.size)
        rcases HF.out with ⟨f1, f2⟩ | ⟨i, y, f1, f2, f3, f4⟩
        · have hfi : findI l ⟨xn, xr⟩ = -1 := by unfold findI; rw [f1]
          rw [hfi]
          have HU := Lib.hid (HE.out.2.trans (upB_none f2 HNE.out))
          have HN := Lib.hid hbz
          clear hfi f1 f2 hbx hby hbz b2 HF HFI
          go_wp2_with fail
          go_ret
          exact ⟨by rw [HU.out]; rfl, HN.out⟩
        · have hfi : findI l ⟨xn, xr⟩ = (i : Int) := by unfold findI; rw [f1]
          rw [hfi]
          obtain ⟨m', rfl, he'⟩ := ends_succ HE.out.1 f3
          have hil := (List.getElem?_eq_some_iff.1 f2).1
          obtain ⟨b, o, c1, e1', h1⟩ := (HH.out.below hbz).dcells (by intro e; rw [e] at hil; simp at hil)
          cases e1'
          obtain ⟨-, -, y2, y3, -⟩ := h1 i y f2
          have g0 := hbx.f0
          have g1 := hbx.f1
          have HNX := Lib.hid (And.intro he' (HE.out.2.trans (upB_some f3 HNE.out)))
          have HBX := Lib.hid (And.intro (hbx.set y.under.n y.under.r) (And.intro (hby.ext (((Ext.refl (· = w.heap.size) w2).setCell (p := ⟨w.heap.size, 0, none⟩) (.inr rfl) (.int .i64 y.under.n)).setCell (p := ⟨w.heap.size, 1, none⟩) (.inr rfl) (.int .i64 y.under.r)) (fun e => by omega)) ((hbz.setCell (p := ⟨w.heap.size, 0, none⟩) (Nat.le_refl _) (.int .i64 y.under.n)).setCell (p := ⟨w.heap.size, 1, none⟩) (Nat.le_refl _) (.int .i64 y.under.r))))
          have c0 := hbx.c0
          have c1' := hbx.c1
          have hi1 : (0 : Int) ≤ (i : Int) := by omega
          have hi2 : (i : Int) < (l.length : Int) := by omega
          clear hfi f1 f2 f3 f4 hbx hby hbz b2 HF HFI h1 he' q0 q1 q2 q3
          go_wp2_with fail
          go_roundg (l.length + 1 - (k + 1))
          case measure => rw [HG.out]; omega
          case rel => exact ⟨k + 1, m', y.under, rfl, by omega, by simp, HNX, HBX⟩

end Go.Proofs.Ytilonmpcifohiaa

namespace Go.Proofs.Ytilonmpcifohiaa
open Go.RowKit
set_option linter.unusedSimpArgs false
set_option linter.unusedVariables false

structure SlK where
  a : Option Addr
  n : Nat
  cap : Nat
theorem ch_cells_new (W : World) (x : Ch) : ∀ j u, (Ch.cells x)[j]? = some u → (W.alloc (.cells #[.int .i64 x.block.n, .int .i64 x.block.r, .int .i64 x.under.n, .int .i64 x.under.r, .string x.key] 36)).cell? ⟨W.heap.size, j, none⟩ = some u := by
  intro j u hj
  rw [World.cell?_alloc_at _ _ _ _ rfl, ← hj, Ch.cells]
  simp
theorem Ch.one (p : Ch) : ∀ u ∈ p.cells, u.oneCell' = true := by
  intro u hu
  simp only [Ch.cells, List.mem_cons, List.not_mem_nil, or_false] at hu
  rcases hu with rfl | rfl | rfl | rfl | rfl <;> rfl
theorem Ch.len (p : Ch) : p.cells.length = 5 := rfl
theorem StC.one (p : St) : ∀ u ∈ St.cells p, u.oneCell' = true := by
  intro u hu
  simp only [St.cells, List.mem_cons, List.not_mem_nil, or_false] at hu
  rcases hu with rfl | rfl <;> rfl
theorem StC.len (p : St) : (St.cells p).length = 2 := rfl
theorem st_cells_new (W : World) (x : St) : ∀ j u, (St.cells x)[j]? = some u → (W.alloc (.cells #[.int .i64 x.n, .int .i64 x.r] 24)).cell? ⟨W.heap.size, j, none⟩ = some u := by
  intro j u hj
  rw [World.cell?_alloc_at _ _ _ _ rfl, ← hj, St.cells]
  simp
theorem under_ne_r {x : Ch} {bn br : Int} (h : x.under ≠ ⟨bn, br⟩) (e : x.under.n = bn) : ¬ x.under.r = br := fun e2 => h (by
  obtain ⟨b, ⟨n, r⟩, k⟩ := x
  simp only at e e2
  rw [e, e2])

/-- What Under answers. -/
def UnderPost (w : World) (hh : Hang) (u : St) (e : Ending) (w' : World) : Prop := ∃ v' K, e = .returned v' ∧ Own St.cells 2 24 w.heap.size w' v' (K.map Ch.block) ∧ KidsOf hh u K ∧ Below w.heap.size w w'

set_option maxRecDepth 100000 in
set_option maxHeartbeats 10000000 in
theorem runder_any (v : Value) (l : List Ch) (un ur : Int) (w : World) (h : SliceIs Ch.cells 5 w v l) (hl : l.length ≤ 1000) {hh : Hang} (ha : AllOf hh l) :
    Calls Try.prog 43 #[v, .agg #[.int .i64 un, .int .i64 ur]] w fun e w' => UnderPost w hh ⟨un, ur⟩ e w' := by
  obtain ⟨a, cap, rfl, hcap, hmax, _⟩ := id h
  unfold maxLen at hmax
  obtain ⟨i0, hi, hz0, hz1, hz2⟩ := info_parts info_child
  obtain ⟨i1, hi1, hy0, hy1, hy2⟩ := info_parts info_stamp
  have q0 : (w.alloc (.cells #[.int .i64 un, .int .i64 ur] 24)).cell? ⟨w.heap.size, 0, none⟩ = some (.int .i64 un) := by go_simp
  have q1 : (w.alloc (.cells #[.int .i64 un, .int .i64 ur] 24)).cell? ⟨w.heap.size, 1, none⟩ = some (.int .i64 ur) := by go_simp
  have hB0 : Below w.heap.size w (w.alloc (.cells #[.int .i64 un, .int .i64 ur] 24)) := (Below.refl _ _).alloc (Nat.le_refl _) _
  have HH := Lib.hid (h.below hB0)
  have HB0 := Lib.hid hB0
  have HA := Lib.hid ha
  clear h hB0 ha
  go_enter Try.func43, Try.ntmps43
  go_upto_block 0 with fail
  generalize w.alloc (.cells #[.int .i64 un, .int .i64 ur] 24) = w1 at *
  go_wp2_with fail
  go_loopg [5, 6] l.length (fun g vv iv wr => ∃ (k : Nat) (s : SlK) (M : List Ch), g = l.length - k ∧ k ≤ l.length ∧ vv = .slice s.a s.n s.cap ∧ iv = .int .i64 k ∧ Hid (UnderTo hh ⟨un, ur⟩ l k M ∧ Own Ch.cells 5 36 w1.heap.size wr (.slice s.a s.n s.cap) M ∧ Below w1.heap.size w1 wr))
  case atStart => exact ⟨0, ⟨none, 0, 0⟩, [], by omega, by omega, rfl, rfl, Lib.hid ⟨underTo_zero _ _ _, Own.nil, Below.refl _ _⟩⟩
  case round =>
    obtain ⟨k, ⟨sa, sn, sc⟩, M, hg, hk, rfl, rfl, hU⟩ := hrel
    dsimp only at hU ⊢
    have HGG := Lib.hid hg
    clear hg
    by_cases hkl : k < l.length
    · obtain ⟨x, hx⟩ : ∃ x, l[k]? = some x := ⟨_, List.getElem?_eq_getElem hkl⟩
      obtain ⟨b, o, c1, e1, h1⟩ := (HH.out.below hU.out.2.2).dcells (by intro e; rw [e] at hkl; simp at hkl)
      cases e1
      obtain ⟨-, -, x2, x3, -⟩ := h1 k x hx
      have q0' := keepB hU.out.2.2 q0
      have q1' := keepB hU.out.2.2 q1
      have HX := Lib.hid hx
      have HD : Hid (∀ n, Own Ch.cells 5 36 w1.heap.size (wr.drewN n) (.slice sa sn sc) M ∧ Below w1.heap.size w1 (wr.drewN n)) := Lib.hid (fun n => ⟨hU.out.2.1, below_drewN hU.out.2.2 n⟩)
      have HUT := Lib.hid hU.out.1
      have hkk : (k : Int) < (l.length : Int) := by omega
      clear h1 hx hU
      by_cases hb : x.under = ⟨un, ur⟩
      · have e1 : x.under.n = un := by rw [hb]
        have e2 : x.under.r = ur := by rw [hb]
        have HBU := Lib.hid hb
        rw [e1] at x2
        rw [e2] at x3
        clear hb e1 e2
        go_wp2_with fail
        go_quiet (fail)
        have hD := HD.out nq
        generalize wr.drewN nq = wx at *
        clear HD x2 x3 q0' q1'
        obtain ⟨b2, o2, c2, e2, h2⟩ := (HH.out.below hD.2).dcells (by intro e; rw [e] at hkl; simp at hkl)
        cases e2
        obtain ⟨x0, x1, x2, x3, x4⟩ := h2 k x HX.out
        have hml := HUT.out.len (by omega)
        have hsz := hD.2.size
        obtain ⟨hsn, -, -⟩ := hD.1.slice Ch.len |> fun h => (by obtain ⟨_, _, e, _⟩ := h; cases e; exact ⟨rfl, trivial, trivial⟩ : sn = M.length ∧ True ∧ True)
        subst hsn
        clear h2
        go_wp2_with (at_builtin; refine wpList_append_struct rfl _ _ _ rfl i0 _ 48 Try.underlying46 hi hz0 hz1 hz2 rfl (by omega) Ch.len Ch.one rfl (hD.1.alloc _) x wx.heap.size 1 rfl (ch_cells_new _ x) (by unfold maxLen; omega) (by omega) (by simp; omega) ?_)
        intro v' w3 hown3 hx3
        obtain ⟨g3, c3, e3⟩ : ∃ g3 c3, v' = .slice (some ⟨g3, 0, none⟩) (M ++ [x]).length c3 := by
          rcases hown3.eq_slice with ⟨_, e⟩ | ⟨g, c, e, _⟩
          · simp at e
          · exact ⟨g, c, e⟩
        subst e3
        have hB3 := Ext.new (hD.2.alloc hD.2.size (.cells #[.int .i64 x.block.n, .int .i64 x.block.r, .int .i64 x.under.n, .int .i64 x.under.r, .string x.key] 36)) hx3 (fun i hi _ e => by have := (hD.1.blk i e).1; omega) (by simp; omega)
        obtain ⟨-, hc3, hm3⟩ := hown3.lenI Ch.len
        have hins := insR_first HUT.out.ord x
        obtain ⟨mm, hmm⟩ : ∃ mm, M.length = mm := ⟨_, rfl⟩
        have hlm : (M ++ [x]).length = mm + 1 := by simp [hmm]
        rw [hmm] at hins hml
        rw [hlm] at hown3 hc3 ⊢
        have HI0 : Hid (InsR kidLt (M ++ [x]) (M ++ [x]) mm ∧ Own Ch.cells 5 36 w1.heap.size w3 (.slice (some ⟨g3, 0, none⟩) (mm + 1) c3) (M ++ [x]) ∧ Below w1.heap.size w1 w3) := Lib.hid ⟨hins, hown3, hB3⟩
        have HND : Hid ((M ++ [x]).Nodup) := Lib.hid (by
          rw [List.nodup_append]
          refine ⟨HUT.out.ord.imp (fun {a b} h e => by rw [e] at h; exact kidLt_irrefl _ h), by simp, fun a ha b hb e => ?_⟩
          rw [List.mem_singleton] at hb
          subst hb
          have := HUT.out.later HA.out HX.out ha
          rw [e] at this
          exact stLt_irrefl _ this)
        have HMM := Lib.hid hmm
        have HLM := Lib.hid hlm
        clear hown3 hx3 hB3 hins hD hmm hlm x0 x1 x2 x3 x4
        obtain ⟨m, hm⟩ : ∃ m, mm + 1 = m := ⟨_, rfl⟩
        have hm1 : (m : Int) - 1 = (mm : Int) := by omega
        rw [hm] at HI0 HLM hc3 ⊢
        have HM := Lib.hid hm
        have hmb : m ≤ 1001 := by omega
        go_wp2_with fail
        go_loopg [7] mm (fun g jv wr => ∃ (j : Nat) (zs : List Ch), g = j ∧ j ≤ mm ∧ jv = .int .i64 j ∧ zs.length = m ∧ Hid (zs[j]? = some x) ∧ Hid (InsR kidLt (M ++ [x]) zs j ∧ Own Ch.cells 5 36 w1.heap.size wr (.slice (some ⟨g3, 0, none⟩) m c3) zs ∧ Below w1.heap.size w1 wr))
        case atStart => exact ⟨mm, _, rfl, by omega, by simp, HLM.out, Lib.hid (by rw [List.getElem?_append_right (by rw [HMM.out]; omega), HMM.out, Nat.sub_self]; rfl), HI0⟩
        case round =>
          obtain ⟨j, zs, hg, hj, rfl, hzl, hzx, hV⟩ := hrel
          have HGJ := Lib.hid hg
          clear hg
          have hdone : zs.Pairwise kidLt → Hid (UnderTo hh ⟨un, ur⟩ l (k + 1) zs) := fun h => Lib.hid (HUT.out.put HX.out HBU.out hV.out.1.perm h)
          have HV2 : Hid (∀ n, Own Ch.cells 5 36 w1.heap.size (wr.drewN n) (.slice (some ⟨g3, 0, none⟩) m c3) zs ∧ Below w1.heap.size w1 (wr.drewN n)) := Lib.hid (fun n => ⟨hV.out.2.1, below_drewN hV.out.2.2 n⟩)
          by_cases hj0 : 0 < j
          · obtain ⟨p, hp⟩ : ∃ p, zs[j]? = some p := ⟨_, List.getElem?_eq_getElem (by omega)⟩
            obtain ⟨q, hq⟩ : ∃ q, zs[j - 1]? = some q := ⟨_, List.getElem?_eq_getElem (by omega)⟩
            have ho := hV.out.2.1
            have p4 := ho.cellI (j := 4) Ch.len hp rfl
            have q4 := ho.cellI (j := 4) Ch.len hq rfl
            have hj1 : (0 : Int) < (j : Int) := by omega
            have hjz : ((j - 1 : Nat) : Int) = (j : Int) - 1 := by omega
            by_cases hlt : keyB p < keyB q
            · have hb : Op.bytesLess p.key.toList q.key.toList = true := by rw [bytesLess_eq]; simpa [keyB] using hlt
              have HSW := Lib.hid (hV.out.1.swap hj0 hp hq (.inl hlt))
              have HPQ := Lib.hid (And.intro hp hq)
              clear hV ho hp hq hdone hlt
              go_upto_region 8 with fail
              go_quiet (fail)
              have hV3 := HV2.out nq
              generalize wr.drewN nq = wx at *
              clear HV2 p4 q4 hb
              obtain ⟨ho, hbx⟩ := hV3
              have p0 := ho.cellI (j := 0) Ch.len HPQ.out.1 rfl
              have p1 := ho.cellI (j := 1) Ch.len HPQ.out.1 rfl
              have p2 := ho.cellI (j := 2) Ch.len HPQ.out.1 rfl
              have p3 := ho.cellI (j := 3) Ch.len HPQ.out.1 rfl
              have p4 := ho.cellI (j := 4) Ch.len HPQ.out.1 rfl
              simp only [Nat.add_zero] at p0
              have hgb := ho.blk g3 rfl
              have hoy := ho.alloc (.cells #[.int .i64 p.block.n, .int .i64 p.block.r, .int .i64 p.under.n, .int .i64 p.under.r, .string p.key] 36)
              have hby := hbx.alloc hbx.size (.cells #[.int .i64 p.block.n, .int .i64 p.block.r, .int .i64 p.under.n, .int .i64 p.under.r, .string p.key] 36)
              have z0 : (wx.alloc (.cells #[.int .i64 p.block.n, .int .i64 p.block.r, .int .i64 p.under.n, .int .i64 p.under.r, .string p.key] 36)).cell? ⟨wx.heap.size, 0, none⟩ = some (.int .i64 p.block.n) := by go_simp
              have z1 : (wx.alloc (.cells #[.int .i64 p.block.n, .int .i64 p.block.r, .int .i64 p.under.n, .int .i64 p.under.r, .string p.key] 36)).cell? ⟨wx.heap.size, 1, none⟩ = some (.int .i64 p.block.r) := by go_simp
              have z2 : (wx.alloc (.cells #[.int .i64 p.block.n, .int .i64 p.block.r, .int .i64 p.under.n, .int .i64 p.under.r, .string p.key] 36)).cell? ⟨wx.heap.size, 2, none⟩ = some (.int .i64 p.under.n) := by go_simp
              have z3 : (wx.alloc (.cells #[.int .i64 p.block.n, .int .i64 p.block.r, .int .i64 p.under.n, .int .i64 p.under.r, .string p.key] 36)).cell? ⟨wx.heap.size, 3, none⟩ = some (.int .i64 p.under.r) := by go_simp
              have z4 : (wx.alloc (.cells #[.int .i64 p.block.n, .int .i64 p.block.r, .int .i64 p.under.n, .int .i64 p.under.r, .string p.key] 36)).cell? ⟨wx.heap.size, 4, none⟩ = some (.string p.key) := by go_simp
              have HOY := Lib.hid (And.intro hoy hby)
              clear hoy hby
              go_upto_region 11 with fail
              generalize wx.alloc (.cells #[.int .i64 p.block.n, .int .i64 p.block.r, .int .i64 p.under.n, .int .i64 p.under.r, .string p.key] 36) = wy at *
              clear p0 p1 p2 p3 p4
              obtain ⟨hoy, hby⟩ := HOY.out
              have q0 := hoy.cellI (j := 0) Ch.len HPQ.out.2 rfl
              have f0 := hoy.freeI (j * 5)
              have r0 := hoy.cellI (j := 0) Ch.len HPQ.out.1 rfl
              have q1 := hoy.cellI (j := 1) Ch.len HPQ.out.2 rfl
              have f1 := hoy.freeI (j * 5 + 1)
              have r1 := hoy.cellI (j := 1) Ch.len HPQ.out.1 rfl
              have q2 := hoy.cellI (j := 2) Ch.len HPQ.out.2 rfl
              have f2 := hoy.freeI (j * 5 + 2)
              have r2 := hoy.cellI (j := 2) Ch.len HPQ.out.1 rfl
              have q3 := hoy.cellI (j := 3) Ch.len HPQ.out.2 rfl
              have f3 := hoy.freeI (j * 5 + 3)
              have r3 := hoy.cellI (j := 3) Ch.len HPQ.out.1 rfl
              have q4 := hoy.cellI (j := 4) Ch.len HPQ.out.2 rfl
              have f4 := hoy.freeI (j * 5 + 4)
              have r4 := hoy.cellI (j := 4) Ch.len HPQ.out.1 rfl
              simp only [Nat.add_zero] at q0 r0
              have ho1 : Own Ch.cells 5 36 w1.heap.size (((((wy.setCell ⟨g3, j * 5, none⟩ (.int .i64 q.block.n)).setCell ⟨g3, j * 5 + 1, none⟩ (.int .i64 q.block.r)).setCell ⟨g3, j * 5 + 2, none⟩ (.int .i64 q.under.n)).setCell ⟨g3, j * 5 + 3, none⟩ (.int .i64 q.under.r)).setCell ⟨g3, j * 5 + 4, none⟩ (.string q.key)) (.slice (some ⟨g3, 0, none⟩) m c3) (zs.set j q) := slab_put1 Ch.len (by omega) hzl hoy HPQ.out.1
              have hb1 : Below w1.heap.size _ (((((wy.setCell ⟨g3, j * 5, none⟩ (.int .i64 q.block.n)).setCell ⟨g3, j * 5 + 1, none⟩ (.int .i64 q.block.r)).setCell ⟨g3, j * 5 + 2, none⟩ (.int .i64 q.under.n)).setCell ⟨g3, j * 5 + 3, none⟩ (.int .i64 q.under.r)).setCell ⟨g3, j * 5 + 4, none⟩ (.string q.key)) := (((((hby.setCell hgb.1 _).setCell hgb.1 _).setCell hgb.1 _).setCell hgb.1 _).setCell hgb.1 _)
              have hx1 : Ext (· = g3) wy (((((wy.setCell ⟨g3, j * 5, none⟩ (.int .i64 q.block.n)).setCell ⟨g3, j * 5 + 1, none⟩ (.int .i64 q.block.r)).setCell ⟨g3, j * 5 + 2, none⟩ (.int .i64 q.under.n)).setCell ⟨g3, j * 5 + 3, none⟩ (.int .i64 q.under.r)).setCell ⟨g3, j * 5 + 4, none⟩ (.string q.key)) := ext_putFrom (o := j * 5) (Ch.cells q) 0 wy
              have hne : ¬ wx.heap.size = g3 := by omega
              replace z0 := hx1.keep z0 hne
              replace z1 := hx1.keep z1 hne
              replace z2 := hx1.keep z2 hne
              replace z3 := hx1.keep z3 hne
              replace z4 := hx1.keep z4 hne
              have HO1 := Lib.hid (And.intro ho1 hb1)
              clear ho1 hb1 hx1 hoy hby HOY
              have HZ0 := Lib.hid z0
              have HZ1 := Lib.hid z1
              have HZ2 := Lib.hid z2
              have HZ3 := Lib.hid z3
              have HZ4 := Lib.hid z4
              clear z0 z1 z2 z3 z4
              go_upto_region 12 with fail
              generalize (((((wy.setCell ⟨g3, j * 5, none⟩ (.int .i64 q.block.n)).setCell ⟨g3, j * 5 + 1, none⟩ (.int .i64 q.block.r)).setCell ⟨g3, j * 5 + 2, none⟩ (.int .i64 q.under.n)).setCell ⟨g3, j * 5 + 3, none⟩ (.int .i64 q.under.r)).setCell ⟨g3, j * 5 + 4, none⟩ (.string q.key)) = wz at *
              clear q0 f0 r0 q1 f1 r1 q2 f2 r2 q3 f3 r3 q4 f4 r4
              obtain ⟨ho1, hb1⟩ := HO1.out
              have z0 := HZ0.out
              have z1 := HZ1.out
              have z2 := HZ2.out
              have z3 := HZ3.out
              have z4 := HZ4.out
              have f0 := ho1.freeI ((j - 1) * 5)
              have f1 := ho1.freeI ((j - 1) * 5 + 1)
              have f2 := ho1.freeI ((j - 1) * 5 + 2)
              have f3 := ho1.freeI ((j - 1) * 5 + 3)
              have f4 := ho1.freeI ((j - 1) * 5 + 4)
              have hq1 : (zs.set j q)[j - 1]? = some q := by rw [List.getElem?_set, if_neg (by omega)]; exact HPQ.out.2
              have e0 := ho1.cellI (j := 0) Ch.len hq1 rfl
              have e1 := ho1.cellI (j := 1) Ch.len hq1 rfl
              have e2 := ho1.cellI (j := 2) Ch.len hq1 rfl
              have e3 := ho1.cellI (j := 3) Ch.len hq1 rfl
              have e4 := ho1.cellI (j := 4) Ch.len hq1 rfl
              simp only [Nat.add_zero] at e0
              have ho2 : Own Ch.cells 5 36 w1.heap.size (((((wz.setCell ⟨g3, (j - 1) * 5, none⟩ (.int .i64 p.block.n)).setCell ⟨g3, (j - 1) * 5 + 1, none⟩ (.int .i64 p.block.r)).setCell ⟨g3, (j - 1) * 5 + 2, none⟩ (.int .i64 p.under.n)).setCell ⟨g3, (j - 1) * 5 + 3, none⟩ (.int .i64 p.under.r)).setCell ⟨g3, (j - 1) * 5 + 4, none⟩ (.string p.key)) (.slice (some ⟨g3, 0, none⟩) m c3) (exchR zs j p q) := slab_put1 Ch.len (by omega) (by rw [List.length_set]; exact hzl) ho1 hq1
              have hb2 : Below w1.heap.size _ (((((wz.setCell ⟨g3, (j - 1) * 5, none⟩ (.int .i64 p.block.n)).setCell ⟨g3, (j - 1) * 5 + 1, none⟩ (.int .i64 p.block.r)).setCell ⟨g3, (j - 1) * 5 + 2, none⟩ (.int .i64 p.under.n)).setCell ⟨g3, (j - 1) * 5 + 3, none⟩ (.int .i64 p.under.r)).setCell ⟨g3, (j - 1) * 5 + 4, none⟩ (.string p.key)) := (((((hb1.setCell hgb.1 _).setCell hgb.1 _).setCell hgb.1 _).setCell hgb.1 _).setCell hgb.1 _)
              clear ho1 hb1 hq1 HO1 HZ0 HZ1 HZ2 HZ3 HZ4
              have HN := Lib.hid (And.intro HSW.out (And.intro ho2 hb2))
              clear ho2 hb2 ho hbx hgb hne
              go_wp2_with fail
              go_roundg (j - 1)
              case measure => rw [HGJ.out]; omega
              case rel => exact ⟨j - 1, _, rfl, by omega, by simp; omega, by rw [exchR_len]; exact hzl, Lib.hid (by rw [exchR_at zs hj0 HPQ.out.1 HPQ.out.2, if_pos rfl, ← HPQ.out.1, hzx.out]), HN⟩
            · have hb : Op.bytesLess p.key.toList q.key.toList = false := by rw [bytesLess_eq]; simpa [keyB] using hlt
              have HN0 := hdone (hV.out.1.stands (fun _ _ _ a b => kidLt_trans a b) (fun x' y' _ hx' hy' => by
                rw [hp] at hx'; rw [hq] at hy'; cases hx'; cases hy'
                have hpx : p = x := by have := hzx.out; rw [hp] at this; exact Option.some.inj this
                have hqM : q ∈ M := by
                  have h1 := hV.out.1.perm.mem_iff.1 (List.mem_of_getElem? hq)
                  rcases List.mem_append.1 h1 with h1 | h1
                  · exact h1
                  · have hnd := hV.out.1.perm.nodup_iff.2 HND.out
                    rw [List.mem_singleton.1 h1, ← hpx] at hq
                    exact absurd rfl (pairR_get.1 hnd (j - 1) j p p (by omega) hq hp)
                have hlater := HUT.out.later HA.out HX.out hqM
                rw [← hpx] at hlater
                rcases kidLt_total p q with t | t | t
                · rcases t with t | ⟨t, t2⟩
                  · exact absurd t hlt
                  · exact absurd (stLt_trans t2 hlater) (stLt_irrefl _)
                · rw [t] at hlater; exact absurd hlater (stLt_irrefl _)
                · exact t))
              clear hV ho hp hq hdone hlt
              go_upto_region 8 with fail
              go_quiet (fail)
              have HN1 := Lib.hid (And.intro HN0.out (HV2.out nq))
              go_wp2_with fail
              go_roundg (l.length - (k + 1))
              case measure => rw [HGG.out]; omega
              case rel => exact ⟨k + 1, ⟨_, _, _⟩, zs, rfl, by omega, rfl, by simp, HN1⟩
          · have HN0 := hdone (hV.out.1.stands (fun _ _ _ a b => kidLt_trans a b) (fun x y h0 _ _ => absurd h0 hj0))
            have hj1 : ¬ (0 : Int) < (j : Int) := by omega
            clear hV hdone
            go_upto_region 8 with fail
            go_quiet (fail)
            have HN1 := Lib.hid (And.intro HN0.out (HV2.out nq))
            go_wp2_with fail
            go_roundg (l.length - (k + 1))
            case measure => rw [HGG.out]; omega
            case rel => exact ⟨k + 1, ⟨_, _, _⟩, zs, rfl, by omega, rfl, by simp, HN1⟩
      · have hor : (¬ x.under.n = un) ∨ (x.under.n = un ∧ ¬ x.under.r = ur) := by
          by_cases e1 : x.under.n = un
          · exact .inr ⟨e1, under_ne_r hb e1⟩
          · exact .inl e1
        have HUT2 := Lib.hid (HUT.out.skip HX.out hb)
        clear hb
        rcases hor with e1 | ⟨e1, e2⟩
        · go_wp2_with fail
          go_quiet (fail)
          have HN1 := Lib.hid (And.intro HUT2.out (HD.out nq))
          go_wp2_with fail
          go_roundg (l.length - (k + 1))
          case measure => rw [HGG.out]; omega
          case rel => exact ⟨k + 1, ⟨_, _, _⟩, M, rfl, by omega, rfl, by simp, HN1⟩
        · rw [e1] at x2
          clear e1
          go_wp2_with fail
          go_quiet (fail)
          have HN1 := Lib.hid (And.intro HUT2.out (HD.out nq))
          go_wp2_with fail
          go_roundg (l.length - (k + 1))
          case measure => rw [HGG.out]; omega
          case rel => exact ⟨k + 1, ⟨_, _, _⟩, M, rfl, by omega, rfl, by simp, HN1⟩
    · obtain rfl : k = l.length := by omega
      have hK := hU.out.1.all HA.out
      have hml := hU.out.1.len (Nat.le_refl _)
      obtain ⟨hsn, hc3, hm3⟩ := (hU.out.2.1.slice Ch.len) |> fun h => (by obtain ⟨_, _, e, h2, h3, _⟩ := h; cases e; exact ⟨rfl, h2, h3⟩ : sn = M.length ∧ M.length ≤ sc ∧ sc ≤ maxLen)
      subst hsn
      unfold maxLen at hm3
      obtain ⟨wm, hwm⟩ : ∃ wm, wm = wr := ⟨_, rfl⟩
      subst hwm
      have HK := Lib.hid (And.intro hK hU.out.2)
      have hwz := hU.out.2.2.size
      have hkk : ¬ (l.length : Int) < (l.length : Int) := by omega
      clear hU hK hk hkl
      go_wp2_with fail
      go_loopg [9, 10] M.length (fun g vv iv wr => ∃ (j : Nat) (s : SlK), g = M.length - j ∧ j ≤ M.length ∧ vv = .slice s.a s.n s.cap ∧ iv = .int .i64 j ∧ Hid (Own St.cells 2 24 wm.heap.size wr (.slice s.a s.n s.cap) ((M.take j).map Ch.block) ∧ Below wm.heap.size wm wr))
      case atStart => exact ⟨0, ⟨none, 0, 0⟩, by omega, by omega, rfl, rfl, Lib.hid ⟨Own.nil, Below.refl _ _⟩⟩
      case round =>
        obtain ⟨j, ⟨ta, tn, tc⟩, hg, hj, rfl, rfl, hV⟩ := hrel
        dsimp only at hV ⊢
        have HGJ := Lib.hid hg
        clear hg
        by_cases hjl : j < M.length
        · obtain ⟨y, hy⟩ : ∃ y, M[j]? = some y := ⟨_, List.getElem?_eq_getElem hjl⟩
          obtain ⟨b, o, c9, e9, h9⟩ := ((HK.out.2.1.slice Ch.len).below hV.out.2).dcells (by intro e; rw [e] at hjl; simp at hjl)
          cases e9
          obtain ⟨y0, y1, -, -, -⟩ := h9 j y hy
          have hst := hV.out.2.size
          have htk : (M.take (j + 1)).map Ch.block = (M.take j).map Ch.block ++ [y.block] := by rw [List.take_add_one, hy]; simp
          have HTK := Lib.hid htk
          have htl : ((M.take j).map Ch.block).length = j := by rw [List.length_map, List.length_take]; omega
          clear hy h9 htk
          go_wp2_with (at_builtin; refine wpList_append_struct rfl _ _ _ rfl i1 _ 16 Try.underlying49 hi1 hy0 hy1 hy2 rfl (by omega) StC.len StC.one rfl (hV.out.1.alloc _) y.block wr.heap.size 1 rfl (st_cells_new _ y.block) (by unfold maxLen; omega) (by omega) (by simp; omega) ?_)
          intro v' w3 hown3 hx3
          obtain ⟨⟨ua, un', uc⟩, e3⟩ : ∃ s : SlK, v' = .slice s.a s.n s.cap := by
            rcases hown3.eq_slice with ⟨e, _⟩ | ⟨g, c, e, _⟩
            · exact ⟨⟨_, _, _⟩, e⟩
            · exact ⟨⟨_, _, _⟩, e⟩
          dsimp only at e3
          subst e3
          have hB3 := Ext.new (hV.out.2.alloc hV.out.2.size (.cells #[.int .i64 y.block.n, .int .i64 y.block.r] 24)) hx3 (fun i hi _ e => by have := (hV.out.1.blk i e).1; omega) (by simp; omega)
          have HN : Hid (Own St.cells 2 24 wm.heap.size w3 (.slice ua un' uc) ((M.take (j + 1)).map Ch.block) ∧ Below wm.heap.size wm w3) := Lib.hid ⟨by rw [HTK.out, List.map_take]; exact hown3, hB3⟩
          clear hown3 hx3 hB3 hV
          go_wp2_with fail
          go_roundg (M.length - (j + 1))
          case measure => rw [HGJ.out]; omega
          case rel => exact ⟨j + 1, ⟨ua, un', uc⟩, rfl, by omega, rfl, by simp, HN⟩
        · obtain rfl : j = M.length := by omega
          have hjj : ¬ (M.length : Int) < (M.length : Int) := by omega
          have hV1 := hV.out.1
          rw [List.take_length] at hV1
          have hw := HB0.out.trans ((HK.out.2.2.trans (hV.out.2.mono HK.out.2.2.size)).mono HB0.out.size)
          have HN := Lib.hid (And.intro (hV1.mono (Nat.le_trans HB0.out.size hwz)) hw)
          clear hV hV1 hw hjl
          go_wp2_with fail
          go_ret
          exact ⟨_, M, rfl, HN.out.1, HK.out.1, HN.out.2⟩

end Go.Proofs.Ytilonmpcifohiaa

namespace Go.Proofs.Ytilonmpcifohiaa
open Go.RowKit
set_option linter.unusedSimpArgs false
set_option linter.unusedVariables false

def btc (b : Bool) : List Value := [.bool b]
theorem btc_len (b : Bool) : (btc b).length = 1 := rfl
theorem btc_one (b : Bool) : ∀ u ∈ btc b, u.oneCell' = true := by
  intro u hu
  simp only [btc, List.mem_cons, List.not_mem_nil, or_false] at hu
  subst hu
  rfl
theorem btc_new (W : World) (b : Bool) : ∀ j u, (btc b)[j]? = some u → (W.alloc (.cells #[.bool b] 4)).cell? ⟨W.heap.size, j, none⟩ = some u := by
  intro j u hj
  rw [World.cell?_alloc_at _ _ _ _ rfl, ← hj, btc]
  simp
theorem info_bool : (Try.prog.info? 4).map (fun i => (i.zero, i.size, i.bytes)) = some (some (.bool false), 1, 1) := by kernel_rfl
/-- Slices of other kinds lie apart. -/
theorem own_apart {α β : Type} {ea : α → List Value} {eb : β → List Value} {k k2 : Nat} {e e2 : TypeId} {B B2 : Nat} {w : World} {v v2 : Value} {l : List α} {l2 : List β} (h : Own ea k e B w v l) (h2 : Own eb k2 e2 B2 w v2 l2) (hne : e ≠ e2) : ∀ b, v.ownBlock = some b → ¬ v2.ownBlock = some b := fun b hb hb2 => by
  obtain ⟨c, hc⟩ := h.tag hb
  obtain ⟨c2, hc2⟩ := h2.tag hb2
  rw [hc] at hc2
  cases hc2
  exact hne rfl

/-- Block rb is the document's tree, whose moves lie in a block of its own from B on. -/
def RTree (B : Nat) (w : World) (rb : Nat) (v : Value) (L : List RMv) : Prop :=
  w.heap[rb]? = some (.cells #[v] 44 (0, 0)) ∧ Own RMv.cells 7 26 B w v L ∧ B ≤ rb
theorem RTree.below {B : Nat} {w w' : World} {rb : Nat} {v : Value} {L : List RMv} (h : RTree B w rb v L) (hb : Below w.heap.size w w') : RTree B w' rb v L :=
  ⟨(hb.block rb (Array.getElem?_eq_some_iff.1 h.1).1).trans h.1, h.2.1.ext (Ext.of_below (S := fun _ => False) hb) (fun _ _ h => h), h.2.2⟩
theorem RTree.c0 {B : Nat} {w : World} {rb : Nat} {v : Value} {L : List RMv} (h : RTree B w rb v L) : w.cell? ⟨rb, 0, none⟩ = some v := by simp [World.cell?, h.1]
theorem RTree.f0 {B : Nat} {w : World} {rb : Nat} {v : Value} {L : List RMv} (h : RTree B w rb v L) : w.frozen? ⟨rb, 0, none⟩ = false := by simp [World.frozen?, h.1]

/-- What After answers. -/
def AfterPost (w : World) (c : List (St × Ch)) (e : Ending) (w' : World) : Prop :=
  ∃ v1 v2 A, e = .returned (.tuple #[v1, v2]) ∧ Own Ch.cells 5 36 w.heap.size w' v1 A ∧ AllOf (hang c) A ∧ Own btc 1 4 w.heap.size w' v2 (tookL c) ∧ Below w.heap.size w w'
/-- Under way: the first k moves are gone through. -/
structure AftIs (w : World) (c : List (St × Ch)) (wr : World) (k : Nat) (v1 v2 : Value) (A : List Ch) : Prop where
  all : AllOf (hang (c.take k)) A
  own : Own Ch.cells 5 36 w.heap.size wr v1 A
  took : Own btc 1 4 w.heap.size wr v2 (tookL (c.take k))
  frame : Below w.heap.size w wr
theorem AftIs.below {w : World} {c : List (St × Ch)} {wr w' : World} {k : Nat} {v1 v2 : Value} {A : List Ch} (h : AftIs w c wr k v1 v2 A) (hb : Below wr.heap.size wr w') : AftIs w c w' k v1 v2 A :=
  ⟨h.all, h.own.ext (Ext.of_below (S := fun _ => False) hb) (fun _ _ h => h), h.took.ext (Ext.of_below (S := fun _ => False) hb) (fun _ _ h => h), h.frame.trans (hb.mono h.frame.size)⟩
theorem AftIs.len {w : World} {c : List (St × Ch)} {wr : World} {k : Nat} {v1 v2 : Value} {A : List Ch} (h : AftIs w c wr k v1 v2 A) : A.length ≤ k := by
  have h0 : AllOf (play ((c.take k).map (·.2))) A := h.all
  have := h0.length
  rw [List.length_map, List.length_take] at this
  omega
theorem own_nlen {α : Type} {ea : α → List Value} {q : Nat} {T : TypeId} {base : Nat} {w : World} {a : Option Addr} {n cap : Nat} {l : List α} (h : Own ea q T base w (.slice a n cap) l) (hk : ∀ x, (ea x).length = q) : n = l.length ∧ n ≤ cap ∧ cap ≤ 9223372036854775807 := by
  obtain ⟨a, c, e1, h2, h3, h4⟩ := h.slice hk
  cases e1
  exact ⟨rfl, h2, by unfold maxLen at h3; exact h3⟩
/-- Behind the test whether it is a ring. -/
theorem AftIs.noted {w : World} {c : List (St × Ch)} {wr w' : World} {k : Nat} {v1 v2 v3 : Value} {A : List Ch} {x : St × Ch} {b : Bool} (h : AftIs w c wr k v1 v2 A) (hx : c[k]? = some x) (ht : tookH (hang (c.take k)) x.2 = b)
    (h3 : Own btc 1 4 w.heap.size w' v3 (tookL (c.take k) ++ [b])) (hx3 : Ext (fun b => v2.ownBlock = some b) wr w') :
    Own Ch.cells 5 36 w.heap.size w' v1 A ∧ Own btc 1 4 w.heap.size w' v3 (tookL (c.take (k + 1))) ∧ Below w.heap.size w w' :=
  ⟨h.own.ext hx3 (own_apart h.own h.took (by decide)), by rw [tookL_take hx, ht]; exact h3, Ext.new h.frame hx3 (fun i hi _ e => by have := (h.took.blk i e).1; omega) h.frame.size⟩

set_option maxRecDepth 100000 in
set_option maxHeartbeats 10000000 in
theorem rafter_any (rb : Nat) (v : Value) (L : List RMv) (w : World) {B : Nat} (h : RTree B w rb v L) {c : List (St × Ch)} (hc : CoreOf L c) (hl : L.length ≤ 1000) :
    Calls Try.prog 37 #[.pointer (some ⟨rb, 0, none⟩), .int .i64 L.length] w fun e w' => AfterPost w c e w' := by
  obtain ⟨a, cap, rfl, hcap, hmax, _⟩ := h.2.1.slice RMv.len
  unfold maxLen at hmax
  obtain ⟨i0, hi, hz0, hz1, hz2⟩ := info_parts info_child
  obtain ⟨i1, hi1, hy0, hy1, hy2⟩ := info_parts info_bool
  have hcl := hc.len
  have HC := Lib.hid hc
  have HT := Lib.hid h
  have HCL := Lib.hid hcl
  clear h hc hcl
  go_enter Try.func37, Try.ntmps37
  go_wp2_with fail
  go_loopg [6, 7, 8] L.length (fun g lv tv iv wr => ∃ (k : Nat) (s t : SlK) (A : List Ch), g = L.length - k ∧ k ≤ L.length ∧ lv = .slice s.a s.n s.cap ∧ tv = .slice t.a t.n t.cap ∧ iv = .int .i64 k ∧ Hid (AftIs w c wr k (.slice s.a s.n s.cap) (.slice t.a t.n t.cap) A))
  case atStart => exact ⟨0, ⟨none, 0, 0⟩, ⟨none, 0, 0⟩, [], by omega, by omega, rfl, rfl, rfl, Lib.hid ⟨AllOf.nil, Own.nil, Own.nil, Below.refl _ _⟩⟩
  case round =>
    obtain ⟨k, ⟨sa, sn, sc⟩, ⟨ta, tn, tc⟩, A, hg, hk, rfl, rfl, rfl, hU⟩ := hrel
    dsimp only at hU ⊢
    have HGG := Lib.hid hg
    clear hg
    by_cases hkl : k < L.length
    · obtain ⟨x, hx⟩ : ∃ x, L[k]? = some x := ⟨_, List.getElem?_eq_getElem hkl⟩
      have hcx : c[k]? = some (coreR x) := by rw [← HC.out.1, List.getElem?_map, hx]; rfl
      have HCX := Lib.hid hcx
      have hT := HT.out.below hU.out.frame
      have t0 := hT.c0
      obtain ⟨b, o, c1, e1, h1⟩ := (hT.2.1.slice RMv.len).rcells (by intro e; rw [e] at hkl; simp at hkl)
      cases e1
      obtain ⟨x0, x1, x2, x3, x4, x5, x6⟩ := h1 k x hx
      have hkk : (k : Int) < (L.length : Int) := by omega
      have hb5 : Below wr.heap.size wr (wr.alloc (.cells #[.int .i64 x.at_.n, .int .i64 x.at_.r, .int .i64 x.block.n, .int .i64 x.block.r, .int .i64 x.under.n, .int .i64 x.under.r, .string x.key] 26)) := (Below.refl _ _).alloc (Nat.le_refl _) _
      have hU5 := hU.out.below hb5
      have z0 : (wr.alloc (.cells #[.int .i64 x.at_.n, .int .i64 x.at_.r, .int .i64 x.block.n, .int .i64 x.block.r, .int .i64 x.under.n, .int .i64 x.under.r, .string x.key] 26)).cell? ⟨wr.heap.size, 0, none⟩ = some (.int .i64 x.at_.n) := by go_simp
      have z1 : (wr.alloc (.cells #[.int .i64 x.at_.n, .int .i64 x.at_.r, .int .i64 x.block.n, .int .i64 x.block.r, .int .i64 x.under.n, .int .i64 x.under.r, .string x.key] 26)).cell? ⟨wr.heap.size, 1, none⟩ = some (.int .i64 x.at_.r) := by go_simp
      have z2 : (wr.alloc (.cells #[.int .i64 x.at_.n, .int .i64 x.at_.r, .int .i64 x.block.n, .int .i64 x.block.r, .int .i64 x.under.n, .int .i64 x.under.r, .string x.key] 26)).cell? ⟨wr.heap.size, 2, none⟩ = some (.int .i64 x.block.n) := by go_simp
      have z3 : (wr.alloc (.cells #[.int .i64 x.at_.n, .int .i64 x.at_.r, .int .i64 x.block.n, .int .i64 x.block.r, .int .i64 x.under.n, .int .i64 x.under.r, .string x.key] 26)).cell? ⟨wr.heap.size, 3, none⟩ = some (.int .i64 x.block.r) := by go_simp
      have z4 : (wr.alloc (.cells #[.int .i64 x.at_.n, .int .i64 x.at_.r, .int .i64 x.block.n, .int .i64 x.block.r, .int .i64 x.under.n, .int .i64 x.under.r, .string x.key] 26)).cell? ⟨wr.heap.size, 4, none⟩ = some (.int .i64 x.under.n) := by go_simp
      have z5 : (wr.alloc (.cells #[.int .i64 x.at_.n, .int .i64 x.at_.r, .int .i64 x.block.n, .int .i64 x.block.r, .int .i64 x.under.n, .int .i64 x.under.r, .string x.key] 26)).cell? ⟨wr.heap.size, 5, none⟩ = some (.int .i64 x.under.r) := by go_simp
      have z6 : (wr.alloc (.cells #[.int .i64 x.at_.n, .int .i64 x.at_.r, .int .i64 x.block.n, .int .i64 x.block.r, .int .i64 x.under.n, .int .i64 x.under.r, .string x.key] 26)).cell? ⟨wr.heap.size, 6, none⟩ = some (.string x.key) := by go_simp
      have hAl := hU.out.len
      obtain ⟨hsn, hc2, hc3⟩ := own_nlen hU.out.own Ch.len
      obtain ⟨htn, hd2, hd3⟩ := own_nlen hU.out.took btc_len
      have htl : (tookL (c.take k)).length = k := by rw [tookL_len, List.length_take]; have := HCL.out; omega
      have HU5 := Lib.hid hU5
      have HTL := Lib.hid htl
      have htn2 : tn ≤ 1000 := by omega
      have hsn2 : sn ≤ 1000 := by omega
      have HSN := Lib.hid hsn
      have HTN := Lib.hid htn
      have HTB := Lib.hid (fun b hb => (hU.out.took.blk b hb).2)
      clear hcx hx h1 hT hU hb5 hU5 htl hsn htn
      go_upto_region 7 with fail
      generalize wr.alloc (.cells #[.int .i64 x.at_.n, .int .i64 x.at_.r, .int .i64 x.block.n, .int .i64 x.block.r, .int .i64 x.under.n, .int .i64 x.under.r, .string x.key] 26) = w5 at *
      clear x0 x1 x2 x3 x4 x5 x6 t0
      have HWI := Lib.hid (rwithin_any (.slice sa sn sc) A x.under.n x.under.r x.block.n x.block.r w5 (HU5.out.own.slice Ch.len) (by omega) HU5.out.all (hang_keyed _) (hang_acyc _))
      go_wp2_with fail
      refine HWI.out.mono ?_
      rintro e w6 ⟨rfl, b6⟩
      have hU6 := HU5.out.below b6
      replace z0 := keepB b6 z0
      replace z1 := keepB b6 z1
      replace z2 := keepB b6 z2
      replace z3 := keepB b6 z3
      replace z4 := keepB b6 z4
      replace z5 := keepB b6 z5
      replace z6 := keepB b6 z6
      have hsz6 := hU6.frame.size
      have htk := tookH_upB (hang (c.take k)) x.ch
      obtain ⟨rr, hrr⟩ : ∃ rr, upB (hang (c.take k)) ⟨x.under.n, x.under.r⟩ ⟨x.block.n, x.block.r⟩ = rr := ⟨_, rfl⟩
      rw [show upB (hang (c.take k)) x.ch.under x.ch.block = rr from hrr] at htk
      rw [hrr]
      have HTK := Lib.hid htk
      have HU6 := Lib.hid hU6
      clear hU6 htk hrr b6 HWI HU5
      cases rr
      · have htr : True := trivial
        go_wp2_with (at_builtin; refine wpList_append_struct rfl _ _ _ rfl i1 _ 1 Try.underlying71 hi1 hy0 hy1 hy2 rfl (by omega) btc_len btc_one rfl (HU6.out.took.alloc _) true w6.heap.size 1 rfl (btc_new _ true) (by unfold maxLen; have := HTL.out; omega) (by have := HTL.out; omega) (by simp; omega) ?_)
        intro v' w7 hown7 hx7
        obtain ⟨⟨ua, un, uc⟩, e7⟩ : ∃ s : SlK, v' = .slice s.a s.n s.cap := by
          rcases hown7.eq_slice with ⟨e, _⟩ | ⟨g, c, e, _⟩
          · exact ⟨⟨_, _, _⟩, e⟩
          · exact ⟨⟨_, _, _⟩, e⟩
        dsimp only at e7
        subst e7
        have hU6a := HU6.out.below ((Below.refl _ _).alloc (Nat.le_refl _) (.cells #[.bool true] 4))
        have h7 := hU6a.noted HCX.out HTK.out hown7 hx7
        have hzk : ∀ i u, w6.cell? ⟨wr.heap.size, i, none⟩ = some u → w7.cell? ⟨wr.heap.size, i, none⟩ = some u := fun i u hu => hx7.keep (cell_alloc hu _) (fun e => by have := HTB.out _ e; omega)
        replace z0 := hzk _ _ z0
        replace z1 := hzk _ _ z1
        replace z2 := hzk _ _ z2
        replace z3 := hzk _ _ z3
        replace z4 := hzk _ _ z4
        replace z5 := hzk _ _ z5
        replace z6 := hzk _ _ z6
        have hst := hang_take HCX.out
        rw [show (coreR x).2 = x.ch from rfl, stepH_took HTK.out] at hst
        have HST := Lib.hid hst
        have hsz7 := h7.2.2.size
        have HO7 := Lib.hid h7
        clear hzk h7 hU6a hown7 hx7 hst
        have v0 := cell_alloc z0 (.cells #[.int .i64 x.block.n, .int .i64 x.block.r, .int .i64 x.under.n, .int .i64 x.under.r, .string x.key] 36)
        have v1 := cell_alloc z1 (.cells #[.int .i64 x.block.n, .int .i64 x.block.r, .int .i64 x.under.n, .int .i64 x.under.r, .string x.key] 36)
        have v2 := cell_alloc z2 (.cells #[.int .i64 x.block.n, .int .i64 x.block.r, .int .i64 x.under.n, .int .i64 x.under.r, .string x.key] 36)
        have v3 := cell_alloc z3 (.cells #[.int .i64 x.block.n, .int .i64 x.block.r, .int .i64 x.under.n, .int .i64 x.under.r, .string x.key] 36)
        have v4 := cell_alloc z4 (.cells #[.int .i64 x.block.n, .int .i64 x.block.r, .int .i64 x.under.n, .int .i64 x.under.r, .string x.key] 36)
        have v5 := cell_alloc z5 (.cells #[.int .i64 x.block.n, .int .i64 x.block.r, .int .i64 x.under.n, .int .i64 x.under.r, .string x.key] 36)
        have v6 := cell_alloc z6 (.cells #[.int .i64 x.block.n, .int .i64 x.block.r, .int .i64 x.under.n, .int .i64 x.under.r, .string x.key] 36)
        have y0 : (w7.alloc (.cells #[.int .i64 x.block.n, .int .i64 x.block.r, .int .i64 x.under.n, .int .i64 x.under.r, .string x.key] 36)).cell? ⟨w7.heap.size, 0, none⟩ = some (.int .i64 x.block.n) := by go_simp
        have y1 : (w7.alloc (.cells #[.int .i64 x.block.n, .int .i64 x.block.r, .int .i64 x.under.n, .int .i64 x.under.r, .string x.key] 36)).cell? ⟨w7.heap.size, 1, none⟩ = some (.int .i64 x.block.r) := by go_simp
        have y2 : (w7.alloc (.cells #[.int .i64 x.block.n, .int .i64 x.block.r, .int .i64 x.under.n, .int .i64 x.under.r, .string x.key] 36)).cell? ⟨w7.heap.size, 2, none⟩ = some (.int .i64 x.under.n) := by go_simp
        have y3 : (w7.alloc (.cells #[.int .i64 x.block.n, .int .i64 x.block.r, .int .i64 x.under.n, .int .i64 x.under.r, .string x.key] 36)).cell? ⟨w7.heap.size, 3, none⟩ = some (.int .i64 x.under.r) := by go_simp
        have y4 : (w7.alloc (.cells #[.int .i64 x.block.n, .int .i64 x.block.r, .int .i64 x.under.n, .int .i64 x.under.r, .string x.key] 36)).cell? ⟨w7.heap.size, 4, none⟩ = some (.string x.key) := by go_simp
        have h8 : Own Ch.cells 5 36 w.heap.size (w7.alloc (.cells #[.int .i64 x.block.n, .int .i64 x.block.r, .int .i64 x.under.n, .int .i64 x.under.r, .string x.key] 36)) (.slice sa sn sc) A ∧ Own btc 1 4 w.heap.size (w7.alloc (.cells #[.int .i64 x.block.n, .int .i64 x.block.r, .int .i64 x.under.n, .int .i64 x.under.r, .string x.key] 36)) (.slice ua un uc) (tookL (c.take (k + 1))) ∧ Below w.heap.size w (w7.alloc (.cells #[.int .i64 x.block.n, .int .i64 x.block.r, .int .i64 x.under.n, .int .i64 x.under.r, .string x.key] 36)) := ⟨HO7.out.1.alloc _, HO7.out.2.1.alloc _, HO7.out.2.2.alloc hsz7 _⟩
        have hs8 : (w7.alloc (.cells #[.int .i64 x.block.n, .int .i64 x.block.r, .int .i64 x.under.n, .int .i64 x.under.r, .string x.key] 36)).heap.size = w7.heap.size + 1 := by simp
        have H8 := Lib.hid h8
        have HS8 := Lib.hid hs8
        clear h8 hs8
        go_upto_region 11 with fail
        generalize w7.alloc (.cells #[.int .i64 x.block.n, .int .i64 x.block.r, .int .i64 x.under.n, .int .i64 x.under.r, .string x.key] 36) = w8 at *
        clear z0 z1 z2 z3 z4 z5 z6 HO7
        have HFI := Lib.hid (rfind_any (.slice sa sn sc) A x.block.n x.block.r w8 (H8.out.1.slice Ch.len) (by omega))
        have HFD := Lib.hid (HU6.out.all.find (hang_keyed _) (b := x.block))
        go_wp2_with fail
        refine HFI.out.mono ?_
        rintro e w9 ⟨rfl, b9⟩
        have hO9 := H8.out.1.ext (Ext.of_below (S := fun _ => False) b9) (fun _ _ h => h)
        have hT9 := H8.out.2.1.ext (Ext.of_below (S := fun _ => False) b9) (fun _ _ h => h)
        have hB9 := H8.out.2.2.trans (b9.mono H8.out.2.2.size)
        replace y0 := keepB b9 y0
        replace y1 := keepB b9 y1
        replace y2 := keepB b9 y2
        replace y3 := keepB b9 y3
        replace y4 := keepB b9 y4
        have hs9 := b9.size
        rw [HS8.out] at hs9
        clear v0 v1 v2 v3 v4 v5 v6 b9 HFI
        rcases HFD.out with ⟨f1, f2⟩ | ⟨i, y, f1, f2, f3, f4⟩
        · have hfi : findI A ⟨x.block.n, x.block.r⟩ = -1 := by unfold findI; rw [f1]
          rw [hfi]
          have HF2 := Lib.hid f2
          obtain ⟨rfl, hcc1, hcc2⟩ := own_nlen hO9 Ch.len
          have hbk := hO9.blk
          have HBK := Lib.hid hbk
          have HT9 := Lib.hid (And.intro hT9 hB9)
          have hsz9 := hB9.size
          clear hfi f1 f2 HFD H8 hbk hT9
          go_wp2_with (at_builtin; refine wpList_append_struct rfl _ _ _ rfl i0 _ 48 Try.underlying46 hi hz0 hz1 hz2 rfl (by omega) Ch.len Ch.one rfl (hO9.alloc _) x.ch w9.heap.size 1 rfl (ch_cells_new _ x.ch) (by unfold maxLen; omega) (by omega) (by simp; omega) ?_)
          intro v' w3 hown3 hx3
          obtain ⟨g3, c3, e3⟩ : ∃ g3 c3, v' = .slice (some ⟨g3, 0, none⟩) (A ++ [x.ch]).length c3 := by
            rcases hown3.eq_slice with ⟨_, e⟩ | ⟨g, c, e, _⟩
            · simp at e
            · exact ⟨g, c, e⟩
          subst e3
          have hB3 := Ext.new (hB9.alloc hB9.size (.cells #[.int .i64 x.block.n, .int .i64 x.block.r, .int .i64 x.under.n, .int .i64 x.under.r, .string x.key] 36)) hx3 (fun i hi _ e => by have := (HBK.out i e).1; omega) (by simp; omega)
          have hT3 := (HT9.out.1.alloc (.cells #[.int .i64 x.block.n, .int .i64 x.block.r, .int .i64 x.under.n, .int .i64 x.under.r, .string x.key] 36)).ext hx3 (own_apart (HT9.out.1.alloc (.cells #[.int .i64 x.block.n, .int .i64 x.block.r, .int .i64 x.under.n, .int .i64 x.under.r, .string x.key] 36)) (hO9.alloc (.cells #[.int .i64 x.block.n, .int .i64 x.block.r, .int .i64 x.under.n, .int .i64 x.under.r, .string x.key] 36)) (by decide))
          obtain ⟨-, hc3, hm3⟩ := hown3.lenI Ch.len
          have hins := insR_first (R := BLt) HU6.out.all.2 x.ch
          obtain ⟨mm, hmm⟩ : ∃ mm, A.length = mm := ⟨_, rfl⟩
          have hlm : (A ++ [x.ch]).length = mm + 1 := by simp [hmm]
          rw [hmm] at hins hAl
          rw [hlm] at hown3 hc3 ⊢
          have HI0 : Hid (InsR BLt (A ++ [x.ch]) (A ++ [x.ch]) mm ∧ Own Ch.cells 5 36 w.heap.size w3 (.slice (some ⟨g3, 0, none⟩) (mm + 1) c3) (A ++ [x.ch]) ∧ Own btc 1 4 w.heap.size w3 (.slice ua un uc) (tookL (c.take (k + 1))) ∧ Below w.heap.size w w3) := Lib.hid ⟨hins, hown3, hT3, hB3⟩
          have HND : Hid ((A ++ [x.ch]).Nodup ∧ ∀ q ∈ A, q.block ≠ x.block) := Lib.hid (by
            have hq : ∀ q ∈ A, q.block ≠ x.block := fun q hq e => by
              have := (HU6.out.all.1 q).1 hq
              rw [e, HF2.out] at this
              cases this
            refine ⟨?_, hq⟩
            rw [List.nodup_append]
            refine ⟨HU6.out.all.2.imp (fun {a b} h e => by rw [e] at h; exact stLt_irrefl _ h), by simp, fun a ha b hb e => ?_⟩
            rw [List.mem_singleton] at hb
            subst hb
            exact hq a ha (by rw [e]; rfl))
          have HMM := Lib.hid hmm
          have HLM := Lib.hid hlm
          clear hown3 hx3 hB3 hins hmm hlm hT3 hO9 hB9 HT9 HBK y0 y1 y2 y3 y4
          obtain ⟨m, hm⟩ : ∃ m, mm + 1 = m := ⟨_, rfl⟩
          have hm1 : (m : Int) - 1 = (mm : Int) := by omega
          rw [hm] at HI0 HLM hc3 ⊢
          have HM := Lib.hid hm
          have hmb : m ≤ 1001 := by omega
          go_wp2_with fail
          go_loopg [13] mm (fun g jv wr => ∃ (j : Nat) (zs : List Ch), g = j ∧ j ≤ mm ∧ jv = .int .i64 j ∧ zs.length = m ∧ Hid (zs[j]? = some x.ch) ∧ Hid (InsR BLt (A ++ [x.ch]) zs j ∧ Own Ch.cells 5 36 w.heap.size wr (.slice (some ⟨g3, 0, none⟩) m c3) zs ∧ Own btc 1 4 w.heap.size wr (.slice ua un uc) (tookL (c.take (k + 1))) ∧ Below w.heap.size w wr))
          case atStart => exact ⟨mm, _, rfl, by omega, by simp, HLM.out, Lib.hid (by rw [List.getElem?_append_right (by rw [HMM.out]; omega), HMM.out, Nat.sub_self]; rfl), HI0⟩
          case round =>
            obtain ⟨j, zs, hg, hj, rfl, hzl, hzx, hV⟩ := hrel
            have HGJ := Lib.hid hg
            clear hg
            have hdone : ∀ W, Below wr.heap.size wr W → zs.Pairwise BLt → Hid (AftIs w c W (k + 1) (.slice (some ⟨g3, 0, none⟩) m c3) (.slice ua un uc) zs) := fun W hW h => Lib.hid ⟨by rw [HST.out]; exact HU6.out.all.insert (hang_keyed _) HF2.out hV.out.1.perm h, hV.out.2.1.ext (Ext.of_below (S := fun _ => False) hW) (fun _ _ h => h), hV.out.2.2.1.ext (Ext.of_below (S := fun _ => False) hW) (fun _ _ h => h), hV.out.2.2.2.trans (hW.mono hV.out.2.2.2.size)⟩
            by_cases hj0 : 0 < j
            · obtain ⟨p, hp⟩ : ∃ p, zs[j]? = some p := ⟨_, List.getElem?_eq_getElem (by omega)⟩
              obtain ⟨q, hq⟩ : ∃ q, zs[j - 1]? = some q := ⟨_, List.getElem?_eq_getElem (by omega)⟩
              have ho := hV.out.2.1
              have p0 := ho.cellI (j := 0) Ch.len hp rfl
              have p1 := ho.cellI (j := 1) Ch.len hp rfl
              have q0 := ho.cellI (j := 0) Ch.len hq rfl
              have q1 := ho.cellI (j := 1) Ch.len hq rfl
              simp only [Nat.add_zero] at p0 q0
              have hj1 : (0 : Int) < (j : Int) := by omega
              have hjz : ((j - 1 : Nat) : Int) = (j : Int) - 1 := by omega
              have HPQ := Lib.hid (And.intro hp hq)
              have hcm := rcompare_any p.block.n p.block.r q.block.n q.block.r
              obtain ⟨cv, hcv⟩ : ∃ cv, cmpS ⟨p.block.n, p.block.r⟩ ⟨q.block.n, q.block.r⟩ = cv := ⟨_, rfl⟩
              rw [hcv] at hcm
              have HCM := Lib.hid hcm
              have hvv := cmpS_lt p.block q.block
              rw [show cmpS p.block q.block = cv from hcv] at hvv
              have HVV := Lib.hid hvv
              have hja : (0 : Int) ≤ (j : Int) := by omega
              have hjb : (j : Int) < (m : Int) := by omega
              obtain ⟨jq, hjq⟩ : ∃ jq : Nat, j - 1 = jq := ⟨_, rfl⟩
              rw [hjq] at q0 q1
              have hjc : (0 : Int) ≤ (jq : Int) := by omega
              have hjd : (jq : Int) < (m : Int) := by omega
              have hje : IntKind.i64.wrap ((j : Int) - 1) = (jq : Int) := by rw [show (j : Int) - 1 = (jq : Int) by omega]; exact IntWalk.i64_in _ (by omega)
              have HJQ := Lib.hid hjq
              clear hjz hjq
              clear ho hp hq hcm hcv hvv
              go_upto_region 16 with fail
              go_region_held3 (fun W => W.cell? ⟨g3, j * 5, none⟩ = some (.int .i64 p.block.n) ∧ W.cell? ⟨g3, j * 5 + 1, none⟩ = some (.int .i64 p.block.r) ∧ W.cell? ⟨g3, jq * 5, none⟩ = some (.int .i64 q.block.n) ∧ W.cell? ⟨g3, jq * 5 + 1, none⟩ = some (.int .i64 q.block.r)) (first | exact ⟨p0, p1, q0, q1⟩ | exact ⟨keepB b5 p0, keepB b5 p1, keepB b5 q0, keepB b5 q1⟩) (first | (go_at_call 33; ((with_reducible refine (HCM.out _).mono ?_); rintro e w5 ⟨rfl, b5⟩; simp only [heap_drew, below_drew] at b5)))
              have HB5 := Lib.hid b5
              clear b5 p0 p1 q0 q1 hja hjb hjc hjd hje
              have hjz : ((j - 1 : Nat) : Int) = (j : Int) - 1 := by omega
              by_cases hlt : cv < 0
              · have HSW := Lib.hid (hV.out.1.swap hj0 HPQ.out.1 HPQ.out.2 (HVV.out.1 hlt))
                have ho := hV.out.2.1.ext (Ext.of_below (S := fun _ => False) HB5.out) (fun _ _ h => h)
                have hbx := hV.out.2.2.2.trans (HB5.out.mono hV.out.2.2.2.size)
                have HTX := Lib.hid (hV.out.2.2.1.ext (Ext.of_below (S := fun _ => False) HB5.out) (fun _ _ h => h))
                have HTA := Lib.hid (own_apart HTX.out ho (by decide))
                clear hV hdone HCM HVV HB5
                have p0 := ho.cellI (j := 0) Ch.len HPQ.out.1 rfl
                have p1 := ho.cellI (j := 1) Ch.len HPQ.out.1 rfl
                have p2 := ho.cellI (j := 2) Ch.len HPQ.out.1 rfl
                have p3 := ho.cellI (j := 3) Ch.len HPQ.out.1 rfl
                have p4 := ho.cellI (j := 4) Ch.len HPQ.out.1 rfl
                simp only [Nat.add_zero] at p0
                have hgb := ho.blk g3 rfl
                have hoy := ho.alloc (.cells #[.int .i64 p.block.n, .int .i64 p.block.r, .int .i64 p.under.n, .int .i64 p.under.r, .string p.key] 36)
                have hby := hbx.alloc hbx.size (.cells #[.int .i64 p.block.n, .int .i64 p.block.r, .int .i64 p.under.n, .int .i64 p.under.r, .string p.key] 36)
                have z0 : (w5.alloc (.cells #[.int .i64 p.block.n, .int .i64 p.block.r, .int .i64 p.under.n, .int .i64 p.under.r, .string p.key] 36)).cell? ⟨w5.heap.size, 0, none⟩ = some (.int .i64 p.block.n) := by go_simp
                have z1 : (w5.alloc (.cells #[.int .i64 p.block.n, .int .i64 p.block.r, .int .i64 p.under.n, .int .i64 p.under.r, .string p.key] 36)).cell? ⟨w5.heap.size, 1, none⟩ = some (.int .i64 p.block.r) := by go_simp
                have z2 : (w5.alloc (.cells #[.int .i64 p.block.n, .int .i64 p.block.r, .int .i64 p.under.n, .int .i64 p.under.r, .string p.key] 36)).cell? ⟨w5.heap.size, 2, none⟩ = some (.int .i64 p.under.n) := by go_simp
                have z3 : (w5.alloc (.cells #[.int .i64 p.block.n, .int .i64 p.block.r, .int .i64 p.under.n, .int .i64 p.under.r, .string p.key] 36)).cell? ⟨w5.heap.size, 3, none⟩ = some (.int .i64 p.under.r) := by go_simp
                have z4 : (w5.alloc (.cells #[.int .i64 p.block.n, .int .i64 p.block.r, .int .i64 p.under.n, .int .i64 p.under.r, .string p.key] 36)).cell? ⟨w5.heap.size, 4, none⟩ = some (.string p.key) := by go_simp
                have HTY := Lib.hid (HTX.out.alloc (.cells #[.int .i64 p.block.n, .int .i64 p.block.r, .int .i64 p.under.n, .int .i64 p.under.r, .string p.key] 36))
                have HOY := Lib.hid (And.intro hoy hby)
                clear hoy hby
                go_upto_region 19 with fail
                generalize w5.alloc (.cells #[.int .i64 p.block.n, .int .i64 p.block.r, .int .i64 p.under.n, .int .i64 p.under.r, .string p.key] 36) = wy at *
                clear p0 p1 p2 p3 p4
                obtain ⟨hoy, hby⟩ := HOY.out
                have q0 := hoy.cellI (j := 0) Ch.len HPQ.out.2 rfl
                have f0 := hoy.freeI (j * 5)
                have r0 := hoy.cellI (j := 0) Ch.len HPQ.out.1 rfl
                have q1 := hoy.cellI (j := 1) Ch.len HPQ.out.2 rfl
                have f1 := hoy.freeI (j * 5 + 1)
                have r1 := hoy.cellI (j := 1) Ch.len HPQ.out.1 rfl
                have q2 := hoy.cellI (j := 2) Ch.len HPQ.out.2 rfl
                have f2 := hoy.freeI (j * 5 + 2)
                have r2 := hoy.cellI (j := 2) Ch.len HPQ.out.1 rfl
                have q3 := hoy.cellI (j := 3) Ch.len HPQ.out.2 rfl
                have f3 := hoy.freeI (j * 5 + 3)
                have r3 := hoy.cellI (j := 3) Ch.len HPQ.out.1 rfl
                have q4 := hoy.cellI (j := 4) Ch.len HPQ.out.2 rfl
                have f4 := hoy.freeI (j * 5 + 4)
                have r4 := hoy.cellI (j := 4) Ch.len HPQ.out.1 rfl
                simp only [Nat.add_zero] at q0 r0
                have ho1 : Own Ch.cells 5 36 w.heap.size (((((wy.setCell ⟨g3, j * 5, none⟩ (.int .i64 q.block.n)).setCell ⟨g3, j * 5 + 1, none⟩ (.int .i64 q.block.r)).setCell ⟨g3, j * 5 + 2, none⟩ (.int .i64 q.under.n)).setCell ⟨g3, j * 5 + 3, none⟩ (.int .i64 q.under.r)).setCell ⟨g3, j * 5 + 4, none⟩ (.string q.key)) (.slice (some ⟨g3, 0, none⟩) m c3) (zs.set j q) := slab_put1 (y := q) Ch.len (by omega) hzl hoy HPQ.out.1
                have hb1 : Below w.heap.size _ (((((wy.setCell ⟨g3, j * 5, none⟩ (.int .i64 q.block.n)).setCell ⟨g3, j * 5 + 1, none⟩ (.int .i64 q.block.r)).setCell ⟨g3, j * 5 + 2, none⟩ (.int .i64 q.under.n)).setCell ⟨g3, j * 5 + 3, none⟩ (.int .i64 q.under.r)).setCell ⟨g3, j * 5 + 4, none⟩ (.string q.key)) := (((((hby.setCell hgb.1 _).setCell hgb.1 _).setCell hgb.1 _).setCell hgb.1 _).setCell hgb.1 _)
                have hx1 : Ext (· = g3) wy (((((wy.setCell ⟨g3, j * 5, none⟩ (.int .i64 q.block.n)).setCell ⟨g3, j * 5 + 1, none⟩ (.int .i64 q.block.r)).setCell ⟨g3, j * 5 + 2, none⟩ (.int .i64 q.under.n)).setCell ⟨g3, j * 5 + 3, none⟩ (.int .i64 q.under.r)).setCell ⟨g3, j * 5 + 4, none⟩ (.string q.key)) := ext_putFrom (o := j * 5) (Ch.cells q) 0 wy
                have hne : ¬ w5.heap.size = g3 := by omega
                replace z0 := hx1.keep z0 hne
                replace z1 := hx1.keep z1 hne
                replace z2 := hx1.keep z2 hne
                replace z3 := hx1.keep z3 hne
                replace z4 := hx1.keep z4 hne
                have HTZ := Lib.hid (HTY.out.ext hx1 (fun b hb e => HTA.out b hb (by rw [← e]; rfl)))
                have HO1 := Lib.hid (And.intro ho1 hb1)
                clear ho1 hb1 hx1 hoy hby HOY
                have HZ0 := Lib.hid z0
                have HZ1 := Lib.hid z1
                have HZ2 := Lib.hid z2
                have HZ3 := Lib.hid z3
                have HZ4 := Lib.hid z4
                clear z0 z1 z2 z3 z4
                go_upto_region 20 with fail
                generalize (((((wy.setCell ⟨g3, j * 5, none⟩ (.int .i64 q.block.n)).setCell ⟨g3, j * 5 + 1, none⟩ (.int .i64 q.block.r)).setCell ⟨g3, j * 5 + 2, none⟩ (.int .i64 q.under.n)).setCell ⟨g3, j * 5 + 3, none⟩ (.int .i64 q.under.r)).setCell ⟨g3, j * 5 + 4, none⟩ (.string q.key)) = wz at *
                clear q0 f0 r0 q1 f1 r1 q2 f2 r2 q3 f3 r3 q4 f4 r4
                obtain ⟨ho1, hb1⟩ := HO1.out
                have z0 := HZ0.out
                have z1 := HZ1.out
                have z2 := HZ2.out
                have z3 := HZ3.out
                have z4 := HZ4.out
                have f0 := ho1.freeI ((j - 1) * 5)
                have f1 := ho1.freeI ((j - 1) * 5 + 1)
                have f2 := ho1.freeI ((j - 1) * 5 + 2)
                have f3 := ho1.freeI ((j - 1) * 5 + 3)
                have f4 := ho1.freeI ((j - 1) * 5 + 4)
                have hq1 : (zs.set j q)[j - 1]? = some q := by rw [List.getElem?_set, if_neg (by omega)]; exact HPQ.out.2
                have e0 := ho1.cellI (j := 0) Ch.len hq1 rfl
                have e1 := ho1.cellI (j := 1) Ch.len hq1 rfl
                have e2 := ho1.cellI (j := 2) Ch.len hq1 rfl
                have e3 := ho1.cellI (j := 3) Ch.len hq1 rfl
                have e4 := ho1.cellI (j := 4) Ch.len hq1 rfl
                simp only [Nat.add_zero] at e0
                have ho2 : Own Ch.cells 5 36 w.heap.size (((((wz.setCell ⟨g3, (j - 1) * 5, none⟩ (.int .i64 p.block.n)).setCell ⟨g3, (j - 1) * 5 + 1, none⟩ (.int .i64 p.block.r)).setCell ⟨g3, (j - 1) * 5 + 2, none⟩ (.int .i64 p.under.n)).setCell ⟨g3, (j - 1) * 5 + 3, none⟩ (.int .i64 p.under.r)).setCell ⟨g3, (j - 1) * 5 + 4, none⟩ (.string p.key)) (.slice (some ⟨g3, 0, none⟩) m c3) (exchR zs j p q) := slab_put1 (y := p) Ch.len (by omega) (by rw [List.length_set]; exact hzl) ho1 hq1
                have hb2 : Below w.heap.size _ (((((wz.setCell ⟨g3, (j - 1) * 5, none⟩ (.int .i64 p.block.n)).setCell ⟨g3, (j - 1) * 5 + 1, none⟩ (.int .i64 p.block.r)).setCell ⟨g3, (j - 1) * 5 + 2, none⟩ (.int .i64 p.under.n)).setCell ⟨g3, (j - 1) * 5 + 3, none⟩ (.int .i64 p.under.r)).setCell ⟨g3, (j - 1) * 5 + 4, none⟩ (.string p.key)) := (((((hb1.setCell hgb.1 _).setCell hgb.1 _).setCell hgb.1 _).setCell hgb.1 _).setCell hgb.1 _)
                clear ho1 hb1 hq1 HO1 HZ0 HZ1 HZ2 HZ3 HZ4
                have HN : Hid (InsR BLt (A ++ [x.ch]) (exchR zs j p q) (j - 1) ∧ Own Ch.cells 5 36 w.heap.size (((((wz.setCell ⟨g3, (j - 1) * 5, none⟩ (.int .i64 p.block.n)).setCell ⟨g3, (j - 1) * 5 + 1, none⟩ (.int .i64 p.block.r)).setCell ⟨g3, (j - 1) * 5 + 2, none⟩ (.int .i64 p.under.n)).setCell ⟨g3, (j - 1) * 5 + 3, none⟩ (.int .i64 p.under.r)).setCell ⟨g3, (j - 1) * 5 + 4, none⟩ (.string p.key)) (.slice (some ⟨g3, 0, none⟩) m c3) (exchR zs j p q) ∧ Own btc 1 4 w.heap.size (((((wz.setCell ⟨g3, (j - 1) * 5, none⟩ (.int .i64 p.block.n)).setCell ⟨g3, (j - 1) * 5 + 1, none⟩ (.int .i64 p.block.r)).setCell ⟨g3, (j - 1) * 5 + 2, none⟩ (.int .i64 p.under.n)).setCell ⟨g3, (j - 1) * 5 + 3, none⟩ (.int .i64 p.under.r)).setCell ⟨g3, (j - 1) * 5 + 4, none⟩ (.string p.key)) (.slice ua un uc) (tookL (c.take (k + 1))) ∧ Below w.heap.size w (((((wz.setCell ⟨g3, (j - 1) * 5, none⟩ (.int .i64 p.block.n)).setCell ⟨g3, (j - 1) * 5 + 1, none⟩ (.int .i64 p.block.r)).setCell ⟨g3, (j - 1) * 5 + 2, none⟩ (.int .i64 p.under.n)).setCell ⟨g3, (j - 1) * 5 + 3, none⟩ (.int .i64 p.under.r)).setCell ⟨g3, (j - 1) * 5 + 4, none⟩ (.string p.key))) := Lib.hid ⟨HSW.out, ho2, HTZ.out.ext (ext_putFrom (o := (j - 1) * 5) (Ch.cells p) 0 wz) (fun b hb e => HTA.out b hb (by rw [← e]; rfl)), hb2⟩
                clear ho2 hb2 ho hbx hgb hne
                go_wp2_with fail
                go_roundg (j - 1)
                case measure => rw [HGJ.out]; omega
                case rel => exact ⟨j - 1, _, rfl, by omega, by simp; omega, by rw [exchR_len]; exact hzl, Lib.hid (by rw [exchR_at zs hj0 HPQ.out.1 HPQ.out.2, if_pos rfl, ← HPQ.out.1, hzx.out]), HN⟩
              · have HN1 := hdone _ HB5.out (hV.out.1.stands blt_trans (fun x' y' _ hx' hy' => by
                  rw [HPQ.out.1] at hx'; rw [HPQ.out.2] at hy'; cases hx'; cases hy'
                  have hpx : p = x.ch := by have := hzx.out; rw [HPQ.out.1] at this; exact Option.some.inj this
                  have hqM : q ∈ A := by
                    have h1 := hV.out.1.perm.mem_iff.1 (List.mem_of_getElem? HPQ.out.2)
                    rcases List.mem_append.1 h1 with h1 | h1
                    · exact h1
                    · have hnd := hV.out.1.perm.nodup_iff.2 HND.out.1
                      have hq := HPQ.out.2
                      rw [List.mem_singleton.1 h1, ← hpx] at hq
                      exact absurd rfl (pairR_get.1 hnd (j - 1) j p p (by omega) hq HPQ.out.1)
                  rcases stLt_total q.block p.block with t | t | t
                  · exact t
                  · exact absurd (by rw [t, hpx]; rfl) (HND.out.2 q hqM)
                  · exact absurd (HVV.out.2 t) hlt))
                clear hV hdone HVV HCM
                go_wp2_with fail
                go_roundg (L.length - (k + 1))
                case measure => rw [HGG.out]; omega
                case rel => exact ⟨k + 1, ⟨_, _, _⟩, ⟨_, _, _⟩, zs, rfl, by omega, rfl, rfl, by simp, HN1⟩
            · have HN0 := Lib.hid (fun n => (hdone (wr.drewN n) (below_drewN (Below.refl _ _) n) (hV.out.1.stands blt_trans (fun x y h0 _ _ => absurd h0 hj0))).out)
              have hj1 : ¬ (0 : Int) < (j : Int) := by omega
              clear hV hdone
              go_upto_region 16 with fail
              go_quiet (fail)
              have HN1 := Lib.hid (HN0.out nq)
              go_wp2_with fail
              go_roundg (L.length - (k + 1))
              case measure => rw [HGG.out]; omega
              case rel => exact ⟨k + 1, ⟨_, _, _⟩, ⟨_, _, _⟩, zs, rfl, by omega, rfl, rfl, by simp, HN1⟩
        · have hfi : findI A ⟨x.block.n, x.block.r⟩ = (i : Int) := by unfold findI; rw [f1]
          rw [hfi]
          obtain ⟨hsnn, hcc1, hcc2⟩ := own_nlen hO9 Ch.len
          have hil := (List.getElem?_eq_some_iff.1 f2).1
          obtain ⟨g, rfl⟩ : ∃ g, sa = some ⟨g, 0, none⟩ := by
            rcases hO9.eq_slice with ⟨_, e⟩ | ⟨g, c, e, _⟩
            · rw [e] at hil; simp at hil
            · simp only [Value.slice.injEq] at e; exact ⟨g, e.1⟩
          have hgb := hO9.blk g rfl
          have hi0 : (0 : Int) ≤ (i : Int) := by omega
          have hi1' : (i : Int) < (sn : Int) := by omega
          have r0 := hO9.cellI (j := 0) Ch.len f2 rfl
          have f5 := hO9.freeI (i * 5)
          have r1 := hO9.cellI (j := 1) Ch.len f2 rfl
          have f6 := hO9.freeI (i * 5 + 1)
          have r2 := hO9.cellI (j := 2) Ch.len f2 rfl
          have f7 := hO9.freeI (i * 5 + 2)
          have r3 := hO9.cellI (j := 3) Ch.len f2 rfl
          have f8 := hO9.freeI (i * 5 + 3)
          have r4 := hO9.cellI (j := 4) Ch.len f2 rfl
          have f9 := hO9.freeI (i * 5 + 4)
          simp only [Nat.add_zero] at r0
          have ho1 : Own Ch.cells 5 36 w.heap.size (((((w9.setCell ⟨g, i * 5, none⟩ (.int .i64 x.block.n)).setCell ⟨g, i * 5 + 1, none⟩ (.int .i64 x.block.r)).setCell ⟨g, i * 5 + 2, none⟩ (.int .i64 x.under.n)).setCell ⟨g, i * 5 + 3, none⟩ (.int .i64 x.under.r)).setCell ⟨g, i * 5 + 4, none⟩ (.string x.key)) (.slice (some ⟨g, 0, none⟩) sn sc) (A.set i x.ch) := slab_put1 (y := x.ch) Ch.len (by omega) hsnn.symm hO9 f2
          have hb1 : Below w.heap.size w (((((w9.setCell ⟨g, i * 5, none⟩ (.int .i64 x.block.n)).setCell ⟨g, i * 5 + 1, none⟩ (.int .i64 x.block.r)).setCell ⟨g, i * 5 + 2, none⟩ (.int .i64 x.under.n)).setCell ⟨g, i * 5 + 3, none⟩ (.int .i64 x.under.r)).setCell ⟨g, i * 5 + 4, none⟩ (.string x.key)) := below_putFrom (o := i * 5) hgb.1 (Ch.cells x.ch) 0 w9 hB9
          have hx1 : Ext (· = g) w9 (((((w9.setCell ⟨g, i * 5, none⟩ (.int .i64 x.block.n)).setCell ⟨g, i * 5 + 1, none⟩ (.int .i64 x.block.r)).setCell ⟨g, i * 5 + 2, none⟩ (.int .i64 x.under.n)).setCell ⟨g, i * 5 + 3, none⟩ (.int .i64 x.under.r)).setCell ⟨g, i * 5 + 4, none⟩ (.string x.key)) := ext_putFrom (o := i * 5) (Ch.cells x.ch) 0 w9
          have ht1 := hT9.ext hx1 (fun b hb e => own_apart hT9 hO9 (by decide) b hb (by rw [← e]; rfl))
          have HN : Hid (AftIs w c (((((w9.setCell ⟨g, i * 5, none⟩ (.int .i64 x.block.n)).setCell ⟨g, i * 5 + 1, none⟩ (.int .i64 x.block.r)).setCell ⟨g, i * 5 + 2, none⟩ (.int .i64 x.under.n)).setCell ⟨g, i * 5 + 3, none⟩ (.int .i64 x.under.r)).setCell ⟨g, i * 5 + 4, none⟩ (.string x.key)) (k + 1) (.slice (some ⟨g, 0, none⟩) sn sc) (.slice ua un uc) (A.set i x.ch)) := Lib.hid ⟨by rw [HST.out]; exact HU6.out.all.setAt (hang_keyed _) f2 f4, ho1, ht1, hb1⟩
          clear ho1 hb1 hx1 ht1 hO9 hT9 hB9 f1 f2 f3 f4 hfi HFD H8 hil hsnn
          go_wp2_with fail
          go_roundg (L.length - (k + 1))
          case measure => rw [HGG.out]; omega
          case rel => exact ⟨k + 1, ⟨_, _, _⟩, ⟨_, _, _⟩, _, rfl, by omega, rfl, rfl, by simp, HN⟩
      · have hst := hang_take HCX.out
        rw [show (coreR x).2 = x.ch from rfl, stepH_not HTK.out] at hst
        have HST := Lib.hid hst
        clear hst
        go_wp2_with (at_builtin; refine wpList_append_struct rfl _ _ _ rfl i1 _ 1 Try.underlying71 hi1 hy0 hy1 hy2 rfl (by omega) btc_len btc_one rfl (HU6.out.took.alloc _) false w6.heap.size 1 rfl (btc_new _ false) (by unfold maxLen; have := HTL.out; omega) (by have := HTL.out; omega) (by simp; omega) ?_)
        intro v' w7 hown7 hx7
        obtain ⟨⟨ua, un, uc⟩, e7⟩ : ∃ s : SlK, v' = .slice s.a s.n s.cap := by
          rcases hown7.eq_slice with ⟨e, _⟩ | ⟨g, c, e, _⟩
          · exact ⟨⟨_, _, _⟩, e⟩
          · exact ⟨⟨_, _, _⟩, e⟩
        dsimp only at e7
        subst e7
        have hU6a := HU6.out.below ((Below.refl _ _).alloc (Nat.le_refl _) (.cells #[.bool false] 4))
        have h7 := hU6a.noted HCX.out HTK.out hown7 hx7
        have HN : Hid (AftIs w c w7 (k + 1) (.slice sa sn sc) (.slice ua un uc) A) := Lib.hid ⟨by rw [HST.out]; exact HU6.out.all, h7.1, h7.2.1, h7.2.2⟩
        clear h7 hU6a hown7 hx7
        go_wp2_with fail
        go_roundg (L.length - (k + 1))
        case measure => rw [HGG.out]; omega
        case rel => exact ⟨k + 1, ⟨_, _, _⟩, ⟨_, _, _⟩, _, rfl, by omega, rfl, rfl, by simp, HN⟩
    · obtain rfl : k = L.length := by omega
      have hkk : ¬ (L.length : Int) < (L.length : Int) := by omega
      have e1 : c.take L.length = c := List.take_of_length_le (by have := HCL.out; omega)
      have hA := hU.out.all
      have hK := hU.out.took
      rw [e1] at hA hK
      have HN := Lib.hid (And.intro hA (And.intro hK (And.intro hU.out.own hU.out.frame)))
      clear hU hA hK e1 hkl hk
      go_wp2_with fail
      exact bodyPost_ret (v := .tuple #[.slice sa sn sc, .slice ta tn tc]) (by simp [results, Try.results37, go_sem]) rfl ⟨_, _, A, rfl, HN.out.2.2.1, HN.out.1, HN.out.2.1, HN.out.2.2.2⟩

end Go.Proofs.Ytilonmpcifohiaa
