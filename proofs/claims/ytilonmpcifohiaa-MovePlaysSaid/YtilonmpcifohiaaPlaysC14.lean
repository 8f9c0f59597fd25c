/- The law MovePlays: any moves are answered as the document says, and behind each both trees tell the same; for every input. The law MovePlays, by its walk. -/
import Derived.Test.YtilonmpcifohiaaRefM14
import Derived.Test.YtilonmpcifohiaaSame14
import Derived.Test.YtilonmpcifohiaaMoved14
import Derived.Test.YtilonmpcifohiaaAlive14
import Derived.Test.YtilonmpcifohiaaHand
import Derived.Deep.CutBlock
import Derived.Deep.DeepCutAuto
import Derived.ProofKit
import Derived.OpenShut
import Derived.ShutString
import Derived.ChangeOld
import Derived.Below
namespace Go.Proofs.Ytilonmpcifohiaa
open Go.ChangeShapes Go.WideShapes Go.ChangeAt Go.RowKit
set_option linter.unusedSimpArgs false
set_option linter.unusedVariables false

/-- A move in a variable of its own. -/
def BoxM (w : World) (zb : Nat) (x : RMv) : Prop := w.heap[zb]? = some (.cells x.cells.toArray 26 (0, 0))
theorem BoxM.cs {w : World} {b : Nat} {x : RMv} (h : BoxM w b x) : w.cell? ⟨b, 0, none⟩ = some (.int .i64 x.at_.n) ∧ w.cell? ⟨b, 1, none⟩ = some (.int .i64 x.at_.r) ∧ w.cell? ⟨b, 2, none⟩ = some (.int .i64 x.block.n) ∧ w.cell? ⟨b, 3, none⟩ = some (.int .i64 x.block.r) ∧ w.cell? ⟨b, 4, none⟩ = some (.int .i64 x.under.n) ∧ w.cell? ⟨b, 5, none⟩ = some (.int .i64 x.under.r) ∧ w.cell? ⟨b, 6, none⟩ = some (.string x.key) := by
  have h := show w.heap[b]? = _ from h
  simp [World.cell?, h, RMv.cells]
theorem BoxM.lt {w : World} {b : Nat} {x : RMv} (h : BoxM w b x) : b < w.heap.size := (Array.getElem?_eq_some_iff.1 h).1
theorem BoxM.ext {S : Nat → Prop} {w w' : World} {b : Nat} {x : RMv} (h : BoxM w b x) (hx : Ext S w w') (hn : ¬ S b) : BoxM w' b x := (hx.block b h.lt hn).trans h
theorem BoxM.below {w w' : World} {b : Nat} {x : RMv} (h : BoxM w b x) (hb : Below w.heap.size w w') : BoxM w' b x := (hb.block b h.lt).trans h

/-- Both trees, alike. -/
structure Pl (w wr : World) (n : Nat) (c : List (St × Ch)) (rb : Nat) (v : Value) (L : List RMv) : Prop where
  tree : TreeHas w.heap.size wr (w.heap.size + 1) w.heap.size c
  ref : RTree w.heap.size wr rb v L
  core : CoreOf L c
  frame : Below w.heap.size w wr
  len : c.length ≤ n
section
variable {w wr w' : World} {n : Nat} {c : List (St × Ch)} {rb : Nat} {v : Value} {L : List RMv}
theorem Pl.below (h : Pl w wr n c rb v L) (hb : Below wr.heap.size wr w') : Pl w w' n c rb v L := ⟨h.tree.below hb, h.ref.below hb, h.core, h.frame.trans (hb.mono h.frame.size), h.len⟩
theorem Pl.llen (h : Pl w wr n c rb v L) : L.length ≤ n := by rw [h.core.len]; exact h.len
theorem Pl.more {m : Nat} (h : Pl w wr n c rb v L) (hm : n ≤ m) : Pl w wr m c rb v L := ⟨h.tree, h.ref, h.core, h.frame, Nat.le_trans h.len hm⟩
/-- The program's move leaves the document's tree, and a variable. -/
theorem Pl.left (h : Pl w wr n c rb v L) (hx : Ext (Touch w.heap.size wr (w.heap.size + 1) w.heap.size) wr w') {zb : Nat} {x : RMv} (hb : BoxM wr zb x) : RTree w.heap.size w' rb v L ∧ BoxM w' zb x ∧ Below w.heap.size w w' := by
  have hr1 := h.ref.1
  have hb' := show wr.heap[zb]? = _ from hb
  have key : ∀ k T cur, wr.heap[k]? = some (.cells cur T (0, 0)) → T ≠ 58 → T ≠ 66 → ¬ Touch w.heap.size wr (w.heap.size + 1) w.heap.size k := fun k T cur hk h1 h2 ht => by
    obtain ⟨_, _, hl, hI, _⟩ := h.tree
    rcases ht with rfl | rfl | ⟨_, cur', e⟩
    · have := hI.blk; rw [hk] at this; cases this; exact h1 rfl
    · obtain ⟨_, es, cl, hm, _⟩ := hI.map
      rw [hk] at hm; cases hm
    · rw [hk] at e; cases e; exact h2 rfl
  refine ⟨⟨(hx.block rb (Array.getElem?_eq_some_iff.1 hr1).1 (key _ _ _ hr1 (by decide) (by decide))).trans hr1, h.ref.2.1.ext hx (fun b e => ?_), h.ref.2.2⟩, hb.ext hx (key _ _ _ hb' (by decide) (by decide)), touch_below h.frame h.tree hx (Nat.le_refl _)⟩
  obtain ⟨cur, hc⟩ := h.ref.2.1.tag e
  exact key _ _ _ hc (by decide) (by decide)
/-- The document's move leaves the program's tree, and a variable. -/
theorem tree_left {w5 w6 : World} {mh t base : Nat} {d : List (St × Ch)} (ht : TreeHas base w5 t mh d) (hr : RTree base w5 rb v L) (hx : Ext (RTouch v rb) w5 w6) : TreeHas base w6 t mh d := by
  have key : ∀ k, RTouch v rb k → (∃ cur T, w5.heap[k]? = some (.cells cur T (0, 0)) ∧ (T = 44 ∨ T = 26)) := fun k hk => by
    rcases hk with rfl | hk
    · exact ⟨_, _, hr.1, .inl rfl⟩
    · obtain ⟨cur, hc⟩ := hr.2.1.tag hk
      exact ⟨cur, _, hc, .inr rfl⟩
  obtain ⟨_, l, hl, hI, _⟩ := id ht
  refine ht.ext hx (fun e => ?_) (fun e => ?_) (fun b cur h1 h2 e => ?_) (fun b c hb e => ?_)
  · obtain ⟨cur, T, h1, h2⟩ := key _ e
    have := hI.blk
    rw [h1] at this; cases this
    rcases h2 with h2 | h2 <;> cases h2
  · obtain ⟨cur, T, h1, _⟩ := key _ e
    obtain ⟨_, es, cl, hm, _⟩ := hI.map
    rw [h1] at hm; cases hm
  · obtain ⟨cur2, T, h3, h4⟩ := key _ e
    rw [h2] at h3; cases h3
    rcases h4 with h4 | h4 <;> cases h4
  · obtain ⟨cur2, T, h3, h4⟩ := key _ e
    have hb := show w5.heap[b]? = _ from hb
    rw [hb] at h3; cases h3
    rcases h4 with h4 | h4 <;> cases h4
theorem Pl.moved {w5 w6 : World} (h : Pl w wr n c rb v L) {x : RMv} {d : List (St × Ch)} (hd : d = addC c x.at_ ⟨x.block, x.under, x.key⟩) (ht : TreeHas w.heap.size w5 (w.heap.size + 1) w.heap.size d) (hr : RTree w.heap.size w5 rb v L) (hb : Below w.heap.size w w5) {zb : Nat} (hbx : BoxM w5 zb x) (hzb : zb ≠ rb) (hzv : ∀ b, v.ownBlock = some b → b ≠ zb)
    {v' : Value} {L' : List RMv} (hr' : RTree w.heap.size w6 rb v' L') (hc' : CoreOf L' d) (hx : Ext (RTouch v rb) w5 w6) : Pl w w6 (n + 1) d rb v' L' ∧ BoxM w6 zb x := by
  refine ⟨⟨tree_left ht hr hx, hr', hc', Ext.new hb hx (fun i hi _ e => ?_) hb.size, ?_⟩, hbx.ext hx (fun e => ?_)⟩
  · rcases e with rfl | e
    · have := hr.2.2; omega
    · have := (hr.2.1.blk i e).1; omega
  · rw [hd]
    exact Nat.le_trans (addC_length _ _ _) (Nat.succ_le_succ h.len)
  · rcases e with e | e
    · exact hzb e
    · exact hzv _ e rfl
end
theorem parent_prt {base : Nat} {w : World} {mh : Nat} {c : List (St × Ch)} (t : Nat) (bn br : Int) (h : TreeHas base w t mh c) :
    Calls Try.prog 15 #[.pointer (some ⟨t, 0, none⟩), .agg #[.int .i64 bn, .int .i64 br]] w fun e w' => PrtPost w c ⟨bn, br⟩ e w' := by
  refine (parent_any t bn br w h).mono ?_
  rintro e w' ⟨y, is, rfl, hy, hb⟩
  rcases hy with ⟨rfl, h1⟩ | ⟨rfl, h1, rfl⟩
  · exact ⟨by unfold prtH; rw [h1], hb⟩
  · exact ⟨by unfold prtH; rw [h1], hb⟩
theorem boxM_new (w : World) (x : RMv) : BoxM (w.alloc (.cells #[.int .i64 x.at_.n, .int .i64 x.at_.r, .int .i64 x.block.n, .int .i64 x.block.r, .int .i64 x.under.n, .int .i64 x.under.r, .string x.key] 26)) w.heap.size x := World.alloc_heap_new w _

set_option maxRecDepth 100000 in
set_option maxHeartbeats 2500000 in
theorem movePlays_walk (v0 : Value) (l : List RMv) (w : World) (hv : SliceIs RMv.cells 7 w v0 l) :
    Calls Try.prog 5 #[v0] w fun e w' => e = .returned (.bool true) ∧ Below w.heap.size w w' := by
  obtain ⟨a, cap, hve, hcap, hmax, _⟩ := id hv
  unfold maxLen at hmax
  subst hve
  have HV := Lib.hid hv
  clear hv
  go_enter Try.func5, Try.ntmps5
  go_wp2_with fail
  refine (new_tree _).mono ?_
  rintro e w1 ⟨rfl, r1, b1, z1⟩
  have hP : Pl w (w1.alloc (.cells #[.slice none 0 0] 44)) 0 [] w1.heap.size (.slice none 0 0) [] := ⟨r1.alloc _, ⟨World.alloc_heap_new w1 _, Own.nil, by omega⟩, coreOf_nil, b1.alloc b1.size _, Nat.le_refl _⟩
  have HP := Lib.hid hP
  clear hP r1 b1 z1
  go_wp2_with fail
  refine (alive_any _).mono ?_
  rintro e w2 ⟨rfl, b2⟩
  have HP2 := Lib.hid (HP.out.below b2)
  clear HP b2
  generalize w1.heap.size = rb at *
  go_upto_block 0 with fail
  go_cut [] (fun wx => ∃ (c : List (St × Ch)) (v : Value) (L : List RMv), Hid (Pl w wx 60 c rb v L))
  case first =>
    go_wp2_with fail
    go_loopg [5] 60 (fun g iv wr => ∃ (k : Nat) (c : List (St × Ch)) (v : Value) (L : List RMv), g = 60 - k ∧ k ≤ 60 ∧ k ≤ l.length ∧ iv = .int .i64 k ∧ Hid (Pl w wr k c rb v L))
    case atStart => exact ⟨0, [], _, [], by omega, by omega, by omega, rfl, HP2⟩
    case round =>
      obtain ⟨k, c, v, L, hg, hk, hkl0, rfl, HU⟩ := hrel
      have HG := Lib.hid hg
      clear hg HP2
      by_cases hkl : k < l.length
      · by_cases hk60 : k < 60
        · obtain ⟨x, hx⟩ : ∃ x, l[k]? = some x := ⟨_, List.getElem?_eq_getElem hkl⟩
          obtain ⟨b, o, c1, e1, hh⟩ := (HV.out.below HU.out.frame).rcells (by intro e; rw [e] at hkl; simp at hkl)
          cases e1
          obtain ⟨x0, x1, x2, x3, x4, x5, x6⟩ := hh k x hx
          have hkk : (k : Int) < (l.length : Int) := by omega
          have hkk2 : (k : Int) < 60 := by omega
          have hbx := boxM_new wr x
          have hP5 := HU.out.below ((Below.refl _ _).alloc (Nat.le_refl _) (.cells #[.int .i64 x.at_.n, .int .i64 x.at_.r, .int .i64 x.block.n, .int .i64 x.block.r, .int .i64 x.under.n, .int .i64 x.under.r, .string x.key] 26))
          have HZ := Lib.hid (show wr.heap.size ≠ rb ∧ ∀ b, v.ownBlock = some b → b ≠ wr.heap.size from ⟨fun e => by have := (Array.getElem?_eq_some_iff.1 HU.out.ref.1).1; omega, fun b hb e => by have := (HU.out.ref.2.1.blk b hb).2; omega⟩)
          have HP5 := Lib.hid hP5
          have HBX := Lib.hid hbx
          clear hh hx hbx hP5
          go_upto_region 9 with fail
          generalize wr.alloc (.cells #[.int .i64 x.at_.n, .int .i64 x.at_.r, .int .i64 x.block.n, .int .i64 x.block.r, .int .i64 x.under.n, .int .i64 x.under.r, .string x.key] 26) = w5 at *
          generalize wr.heap.size = zb at *
          clear x0 x1 x2 x3 x4 x5 x6
          obtain ⟨z0, z1, z2, z3, z4, z5, z6⟩ := HBX.out.cs
          obtain ⟨d, hd⟩ : ∃ d, addC c x.at_ ⟨x.block, x.under, x.key⟩ = d := ⟨_, rfl⟩
          obtain ⟨mc, hmc⟩ : ∃ mc, moveCode c x.at_ x.block x.under = mc := ⟨_, rfl⟩
          have hm1 := move_any (w.heap.size + 1) x.at_ x.block x.under x.key w5.drew HP5.out.tree.drew HP5.out.frame.size (by have := HP5.out.len; omega)
          rw [hd, hmc] at hm1
          have HM1 := Lib.hid hm1
          have HM2 := Lib.hid (fun (W : World) (hr : RTree w.heap.size W rb v L) (hs : w.heap.size ≤ W.heap.size) => rmove_any x.at_ x.block x.under x.key hr hs HP5.out.core (by have := HP5.out.llen; omega))
          have HD := Lib.hid hd
          have HMC := Lib.hid hmc
          have hmm : (mc != mc) = false := by simp
          clear hm1 hd hmc
          go_region_held3 (fun W => W.cell? ⟨zb, 0, none⟩ = some (.int .i64 x.at_.n) ∧ W.cell? ⟨zb, 1, none⟩ = some (.int .i64 x.at_.r) ∧ W.cell? ⟨zb, 2, none⟩ = some (.int .i64 x.block.n) ∧ W.cell? ⟨zb, 3, none⟩ = some (.int .i64 x.block.r) ∧ W.cell? ⟨zb, 4, none⟩ = some (.int .i64 x.under.n) ∧ W.cell? ⟨zb, 5, none⟩ = some (.int .i64 x.under.r) ∧ W.cell? ⟨zb, 6, none⟩ = some (.string x.key)) (first | exact ⟨z0, z1, z2, z3, z4, z5, z6⟩ | exact HX7.out.2.cs | exact HX6.out.2.1.cs) (first
            | (go_at_call 14; ((with_reducible refine HM1.out.mono ?_); rintro e w6 ⟨rfl, ht6, x6⟩; simp only [ext_drew] at x6; have HT6 := Lib.hid ht6; have HX6 := Lib.hid (HP5.out.left x6 HBX.out); clear ht6 x6))
            | (go_at_call 17; ((with_reducible refine (HM2.out _ HX6.out.1 HX6.out.2.2.size).mono ?_); rintro e w7 ⟨v', L', rfl, hr7, hc7, x7⟩; rw [HMC.out]; rw [HD.out] at hc7; have HX7 := Lib.hid (HP5.out.moved HD.out.symm HT6.out HX6.out.1 HX6.out.2.2 HX6.out.2.1 HZ.out.1 HZ.out.2 hr7 hc7 x7); clear hr7 hc7 x7)))
          all_goals
            obtain ⟨-, -, y2, y3, -, -, -⟩ := HX7.out.2.cs
            clear HX6 HT6 HM1 HM2 HP5 HBX z0 z1 z2 z3 z4 z5 z6
            have HPR := Lib.hid (parent_prt (w.heap.size + 1) x.block.n x.block.r HX7.out.1.tree)
            obtain ⟨pp, hpp⟩ : ∃ pp, prtH (hang d) ⟨x.block.n, x.block.r⟩ = pp := ⟨_, rfl⟩
            obtain ⟨⟨⟨pn, pr⟩, ⟨qn, qr⟩, pk⟩, pis⟩ := pp
            have HPP := Lib.hid hpp
            clear hpp
            go_wp2_with fail
            refine HPR.out.mono ?_
            rintro e w8 ⟨rfl, b8⟩
            rw [HPP.out]
            have hP9 := (HX7.out.1.below b8).below ((Below.refl _ _).alloc (Nat.le_refl _) (.cells #[.int .i64 pn, .int .i64 pr, .int .i64 qn, .int .i64 qr, .string pk] 36))
            have hB9 := (HX7.out.2.below b8).below ((Below.refl _ _).alloc (Nat.le_refl _) (.cells #[.int .i64 pn, .int .i64 pr, .int .i64 qn, .int .i64 qr, .string pk] 36))
            have c0 : (w8.alloc (.cells #[.int .i64 pn, .int .i64 pr, .int .i64 qn, .int .i64 qr, .string pk] 36)).cell? ⟨w8.heap.size, 0, none⟩ = some (.int .i64 pn) := by go_simp
            have c1 : (w8.alloc (.cells #[.int .i64 pn, .int .i64 pr, .int .i64 qn, .int .i64 qr, .string pk] 36)).cell? ⟨w8.heap.size, 1, none⟩ = some (.int .i64 pr) := by go_simp
            have c2 : (w8.alloc (.cells #[.int .i64 pn, .int .i64 pr, .int .i64 qn, .int .i64 qr, .string pk] 36)).cell? ⟨w8.heap.size, 2, none⟩ = some (.int .i64 qn) := by go_simp
            have c3 : (w8.alloc (.cells #[.int .i64 pn, .int .i64 pr, .int .i64 qn, .int .i64 qr, .string pk] 36)).cell? ⟨w8.heap.size, 3, none⟩ = some (.int .i64 qr) := by go_simp
            have c4 : (w8.alloc (.cells #[.int .i64 pn, .int .i64 pr, .int .i64 qn, .int .i64 qr, .string pk] 36)).cell? ⟨w8.heap.size, 4, none⟩ = some (.string pk) := by go_simp
            have HP9 := Lib.hid hP9
            have HB9 := Lib.hid hB9
            clear hP9 hB9 b8 HX7 HPR y2 y3
            go_upto_region 12 with fail
            generalize w8.alloc (.cells #[.int .i64 pn, .int .i64 pr, .int .i64 qn, .int .i64 qr, .string pk] 36) = w9 at *
            generalize w8.heap.size = cb at *
            obtain ⟨-, -, y2, y3, -, -, -⟩ := HB9.out.cs
            have HPR := Lib.hid (rparent_any x.block.n x.block.r HP9.out.ref HP9.out.core (by have := HP9.out.llen; omega))
            go_wp2_with fail
            refine HPR.out.mono ?_
            rintro e w10 ⟨rfl, b10⟩
            rw [HPP.out]
            have hb11 : Below w9.heap.size w9 (w10.alloc (.cells #[.int .i64 pn, .int .i64 pr, .int .i64 qn, .int .i64 qr, .string pk] 36)) := b10.alloc b10.size _
            have hP11 := HP9.out.below hb11
            have hB11 := HB9.out.below hb11
            replace c0 := keepB hb11 c0
            replace c1 := keepB hb11 c1
            replace c2 := keepB hb11 c2
            replace c3 := keepB hb11 c3
            replace c4 := keepB hb11 c4
            have d0 : (w10.alloc (.cells #[.int .i64 pn, .int .i64 pr, .int .i64 qn, .int .i64 qr, .string pk] 36)).cell? ⟨w10.heap.size, 0, none⟩ = some (.int .i64 pn) := by go_simp
            have d1 : (w10.alloc (.cells #[.int .i64 pn, .int .i64 pr, .int .i64 qn, .int .i64 qr, .string pk] 36)).cell? ⟨w10.heap.size, 1, none⟩ = some (.int .i64 pr) := by go_simp
            have d2 : (w10.alloc (.cells #[.int .i64 pn, .int .i64 pr, .int .i64 qn, .int .i64 qr, .string pk] 36)).cell? ⟨w10.heap.size, 2, none⟩ = some (.int .i64 qn) := by go_simp
            have d3 : (w10.alloc (.cells #[.int .i64 pn, .int .i64 pr, .int .i64 qn, .int .i64 qr, .string pk] 36)).cell? ⟨w10.heap.size, 3, none⟩ = some (.int .i64 qr) := by go_simp
            have d4 : (w10.alloc (.cells #[.int .i64 pn, .int .i64 pr, .int .i64 qn, .int .i64 qr, .string pk] 36)).cell? ⟨w10.heap.size, 4, none⟩ = some (.string pk) := by go_simp
            have HP11 := Lib.hid hP11
            have HB11 := Lib.hid hB11
            have HC0 := Lib.hid (And.intro c0 d0)
            have HC1 := Lib.hid (And.intro c1 d1)
            have HC2 := Lib.hid (And.intro c2 d2)
            have HC3 := Lib.hid (And.intro c3 d3)
            have HC4 := Lib.hid (And.intro c4 d4)
            clear hP11 hB11 hb11 b10 HP9 HB9 HPR y2 y3 c0 c1 c2 c3 c4 d0 d1 d2 d3 d4
            go_upto_region 13 with fail
            generalize w10.alloc (.cells #[.int .i64 pn, .int .i64 pr, .int .i64 qn, .int .i64 qr, .string pk] 36) = w11 at *
            generalize w10.heap.size = db at *
            have HAL := Lib.hid (all_any (w.heap.size + 1) HP11.out.tree (by have := HP11.out.len; omega))
            go_wp2_with fail
            refine HAL.out.mono ?_
            rintro e w12 ⟨v1, A1, rfl, o1, a1, b12⟩
            have HRA := Lib.hid (rall_any (HP11.out.below b12).ref HP11.out.core (by have := HP11.out.llen; omega))
            have HO1 := Lib.hid o1
            have HA1 := Lib.hid a1
            have HB12 := Lib.hid b12
            clear o1 a1 b12 HAL
            go_wp2_with fail
            refine HRA.out.mono ?_
            rintro e w13 ⟨v2, A2, rfl, o2, a2, b13⟩
            obtain rfl : A1 = A2 := HA1.out.unique a2
            have hal : A1.length ≤ 1000 := by
              have h0 : AllOf (play (d.map (·.2))) A1 := a2
              have := h0.length
              rw [List.length_map] at this
              have := HP11.out.len
              omega
            have HSM := Lib.hid (same_any v1 v2 A1 w13 ((HO1.out.slice Ch.len).below b13) (o2.slice Ch.len) (by omega))
            have HB13 := Lib.hid (HB12.out.trans (b13.mono HB12.out.size))
            clear o2 a2 b13 HRA HO1 HA1 HB12 hal
            go_wp2_with fail
            refine HSM.out.mono ?_
            rintro e w14 ⟨rfl, b14⟩
            have HB14 := Lib.hid (HB13.out.trans (b14.mono HB13.out.size))
            clear b14 HB13 HSM
            have hP14 := HP11.out.below HB14.out
            obtain ⟨-, -, -, -, z4, z5, -⟩ := (HB11.out.below HB14.out).cs
            have HKI := Lib.hid (kids_any (w.heap.size + 1) x.under.n x.under.r hP14.tree.drew (by have := hP14.len; omega))
            have HRK := Lib.hid (fun (W : World) (hW : Below w14.heap.size w14 W) => rkids_any x.under.n x.under.r (hP14.below hW).ref hP14.core (by have := hP14.llen; omega))
            have HSS := Lib.hid (fun (W : World) (va vb : Value) (K : List St) (ha : SliceIs St.cells 2 W va K) (hb : SliceIs St.cells 2 W vb K) (hl : K.length ≤ 100000) => sameStamps_any va vb K W ha hb hl)
            have HP14 := Lib.hid hP14
            clear hP14
            go_upto_region 14 with fail
            go_region_held3 (fun W => W.cell? ⟨zb, 4, none⟩ = some (.int .i64 x.under.n) ∧ W.cell? ⟨zb, 5, none⟩ = some (.int .i64 x.under.r)) (first | exact ⟨z4, z5⟩ | exact ⟨keepB HB17.out z4, keepB HB17.out z5⟩ | exact ⟨keepB HB16.out z4, keepB HB16.out z5⟩ | exact ⟨keepB HB15.out z4, keepB HB15.out z5⟩) (first
              | (go_at_call 23; ((with_reducible refine HKI.out.mono ?_); rintro e w15 ⟨v3, K1, rfl, o3, k3, b15⟩; simp only [heap_drew, below_drew] at b15 o3; have HO3 := Lib.hid o3; have HK3 := Lib.hid k3; have HB15 := Lib.hid b15; clear o3 k3 b15))
              | (go_at_call 24; ((with_reducible refine (HRK.out _ HB15.out).mono ?_); rintro e w16 ⟨v4, K2, rfl, o4, k4, b16⟩; have HO4 := Lib.hid o4; have HK4 := Lib.hid k4; have HO35 := Lib.hid ((HO3.out.slice StC.len).below b16); have HB16 := Lib.hid (HB15.out.trans (b16.mono HB15.out.size)); clear o4 k4 b16))
              | (go_at_call 22; ((with_reducible refine (HSS.out _ _ _ (K1.map Ch.block) HO35.out (by rw [HK3.out.unique HK4.out]; exact HO4.out.slice StC.len) (by rw [List.length_map]; have := HK3.out.length; have := HP14.out.len; omega)).mono ?_); rintro e w17 ⟨rfl, b17⟩; have HB17 := Lib.hid (HB16.out.trans (b17.mono HB16.out.size)); clear b17)))
            have hP17 := HP14.out.below HB17.out
            have hw17 := HB14.out.trans (HB17.out.mono HB14.out.size)
            obtain ⟨z0, z1, -, -, -, -, -⟩ := (HB11.out.below hw17).cs
            have c0 := keepB hw17 HC0.out.1
            have d0 := keepB hw17 HC0.out.2
            have c1 := keepB hw17 HC1.out.1
            have d1 := keepB hw17 HC1.out.2
            have c2 := keepB hw17 HC2.out.1
            have d2 := keepB hw17 HC2.out.2
            have c3 := keepB hw17 HC3.out.1
            have d3 := keepB hw17 HC3.out.2
            have c4 := keepB hw17 HC4.out.1
            have d4 := keepB hw17 HC4.out.2
            have HTK := Lib.hid (took_any (w.heap.size + 1) x.at_.n x.at_.r w17.drew hP17.tree.drew (by have := hP17.len; omega))
            have HRT := Lib.hid (fun (W : World) (hW : Below w17.heap.size w17 W) => rtook_any x.at_.n x.at_.r (hP17.below hW).ref hP17.core (by have := hP17.llen; omega))
            obtain ⟨tk, htk⟩ : ∃ tk, tookC d ⟨x.at_.n, x.at_.r⟩ = tk := ⟨_, rfl⟩
            rw [htk] at HTK HRT
            have hkk3 : (pk == pk) = true := beq_bytes_self pk
            have htt : (tk != tk) = false := by simp
            have hii : (pis != pis) = false := by simp
            have HP17 := Lib.hid hP17
            clear hP17 hw17 htk HC0 HC1 HC2 HC3 HC4 HB14 HB15 HB16 HB17 HKI HRK HSS HO3 HK3 HO4 HK4 HO35 HP14 HP11 HB11 z4 z5
            go_upto_region 15 with fail
            go_region_held3 (fun W => W.cell? ⟨zb, 0, none⟩ = some (.int .i64 x.at_.n) ∧ W.cell? ⟨zb, 1, none⟩ = some (.int .i64 x.at_.r) ∧ W.cell? ⟨cb, 0, none⟩ = some (.int .i64 pn) ∧ W.cell? ⟨cb, 1, none⟩ = some (.int .i64 pr) ∧ W.cell? ⟨cb, 2, none⟩ = some (.int .i64 qn) ∧ W.cell? ⟨cb, 3, none⟩ = some (.int .i64 qr) ∧ W.cell? ⟨cb, 4, none⟩ = some (.string pk) ∧ W.cell? ⟨db, 0, none⟩ = some (.int .i64 pn) ∧ W.cell? ⟨db, 1, none⟩ = some (.int .i64 pr) ∧ W.cell? ⟨db, 2, none⟩ = some (.int .i64 qn) ∧ W.cell? ⟨db, 3, none⟩ = some (.int .i64 qr) ∧ W.cell? ⟨db, 4, none⟩ = some (.string pk)) (first | exact ⟨z0, z1, c0, c1, c2, c3, c4, d0, d1, d2, d3, d4⟩ | exact ⟨keepB HB19.out z0, keepB HB19.out z1, keepB HB19.out c0, keepB HB19.out c1, keepB HB19.out c2, keepB HB19.out c3, keepB HB19.out c4, keepB HB19.out d0, keepB HB19.out d1, keepB HB19.out d2, keepB HB19.out d3, keepB HB19.out d4⟩ | exact ⟨keepB HB18.out z0, keepB HB18.out z1, keepB HB18.out c0, keepB HB18.out c1, keepB HB18.out c2, keepB HB18.out c3, keepB HB18.out c4, keepB HB18.out d0, keepB HB18.out d1, keepB HB18.out d2, keepB HB18.out d3, keepB HB18.out d4⟩) (first
              | (go_at_call 16; ((with_reducible refine HTK.out.mono ?_); rintro e w18 ⟨rfl, b18⟩; simp only [heap_drew, below_drew] at b18; have HB18 := Lib.hid b18; clear b18))
              | (go_at_call 25; ((with_reducible refine (HRT.out _ HB18.out).mono ?_); rintro e w19 ⟨rfl, b19⟩; have HB19 := Lib.hid (HB18.out.trans (b19.mono HB18.out.size)); clear b19)))
            have HN := Lib.hid (HP17.out.below HB19.out)
            clear z0 z1 c0 c1 c2 c3 c4 d0 d1 d2 d3 d4 HB18 HB19 HTK HRT HP17
            go_wp2_with fail
            go_roundg (60 - (k + 1))
            case measure => rw [HG.out]; omega
            case rel => exact ⟨k + 1, d, _, _, rfl, by omega, by omega, by simp, HN⟩
        · have hkk : (k : Int) < (l.length : Int) := by omega
          have hkk2 : ¬ (k : Int) < 60 := by omega
          have HN := Lib.hid (HU.out.more (show k ≤ 60 by omega))
          clear HU
          go_wp2_with fail
          go_meet
          case rel => exact ⟨_, _, _, HN⟩
      · have hkk : ¬ (k : Int) < (l.length : Int) := by omega
        have HN := Lib.hid (HU.out.more (show k ≤ 60 by omega))
        clear HU
        go_wp2_with fail
        go_meet
        case rel => exact ⟨_, _, _, HN⟩
  case rest =>
    obtain ⟨c, v, L, HU⟩ := hcut
    go_wp2_with fail
    go_loopg [13] 60 (fun g iv wr => ∃ (k : Nat), g = 60 - k ∧ k ≤ 60 ∧ k ≤ l.length ∧ iv = .int .i64 k ∧ Hid (Pl w wr 60 c rb v L))
    case atStart => exact ⟨0, by omega, by omega, by omega, rfl, HU⟩
    case round =>
      obtain ⟨k, hg, hk, hkl0, rfl, HR⟩ := hrel
      have HG := Lib.hid hg
      clear hg HU
      by_cases hkl : k < l.length
      · by_cases hk60 : k < 60
        · obtain ⟨x, hx⟩ : ∃ x, l[k]? = some x := ⟨_, List.getElem?_eq_getElem hkl⟩
          obtain ⟨b, o, c1, e1, hh⟩ := (HV.out.below HR.out.frame).rcells (by intro e; rw [e] at hkl; simp at hkl)
          cases e1
          obtain ⟨x0, x1, -, -, -, -, -⟩ := hh k x hx
          have hkk : (k : Int) < (l.length : Int) := by omega
          have hkk2 : (k : Int) < 60 := by omega
          have hkk3 : (0 : Int) ≤ (k : Int) := by omega
          have HTK := Lib.hid (took_any (w.heap.size + 1) x.at_.n x.at_.r wr.drew HR.out.tree.drew (by have := HR.out.len; omega))
          have HRT := Lib.hid (fun (W : World) (hW : Below wr.heap.size wr W) => rtook_any x.at_.n x.at_.r (HR.out.below hW).ref HR.out.core (by have := HR.out.llen; omega))
          obtain ⟨tk, htk⟩ : ∃ tk, tookC c ⟨x.at_.n, x.at_.r⟩ = tk := ⟨_, rfl⟩
          rw [htk] at HTK HRT
          have htt : (tk != tk) = false := by simp
          clear hh hx htk
          go_upto_region 20 with fail
          go_region_held3 (fun W => W.cell? ⟨b, o + k * 7, none⟩ = some (.int .i64 x.at_.n) ∧ W.cell? ⟨b, o + k * 7 + 1, none⟩ = some (.int .i64 x.at_.r)) (first | exact ⟨x0, x1⟩ | exact ⟨keepB HB19.out x0, keepB HB19.out x1⟩ | exact ⟨keepB HB18.out x0, keepB HB18.out x1⟩) (first
            | (go_at_call 16; ((with_reducible refine HTK.out.mono ?_); rintro e w18 ⟨rfl, b18⟩; simp only [heap_drew, below_drew] at b18; have HB18 := Lib.hid b18; clear b18))
            | (go_at_call 25; ((with_reducible refine (HRT.out _ HB18.out).mono ?_); rintro e w19 ⟨rfl, b19⟩; have HB19 := Lib.hid (HB18.out.trans (b19.mono HB18.out.size)); clear b19)))
          have HN := Lib.hid (HR.out.below HB19.out)
          clear x0 x1 HB18 HB19 HTK HRT
          go_wp2_with fail
          go_roundg (60 - (k + 1))
          case measure => rw [HG.out]; omega
          case rel => exact ⟨k + 1, rfl, by omega, by omega, by simp, HN⟩
        · have hkk : (k : Int) < (l.length : Int) := by omega
          have hkk2 : ¬ (k : Int) < 60 := by omega
          have HN := Lib.hid HR.out.frame
          clear HR
          go_wp2_with fail
          go_ret
          exact ⟨rfl, HN.out⟩
      · have hkk : ¬ (k : Int) < (l.length : Int) := by omega
        have HN := Lib.hid HR.out.frame
        clear HR
        go_wp2_with fail
        go_ret
        exact ⟨rfl, HN.out⟩

end Go.Proofs.Ytilonmpcifohiaa

namespace Go.Proofs.Ytilonmpcifohiaa
open Go.ChangeShapes Go.WideShapes Go.ChangeAt Go.RowKit
set_option linter.unusedSimpArgs false
set_option linter.unusedVariables false

set_option maxRecDepth 100000 in
theorem movePlays_lifted (os : Os) (started : os.Started) (H : Type) (enc : TypeId × Value → H) :
    ReturnsInHanded {} Try.checked os 5 .any (Rows.movePlaysSpec.pre6 enc Try.prog Try.f5 Rows.movePlaysRow.domain false) (Rows.movePlaysSpec.post enc Try.prog Try.f5 false true false false) := by
  refine returnsInHanded_of_change (C := Try.checked) Try.own started (by kernel_rfl) Try.func5
    (ChangeSpec.witness6 (enc := enc) (C := Try.checked) false ⟨#[], #[.slice none 0 0], []⟩ 8 (by kernel_rfl) (by kernel_rfl) (by kernel_rfl) (by kernel_rfl)) ?_
  intro W base args ds gs before hval0 hW hcnd _
  have hval : ∀ (j : Nat) t v, Try.f5.params[j]? = some t → args[j]? = some v → Value.okWide Try.prog W .any base t v := hval0
  have hW' := hW
  obtain ⟨p, q, hA0, hV, rfl, hfz, hnd⟩ := hW
  have hA : DataW.TrodAll enc Try.prog W 0 (fun _ => true) true Try.f5.params.toList args.toList ds p := hA0
  rw [Try.params5] at hA hval
  obtain ⟨v0, vs0, d0, ds0, p0, q0, hargs, rfl, rfl, h0, r0⟩ := trodAll_cons hA
  obtain ⟨rfl, rfl, rfl⟩ := trodAll_nil r0
  obtain rfl : args = #[v0] := by cases args; simp_all
  obtain ⟨rfl, rfl⟩ := trodVars_none hV
  have k0 := h0
  have lt0 : ∀ x ∈ p0, x.block < W.heap.size := by obtain ⟨m, hm⟩ := k0; exact DataW.trod_lt m _ _ _ hm
  obtain ⟨l, hv0⟩ := open_rmoves (hval 0 22 v0 rfl rfl) h0
  clear hA0 hval0
  refine (movePlays_walk v0 l W hv0).mono fun e W' ⟨he, bel⟩ => ?_
  subst he
  exact ⟨_, rfl, _, _, _, [], _, [], hW', trodAll_mk1 (shut_bool Try.underlying4 _), (trodAll_cons_mk (Below.trod Try.laidOut (by kernel_rfl) (of_decide_eq_true (by kernel_rfl)) k0 bel lt0) trodAll_mk0), rfl, bel.frame _, fun h => by cases h⟩

theorem movePlays_holds : Rows.MovePlaysSaid :=
  OpenClaim.holds_of_wide 5 Try.f5 rfl rfl rfl rfl rfl rfl rfl ⟨rfl, rfl, rfl, rfl, rfl⟩ rfl rfl rfl rfl rfl (by kernel_rfl) Try.func5 (by kernel_rfl)
    (of_decide_eq_true (by kernel_rfl)) (by unfold Func.isWrapper; first | (rw [if_pos (by decide +kernel)]; kernel_rfl) | (rw [if_neg (by decide +kernel)]; exact ⟨rfl, rfl⟩))
    (fun os started H enc _ => movePlays_lifted os started H enc)

#print axioms movePlays_holds

end Go.Proofs.Ytilonmpcifohiaa
