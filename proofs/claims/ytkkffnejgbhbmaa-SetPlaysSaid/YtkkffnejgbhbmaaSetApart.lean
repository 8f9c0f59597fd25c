/- The law SetApart: what is set of one name leaves all other names, and all other blocks, as they are; for every input. -/
import Derived.Test.YtkkffnejgbhbmaaSame15
import Derived.Test.YtkkffnejgbhbmaaAlive15
import Derived.Test.YtkkffnejgbhbmaaBox15
import Derived.ProofKit
import Derived.OpenShut
import Derived.ShutString
import Derived.ChangeOld
import Derived.Below
import Derived.Deep.DeepCutAuto
import Derived.Deep.CutBlock
namespace Go.Proofs.Ytkkffnejgbhbmaa
open Go.ChangeShapes Go.WideShapes Go.ChangeAt Go.RowKit
set_option linter.unusedSimpArgs false
set_option linter.unusedVariables false

/-- A slice's value. -/
structure Sl where
  a : Option Addr
  len : Nat
  cap : Nat
def Sl.val (s : Sl) : Value := .slice s.a s.len s.cap
def Sl.cells (s : Sl) : List Value := [s.val]

theorem info_attrs : (Try.prog.info? 38).map (fun i => (i.zero, i.size, i.bytes)) = some (some (.slice none 0 0), 1, 24) := by kernel_rfl

/-- What was told of each block. -/
def Told (wr : World) (l : List Write) (vs : List (Pl × Wr)) (rs : List (Sl × List Atr)) : Prop :=
  ∀ (j : Nat) (s : Sl) (lj : List Atr), rs[j]? = some (s, lj) → Own Atr.cells 2 45 0 wr s.val lj ∧ lj.length ≤ 1099511627776 ∧ ∃ x : Write, l[j]? = some x ∧ AllList vs x.blk lj

theorem Told.ext {wr wr' : World} {l : List Write} {vs : List (Pl × Wr)} {rs : List (Sl × List Atr)} (h : Told wr l vs rs) {S : Nat → Prop} (hx : Ext S wr wr') (hn : ∀ b cur, wr.heap[b]? = some (.cells cur 45 (0, 0)) → ¬ S b) : Told wr' l vs rs :=
  fun j s lj hj => let ⟨h1, h2⟩ := h j s lj hj; ⟨h1.ext hx (fun b hb => by
    obtain ⟨_, h3⟩ := h1
    rcases h3 with ⟨h3, _⟩ | ⟨g, cap, cur, h3, _, hg, _⟩
    · rw [h3] at hb; cases hb
    · rw [h3] at hb; cases hb; exact hn g cur hg), h2⟩

theorem BoxIs.below {w w' : World} {b : Nat} {x : Write} (h : BoxIs w b x) (hx : Below w.heap.size w w') : BoxIs w' b x := h.ext (Ext.of_below (S := fun _ => False) hx) id

set_option maxRecDepth 100000 in
set_option maxHeartbeats 4000000 in
theorem setApart_walk (v : Value) (l : List Write) (y : Write) (w : World) (hv : SliceIs Write.cells 6 w v l) :
    Calls Try.prog 6 #[v, .agg #[.int .i64 y.at_.n, .int .i64 y.at_.r, .int .i64 y.blk.n, .int .i64 y.blk.r, .string y.name, .string y.value]] w fun e w' => e = .returned (.bool true) ∧ Below w.heap.size w w' := by
  obtain ⟨a, cap, hve, hcap, hmax, _⟩ := id hv
  unfold maxLen at hmax
  obtain ⟨N, hN⟩ : ∃ N : Nat, N = min l.length 80 := ⟨_, rfl⟩
  have hN80 : N ≤ 80 := by omega
  have hNl : N ≤ l.length := by omega
  have hNx : l.length ≤ N ∨ (80 ≤ N ∧ N < l.length) := by omega
  subst hve
  clear hN
  go_enter Try.func6, Try.ntmps6
  go_wp2_with fail
  refine (new_reg _).mono ?_
  rintro e w1 ⟨rfl, r1, b1, z1⟩
  have by1 := (BoxIs.new w y).ext (Ext.of_below (S := fun _ => False) b1) id
  have y1 : Below w.heap.size w w1 := ((Below.refl _ _).alloc (Nat.le_refl _) _).trans (b1.mono (by simp))
  simp only [World.size_alloc] at r1
  clear z1 b1
  go_wp2_with fail
  refine (alive_any _).mono ?_
  rintro e w2 ⟨rfl, b2⟩
  replace r1 := r1.below b2
  replace by1 := by1.ext (Ext.of_below (S := fun _ => False) b2) id
  have y2 := y1.trans (b2.mono y1.size)
  clear b2 y1
  go_upto_block 0 with fail
  go_cut [6] (fun i wx => RegIs wx (w.heap.size + 1 + 2) (w.heap.size + 1) (w.heap.size + 1 + 1) (setAll (l.take N)).1 (setAll (l.take N)).2 ∧ BoxIs wx w.heap.size y ∧ Below w.heap.size w wx)
  case first =>
    go_wp2_with fail
    go_loopg [6] N (fun g i wx => ∃ k : Nat, g = N - k ∧ k ≤ N ∧ i = .int .i64 k ∧ RegIs wx (w.heap.size + 1 + 2) (w.heap.size + 1) (w.heap.size + 1 + 1) (setAll (l.take k)).1 (setAll (l.take k)).2 ∧ BoxIs wx w.heap.size y ∧ Below w.heap.size w wx)
    case atStart => exact ⟨0, rfl, Nat.zero_le _, rfl, by simpa [setAll_nil] using r1, by1, y2⟩
    case round =>
      obtain ⟨k, hg, hk, rfl, q1, hby, hB⟩ := hrel
      have HG := Lib.hid hg
      clear hg r1 by1 y2
      by_cases hlt : k < N
      · obtain ⟨x, hx⟩ : ∃ x, l[k]? = some x := ⟨_, List.getElem?_eq_getElem (by omega)⟩
        obtain ⟨b, o, cp, hve, hcs⟩ := hv.wcells (by intro e; rw [e] at hx; simp at hx)
        cases hve
        obtain ⟨x0, x1, x2, x3, x4, x5⟩ := (hcs k x hx).below hB
        have hkl : k < l.length := by omega
        have hk80 : k < 80 := by omega
        have HX := Lib.hid hx
        have bw := cell_lt (hcs k x hx).1
        clear hx hcs
        go_wp2_with fail
        go_region_held3 (fun W => True ∧ W.cell? ⟨b, o + k * 6, none⟩ = some (.int .i64 x.at_.n) ∧ W.cell? ⟨b, o + k * 6 + 1, none⟩ = some (.int .i64 x.at_.r) ∧ W.cell? ⟨b, o + k * 6 + 2, none⟩ = some (.int .i64 x.blk.n) ∧ W.cell? ⟨b, o + k * 6 + 3, none⟩ = some (.int .i64 x.blk.r) ∧ W.cell? ⟨b, o + k * 6 + 4, none⟩ = some (.string x.name) ∧ W.cell? ⟨b, o + k * 6 + 5, none⟩ = some (.string x.value)) (first | exact ⟨trivial, x0, x1, x2, x3, x4, x5⟩ | exact ⟨trivial, x5'.keep x0 (by omega), x5'.keep x1 (by omega), x5'.keep x2 (by omega), x5'.keep x3 (by omega), x5'.keep x4 (by omega), x5'.keep x5 (by omega)⟩) ((go_at_call 9; ((with_reducible refine (set_any _ _ _ _ _ _ _ _ _ _ _ _ q1.drew).mono ?_); rintro e w5 ⟨rfl, q5, x5'⟩; simp only [ext_drew] at x5')))
        go_wp2_with fail
        go_roundg (N - (k + 1))
        case measure => rw [HG.out]; omega
        case rel =>
          refine ⟨k + 1, rfl, hlt, by go_num, ?_, hby.ext x5' (by omega), Ext.new hB x5' (fun i hi _ => by omega) hB.size⟩
          rw [take_snoc' HX.out, setAll_snoc]; exact q5
      · obtain rfl : k = N := by omega
        rcases hNx with hNx | ⟨hNx, hNy⟩
        · go_wp2_with fail
          go_meet
          case rel => exact ⟨q1, hby, hB⟩
        · go_wp2_with fail
          go_meet
          case rel => exact ⟨q1, hby, hB⟩
  case rest =>
    obtain ⟨q1, hby, hB⟩ := hcut
    have zvs : (setAll (l.take N)).1.length ≤ 1000 := by have := setAll_length (l.take N); rw [List.length_take] at this; omega
    clear by1 y2 r1
    obtain ⟨vs, hvs⟩ : ∃ vs, vs = (setAll (l.take N)).1 := ⟨_, rfl⟩
    obtain ⟨ats, hats⟩ : ∃ ats, ats = (setAll (l.take N)).2 := ⟨_, rfl⟩
    rw [← hvs] at q1 zvs
    rw [← hats] at q1
    clear hvs hats
    obtain ⟨i0, hi, hz0, hz1', hz2⟩ := info_parts info_attrs
    go_upto_block 2 with fail
    go_cut [7, 8] (fun vw i wx => ∃ rs : List (Sl × List Atr), rs.length = N ∧ Own Sl.cells 1 38 (w.heap.size + 4) wx vw (rs.map (·.1)) ∧ Told wx l vs rs ∧ RegIs wx (w.heap.size + 1 + 2) (w.heap.size + 1) (w.heap.size + 1 + 1) vs ats ∧ BoxIs wx w.heap.size y ∧ Below w.heap.size w wx)
    case first =>
      go_wp2_with fail
      go_loopg [7, 8] N (fun g vw i wx => ∃ k : Nat, g = N - k ∧ k ≤ N ∧ i = .int .i64 k ∧ ∃ rs : List (Sl × List Atr), rs.length = k ∧ Own Sl.cells 1 38 wc.heap.size wx vw (rs.map (·.1)) ∧ Told wx l vs rs ∧ RegIs wx (w.heap.size + 1 + 2) (w.heap.size + 1) (w.heap.size + 1 + 1) vs ats ∧ BoxIs wx w.heap.size y ∧ Below w.heap.size w wx ∧ wc.heap.size ≤ wx.heap.size)
      case atStart => exact ⟨0, rfl, Nat.zero_le _, rfl, [], rfl, Own.nil, fun j s lj hj => by simp at hj, q1, hby, hB, Nat.le_refl _⟩
      case round =>
        obtain ⟨k, hg, hk, rfl, rs, hrs, hown, htold, p1, pby, pB, pz⟩ := hrel
        have l1 := q1.lt
        have HG := Lib.hid hg
        have HR := Lib.hid hrs
        clear hg hrs q1 hby hB
        by_cases hlt : k < N
        · obtain ⟨x, hx⟩ : ∃ x, l[k]? = some x := ⟨_, List.getElem?_eq_getElem (by omega)⟩
          obtain ⟨b, o, cp, hve, hcs⟩ := hv.wcells (by intro e; rw [e] at hx; simp at hx)
          cases hve
          obtain ⟨x0, x1, x2, x3, x4, x5⟩ := (hcs k x hx).below pB
          have hkl : k < l.length := by omega
          have hk80 : k < 80 := by omega
          have HX := Lib.hid hx
          clear hx hcs
          go_wp2_with fail
          refine (all_list _ _ _ _ _ _ _ _ p1 (by omega)).mono ?_
          rintro e w5 ⟨v5, l5, rfl, s5, a5, n5, b5⟩
          obtain ⟨a6, c6, rfl, _⟩ := s5.slice (fun _ => rfl)
          have hown5 := hown.ext (Ext.of_below (S := fun _ => False) b5) (fun _ _ h => h)
          have told5 := htold.ext (Ext.of_below (S := fun _ => False) b5) (fun _ _ _ h => h)
          have p5 := p1.below b5
          have by5 := pby.below b5
          have B5 := pB.trans (b5.mono pB.size)
          have z5 := b5.size
          clear p1 pby hown htold b5
          have hlen : (rs.map (·.1)).length ≤ 80 := by rw [List.length_map, HR.out]; omega
          go_wp2_with (at_builtin; refine wpList_append_struct rfl _ _ _ rfl i0 (.slice none 0 0) 24 Try.underlying43 hi hz0 hz1' hz2 rfl (by omega) (fun _ => rfl) (fun x u hu => by simp [Sl.cells] at hu; rw [hu]; rfl) rfl (hown5.alloc _) ⟨a6, l5.length, c6⟩ w5.heap.size 1 rfl ?_ (by unfold maxLen; omega) (by omega) (by simp; omega) ?_)
          · intro j u hj
            match j, hj with
            | 0, hj => simp [Sl.cells, Sl.val] at hj; subst hj; go_simp
            | n + 1, hj => simp [Sl.cells] at hj
          · intro v' w6 hown6 hx6
            go_wp2_with fail
            go_roundg (N - (k + 1))
            case measure => rw [HG.out]; omega
            case rel =>
              have hne : ∀ b, u7.ownBlock = some b → wc.heap.size ≤ b := fun b hb => (hown5.blk b hb).1
              refine ⟨k + 1, rfl, hlt, by go_num, rs ++ [(⟨a6, l5.length, c6⟩, l5)], ?_, ?_, ?_, ?_, ?_, ?_, ?_⟩
              · rw [List.length_append, HR.out]; rfl
              · rw [List.map_append]; exact hown6
              · have tg : ∀ b cur, w5.heap[b]? = some (.cells cur 45 (0, 0)) → ¬ u7.ownBlock = some b := fun b cur hb e => by
                  obtain ⟨_, h3⟩ := hown5
                  rcases h3 with ⟨h3, _⟩ | ⟨g, cap, cur', h3, _, hg, _⟩
                  · rw [h3] at e; cases e
                  · rw [h3] at e; cases e; rw [hg] at hb; cases hb
                have t6 : Told w6 l vs rs := told5.ext (wr' := w6) (Ext.andThen ((Ext.refl (fun b => u7.ownBlock = some b) _).alloc _) hx6 (fun _ _ h => h)) tg
                intro j s lj hj
                by_cases hjk : j < rs.length
                · rw [List.getElem?_append_left hjk] at hj
                  exact t6 j s lj hj
                · rw [List.getElem?_append_right (by omega)] at hj
                  have hj0 : j - rs.length = 0 := by have := (List.getElem?_eq_some_iff.1 hj).1; simp at this; omega
                  rw [hj0] at hj
                  cases hj
                  have hjk2 : j = k := by have := HR.out; omega
                  subst hjk2
                  refine ⟨((s5.mono (Nat.zero_le _)).alloc _).ext hx6 (fun b hb => ?_), n5, x, HX.out, a5⟩
                  obtain ⟨_, h3⟩ := s5
                  rcases h3 with ⟨h3, _⟩ | ⟨g, cap, cur', h3, _, hg, _⟩
                  · rw [h3] at hb; cases hb
                  · rw [h3] at hb; cases hb; exact tg g cur' hg
              · exact (p5.alloc _).ext hx6 (fun e => by have := hne _ e; omega) (fun e => by have := hne _ e; omega) (fun e => by have := hne _ e; omega)
              · exact (by5.alloc _).ext hx6 (fun e => by have := hne _ e; omega)
              · exact Ext.new (B5.alloc B5.size _) hx6 (fun i hi _ e => by have := hne _ e; omega) (by have := B5.size; simp; omega)
              · have := hx6.size; simp at this; omega
        · obtain rfl : k = N := by omega
          rcases hNx with hNx | ⟨hNx, hNy⟩
          · go_wp2_with fail
            go_meet
            case rel => exact ⟨rs, HR.out, hown.mono (by omega), htold, p1, pby, pB⟩
          · go_wp2_with fail
            go_meet
            case rel => exact ⟨rs, HR.out, hown.mono (by omega), htold, p1, pby, pB⟩
    case rest =>
      obtain ⟨rs, hrs, hown, htold, p1, pby, pB⟩ := hcut
      obtain ⟨y0, y1, y2, y3, y4, y5⟩ := id pby
      clear q1 hby hB
      go_wp2_with fail
      refine (set_any _ _ _ _ _ _ _ _ _ _ _ _ p1).mono ?_
      rintro e w5 ⟨rfl, p5, x5⟩
      have told5 := htold.ext x5 (fun b cur hb e => by
        rcases e with e | e
        · obtain ⟨_, es, clock, h1, _⟩ := p1.hv
          rw [e, h1] at hb; cases hb
        · obtain ⟨_, es, clock, h1, _⟩ := p1.ha
          rw [e, h1] at hb; cases hb)
      have by5 := pby.ext x5 (by omega)
      have B5 := Ext.new pB x5 (fun i hi _ => by omega) pB.size
      have own5 := (hown.ext x5 (fun b hb e => by have := (hown.blk b hb).1; omega)).slice (fun _ => rfl)
      obtain ⟨av, cv, hve, hcv, hmv, hsl⟩ := own5
      have hrl : (rs.map (·.1)).length = N := by rw [List.length_map]; exact hrs
      rw [hrl] at hve hcv
      subst hve
      have zvs5 : (setVals vs ats y.at_ y.pl y.value).length ≤ 1001 := by
        unfold setVals
        split
        · have := aset_length_le vs y.pl ⟨y.at_, y.value⟩; omega
        · omega
      have HS := Lib.hid hsl
      have HL := Lib.hid hrs
      clear hsl hrs hrl x5 hown htold p1 pby pB y0 y1 y2 y3 y4 y5
      go_wp2_with fail
      obtain ⟨vs', hvs'⟩ : ∃ vs', vs' = setVals vs ats y.at_ y.pl y.value := ⟨_, rfl⟩
      have hoth : ∀ p, p ≠ y.pl → aget vs' p = aget vs p := fun p hp => by
        rw [hvs']
        unfold setVals
        split
        · exact aget_aset_other _ _ (fun e => hp e.symm)
        · rfl
      have p6 : RegIs w5 (w.heap.size + 1 + 2) (w.heap.size + 1) (w.heap.size + 1 + 1) vs' (setAts ats y.at_) := by rw [hvs']; exact p5
      rw [← hvs'] at zvs5
      have HO := Lib.hid hoth
      have HT := Lib.hid told5
      clear hoth told5 hvs' p5
      go_loopg [9] N (fun g i wx => ∃ m : Nat, g = N - m ∧ m ≤ N ∧ i = .int .i64 m ∧ Below w5.heap.size w5 wx)
      case atStart => exact ⟨0, rfl, Nat.zero_le _, rfl, Below.refl _ _⟩
      case round =>
        obtain ⟨m, hg, hm, rfl, hX⟩ := hrel
        have HG := Lib.hid hg
        clear hg
        by_cases hlt : m < N
        · obtain ⟨x, hx⟩ : ∃ x, l[m]? = some x := ⟨_, List.getElem?_eq_getElem (by omega)⟩
          obtain ⟨⟨⟨sa, sl, sc⟩, lm⟩, hrm⟩ : ∃ q, rs[m]? = some q := ⟨_, List.getElem?_eq_getElem (by rw [HL.out]; exact hlt)⟩
          obtain ⟨t1, t2, x', t3, t4⟩ := HT.out m _ _ hrm
          rw [hx] at t3
          cases t3
          obtain ⟨b, o, cp, hve, hcs⟩ := hv.wcells (by intro e; rw [e] at hx; simp at hx)
          cases hve
          have hB6 := B5.trans (hX.mono B5.size)
          obtain ⟨_, _, x2, x3, _, _⟩ := (hcs m x hx).below hB6
          obtain ⟨bw, ow, hav, hcw⟩ := HS.out (by intro e; have := congrArg List.length e; rw [List.length_map, HL.out] at this; simp at this; omega)
          subst hav
          have cw : wr.cell? ⟨bw, ow + m, none⟩ = some (.slice sa sl sc) := by
            have := hcw m ⟨sa, sl, sc⟩ (by rw [List.getElem?_map, hrm]; rfl) 0 _ rfl
            rw [Nat.mul_one, Nat.add_zero] at this
            exact keepB hX this
          have hml : m < l.length := by omega
          have q6 := p6.below hX
          obtain ⟨_, _, y2, y3, y4, _⟩ := by5.below hX
          have ownm := t1.ext (Ext.of_below (S := fun _ => False) hX) (fun _ _ h => h)
          obtain ⟨_, _, hslm, hcap2, hmax2, _⟩ := ownm.slice (fun _ => rfl)
          cases hslm
          unfold maxLen at hmax2
          clear hx hcs hrm hcw t1
          go_wp2_with fail
          refine (all_list _ _ _ _ _ _ _ _ q6 (by omega)).mono ?_
          rintro e w6 ⟨v6, l6, rfl, s6, a6, n6, b6⟩
          replace x2 := keepB b6 x2
          replace x3 := keepB b6 x3
          replace y2 := keepB b6 y2
          replace y3 := keepB b6 y3
          replace y4 := keepB b6 y4
          replace cw := keepB b6 cw
          replace q6 := q6.below b6
          have own6 := ownm.ext (Ext.of_below (S := fun _ => False) b6) (fun _ _ h => h)
          have hX6 := hX.trans (b6.mono hX.size)
          clear hX b6 ownm
          by_cases hbk : x.blk = y.blk
          · have e1 : x.blk.n = y.blk.n := by rw [hbk]
            have e2 : x.blk.r = y.blk.r := by rw [hbk]
            have HB := Lib.hid hbk
            rw [e1] at x2
            rw [e2] at x3
            clear e1 e2 hbk s6 a6
            go_wp2_with fail
            go_region_held3 (fun W => W.cell? ⟨b, o + m * 6 + 2, none⟩ = some (.int .i64 y.blk.n) ∧ W.cell? ⟨b, o + m * 6 + 3, none⟩ = some (.int .i64 y.blk.r) ∧ W.cell? ⟨w.heap.size, 2, none⟩ = some (.int .i64 y.blk.n) ∧ W.cell? ⟨w.heap.size, 3, none⟩ = some (.int .i64 y.blk.r)) (exact ⟨x2, x3, y2, y3⟩) (fail)
            have hX7 : Below w5.heap.size w5 w6.drew := hX6.drew
            have q7 := q6.drew
            have own7 := own6.drew
            clear q6 own6 hX6
            go_wp2_with fail
            obtain ⟨w8, hw8⟩ : ∃ w8, w8 = w6.drew := ⟨_, rfl⟩
            rw [← hw8] at hX7 q7 own7 ⊢
            replace x2 : w8.cell? ⟨b, o + m * 6 + 2, none⟩ = some (.int .i64 y.blk.n) := by rw [hw8]; exact x2
            replace x3 : w8.cell? ⟨b, o + m * 6 + 3, none⟩ = some (.int .i64 y.blk.r) := by rw [hw8]; exact x3
            replace y4 : w8.cell? ⟨w.heap.size, 4, none⟩ = some (.string y.name) := by rw [hw8]; exact y4
            replace cw : w8.cell? ⟨bw, ow + m, none⟩ = some (.slice sa lm.length sc) := by rw [hw8]; exact cw
            clear hw8
            go_loopg [12] lm.length (fun g i wx => ∃ j : Nat, g = lm.length - j ∧ j ≤ lm.length ∧ i = .int .i64 j ∧ Below w8.heap.size w8 wx)
            case atStart => exact ⟨0, rfl, Nat.zero_le _, rfl, Below.refl _ _⟩
            case round =>
              obtain ⟨j, hg2, hj, rfl, hY⟩ := hrel
              have HG2 := Lib.hid hg2
              clear hg2
              replace x2 := keepB hY x2
              replace x3 := keepB hY x3
              replace y4 := keepB hY y4
              replace cw := keepB hY cw
              by_cases hlt2 : j < lm.length
              · obtain ⟨at2, hat⟩ : ∃ q, lm[j]? = some q := ⟨_, List.getElem?_eq_getElem hlt2⟩
                obtain ⟨_, _, hq1, _, _, hq2⟩ := own7.slice (fun _ => rfl)
                cases hq1
                obtain ⟨bs, os, rfl, hcs⟩ := hq2 (by intro e; rw [e] at hlt2; simp at hlt2)
                have ca0 : wr.cell? ⟨bs, os + j * 2, none⟩ = some (.string at2.name) := keepB hY (hcs j at2 hat 0 _ rfl)
                have ca1 : wr.cell? ⟨bs, os + j * 2 + 1, none⟩ = some (.string at2.value) := keepB hY (hcs j at2 hat 1 _ rfl)
                have hmem : at2 ∈ lm := List.mem_of_getElem? hat
                obtain ⟨xw, hxw, hxv⟩ := (t4.mem at2).1 hmem
                have q8 := q7.below hY
                have HW := Lib.hid hxw
                have HV := Lib.hid hxv
                clear hat hcs hmem hxw hxv
                go_wp2_with fail
                go_region_held3 (fun W => W.cell? ⟨b, o + m * 6 + 2, none⟩ = some (.int .i64 y.blk.n) ∧ W.cell? ⟨b, o + m * 6 + 3, none⟩ = some (.int .i64 y.blk.r) ∧ W.cell? ⟨bw, ow + m, none⟩ = some (.slice (some ⟨bs, os, none⟩) lm.length sc) ∧ W.cell? ⟨bs, os + j * 2, none⟩ = some (.string at2.name)) (first | exact ⟨x2, x3, cw, ca0⟩ | exact ⟨keepB b9 x2, keepB b9 x3, keepB b9 cw, keepB b9 ca0⟩) ((go_at_call 11; ((with_reducible refine (get_any _ _ _ _ _ _ _ _ _ q8.drew).mono ?_); rintro e w9 ⟨rfl, b9⟩; simp only [heap_drew, below_drew] at b9)))
                have k1 := keepB b9 cw
                have k2 := keepB b9 ca0
                have k3 := keepB b9 ca1
                have k4 := keepB b9 y4
                have hY9 := hY.trans (b9.mono hY.size)
                clear x2 x3 cw ca0 ca1 y4 q8 b9
                by_cases hnm : at2.name.toList = y.name.toList
                · have hn1 : (at2.name.toList == y.name.toList) = true := by simp [hnm]
                  clear hnm
                  generalize valOf (aget vs' ⟨⟨y.blk.n, y.blk.r⟩, at2.name⟩) = sv
                  generalize (aget vs' ⟨⟨y.blk.n, y.blk.r⟩, at2.name⟩).isSome = bv
                  go_wp2_with fail
                  go_quiet (fail)
                  go_wp2_with fail
                  go_roundg (lm.length - (j + 1))
                  case measure => rw [HG2.out]; omega
                  case rel => exact ⟨j + 1, rfl, hlt2, by go_num, below_drewN hY9 _⟩
                · have hne : (⟨⟨y.blk.n, y.blk.r⟩, at2.name⟩ : Pl) ≠ y.pl := fun e => hnm (by rw [Write.pl] at e; rw [(Pl.mk.inj e).2])
                  have hg9 : aget vs' ⟨⟨y.blk.n, y.blk.r⟩, at2.name⟩ = some xw := by
                    rw [HO.out _ hne]
                    have := HW.out
                    rw [HB.out] at this
                    exact this
                  rw [hg9]
                  have hv9 : valOf (some xw) = at2.value := HV.out
                  rw [hv9]
                  simp only [Option.isSome_some]
                  have hn1 : (at2.name.toList == y.name.toList) = false := by simp [hnm]
                  clear hnm hne hg9 hv9
                  go_wp2_with fail
                  go_quiet (fail)
                  go_wp2_with fail
                  go_roundg (lm.length - (j + 1))
                  case measure => rw [HG2.out]; omega
                  case rel => exact ⟨j + 1, rfl, hlt2, by go_num, below_drewN hY9 _⟩
              · go_wp2_with fail
                go_roundg (N - (m + 1))
                case measure => rw [HG.out]; omega
                case rel => exact ⟨m + 1, rfl, hlt, by go_num, hX7.trans (hY.mono hX7.size)⟩
          · have hres : l6 = lm := a6.unique t4 (fun n => HO.out _ (fun e => hbk (by rw [Write.pl] at e; exact (Pl.mk.inj e).1)))
            have hd : decide (l6 = lm) = true := by rw [hres]; simp
            have HD := Lib.hid hd
            have sl6 := s6.slice (fun _ => rfl)
            have slm := own6.slice (fun _ => rfl)
            clear hres hd s6 own6 a6 t4
            by_cases e1 : x.blk.n = y.blk.n
            · have e2 : ¬ x.blk.r = y.blk.r := fun e2 => hbk (st_ext e1 e2)
              go_wp2_with fail
              go_region_held3 (fun W => W.cell? ⟨b, o + m * 6 + 2, none⟩ = some (.int .i64 x.blk.n) ∧ W.cell? ⟨b, o + m * 6 + 3, none⟩ = some (.int .i64 x.blk.r) ∧ W.cell? ⟨w.heap.size, 2, none⟩ = some (.int .i64 y.blk.n) ∧ W.cell? ⟨w.heap.size, 3, none⟩ = some (.int .i64 y.blk.r)) (exact ⟨x2, x3, y2, y3⟩) (fail)
              go_wp2_with fail
              refine (same_any _ _ _ _ _ (sl6.below (Below.refl _ _).drew) (slm.below (Below.refl _ _).drew) n6).mono ?_
              rintro e w7 ⟨rfl, b7⟩
              rw [HD.out]
              simp only [heap_drew, below_drew] at b7
              go_wp2_with fail
              go_roundg (N - (m + 1))
              case measure => rw [HG.out]; omega
              case rel => exact ⟨m + 1, rfl, hlt, by go_num, hX6.trans (b7.mono hX6.size)⟩
            · go_wp2_with fail
              go_region_held3 (fun W => W.cell? ⟨b, o + m * 6 + 2, none⟩ = some (.int .i64 x.blk.n) ∧ W.cell? ⟨b, o + m * 6 + 3, none⟩ = some (.int .i64 x.blk.r) ∧ W.cell? ⟨w.heap.size, 2, none⟩ = some (.int .i64 y.blk.n) ∧ W.cell? ⟨w.heap.size, 3, none⟩ = some (.int .i64 y.blk.r)) (exact ⟨x2, x3, y2, y3⟩) (fail)
              go_wp2_with fail
              refine (same_any _ _ _ _ _ (sl6.below (Below.refl _ _).drew) (slm.below (Below.refl _ _).drew) n6).mono ?_
              rintro e w7 ⟨rfl, b7⟩
              rw [HD.out]
              simp only [heap_drew, below_drew] at b7
              go_wp2_with fail
              go_roundg (N - (m + 1))
              case measure => rw [HG.out]; omega
              case rel => exact ⟨m + 1, rfl, hlt, by go_num, hX6.trans (b7.mono hX6.size)⟩
        · go_wp2_with fail
          go_ret
          exact ⟨rfl, B5.trans (hX.mono B5.size)⟩

set_option maxRecDepth 100000 in
theorem setApart_lifted (os : Os) (started : os.Started) (H : Type) (enc : TypeId × Value → H) :
    ReturnsInHanded {} Try.checked os 6 .any (Rows.setApartSpec.pre6 enc Try.prog Try.f6 Rows.setApartRow.domain false) (Rows.setApartSpec.post enc Try.prog Try.f6 false true false false) := by
  refine returnsInHanded_of_change (C := Try.checked) Try.own started (by kernel_rfl) Try.func6
    (ChangeSpec.witness6 (enc := enc) (C := Try.checked) false ⟨#[], #[.slice none 0 0, .agg #[.int .i64 0, .int .i64 0, .int .i64 0, .int .i64 0, .string ⟨#[]⟩, .string ⟨#[]⟩]], []⟩ 8 (by kernel_rfl) (by kernel_rfl) (by kernel_rfl) (by kernel_rfl)) ?_
  intro W base args ds gs before hval0 hW hcnd _
  have hval : ∀ (j : Nat) t v, Try.f6.params[j]? = some t → args[j]? = some v → Value.okWide Try.prog W .any base t v := hval0
  have hW' := hW
  obtain ⟨p, q, hA0, hV, rfl, hfz, hnd⟩ := hW
  have hA : DataW.TrodAll enc Try.prog W 0 (fun _ => true) true Try.f6.params.toList args.toList ds p := hA0
  rw [Try.params6] at hA hval
  obtain ⟨v0, vs0, d0, ds0, p0, q0, hargs, rfl, rfl, h0, r0⟩ := trodAll_cons hA
  obtain ⟨v1, vs1, d1, ds1, p1, q1, rfl, rfl, rfl, h1, r1⟩ := trodAll_cons r0
  obtain ⟨rfl, rfl, rfl⟩ := trodAll_nil r1
  obtain rfl : args = #[v0, v1] := by cases args; simp_all
  obtain ⟨rfl, rfl⟩ := trodVars_none hV
  have k0 := h0
  have lt0 : ∀ x ∈ p0, x.block < W.heap.size := by obtain ⟨m, hm⟩ := k0; exact DataW.trod_lt m _ _ _ hm
  have k1 := h1
  have lt1 : ∀ x ∈ p1, x.block < W.heap.size := by obtain ⟨m, hm⟩ := k1; exact DataW.trod_lt m _ _ _ hm
  obtain ⟨l, hl⟩ := open_writes (hval 0 22 v0 rfl rfl) h0
  obtain ⟨y, rfl⟩ := open_write (hval 1 32 v1 rfl rfl) h1
  clear hA0 hval0
  refine (setApart_walk v0 l y W hl).mono fun e W' ⟨he, bel⟩ => ?_
  subst he
  exact ⟨_, rfl, _, _, _, [], _, [], hW', trodAll_mk1 (shut_bool Try.underlying4 _), (trodAll_cons_mk (Below.trod Try.laidOut (by kernel_rfl) (of_decide_eq_true (by kernel_rfl)) k0 bel lt0) (trodAll_cons_mk (Below.trod Try.laidOut (by kernel_rfl) (of_decide_eq_true (by kernel_rfl)) k1 bel lt1) trodAll_mk0)), rfl, bel.frame _, fun h => by cases h⟩

theorem setApart_holds : Rows.SetApartSaid :=
  OpenClaim.holds_of_wide 6 Try.f6 rfl rfl rfl rfl rfl rfl rfl ⟨rfl, rfl, rfl, rfl, rfl⟩ rfl rfl rfl rfl rfl (by kernel_rfl) Try.func6 (by kernel_rfl)
    (of_decide_eq_true (by kernel_rfl)) (by unfold Func.isWrapper; first | (rw [if_pos (by decide +kernel)]; kernel_rfl) | (rw [if_neg (by decide +kernel)]; exact ⟨rfl, rfl⟩))
    (fun os started H enc _ => setApart_lifted os started H enc)

#print axioms setApart_holds

end Go.Proofs.Ytkkffnejgbhbmaa
