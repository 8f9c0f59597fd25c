/- Layer 14: up, and the closure that goes up. -/
import Derived.RangeFuncNested
import Derived.RangeFuncBound
import Derived.RangeFuncCalls
import Derived.RangeFuncLeaves
import Derived.Shelf.Abstract
import Derived.Shelf.RegionOpen
import Derived.WalkKit
import Derived.OwnWalkIn
import Derived.TacticsInMore
import Derived.LoopNIn
import Derived.LoopIn
import Derived.Test.YtilonmpcifohiaaUndo14
namespace Go.Proofs.Ytilonmpcifohiaa
open Go.RowKit
set_option linter.unusedSimpArgs false
set_option linter.unusedVariables false
attribute [local go_sem] Oper.semAt_some
attribute [local go_sem] MapIs.alloc MapIs.drew MapIs.setCell

theorem ends_unique {h : Hang} : ∀ {n m : Nat} {u : St}, Ends h n u → Ends h m u → n = m
  | 0, 0, _, _, _ => rfl
  | 0, m + 1, u, h0, ⟨c, hc, _⟩ => by rw [show h u = none from h0] at hc; cases hc
  | n + 1, 0, u, ⟨c, hc, _⟩, h0 => by rw [show h u = none from h0] at hc; cases hc
  | n + 1, m + 1, u, ⟨c, hc, k⟩, ⟨d, hd, j⟩ => by
    rw [hc] at hd; cases hd
    rw [ends_unique k j]

open Classical in
/-- How many steps are left, read off the world. -/
noncomputable def leftUp (h : Hang) (Bb : Nat) (W : World) : Nat :=
  if hx : ∃ r : Nat × St, W.cell? ⟨Bb, 0, none⟩ = some (.int .i64 r.2.n) ∧ W.cell? ⟨Bb, 1, none⟩ = some (.int .i64 r.2.r) ∧ Ends h r.1 r.2 then (Classical.choose hx).1 else 0
theorem leftUp_eq {h : Hang} {Bb n : Nat} {u : St} {W : World} (h0 : W.cell? ⟨Bb, 0, none⟩ = some (.int .i64 u.n)) (h1 : W.cell? ⟨Bb, 1, none⟩ = some (.int .i64 u.r)) (he : Ends h n u) : leftUp h Bb W = n := by
  have hex : ∃ r : Nat × St, W.cell? ⟨Bb, 0, none⟩ = some (.int .i64 r.2.n) ∧ W.cell? ⟨Bb, 1, none⟩ = some (.int .i64 r.2.r) ∧ Ends h r.1 r.2 := ⟨(n, u), h0, h1, he⟩
  unfold leftUp
  rw [dif_pos hex]
  obtain ⟨e0, e1, e2⟩ := Classical.choose_spec hex
  have e0 := h0.symm.trans e0
  have e1 := h1.symm.trans e1
  have hu : (Classical.choose hex).2 = u := by
    simp only [Option.some.injEq, Value.int.injEq, true_and] at e0 e1
    generalize (Classical.choose hex).2 = z at *
    cases z; cases u; simp_all
  rw [hu] at e2
  exact ends_unique e2 he

set_option maxRecDepth 100000 in
set_option maxHeartbeats 2000000 in
theorem up1_in (n : Nat) (hn : 1 ≤ n) (l Bb Bt t mh : Nat) (hl : List (St × Ch)) (h : Hang) (hag : Agree hl h) (b : St) (I X : World → Prop)
    (hI : ∀ W W', I W → Ext (· = Bb) W W' → I W')
    (hY : ∀ (u : St) (W1 : World), I W1 → YieldAt Fence.wide (n - 1) Try.prog l #[.agg #[.int .i64 u.n, .int .i64 u.r]] W1 fun e W' =>
      (u ≠ b ∧ e = .returned (.bool true) ∧ I W' ∧ Ext (· = l) W1 W') ∨ (u = b ∧ e = .returned (.bool false) ∧ X W'))
    (hne : Bb ≠ l ∧ Bt ≠ l ∧ t ≠ l ∧ mh ≠ l ∧ Bb ≠ Bt ∧ Bb ≠ t ∧ Bb ≠ mh)
    (W : World) (u0 : St) (k0 : Nat) (hE : Ends h k0 u0) (hu0 : W.cell? ⟨Bb, 0, none⟩ = some (.int .i64 u0.n)) (hu1 : W.cell? ⟨Bb, 1, none⟩ = some (.int .i64 u0.r)) (hf0 : W.frozen? ⟨Bb, 0, none⟩ = false) (hf1 : W.frozen? ⟨Bb, 1, none⟩ = false)
    (hBt : W.cell? ⟨Bt, 0, none⟩ = some (.pointer (some ⟨t, 0, none⟩))) (ht : W.cell? ⟨t, 1, none⟩ = some (.map (some mh))) (hm : MapIs St.val Ch.val W mh hl) (h0 : I W) :
    CallsIn Fence.wide n Try.prog 57 #[.func (.yield l) #[] #[], .pointer (some ⟨Bb, 0, none⟩), .pointer (some ⟨Bt, 0, none⟩)] W fun e W' => (∃ v, e = .returned v) ∧
      ((¬ Up h u0 b ∧ I W') ∨ (Up h u0 b ∧ X W')) := by
  refine callsIn_of_wp Try.func57 rfl trivial ?_ rfl
  simp only [Try.ntmps57, List.size_toArray, List.length_cons, List.length_nil, Nat.reduceAdd, Nat.reduceSub, Array.replicate_succ, Array.replicate_zero, List.push_toArray, List.append_toArray, List.nil_append, List.cons_append]
  gi_wp2
  gi_loopw [4] (fun v wr => ∃ (k : Nat) (u : St), Ends h k u ∧ (Up h u0 b ↔ Up h u b) ∧ wr.cell? ⟨Bb, 0, none⟩ = some (.int .i64 u.n) ∧ wr.cell? ⟨Bb, 1, none⟩ = some (.int .i64 u.r) ∧ wr.frozen? ⟨Bb, 0, none⟩ = false ∧ wr.frozen? ⟨Bb, 1, none⟩ = false ∧ wr.cell? ⟨Bt, 0, none⟩ = some (.pointer (some ⟨t, 0, none⟩)) ∧ wr.cell? ⟨t, 1, none⟩ = some (.map (some mh)) ∧ MapIs St.val Ch.val wr mh hl ∧ I wr)
    (fun v wr => leftUp h Bb wr)
  case atStart => exact ⟨k0, u0, hE, Iff.rfl, hu0, hu1, hf0, hf1, hBt, ht, hm, h0⟩
  case round =>
    obtain ⟨k, u, he, hiff, x0, x1, f0, f1, y0, y1, hmr, hIr⟩ := hrel
    obtain ⟨fn, tmps, assign, body, hy, hR⟩ := hY u wr hIr
    have HE := Lib.hid he
    have HIF := Lib.hid hiff
    have HM := Lib.hid (leftUp_eq x0 x1 he)
    have hbw := cell_lt x0
    clear hu0 hu1 hf0 hf1 hBt ht hm h0 he hiff
    gi_wp2
    refine hR.mono ?_
    rintro e W3 (⟨hub, rfl, hI3, hx3⟩ | ⟨rfl, rfl, hX3⟩)
    · obtain ⟨n1, n2, n3, n4, n5, n6, n7⟩ := hne
      replace x0 := hx3.keep x0 n1
      replace x1 := hx3.keep x1 n1
      have zb := cell_lt x0
      replace f0 : W3.frozen? ⟨Bb, 0, none⟩ = false := (hx3.frozen (p := ⟨Bb, 0, none⟩) hbw n1).trans f0
      replace f1 : W3.frozen? ⟨Bb, 1, none⟩ = false := (hx3.frozen (p := ⟨Bb, 1, none⟩) hbw n1).trans f1
      replace y0 := hx3.keep y0 n2
      replace y1 := hx3.keep y1 n3
      have hm3 := hmr.ext hx3 n4
      clear hmr hR hy hx3 hIr
      cases hu : h u with
      | none =>
        have hlk : ∀ W, MapIs St.val Ch.val W mh hl → (Instr.lookup 55 (.map (some mh)) (.agg #[.int .i64 u.n, .int .i64 u.r]) true).run Try.prog W = .ok (.tuple #[.agg #[.int .i64 0, .int .i64 0, .int .i64 0, .int .i64 0, .string ⟨#[]⟩], .bool false]) W := fun W hW => by
          have := hW.lookupOk key_stamp und_hang zero_child u
          rw [hag u, hu] at this
          exact this
        have HU := Lib.hid hu
        clear hu
        gi_wp2
        refine wpIn_wide.2 ?_
        go_region_held3 (fun W => W.cell? ⟨Bt, 0, none⟩ = some (.pointer (some ⟨t, 0, none⟩)) ∧ W.cell? ⟨t, 1, none⟩ = some (.map (some mh)) ∧ W.cell? ⟨Bb, 0, none⟩ = some (.int .i64 u.n) ∧ W.cell? ⟨Bb, 1, none⟩ = some (.int .i64 u.r) ∧ MapIs St.val Ch.val W mh hl) (first | exact ⟨y0, y1, x0, x1, hm3.drew⟩ | exact ⟨cell_alloc y0 _, cell_alloc y1 _, cell_alloc x0 _, cell_alloc x1 _, (hm3.alloc _).drew⟩) (fail)
        all_goals
          gi_wp2
          refine bodyPost_ret (results_none rfl _ _ _) rfl ?_
          refine ⟨⟨_, rfl⟩, .inl ⟨fun hup => up_none HU.out hub (HIF.out.1 hup), hI _ _ hI3 ?_⟩⟩
          first | exact ((Ext.refl _ _).alloc _).drew | exact ((Ext.refl _ _).drew.alloc _)
      | some c =>
        have hlk : ∀ W, MapIs St.val Ch.val W mh hl → (Instr.lookup 55 (.map (some mh)) (.agg #[.int .i64 u.n, .int .i64 u.r]) true).run Try.prog W = .ok (.tuple #[.agg #[.int .i64 c.block.n, .int .i64 c.block.r, .int .i64 c.under.n, .int .i64 c.under.r, .string c.key], .bool true]) W := fun W hW => by
          have := hW.lookupOk key_stamp und_hang zero_child u
          rw [hag u, hu] at this
          exact this
        have HU := Lib.hid hu
        clear hu
        obtain ⟨k', hk', hE'⟩ : ∃ k', k = k' + 1 ∧ Ends h k' c.under := by
          have he := HE.out
          cases k with
          | zero => rw [show h u = none from he] at HU; exact absurd HU.out (by simp)
          | succ k =>
            obtain ⟨d, hd, hk⟩ := he
            rw [HU.out] at hd; cases hd
            exact ⟨k, rfl, hk⟩
        have HK := Lib.hid hk'
        have HEE := Lib.hid hE'
        have hne0 : ¬ Bb = W3.heap.size := by omega
        clear hk' hE'
        obtain ⟨Wn, hWn⟩ : ∃ Wn, Wn = (((W3.setCell ⟨Bb, 0, none⟩ (.int .i64 c.under.n)).setCell ⟨Bb, 1, none⟩ (.int .i64 c.under.r)).alloc (.cells #[.int .i64 c.block.n, .int .i64 c.block.r, .int .i64 c.under.n, .int .i64 c.under.r, .string c.key] 36)).drew := ⟨_, rfl⟩
        have hxN : Ext (· = Bb) W3 Wn := by
          rw [hWn]
          exact ((((Ext.refl (· = Bb) W3).setCell (p := ⟨Bb, 0, none⟩) (.inr rfl) _).setCell (p := ⟨Bb, 1, none⟩) (.inr rfl) _).alloc _).drew
        have w0 : Wn.cell? ⟨Bb, 0, none⟩ = some (.int .i64 c.under.n) := by
          rw [hWn]
          refine cell_alloc (w := (W3.setCell ⟨Bb, 0, none⟩ (.int .i64 c.under.n)).setCell ⟨Bb, 1, none⟩ (.int .i64 c.under.r)) ?_ _
          rw [World.cell?_setCell_other _ _ _ _ (by simp)]
          exact World.cell?_setCell_same' _ _ _ (by rw [x0]; rfl)
        have w1 : Wn.cell? ⟨Bb, 1, none⟩ = some (.int .i64 c.under.r) := by
          rw [hWn]
          refine cell_alloc (w := (W3.setCell ⟨Bb, 0, none⟩ (.int .i64 c.under.n)).setCell ⟨Bb, 1, none⟩ (.int .i64 c.under.r)) ?_ _
          refine World.cell?_setCell_same' _ _ _ ?_
          rw [World.cell?_setCell_other _ _ _ _ (by simp), x1]; rfl
        have g0 : Wn.frozen? ⟨Bb, 0, none⟩ = false := by rw [hWn]; go_simp
        have g1 : Wn.frozen? ⟨Bb, 1, none⟩ = false := by rw [hWn]; go_simp
        have hrelN : ∃ (k : Nat) (u : St), Ends h k u ∧ (Up h u0 b ↔ Up h u b) ∧ Wn.cell? ⟨Bb, 0, none⟩ = some (.int .i64 u.n) ∧ Wn.cell? ⟨Bb, 1, none⟩ = some (.int .i64 u.r) ∧ Wn.frozen? ⟨Bb, 0, none⟩ = false ∧ Wn.frozen? ⟨Bb, 1, none⟩ = false ∧ Wn.cell? ⟨Bt, 0, none⟩ = some (.pointer (some ⟨t, 0, none⟩)) ∧ Wn.cell? ⟨t, 1, none⟩ = some (.map (some mh)) ∧ MapIs St.val Ch.val Wn mh hl ∧ I Wn :=
          ⟨k', c.under, HEE.out, HIF.out.trans (up_some HU.out hub), w0, w1, g0, g1, hxN.keep y0 (fun e => n5 e.symm), hxN.keep y1 (fun e => n6 e.symm), hm3.ext hxN (fun e => n7 e.symm), hI _ _ hI3 hxN⟩
        have hle := leftUp_eq w0 w1 HEE.out
        rw [hWn] at hrelN hle
        have HREL := Lib.hid hrelN
        have HLE := Lib.hid hle
        clear hrelN hle w0 w1 g0 g1 hxN hWn
        gi_wp2
        refine wpIn_wide.2 ?_
        go_region_held3 (fun W => W.cell? ⟨Bt, 0, none⟩ = some (.pointer (some ⟨t, 0, none⟩)) ∧ W.cell? ⟨t, 1, none⟩ = some (.map (some mh)) ∧ W.cell? ⟨Bb, 0, none⟩ = some (.int .i64 u.n) ∧ W.cell? ⟨Bb, 1, none⟩ = some (.int .i64 u.r) ∧ MapIs St.val Ch.val W mh hl) (first | exact ⟨y0, y1, x0, x1, hm3.drew⟩ | exact ⟨cell_alloc y0 _, cell_alloc y1 _, cell_alloc x0 _, cell_alloc x1 _, (hm3.alloc _).drew⟩) (fail)
        all_goals
          gi_wp2
          go_roundw
          case rel => exact HREL.out
          case measure => rw [HM.out, HK.out, HLE.out]; exact Nat.lt_succ_self _
    · gi_wp2
      refine bodyPost_end (results_none rfl _ _ _) rfl ?_
      exact ⟨⟨_, rfl⟩, .inr ⟨HIF.out.2 (.refl _), hX3⟩⟩

theorem up_any (t : Nat) (u : St) (w : World) :
    Calls Try.prog 49 #[.pointer (some ⟨t, 0, none⟩), .agg #[.int .i64 u.n, .int .i64 u.r]] w
      fun e w' => e = .returned (.func (.func 57) #[] #[.pointer (some ⟨w.heap.size + 1, 0, none⟩), .pointer (some ⟨w.heap.size, 0, none⟩)]) ∧ w' = (w.alloc (.cells #[.pointer (some ⟨t, 0, none⟩)] 27)).alloc (.cells #[.int .i64 u.n, .int .i64 u.r] 24) := by
  go_enter Try.func49, Try.ntmps49
  go_wp2_with fail
  go_ret
  exact ⟨rfl, rfl⟩

end Go.Proofs.Ytilonmpcifohiaa
