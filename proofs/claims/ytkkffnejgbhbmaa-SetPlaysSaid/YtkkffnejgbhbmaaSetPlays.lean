/- The law SetPlays: any writes, in any order, are answered as the document says; for every input. -/
import Derived.Test.YtkkffnejgbhbmaaPlays15
import Derived.Test.YtkkffnejgbhbmaaSetApart
namespace Go.Proofs.Ytkkffnejgbhbmaa
open Go.ChangeShapes Go.WideShapes Go.ChangeAt Go.RowKit
set_option linter.unusedSimpArgs false
set_option linter.unusedVariables false

set_option maxRecDepth 100000 in
set_option maxHeartbeats 4000000 in
theorem setPlays_walk (v : Value) (l : List Write) (w : World) (hv : SliceIs Write.cells 6 w v l) :
    Calls Try.prog 3 #[v] w fun e w' => e = .returned (.bool true) ∧ Below w.heap.size w w' := by
  obtain ⟨a, cap, hve, hcap, hmax, _⟩ := id hv
  unfold maxLen at hmax
  obtain ⟨N, hN⟩ : ∃ N : Nat, N = min l.length 80 := ⟨_, rfl⟩
  have hN80 : N ≤ 80 := by omega
  have hNl : N ≤ l.length := by omega
  have hNx : l.length ≤ N ∨ (80 ≤ N ∧ N < l.length) := by omega
  subst hve
  clear hN
  go_enter Try.func3, Try.ntmps3
  go_wp2_with fail
  refine (new_reg _).mono ?_
  rintro e w1 ⟨rfl, r1, y1, z1⟩
  have HZ1 := Lib.hid z1
  clear z1
  go_wp2_with fail
  refine (alive_any _).mono ?_
  rintro e w2 ⟨rfl, b2⟩
  have hrb : w2.heap[w.heap.size + 3]? = some (.cells #[.slice none 0 0] 27 (0, 0)) := (b2.block _ (by simp [HZ1.out])).trans (heap_alloc_eq _ (by rw [HZ1.out]))
  have r2 := (r1.alloc _).below b2
  have y2 : Below w.heap.size w w2 := (y1.alloc y1.size _).trans (b2.mono (by have := y1.size; simp; omega))
  rw [HZ1.out]
  have hz2 : w.heap.size + 4 ≤ w2.heap.size := by have := b2.size; simp [HZ1.out] at this; omega
  clear b2 y1 r1
  go_wp2_with fail
  go_loopg [5] N (fun g i wx => ∃ (k : Nat) (L : List Write) (rv : Value), g = N - k ∧ k ≤ N ∧ i = .int .i64 k ∧ L.length ≤ k ∧ Hid (Acc L) ∧ RegIs wx (w.heap.size + 2) w.heap.size (w.heap.size + 1) (setAll L).1 (setAll L).2 ∧ wx.heap[w.heap.size + 3]? = some (.cells #[rv] 27 (0, 0)) ∧ Own Write.cells 6 32 (w.heap.size + 4) wx rv L ∧ Below w.heap.size w wx ∧ w.heap.size + 4 ≤ wx.heap.size)
  case atStart => exact ⟨0, [], .slice none 0 0, rfl, Nat.zero_le _, rfl, Nat.le_refl _, ⟨fun x hx => (by cases hx), fun x hx => (by cases hx)⟩, r2, hrb, Own.nil, y2, hz2⟩
  case round =>
    obtain ⟨k, L, rv, hg, hk, rfl, hLk, hacc, q1, hrb1, hown1, hB, hz⟩ := hrel
    have HG := Lib.hid hg
    clear hg r2 y2 hz2 hrb
    by_cases hlt : k < N
    · obtain ⟨x, hx⟩ : ∃ x, l[k]? = some x := ⟨_, List.getElem?_eq_getElem (by omega)⟩
      obtain ⟨b, o, cp, hve, hcs⟩ := hv.wcells (by intro e; rw [e] at hx; simp at hx)
      cases hve
      obtain ⟨x0, x1, x2, x3, x4, x5⟩ := (hcs k x hx).below hB
      have hkl : k < l.length := by omega
      have hk80 : k < 80 := by omega
      clear hx hcs
      have hbx := BoxIs.new wr x
      have q2 := q1.alloc (.cells #[.int .i64 x.at_.n, .int .i64 x.at_.r, .int .i64 x.blk.n, .int .i64 x.blk.r, .string x.name, .string x.value] 32)
      have hown2 := hown1.alloc (.cells #[.int .i64 x.at_.n, .int .i64 x.at_.r, .int .i64 x.blk.n, .int .i64 x.blk.r, .string x.name, .string x.value] 32)
      have hrb2 := (Below.heap_alloc wr (.cells #[.int .i64 x.at_.n, .int .i64 x.at_.r, .int .i64 x.blk.n, .int .i64 x.blk.r, .string x.name, .string x.value] 32) (w.heap.size + 3) (by omega)).trans hrb1
      have hB2 := hB.alloc hB.size (.cells #[.int .i64 x.at_.n, .int .i64 x.at_.r, .int .i64 x.blk.n, .int .i64 x.blk.r, .string x.name, .string x.value] 32)
      have hnew : ∀ b, rv.ownBlock = some b → w.heap.size + 4 ≤ b ∧ b < wr.heap.size := hown1.blk
      have hnew2 : w.heap.size + 4 ≤ (wr.alloc (.cells #[.int .i64 x.at_.n, .int .i64 x.at_.r, .int .i64 x.blk.n, .int .i64 x.blk.r, .string x.name, .string x.value] 32)).heap.size := by simp; omega
      go_wp2_with fail
      clear x0 x1 x2 x3 x4 x5 q1 hown1 hrb1 hB
      generalize wr.alloc (.cells #[.int .i64 x.at_.n, .int .i64 x.at_.r, .int .i64 x.blk.n, .int .i64 x.blk.r, .string x.name, .string x.value] 32) = W1 at *
      obtain ⟨z0, z1, z2, z3, z4, z5⟩ := id hbx
      have hn6 : ¬ (wr.heap.size = w.heap.size + 3 ∨ rv.ownBlock = some wr.heap.size) := by
        rintro (h | h)
        · omega
        · have := (hnew _ h).2; omega
      have hS : ∀ W, RegIs W (w.heap.size + 2) w.heap.size (w.heap.size + 1) (setAll L).1 (setAll L).2 → _ := fun W hW => set_any _ _ _ _ _ x.at_.n x.at_.r x.blk.n x.blk.r x.name x.value W hW
      have hR : ∀ W, Ext (fun k => k = w.heap.size ∨ k = w.heap.size + 1) W1 W → _ := fun W hx => rset_any (w.heap.size + 3) (w.heap.size + 4) rv L x W ((hx.block _ (by omega) (by omega)).trans hrb2) (hown2.ext hx (fun b hb e => by have := (hnew b hb).1; omega)) (Nat.le_trans hnew2 hx.size) (by omega)
      have HS := Lib.hid hS
      have HR := Lib.hid hR
      have HN := Lib.hid hnew
      clear hS hR hnew
      go_region_held3 (fun W => W.cell? ⟨wr.heap.size, 0, none⟩ = some (.int .i64 x.at_.n) ∧ W.cell? ⟨wr.heap.size, 1, none⟩ = some (.int .i64 x.at_.r) ∧ W.cell? ⟨wr.heap.size, 2, none⟩ = some (.int .i64 x.blk.n) ∧ W.cell? ⟨wr.heap.size, 3, none⟩ = some (.int .i64 x.blk.r) ∧ W.cell? ⟨wr.heap.size, 4, none⟩ = some (.string x.name) ∧ W.cell? ⟨wr.heap.size, 5, none⟩ = some (.string x.value)) (first | exact ⟨z0, z1, z2, z3, z4, z5⟩ | exact ⟨x5.keep z0 (by omega), x5.keep z1 (by omega), x5.keep z2 (by omega), x5.keep z3 (by omega), x5.keep z4 (by omega), x5.keep z5 (by omega)⟩ | exact ⟨x6.keep (x5.keep z0 (by omega)) hn6, x6.keep (x5.keep z1 (by omega)) hn6, x6.keep (x5.keep z2 (by omega)) hn6, x6.keep (x5.keep z3 (by omega)) hn6, x6.keep (x5.keep z4 (by omega)) hn6, x6.keep (x5.keep z5 (by omega)) hn6⟩) (first | (go_at_call 9; ((with_reducible refine (HS.out _ q2.drew).mono ?_); rintro e w5 ⟨rfl, q5, x5⟩; simp only [ext_drew] at x5)) | (go_at_call 10; ((with_reducible refine (HR.out _ x5).mono ?_); rintro e w6 ⟨rfl, ref6, x6⟩)))
      rename_i hHeld
      obtain ⟨c0, c1, c2, c3, c4, c5⟩ := hHeld
      obtain ⟨acc6, st6⟩ := acc_step hacc.out x
      have hce : setCode (setAll L).2 ⟨x.at_.n, x.at_.r⟩ = rsetCode L x.at_ := code_eq hacc.out x.at_
      rw [hce]
      have q6 : RegIs w6 (w.heap.size + 2) w.heap.size (w.heap.size + 1) (setAll (rsetL L x)).1 (setAll (rsetL L x)).2 := by
        rw [st6]
        exact q5.ext x6 (fun e => e.elim (by omega) (fun e => by have := (HN.out _ e).1; omega)) (fun e => e.elim (by omega) (fun e => by have := (HN.out _ e).1; omega)) (fun e => e.elim (by omega) (fun e => by have := (HN.out _ e).1; omega))
      have hB6 : Below w.heap.size w w6 := by
        have h5 := Ext.new hB2 x5 (fun i hi _ => by omega) hB2.size
        exact Ext.new h5 x6 (fun i hi _ e => e.elim (by omega) (fun e => by have := (HN.out _ e).1; omega)) h5.size
      have hz6 : w.heap.size + 4 ≤ w6.heap.size := Nat.le_trans hnew2 (Nat.le_trans x5.size x6.size)
      have hl6 : (rsetL L x).length ≤ k + 1 := by have := rsetL_length L x; omega
      have hbest : ∀ p, aget (setAll (rsetL L x)).1 p = refBest (rsetL L x) p := best_eq acc6
      have zs6 : (setAll (rsetL L x)).1.length ≤ 1000 := by have := setAll_length (rsetL L x); omega
      clear z0 z1 z2 z3 z4 z5 q2 hown2 hrb2 hB2 hnew2 hbx hn6 HS HR HN q5 x5 x6 hce st6
      generalize rsetL L x = L6 at *
      generalize hvs6 : (setAll L6).1 = vs6 at *
      generalize hats6 : (setAll L6).2 = ats6 at *
      have HVS := Lib.hid hvs6
      have HATS := Lib.hid hats6
      have HBE := Lib.hid hbest
      have HACC := Lib.hid acc6
      generalize rsetCode L x.at_ = cd
      clear hvs6 hats6 hbest acc6
      go_wp2_with fail
      refine (get_any _ _ _ _ _ x.blk.n x.blk.r x.name w6 q6).mono ?_
      rintro e w7 ⟨rfl, b7⟩
      rw [HBE.out]
      have q7 := q6.below b7
      have ref7 := ref6.below b7
      have hB7 := hB6.trans (b7.mono hB6.size)
      have d2 := keepB b7 c2
      have d3 := keepB b7 c3
      have d4 := keepB b7 c4
      have hz7 := Nat.le_trans hz6 b7.size
      clear b7 q6 ref6 hB6 c0 c1 c2 c3 c4 c5 hz6
      go_wp2_with fail
      refine (rget_any _ _ L6 x.blk.n x.blk.r x.name w7 ref7 (by omega) HACC.out.right).mono ?_
      rintro e w8 ⟨rfl, b8⟩
      have q8 := q7.below b8
      have ref8 := ref7.below b8
      have hB8 := hB7.trans (b8.mono hB7.size)
      have f2 := keepB b8 d2
      have f3 := keepB b8 d3
      have hz8 := Nat.le_trans hz7 b8.size
      clear b8 q7 ref7 hB7 d2 d3 d4 hz7
      generalize valOf (refBest L6 ⟨⟨x.blk.n, x.blk.r⟩, x.name⟩) = sv
      generalize (refBest L6 ⟨⟨x.blk.n, x.blk.r⟩, x.name⟩).isSome = bv
      have hA : ∀ W, RegIs W (w.heap.size + 2) w.heap.size (w.heap.size + 1) vs6 ats6 → _ := fun W hW => all_list _ _ _ _ _ x.blk.n x.blk.r W hW (by omega)
      have hR : ∀ W, RefIs W (w.heap.size + 3) (w.heap.size + 4) L6 → _ := fun W hW => rall_any _ _ L6 x.blk.n x.blk.r W hW (by omega) HACC.out.right
      have HA := Lib.hid hA
      have HR := Lib.hid hR
      clear hA hR
      go_wp2_with fail
      go_region_held3 (fun W => W.cell? ⟨wr.heap.size, 2, none⟩ = some (.int .i64 x.blk.n) ∧ W.cell? ⟨wr.heap.size, 3, none⟩ = some (.int .i64 x.blk.r)) (first | exact ⟨f2, f3⟩ | exact ⟨keepB b9 f2, keepB b9 f3⟩ | exact ⟨keepB b10 (keepB b9 f2), keepB b10 (keepB b9 f3)⟩ | exact ⟨keepB b11 (keepB b10 (keepB b9 f2)), keepB b11 (keepB b10 (keepB b9 f3))⟩) (first | (go_at_call 14; ((with_reducible refine (HA.out _ q8.drew).mono ?_); rintro e w9 ⟨v9, l9, rfl, s9, a9, n9, b9⟩; simp only [heap_drew, below_drew] at b9)) | (go_at_call 15; ((with_reducible refine (HR.out _ (ref8.below b9)).mono ?_); rintro e w10 ⟨v10, l10, rfl, s10, a10, b10⟩)) | (go_at_call 13; ((with_reducible refine (same_any _ _ _ _ _ ((s9.slice (fun _ => rfl)).below b10) (s10.slice (fun _ => rfl)) n9).mono ?_); rintro e w11 ⟨rfl, b11⟩)))
      have e9 : decide (l9 = l10) = true := by
        rw [decide_eq_true_eq]
        exact a9.unique (a10.allList HACC.out.right HBE.out) (fun n => rfl)
      rw [e9]
      have hB11 : Below w.heap.size w w11 := ((hB8.trans (b9.mono hB8.size)).trans (b10.mono (Nat.le_trans hB8.size b9.size))).trans (b11.mono (Nat.le_trans hB8.size (Nat.le_trans b9.size b10.size)))
      have q11 := ((q8.below b9).below b10).below b11
      have ref11 := ((ref8.below b9).below b10).below b11
      have hz11 := Nat.le_trans hz8 (Nat.le_trans b9.size (Nat.le_trans b10.size b11.size))
      clear e9 s9 s10 a9 a10 n9 b9 b10 b11 hB8 q8 ref8 f2 f3 hz8
      go_wp2_with fail
      go_roundg (N - (k + 1))
      case measure => rw [HG.out]; omega
      case rel =>
        obtain ⟨rv', hb', own'⟩ := ref11
        refine ⟨k + 1, L6, rv', rfl, hlt, by go_num, hl6, HACC.out, ?_, hb', own', hB11, hz11⟩
        rw [HVS.out, HATS.out]; exact q11
    · rcases hNx with hNx | ⟨hNx, hNy⟩
      · go_wp2_with fail
        go_ret
        exact ⟨rfl, hB⟩
      · go_wp2_with fail
        go_ret
        exact ⟨rfl, hB⟩

set_option maxRecDepth 100000 in
theorem setPlays_lifted (os : Os) (started : os.Started) (H : Type) (enc : TypeId × Value → H) :
    ReturnsInHanded {} Try.checked os 3 .any (Rows.setPlaysSpec.pre6 enc Try.prog Try.f3 Rows.setPlaysRow.domain false) (Rows.setPlaysSpec.post enc Try.prog Try.f3 false true false false) := by
  refine returnsInHanded_of_change (C := Try.checked) Try.own started (by kernel_rfl) Try.func3
    (ChangeSpec.witness6 (enc := enc) (C := Try.checked) false ⟨#[], #[.slice none 0 0], []⟩ 8 (by kernel_rfl) (by kernel_rfl) (by kernel_rfl) (by kernel_rfl)) ?_
  intro W base args ds gs before hval0 hW hcnd _
  have hval : ∀ (j : Nat) t v, Try.f3.params[j]? = some t → args[j]? = some v → Value.okWide Try.prog W .any base t v := hval0
  have hW' := hW
  obtain ⟨p, q, hA0, hV, rfl, hfz, hnd⟩ := hW
  have hA : DataW.TrodAll enc Try.prog W 0 (fun _ => true) true Try.f3.params.toList args.toList ds p := hA0
  rw [Try.params3] at hA hval
  obtain ⟨v0, vs0, d0, ds0, p0, q0, hargs, rfl, rfl, h0, r0⟩ := trodAll_cons hA
  obtain ⟨rfl, rfl, rfl⟩ := trodAll_nil r0
  obtain rfl : args = #[v0] := by cases args; simp_all
  obtain ⟨rfl, rfl⟩ := trodVars_none hV
  have k0 := h0
  have lt0 : ∀ x ∈ p0, x.block < W.heap.size := by obtain ⟨m, hm⟩ := k0; exact DataW.trod_lt m _ _ _ hm
  obtain ⟨l, hl⟩ := open_writes (hval 0 22 v0 rfl rfl) h0
  clear hA0 hval0
  refine (setPlays_walk v0 l W hl).mono fun e W' ⟨he, bel⟩ => ?_
  subst he
  exact ⟨_, rfl, _, _, _, [], _, [], hW', trodAll_mk1 (shut_bool Try.underlying4 _), (trodAll_cons_mk (Below.trod Try.laidOut (by kernel_rfl) (of_decide_eq_true (by kernel_rfl)) k0 bel lt0) trodAll_mk0), rfl, bel.frame _, fun h => by cases h⟩

theorem setPlays_holds : Rows.SetPlaysSaid :=
  OpenClaim.holds_of_wide 3 Try.f3 rfl rfl rfl rfl rfl rfl rfl ⟨rfl, rfl, rfl, rfl, rfl⟩ rfl rfl rfl rfl rfl (by kernel_rfl) Try.func3 (by kernel_rfl)
    (of_decide_eq_true (by kernel_rfl)) (by unfold Func.isWrapper; first | (rw [if_pos (by decide +kernel)]; kernel_rfl) | (rw [if_neg (by decide +kernel)]; exact ⟨rfl, rfl⟩))
    (fun os started H enc _ => setPlays_lifted os started H enc)

#print axioms setPlays_holds

end Go.Proofs.Ytkkffnejgbhbmaa
