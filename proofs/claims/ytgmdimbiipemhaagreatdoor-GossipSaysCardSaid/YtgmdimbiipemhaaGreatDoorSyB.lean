/- Asks and gifts: contracts of Ask, Give, Rounds. stemmalaw21.alive: true. Vectors in memory. -/
import Derived.Test.YtgmdimbiipemhaaGreatDoorSyA
import Derived.Test.YtgmdimbiipemhaaGreatDoorSyUC
import Derived.Deep.QuietTactic
import Derived.BigQuiet
import Derived.Test.YtgmdimbiipemhaaGreatDoorSyUD
import Derived.Test.YtgmdimbiipemhaaGreatDoorEqOp08
namespace Go.Proofs.YtgmdimbiipemhaaGreatDoor
open Go.RowKit Go.Deep
set_option linter.unusedSimpArgs false
set_option linter.unusedVariables false
def InV (V : List Int) : Prop := ∀ x ∈ V, 0 ≤ x ∧ x ≤ 1048576
def natV (V : List Int) : List Nat := V.map Int.toNat
def AskPost (w : World) (V : List Int) (e : Ending) (w' : World) : Prop :=
  (InV V ∧ ∃ v, e = .returned (.tuple #[v, .int .i64 0]) ∧ Own u8c 1 5 w.heap.size w' v (askB (natV V)) ∧ Below w.heap.size w w') ∨
  (¬ InV V ∧ e = .returned (.tuple #[.slice none 0 0, .int .i64 211]) ∧ Below w.heap.size w w')
def bodyV (V : List Int) (k : Nat) : List UInt8 := (natV (V.take k)).flatMap putB
theorem bodyV_step {V : List Int} {k n : Nat} (h : V[k]? = some (n : Int)) : bodyV V (k + 1) = bodyV V k ++ putB n := by
  unfold bodyV natV
  rw [List.take_add_one, h, Option.toList_some, List.map_append, List.flatMap_append]
  simp
theorem InV.take_snoc {V : List Int} {k n : Nat} (h : V[k]? = some (n : Int)) (hi : InV (V.take k)) (hn : n ≤ 1048576) : InV (V.take (k + 1)) := by
  rw [List.take_add_one, h, Option.toList_some]
  intro x hx
  rcases List.mem_append.1 hx with h1 | h1
  · exact hi x h1
  · rw [List.mem_singleton.1 h1]; omega
theorem InV.bad {V : List Int} {k : Nat} {x : Int} (h : V[k]? = some x) (hn : x < 0 ∨ 1048576 < x) : ¬ InV V := fun hi => by
  have := hi x (List.mem_of_getElem? h)
  omega
theorem natV_in {V : List Int} (h : InV V) : ∀ x ∈ natV V, x ≤ 1048576 := by
  intro x hx
  obtain ⟨y, hy, rfl⟩ := List.mem_map.1 hx
  have := h y hy
  omega
theorem bodyV_len {V : List Int} {k : Nat} (h : InV (V.take k)) (hk : k ≤ 8) : (bodyV V k).length ≤ 80 := by
  have h1 := nums_len (natV_in h)
  have h2 : (natV (V.take k)).length ≤ 8 := by unfold natV; rw [List.length_map, List.length_take]; omega
  unfold bodyV
  omega
theorem vec_ix0 (d0 d1 d2 d3 d4 d5 d6 d7 : Int) (W : World) : (Instr.index 32 (.agg #[.int .i64 d0, .int .i64 d1, .int .i64 d2, .int .i64 d3, .int .i64 d4, .int .i64 d5, .int .i64 d6, .int .i64 d7]) (.int .i64 0)).run Tryz.prog W = .ok (.int .i64 d0) W := by kernel_rfl
theorem vec_ix1 (d0 d1 d2 d3 d4 d5 d6 d7 : Int) (W : World) : (Instr.index 32 (.agg #[.int .i64 d0, .int .i64 d1, .int .i64 d2, .int .i64 d3, .int .i64 d4, .int .i64 d5, .int .i64 d6, .int .i64 d7]) (.int .i64 1)).run Tryz.prog W = .ok (.int .i64 d1) W := by kernel_rfl
theorem vec_ix2 (d0 d1 d2 d3 d4 d5 d6 d7 : Int) (W : World) : (Instr.index 32 (.agg #[.int .i64 d0, .int .i64 d1, .int .i64 d2, .int .i64 d3, .int .i64 d4, .int .i64 d5, .int .i64 d6, .int .i64 d7]) (.int .i64 2)).run Tryz.prog W = .ok (.int .i64 d2) W := by kernel_rfl
theorem vec_ix3 (d0 d1 d2 d3 d4 d5 d6 d7 : Int) (W : World) : (Instr.index 32 (.agg #[.int .i64 d0, .int .i64 d1, .int .i64 d2, .int .i64 d3, .int .i64 d4, .int .i64 d5, .int .i64 d6, .int .i64 d7]) (.int .i64 3)).run Tryz.prog W = .ok (.int .i64 d3) W := by kernel_rfl
theorem vec_ix4 (d0 d1 d2 d3 d4 d5 d6 d7 : Int) (W : World) : (Instr.index 32 (.agg #[.int .i64 d0, .int .i64 d1, .int .i64 d2, .int .i64 d3, .int .i64 d4, .int .i64 d5, .int .i64 d6, .int .i64 d7]) (.int .i64 4)).run Tryz.prog W = .ok (.int .i64 d4) W := by kernel_rfl
theorem vec_ix5 (d0 d1 d2 d3 d4 d5 d6 d7 : Int) (W : World) : (Instr.index 32 (.agg #[.int .i64 d0, .int .i64 d1, .int .i64 d2, .int .i64 d3, .int .i64 d4, .int .i64 d5, .int .i64 d6, .int .i64 d7]) (.int .i64 5)).run Tryz.prog W = .ok (.int .i64 d5) W := by kernel_rfl
theorem vec_ix6 (d0 d1 d2 d3 d4 d5 d6 d7 : Int) (W : World) : (Instr.index 32 (.agg #[.int .i64 d0, .int .i64 d1, .int .i64 d2, .int .i64 d3, .int .i64 d4, .int .i64 d5, .int .i64 d6, .int .i64 d7]) (.int .i64 6)).run Tryz.prog W = .ok (.int .i64 d6) W := by kernel_rfl
theorem vec_ix7 (d0 d1 d2 d3 d4 d5 d6 d7 : Int) (W : World) : (Instr.index 32 (.agg #[.int .i64 d0, .int .i64 d1, .int .i64 d2, .int .i64 d3, .int .i64 d4, .int .i64 d5, .int .i64 d6, .int .i64 d7]) (.int .i64 7)).run Tryz.prog W = .ok (.int .i64 d7) W := by kernel_rfl
theorem vec_index (d0 d1 d2 d3 d4 d5 d6 d7 : Int) {k : Nat} {x : Int} (hx : ([d0, d1, d2, d3, d4, d5, d6, d7] : List Int)[k]? = some x) (W : World) : (Instr.index 32 (.agg #[.int .i64 d0, .int .i64 d1, .int .i64 d2, .int .i64 d3, .int .i64 d4, .int .i64 d5, .int .i64 d6, .int .i64 d7]) (.int .i64 (k : Int))).run Tryz.prog W = .ok (.int .i64 x) W := by
  have hk := (List.getElem?_eq_some_iff.1 hx).1
  match k, hk with
  | 0, _ => cases hx; exact vec_ix0 d0 d1 d2 d3 d4 d5 d6 d7 W
  | 1, _ => cases hx; exact vec_ix1 d0 d1 d2 d3 d4 d5 d6 d7 W
  | 2, _ => cases hx; exact vec_ix2 d0 d1 d2 d3 d4 d5 d6 d7 W
  | 3, _ => cases hx; exact vec_ix3 d0 d1 d2 d3 d4 d5 d6 d7 W
  | 4, _ => cases hx; exact vec_ix4 d0 d1 d2 d3 d4 d5 d6 d7 W
  | 5, _ => cases hx; exact vec_ix5 d0 d1 d2 d3 d4 d5 d6 d7 W
  | 6, _ => cases hx; exact vec_ix6 d0 d1 d2 d3 d4 d5 d6 d7 W
  | 7, _ => cases hx; exact vec_ix7 d0 d1 d2 d3 d4 d5 d6 d7 W
theorem vcell21 (d0 d1 d2 d3 d4 d5 d6 d7 : Int) {k : Nat} {x : Int} (hx : ([d0, d1, d2, d3, d4, d5, d6, d7] : List Int)[k]? = some x) : ([.int .i64 d0, .int .i64 d1, .int .i64 d2, .int .i64 d3, .int .i64 d4, .int .i64 d5, .int .i64 d6, .int .i64 d7] : List Value)[k]? = some (.int .i64 x) := by
  have hk := (List.getElem?_eq_some_iff.1 hx).1
  match k, hk with
  | 0, _ => cases hx; rfl
  | 1, _ => cases hx; rfl
  | 2, _ => cases hx; rfl
  | 3, _ => cases hx; rfl
  | 4, _ => cases hx; rfl
  | 5, _ => cases hx; rfl
  | 6, _ => cases hx; rfl
  | 7, _ => cases hx; rfl
set_option maxRecDepth 20000 in
set_option maxHeartbeats 4000000 in
theorem ask_any (d0 d1 d2 d3 d4 d5 d6 d7 : Int) (w : World) : Calls Tryz.prog 21 #[.agg #[.int .i64 d0, .int .i64 d1, .int .i64 d2, .int .i64 d3, .int .i64 d4, .int .i64 d5, .int .i64 d6, .int .i64 d7]] w fun e w' => AskPost w [d0, d1, d2, d3, d4, d5, d6, d7] e w' := by
  obtain ⟨W0, hW0⟩ : ∃ W0, w.alloc (.cells #[.int .i64 d0, .int .i64 d1, .int .i64 d2, .int .i64 d3, .int .i64 d4, .int .i64 d5, .int .i64 d6, .int .i64 d7] 32) = W0 := ⟨_, rfl⟩
  have HB0 : Hid (Below w.heap.size w W0 ∧ ∀ (k : Nat) (x : Int), ([d0, d1, d2, d3, d4, d5, d6, d7] : List Int)[k]? = some x → W0.cell? ⟨w.heap.size, k, none⟩ = some (.int .i64 x)) := Lib.hid (by
    rw [← hW0]
    exact ⟨(Below.refl _ _).alloc (Nat.le_refl _) _, fun k x hx => cells_new w [.int .i64 d0, .int .i64 d1, .int .i64 d2, .int .i64 d3, .int .i64 d4, .int .i64 d5, .int .i64 d6, .int .i64 d7] _ k _ (vcell21 d0 d1 d2 d3 d4 d5 d6 d7 hx)⟩)
  have HW := Lib.hid hW0
  clear hW0
  obtain ⟨V, hV⟩ : ∃ V : List Int, [d0, d1, d2, d3, d4, d5, d6, d7] = V := ⟨_, rfl⟩
  have hVl : V.length = 8 := by rw [← hV]; rfl
  have HIX := Lib.hid (fun (k : Nat) (x : Int) (hx : V[k]? = some x) (W : World) => vec_index d0 d1 d2 d3 d4 d5 d6 d7 (hV ▸ hx) W)
  rw [hV] at HB0 ⊢
  clear hV
  go_enter Tryz.func21, Tryz.ntmps21
  go_wp2_with fail
  rw [HW.out]
  go_loopg [4, 8] 8 (fun gg bv iv wr => ∃ (k : Nat) (s : Sl), gg = 8 - k ∧ k ≤ 8 ∧ bv = .slice s.a s.n s.cap ∧ iv = .int .i64 k ∧ Hid (Own u8c 1 5 (W0.heap.size) wr (.slice s.a s.n s.cap) (bodyV V k) ∧ Below W0.heap.size W0 wr ∧ InV (V.take k)))
  case atStart => exact ⟨0, ⟨none, 0, 0⟩, rfl, by omega, rfl, rfl, Lib.hid ⟨Own.nil, Below.refl _ _, fun x hx => by simp at hx⟩⟩
  case round =>
    obtain ⟨k, ⟨sa, sn, sc⟩, hg, hk, rfl, rfl, HK⟩ := hrel
    dsimp only at HK ⊢
    have HG := Lib.hid hg
    clear hg
    by_cases hlt : k < 8
    · obtain ⟨x, hx⟩ : ∃ x, V[k]? = some x := ⟨_, List.getElem?_eq_getElem (by omega)⟩
      have hk1 : (k : Int) < 8 := by omega
      have hix := HIX.out k x hx
      have HX := Lib.hid hx
      clear hx
      by_cases h0 : x < 0
      · have HBAD : Hid (¬ InV V ∧ Below w.heap.size w wr) := Lib.hid ⟨InV.bad HX.out (.inl h0), HB0.out.1.trans (HK.out.2.1.mono HB0.out.1.size)⟩
        go_wp2_with fail
        go_ret2
        exact .inr ⟨HBAD.out.1, rfl, HBAD.out.2⟩
      by_cases h1 : 1048576 < x
      · have HBAD : Hid (¬ InV V ∧ Below w.heap.size w wr) := Lib.hid ⟨InV.bad HX.out (.inr h1), HB0.out.1.trans (HK.out.2.1.mono HB0.out.1.size)⟩
        go_wp2_with fail
        go_ret2
        exact .inr ⟨HBAD.out.1, rfl, HBAD.out.2⟩
      obtain ⟨n, rfl⟩ : ∃ n : Nat, x = (n : Int) := ⟨x.toNat, by omega⟩
      have hn : n ≤ 1048576 := by omega
      go_wp2_with fail
      refine (put_any n _ (by omega)).mono ?_
      rintro e w5 ⟨v5, rfl, own5, b5⟩
      have b05 : Below W0.heap.size W0 w5 := HK.out.2.1.trans (b5.mono HK.out.2.1.size)
      obtain ⟨⟨ua, un, uc⟩, w6, hr6, own6, b6, z6⟩ := bytes_append (HK.out.1.below1 b5) b05 (own5.slice u8c_len) b05.size (by have h1 := bodyV_len HK.out.2.2 hk; have h2 := (putB_len n 10 (by omega)).2 (by omega); omega)
      rw [← bodyV_step HX.out] at own6
      have HN := Lib.hid (And.intro own6 (And.intro b6 (InV.take_snoc HX.out HK.out.2.2 hn)))
      clear own5 own6 b5 b6 b05 z6
      go_wp2_with (at_builtin; refine Lib.wpList_append_run _ rfl _ _ _ _ rfl _ _ rfl rfl _ _ hr6 ?_)
      go_roundg (8 - (k + 1))
      case measure => rw [HG.out]; omega
      case rel => exact ⟨k + 1, ⟨ua, un, uc⟩, rfl, by omega, rfl, by go_num, HN⟩
    · have hk1 : ¬ (k : Int) < 8 := by omega
      obtain rfl : k = 8 := by omega
      have hall : V.take 8 = V := List.take_of_length_le (by omega)
      have HI : Hid (InV V) := Lib.hid (hall ▸ HK.out.2.2)
      have HE : Hid (wrapB 65 (bodyV V 8) = askB (natV V)) := Lib.hid (by unfold askB bodyV; rw [hall])
      have HBW := Lib.hid (HB0.out.1.trans (HK.out.2.1.mono HB0.out.1.size))
      have HL := Lib.hid (bodyV_len HK.out.2.2 (by omega))
      clear hall
      go_wp2_with fail
      refine (wrap_any 65 _ (bodyV V 8) _ (HK.out.1.slice u8c_len)).mono ?_
      rintro e w7 (⟨_, v7, rfl, own7, b7⟩ | ⟨h, _⟩)
      rotate_left
      · exact absurd h (by have := HL.out; omega)
      rw [HE.out] at own7
      have HF := Lib.hid (And.intro (own7.mono HBW.out.size) (HBW.out.trans (b7.mono HBW.out.size)))
      clear own7 b7
      go_wp2_with fail
      go_ret2
      exact .inl ⟨HI.out, _, rfl, HF.out.1, HF.out.2⟩
  
def GiveOk (l : List OpD) : Prop := l ≠ [] ∧ l.length ≤ 200 ∧ ∀ x ∈ l, x.right = true
def GivePost (w : World) (l : List OpD) (e : Ending) (w' : World) : Prop :=
  (GiveOk l ∧ (encB l).length ≤ 65536 ∧ ∃ v, e = .returned (.tuple #[v, .int .i64 0]) ∧ Own u8c 1 5 w.heap.size w' v (giveB l) ∧ Below w.heap.size w w') ∨
  (GiveOk l ∧ 65536 < (encB l).length ∧ e = .returned (.tuple #[.slice none 0 0, .int .i64 1]) ∧ Below w.heap.size w w') ∨
  (¬ GiveOk l ∧ e = .returned (.tuple #[.slice none 0 0, .int .i64 211]) ∧ Below w.heap.size w w')
set_option maxRecDepth 20000 in
set_option maxHeartbeats 4000000 in
theorem give_any (v : Value) (l : List OpD) (w : World) (h : SliceIs OpD.cells 26 w v l) (hwf : ∀ x ∈ l, x.wf) (hn : l.length ≤ 1000000) : Calls Tryz.prog 22 #[v] w fun e w' => GivePost w l e w' := by
  obtain ⟨a, cap, rfl, hcap, hmax, -⟩ := id h
  unfold maxLen at hmax
  have HH := Lib.hid (And.intro h (And.intro hwf hn))
  clear h hwf hn
  go_enter Tryz.func22, Tryz.ntmps22
  go_wp2_with fail
  refine (encode_any _ l _ HH.out.1 HH.out.2.1 HH.out.2.2).mono ?_
  rintro e w2 (⟨hl, hr, v2, rfl, own2, b2⟩ | ⟨hl, rfl, b2⟩ | ⟨hl, hr, rfl, b2⟩)
  · obtain ⟨⟨sa, sn, sc⟩, e2⟩ := own2.sl
    dsimp only at e2
    subst e2
    have H2 := Lib.hid (And.intro (own2.slice u8c_len) b2)
    have HR := Lib.hid (And.intro hl hr)
    clear own2 b2 hr hl
    by_cases h0 : l = []
    · have hl0 : l.length = 0 := by rw [h0]; rfl
      have HBAD : Hid (¬ GiveOk l) := Lib.hid (fun h => h.1 h0)
      clear h0
      go_wp2_with fail
      go_ret2
      exact .inr (.inr ⟨HBAD.out, rfl, H2.out.2⟩)
    have hl0 : ¬ (l.length : Int) = 0 := by have := List.length_pos_iff.2 h0; omega
    have HOK : Hid (GiveOk l) := Lib.hid ⟨h0, HR.out.1, HR.out.2⟩
    clear h0
    go_wp2_with fail
    refine (wrap_any 71 _ (encB l) _ H2.out.1).mono ?_
    rintro e w7 (⟨hs, v7, rfl, own7, b7⟩ | ⟨hs, rfl, b7⟩)
    · have HF := Lib.hid (And.intro (own7.mono H2.out.2.size) (And.intro (H2.out.2.trans (b7.mono H2.out.2.size)) hs))
      clear own7 b7 hs
      go_wp2_with fail
      go_ret2
      exact .inl ⟨HOK.out, HF.out.2.2, _, rfl, HF.out.1, HF.out.2.1⟩
    · have HF := Lib.hid (And.intro (H2.out.2.trans (b7.mono H2.out.2.size)) hs)
      clear b7 hs
      go_wp2_with fail
      go_ret2
      exact .inr (.inl ⟨HOK.out, HF.out.2, rfl, HF.out.1⟩)
  · have HBAD : Hid (¬ GiveOk l ∧ Below w.heap.size w w2) := Lib.hid ⟨fun h => by have := h.2.1; omega, b2⟩
    clear b2 hl
    go_wp2_with fail
    go_ret2
    exact .inr (.inr ⟨HBAD.out.1, rfl, HBAD.out.2⟩)
  · have HBAD : Hid (¬ GiveOk l ∧ Below w.heap.size w w2) := Lib.hid ⟨(fun h => by obtain ⟨x, hx, hxr⟩ := hr; rw [h.2.2 x hx] at hxr; exact absurd hxr (by decide)), b2⟩
    clear b2 hl hr
    go_wp2_with fail
    go_ret2
    exact .inr (.inr ⟨HBAD.out.1, rfl, HBAD.out.2⟩)
  
def aheadV (K O : List Int) (k : Nat) : Nat := ((List.range k).filter fun r => decide (K.getD r 0 < O.getD r 0)).length
theorem aheadV_step (K O : List Int) (k : Nat) : aheadV K O (k + 1) = aheadV K O k + if K.getD k 0 < O.getD k 0 then 1 else 0 := by
  unfold aheadV
  rw [List.range_succ, List.filter_append, List.length_append]
  congr 1
  by_cases h : K.getD k 0 < O.getD k 0
  · rw [if_pos h, List.filter_cons_of_pos (by simpa using h)]; rfl
  · rw [if_neg h, List.filter_cons_of_neg (by simpa using h)]; rfl
theorem aheadV_le (K O : List Int) (k : Nat) : aheadV K O k ≤ k := by
  unfold aheadV
  have := List.length_filter_le (fun r => decide (K.getD r 0 < O.getD r 0)) (List.range k)
  simpa using this
set_option maxRecDepth 20000 in
set_option maxHeartbeats 4000000 in
theorem rounds_any (d0 d1 d2 d3 d4 d5 d6 d7 e0 e1 e2 e3 e4 e5 e6 e7 : Int) (w : World) : Calls Tryz.prog 25 #[.agg #[.int .i64 d0, .int .i64 d1, .int .i64 d2, .int .i64 d3, .int .i64 d4, .int .i64 d5, .int .i64 d6, .int .i64 d7], .agg #[.int .i64 e0, .int .i64 e1, .int .i64 e2, .int .i64 e3, .int .i64 e4, .int .i64 e5, .int .i64 e6, .int .i64 e7]] w fun e w' => e = .returned (.int .i64 (aheadV [d0, d1, d2, d3, d4, d5, d6, d7] [e0, e1, e2, e3, e4, e5, e6, e7] 8 : Int)) ∧ Below w.heap.size w w' := by
  obtain ⟨W0, hW0⟩ : ∃ W0, (w.alloc (.cells #[.int .i64 d0, .int .i64 d1, .int .i64 d2, .int .i64 d3, .int .i64 d4, .int .i64 d5, .int .i64 d6, .int .i64 d7] 32)).alloc (.cells #[.int .i64 e0, .int .i64 e1, .int .i64 e2, .int .i64 e3, .int .i64 e4, .int .i64 e5, .int .i64 e6, .int .i64 e7] 32) = W0 := ⟨_, rfl⟩
  have HB0 : Hid (Below w.heap.size w W0 ∧ (∀ (k : Nat) (x : Int), ([d0, d1, d2, d3, d4, d5, d6, d7] : List Int)[k]? = some x → W0.cell? ⟨w.heap.size, k, none⟩ = some (.int .i64 x)) ∧ (∀ (k : Nat) (x : Int), ([e0, e1, e2, e3, e4, e5, e6, e7] : List Int)[k]? = some x → W0.cell? ⟨w.heap.size + 1, k, none⟩ = some (.int .i64 x))) := Lib.hid (by
    rw [← hW0]
    refine ⟨((Below.refl _ _).alloc (Nat.le_refl _) _).alloc (by simp) _, fun k x hx => cell_alloc (cells_new w [.int .i64 d0, .int .i64 d1, .int .i64 d2, .int .i64 d3, .int .i64 d4, .int .i64 d5, .int .i64 d6, .int .i64 d7] _ k _ (vcell21 d0 d1 d2 d3 d4 d5 d6 d7 hx)) _, fun k x hx => ?_⟩
    have := cells_new (w.alloc (.cells #[.int .i64 d0, .int .i64 d1, .int .i64 d2, .int .i64 d3, .int .i64 d4, .int .i64 d5, .int .i64 d6, .int .i64 d7] 32)) [.int .i64 e0, .int .i64 e1, .int .i64 e2, .int .i64 e3, .int .i64 e4, .int .i64 e5, .int .i64 e6, .int .i64 e7] 32 k _ (vcell21 e0 e1 e2 e3 e4 e5 e6 e7 hx)
    rwa [World.size_alloc] at this)
  have HW := Lib.hid hW0
  clear hW0
  obtain ⟨V, hV⟩ : ∃ V : List Int, [d0, d1, d2, d3, d4, d5, d6, d7] = V := ⟨_, rfl⟩
  obtain ⟨U, hU⟩ : ∃ U : List Int, [e0, e1, e2, e3, e4, e5, e6, e7] = U := ⟨_, rfl⟩
  have hVl : V.length = 8 := by rw [← hV]; rfl
  have hUl : U.length = 8 := by rw [← hU]; rfl
  have HIX := Lib.hid (fun (k : Nat) (x : Int) (hx : U[k]? = some x) (W : World) => vec_index e0 e1 e2 e3 e4 e5 e6 e7 (hU ▸ hx) W)
  rw [hV] at HB0 ⊢
  rw [hU] at HB0 ⊢
  clear hV hU
  go_enter Tryz.func25, Tryz.ntmps25
  go_wp2_with fail
  rw [HW.out]
  go_loopg [5, 9] 8 (fun gg nv iv wr => ∃ k : Nat, gg = 8 - k ∧ k ≤ 8 ∧ nv = .int .i64 (aheadV V U k : Int) ∧ iv = .int .i64 k ∧ Hid (Below W0.heap.size W0 wr))
  case atStart => exact ⟨0, rfl, by omega, rfl, rfl, Lib.hid (Below.refl _ _)⟩
  case round =>
    obtain ⟨k, hg, hk, rfl, rfl, HK⟩ := hrel
    have HG := Lib.hid hg
    clear hg
    have hle := aheadV_le V U k
    have HS := Lib.hid (aheadV_step V U k)
    obtain ⟨q, hq⟩ : ∃ q, aheadV V U k = q := ⟨_, rfl⟩
    by_cases hlt : k < 8
    · obtain ⟨x, hx⟩ : ∃ x, V[k]? = some x := ⟨_, List.getElem?_eq_getElem (by omega)⟩
      obtain ⟨y, hy⟩ : ∃ y, U[k]? = some y := ⟨_, List.getElem?_eq_getElem (by omega)⟩
      have hk1 : (k : Int) < 8 := by omega
      have hix := HIX.out k y hy
      have cx := HK.out.cell (p := ⟨w.heap.size, k, none⟩) (cell_lt (HB0.out.2.1 k x hx))
      rw [HB0.out.2.1 k x hx] at cx
      have cy := HK.out.cell (p := ⟨w.heap.size + 1, k, none⟩) (cell_lt (HB0.out.2.2 k y hy))
      rw [HB0.out.2.2 k y hy] at cy
      have hxg : V.getD k 0 = x := by rw [List.getD_eq_getElem?_getD, hx]; rfl
      have hyg : U.getD k 0 = y := by rw [List.getD_eq_getElem?_getD, hy]; rfl
      rw [hxg, hyg, hq] at HS
      rw [hq] at hle ⊢
      clear hx hy hxg hyg hq
      by_cases h0 : x < y
      · have HS2 : Hid (aheadV V U (k + 1) = q + 1) := Lib.hid (by rw [HS.out, if_pos h0])
        go_wp2_with fail
        go_roundg (8 - (k + 1))
        case measure => rw [HG.out]; omega
        case rel => exact ⟨k + 1, rfl, by omega, by rw [HS2.out]; go_num, by go_num, HK⟩
      · have HS2 : Hid (aheadV V U (k + 1) = q) := Lib.hid (by rw [HS.out, if_neg h0]; rfl)
        go_wp2_with fail
        go_roundg (8 - (k + 1))
        case measure => rw [HG.out]; omega
        case rel => exact ⟨k + 1, rfl, by omega, by rw [HS2.out], by go_num, HK⟩
    · have hk1 : ¬ (k : Int) < 8 := by omega
      obtain rfl : k = 8 := by omega
      clear hq HS hle
      have HBW := Lib.hid (HB0.out.1.trans (HK.out.mono HB0.out.1.size))
      go_wp2_with fail
      go_ret
      exact ⟨rfl, HBW.out⟩
  
end Go.Proofs.YtgmdimbiipemhaaGreatDoor
namespace Go.Proofs.YtgmdimbiipemhaaGreatDoor
open Go.RowKit Go.Deep
set_option linter.unusedSimpArgs false
set_option linter.unusedVariables false
theorem ask3_len : (askB [3, 0, 0, 0, 0, 0, 0, 0]).length = 19 := by
  unfold askB
  rw [wrapB_len]
  simp [putB_lt]
theorem hear3 : hearP (askB [3, 0, 0, 0, 0, 0, 0, 0]) = some ([3, 0, 0, 0, 0, 0, 0, 0], []) := hear_ask rfl (by decide)
set_option maxRecDepth 20000 in
set_option maxHeartbeats 2000000 in
theorem alive21_any (w : World) (hg : ErrTy w) : Calls Tryz.prog 18 #[] w fun e w' => e = .returned (.bool true) ∧ Below w.heap.size w w' := by
  have HG := Lib.hid hg
  clear hg
  go_enter Tryz.func18, Tryz.ntmps18
  go_wp2_with fail
  refine (ask_any 3 0 0 0 0 0 0 0 _).mono ?_
  rintro e w2 (⟨hin, v2, rfl, own2, b2⟩ | ⟨hin, _⟩)
  rotate_left
  · exact absurd (by intro x hx; simp at hx; omega) hin
  have eb : askB (natV [3, 0, 0, 0, 0, 0, 0, 0]) = askB [3, 0, 0, 0, 0, 0, 0, 0] := rfl
  rw [eb] at own2
  have hl := ask3_len
  have hh := hear3
  obtain ⟨B, hB⟩ : ∃ B, askB [3, 0, 0, 0, 0, 0, 0, 0] = B := ⟨_, rfl⟩
  rw [hB] at own2 hl hh
  obtain ⟨⟨sa, sn, sc⟩, e2⟩ := own2.sl
  dsimp only at e2
  subst e2
  obtain rfl : sn = B.length := (own2.nlen u8c_len).1
  have H2 := Lib.hid (And.intro (own2.slice u8c_len) (And.intro b2 (HG.out.below b2)))
  have HHH := Lib.hid hh
  have HL := Lib.hid hl
  rw [hl]
  rw [hl] at H2
  clear own2 b2 hin eb hB hh hl
  go_wp2_with fail
  refine (hear_any _ B _ H2.out.1 H2.out.2.2).mono ?_
  rintro e w3 (⟨vs, l, x, hh, hvs, rfl, own3, b3⟩ | ⟨hno, _⟩)
  rotate_left
  · rw [HHH.out] at hno; cases hno
  rw [HHH.out] at hh
  cases hh
  have ev : vecV [3, 0, 0, 0, 0, 0, 0, 0] = .agg #[.int .i64 3, .int .i64 0, .int .i64 0, .int .i64 0, .int .i64 0, .int .i64 0, .int .i64 0, .int .i64 0] := rfl
  rw [ev]
  obtain ⟨⟨xa, xn, xc⟩, e3⟩ := own3.sl
  dsimp only at e3
  subst e3
  obtain rfl : xn = ([] : List OpD).length := (own3.nlen OpD.len).1
  have HB : Hid (Below w.heap.size w (w3.alloc (.cells #[.int .i64 3, .int .i64 0, .int .i64 0, .int .i64 0, .int .i64 0, .int .i64 0, .int .i64 0, .int .i64 0] 32))) := Lib.hid ((H2.out.2.1.trans (b3.mono H2.out.2.1.size)).alloc (Nat.le_trans H2.out.2.1.size b3.size) _)
  clear own3 b3 hvs ev
  go_wp2_with fail
  go_ret
  exact ⟨rfl, HB.out⟩
end Go.Proofs.YtgmdimbiipemhaaGreatDoor
namespace Go.Proofs.YtgmdimbiipemhaaGreatDoor
open Go.RowKit Go.Deep
set_option linter.unusedSimpArgs false
set_option linter.unusedVariables false
def VBox (W : World) (B : Nat) (V : List Int) : Prop := W.heap[B]? = some (.cells (V.map (Value.int .i64)).toArray 32 (0, 0))
theorem VBox.below {W W' : World} {B : Nat} {V : List Int} (h : VBox W B V) (hb : Below W.heap.size W W') : VBox W' B V := (hb.block B (Array.getElem?_eq_some_iff.1 h).1).trans h
theorem VBox.cells {W : World} {B : Nat} {d0 d1 d2 d3 d4 d5 d6 d7 : Int} (h : VBox W B [d0, d1, d2, d3, d4, d5, d6, d7]) : W.cell? ⟨B, 0, none⟩ = some (.int .i64 d0) ∧ W.cell? ⟨B, 1, none⟩ = some (.int .i64 d1) ∧ W.cell? ⟨B, 2, none⟩ = some (.int .i64 d2) ∧ W.cell? ⟨B, 3, none⟩ = some (.int .i64 d3) ∧ W.cell? ⟨B, 4, none⟩ = some (.int .i64 d4) ∧ W.cell? ⟨B, 5, none⟩ = some (.int .i64 d5) ∧ W.cell? ⟨B, 6, none⟩ = some (.int .i64 d6) ∧ W.cell? ⟨B, 7, none⟩ = some (.int .i64 d7) := by
  have hc : ∀ (k : Nat) (x : Int), ([d0, d1, d2, d3, d4, d5, d6, d7] : List Int)[k]? = some x → W.cell? ⟨B, k, none⟩ = some (.int .i64 x) := by
    intro k x hx
    have h1 : W.heap[B]? = some (.cells ([.int .i64 d0, .int .i64 d1, .int .i64 d2, .int .i64 d3, .int .i64 d4, .int .i64 d5, .int .i64 d6, .int .i64 d7]).toArray 32 (0, 0)) := h
    unfold World.cell?
    rw [h1]
    have := vcell21 d0 d1 d2 d3 d4 d5 d6 d7 hx
    simpa using this
  exact ⟨hc 0 _ rfl, hc 1 _ rfl, hc 2 _ rfl, hc 3 _ rfl, hc 4 _ rfl, hc 5 _ rfl, hc 6 _ rfl, hc 7 _ rfl⟩
end Go.Proofs.YtgmdimbiipemhaaGreatDoor
