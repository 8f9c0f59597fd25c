/- Asks and gifts: contracts of Ask, Give, Rounds. stemmalaw21.alive: true. Vectors in memory. The document's frames: contracts of four and Wrap. The document's frames: the contract of Take. stemmaref21.Hear: a contract. stemmalaw21.GossipHears: walked. -/
import Derived.Test.YtgmdimbiipemhaaGreatDoorHeA
import Derived.Test.YtgmdimbiipemhaaGreatDoorHeUC
import Derived.Deep.QuietTactic
import Derived.BigQuiet
import Derived.Test.YtgmdimbiipemhaaGreatDoorHeUD
import Derived.Test.YtgmdimbiipemhaaGreatDoorEqOp08
import Derived.Test.YtgmdimbiipemhaaGreatDoorRVar08
import Derived.Test.YtgmdimbiipemhaaGreatDoorHeC
namespace Go.Proofs.YtgmdimbiipemhaaGreatDoor
open Go.RowKit Go.Deep
set_option linter.unusedSimpArgs false
set_option linter.unusedVariables false
def InV (V : List Int) : Prop := ∀ x ∈ V, 0 ≤ x ∧ x ≤ 1048576
def natV (V : List Int) : List Nat := V.map Int.toNat
def AskPost (w : World) (V : List Int) (e : Ending) (w' : World) : Prop :=
  (InV V ∧ ∃ v, e = .returned (.tuple #[v, .int .i64 0]) ∧ Own u8c 1 5 w.heap.size w' v (askB (natV V)) ∧ Below w.heap.size w w') ∨
  (¬ InV V ∧ e = .returned (.tuple #[.slice none 0 0, .int .i64 211]) ∧ Below w.heap.size w w')
def bodyV (V : List Int) (k : Nat) : List UInt8 := (natV (V.take k)).flatMap putB
theorem bodyV_step {V : List Int} {k n : Nat} (h : V[k]? = some (n : Int)) : bodyV V (k + 1) = bodyV V k ++ putB n := by
  unfold bodyV natV
  rw [List.take_add_one, h, Option.toList_some, List.map_append, List.flatMap_append]
  simp
theorem InV.take_snoc {V : List Int} {k n : Nat} (h : V[k]? = some (n : Int)) (hi : InV (V.take k)) (hn : n ≤ 1048576) : InV (V.take (k + 1)) := by
  rw [List.take_add_one, h, Option.toList_some]
  intro x hx
  rcases List.mem_append.1 hx with h1 | h1
  · exact hi x h1
  · rw [List.mem_singleton.1 h1]; omega
theorem InV.bad {V : List Int} {k : Nat} {x : Int} (h : V[k]? = some x) (hn : x < 0 ∨ 1048576 < x) : ¬ InV V := fun hi => by
  have := hi x (List.mem_of_getElem? h)
  omega
theorem natV_in {V : List Int} (h : InV V) : ∀ x ∈ natV V, x ≤ 1048576 := by
  intro x hx
  obtain ⟨y, hy, rfl⟩ := List.mem_map.1 hx
  have := h y hy
  omega
theorem bodyV_len {V : List Int} {k : Nat} (h : InV (V.take k)) (hk : k ≤ 8) : (bodyV V k).length ≤ 80 := by
  have h1 := nums_len (natV_in h)
  have h2 : (natV (V.take k)).length ≤ 8 := by unfold natV; rw [List.length_map, List.length_take]; omega
  unfold bodyV
  omega
theorem vec_ix0 (d0 d1 d2 d3 d4 d5 d6 d7 : Int) (W : World) : (Instr.index 32 (.agg #[.int .i64 d0, .int .i64 d1, .int .i64 d2, .int .i64 d3, .int .i64 d4, .int .i64 d5, .int .i64 d6, .int .i64 d7]) (.int .i64 0)).run Tryz.prog W = .ok (.int .i64 d0) W := by kernel_rfl
theorem vec_ix1 (d0 d1 d2 d3 d4 d5 d6 d7 : Int) (W : World) : (Instr.index 32 (.agg #[.int .i64 d0, .int .i64 d1, .int .i64 d2, .int .i64 d3, .int .i64 d4, .int .i64 d5, .int .i64 d6, .int .i64 d7]) (.int .i64 1)).run Tryz.prog W = .ok (.int .i64 d1) W := by kernel_rfl
theorem vec_ix2 (d0 d1 d2 d3 d4 d5 d6 d7 : Int) (W : World) : (Instr.index 32 (.agg #[.int .i64 d0, .int .i64 d1, .int .i64 d2, .int .i64 d3, .int .i64 d4, .int .i64 d5, .int .i64 d6, .int .i64 d7]) (.int .i64 2)).run Tryz.prog W = .ok (.int .i64 d2) W := by kernel_rfl
theorem vec_ix3 (d0 d1 d2 d3 d4 d5 d6 d7 : Int) (W : World) : (Instr.index 32 (.agg #[.int .i64 d0, .int .i64 d1, .int .i64 d2, .int .i64 d3, .int .i64 d4, .int .i64 d5, .int .i64 d6, .int .i64 d7]) (.int .i64 3)).run Tryz.prog W = .ok (.int .i64 d3) W := by kernel_rfl
theorem vec_ix4 (d0 d1 d2 d3 d4 d5 d6 d7 : Int) (W : World) : (Instr.index 32 (.agg #[.int .i64 d0, .int .i64 d1, .int .i64 d2, .int .i64 d3, .int .i64 d4, .int .i64 d5, .int .i64 d6, .int .i64 d7]) (.int .i64 4)).run Tryz.prog W = .ok (.int .i64 d4) W := by kernel_rfl
theorem vec_ix5 (d0 d1 d2 d3 d4 d5 d6 d7 : Int) (W : World) : (Instr.index 32 (.agg #[.int .i64 d0, .int .i64 d1, .int .i64 d2, .int .i64 d3, .int .i64 d4, .int .i64 d5, .int .i64 d6, .int .i64 d7]) (.int .i64 5)).run Tryz.prog W = .ok (.int .i64 d5) W := by kernel_rfl
theorem vec_ix6 (d0 d1 d2 d3 d4 d5 d6 d7 : Int) (W : World) : (Instr.index 32 (.agg #[.int .i64 d0, .int .i64 d1, .int .i64 d2, .int .i64 d3, .int .i64 d4, .int .i64 d5, .int .i64 d6, .int .i64 d7]) (.int .i64 6)).run Tryz.prog W = .ok (.int .i64 d6) W := by kernel_rfl
theorem vec_ix7 (d0 d1 d2 d3 d4 d5 d6 d7 : Int) (W : World) : (Instr.index 32 (.agg #[.int .i64 d0, .int .i64 d1, .int .i64 d2, .int .i64 d3, .int .i64 d4, .int .i64 d5, .int .i64 d6, .int .i64 d7]) (.int .i64 7)).run Tryz.prog W = .ok (.int .i64 d7) W := by kernel_rfl
theorem vec_index (d0 d1 d2 d3 d4 d5 d6 d7 : Int) {k : Nat} {x : Int} (hx : ([d0, d1, d2, d3, d4, d5, d6, d7] : List Int)[k]? = some x) (W : World) : (Instr.index 32 (.agg #[.int .i64 d0, .int .i64 d1, .int .i64 d2, .int .i64 d3, .int .i64 d4, .int .i64 d5, .int .i64 d6, .int .i64 d7]) (.int .i64 (k : Int))).run Tryz.prog W = .ok (.int .i64 x) W := by
  have hk := (List.getElem?_eq_some_iff.1 hx).1
  match k, hk with
  | 0, _ => cases hx; exact vec_ix0 d0 d1 d2 d3 d4 d5 d6 d7 W
  | 1, _ => cases hx; exact vec_ix1 d0 d1 d2 d3 d4 d5 d6 d7 W
  | 2, _ => cases hx; exact vec_ix2 d0 d1 d2 d3 d4 d5 d6 d7 W
  | 3, _ => cases hx; exact vec_ix3 d0 d1 d2 d3 d4 d5 d6 d7 W
  | 4, _ => cases hx; exact vec_ix4 d0 d1 d2 d3 d4 d5 d6 d7 W
  | 5, _ => cases hx; exact vec_ix5 d0 d1 d2 d3 d4 d5 d6 d7 W
  | 6, _ => cases hx; exact vec_ix6 d0 d1 d2 d3 d4 d5 d6 d7 W
  | 7, _ => cases hx; exact vec_ix7 d0 d1 d2 d3 d4 d5 d6 d7 W
theorem vcell21 (d0 d1 d2 d3 d4 d5 d6 d7 : Int) {k : Nat} {x : Int} (hx : ([d0, d1, d2, d3, d4, d5, d6, d7] : List Int)[k]? = some x) : ([.int .i64 d0, .int .i64 d1, .int .i64 d2, .int .i64 d3, .int .i64 d4, .int .i64 d5, .int .i64 d6, .int .i64 d7] : List Value)[k]? = some (.int .i64 x) := by
  have hk := (List.getElem?_eq_some_iff.1 hx).1
  match k, hk with
  | 0, _ => cases hx; rfl
  | 1, _ => cases hx; rfl
  | 2, _ => cases hx; rfl
  | 3, _ => cases hx; rfl
  | 4, _ => cases hx; rfl
  | 5, _ => cases hx; rfl
  | 6, _ => cases hx; rfl
  | 7, _ => cases hx; rfl
set_option maxRecDepth 20000 in
set_option maxHeartbeats 4000000 in
theorem ask_any (d0 d1 d2 d3 d4 d5 d6 d7 : Int) (w : World) : Calls Tryz.prog 21 #[.agg #[.int .i64 d0, .int .i64 d1, .int .i64 d2, .int .i64 d3, .int .i64 d4, .int .i64 d5, .int .i64 d6, .int .i64 d7]] w fun e w' => AskPost w [d0, d1, d2, d3, d4, d5, d6, d7] e w' := by
  obtain ⟨W0, hW0⟩ : ∃ W0, w.alloc (.cells #[.int .i64 d0, .int .i64 d1, .int .i64 d2, .int .i64 d3, .int .i64 d4, .int .i64 d5, .int .i64 d6, .int .i64 d7] 32) = W0 := ⟨_, rfl⟩
  have HB0 : Hid (Below w.heap.size w W0 ∧ ∀ (k : Nat) (x : Int), ([d0, d1, d2, d3, d4, d5, d6, d7] : List Int)[k]? = some x → W0.cell? ⟨w.heap.size, k, none⟩ = some (.int .i64 x)) := Lib.hid (by
    rw [← hW0]
    exact ⟨(Below.refl _ _).alloc (Nat.le_refl _) _, fun k x hx => cells_new w [.int .i64 d0, .int .i64 d1, .int .i64 d2, .int .i64 d3, .int .i64 d4, .int .i64 d5, .int .i64 d6, .int .i64 d7] _ k _ (vcell21 d0 d1 d2 d3 d4 d5 d6 d7 hx)⟩)
  have HW := Lib.hid hW0
  clear hW0
  obtain ⟨V, hV⟩ : ∃ V : List Int, [d0, d1, d2, d3, d4, d5, d6, d7] = V := ⟨_, rfl⟩
  have hVl : V.length = 8 := by rw [← hV]; rfl
  have HIX := Lib.hid (fun (k : Nat) (x : Int) (hx : V[k]? = some x) (W : World) => vec_index d0 d1 d2 d3 d4 d5 d6 d7 (hV ▸ hx) W)
  rw [hV] at HB0 ⊢
  clear hV
  go_enter Tryz.func21, Tryz.ntmps21
  go_wp2_with fail
  rw [HW.out]
  go_loopg [4, 8] 8 (fun gg bv iv wr => ∃ (k : Nat) (s : Sl), gg = 8 - k ∧ k ≤ 8 ∧ bv = .slice s.a s.n s.cap ∧ iv = .int .i64 k ∧ Hid (Own u8c 1 5 (W0.heap.size) wr (.slice s.a s.n s.cap) (bodyV V k) ∧ Below W0.heap.size W0 wr ∧ InV (V.take k)))
  case atStart => exact ⟨0, ⟨none, 0, 0⟩, rfl, by omega, rfl, rfl, Lib.hid ⟨Own.nil, Below.refl _ _, fun x hx => by simp at hx⟩⟩
  case round =>
    obtain ⟨k, ⟨sa, sn, sc⟩, hg, hk, rfl, rfl, HK⟩ := hrel
    dsimp only at HK ⊢
    have HG := Lib.hid hg
    clear hg
    by_cases hlt : k < 8
    · obtain ⟨x, hx⟩ : ∃ x, V[k]? = some x := ⟨_, List.getElem?_eq_getElem (by omega)⟩
      have hk1 : (k : Int) < 8 := by omega
      have hix := HIX.out k x hx
      have HX := Lib.hid hx
      clear hx
      by_cases h0 : x < 0
      · have HBAD : Hid (¬ InV V ∧ Below w.heap.size w wr) := Lib.hid ⟨InV.bad HX.out (.inl h0), HB0.out.1.trans (HK.out.2.1.mono HB0.out.1.size)⟩
        go_wp2_with fail
        go_ret2
        exact .inr ⟨HBAD.out.1, rfl, HBAD.out.2⟩
      by_cases h1 : 1048576 < x
      · have HBAD : Hid (¬ InV V ∧ Below w.heap.size w wr) := Lib.hid ⟨InV.bad HX.out (.inr h1), HB0.out.1.trans (HK.out.2.1.mono HB0.out.1.size)⟩
        go_wp2_with fail
        go_ret2
        exact .inr ⟨HBAD.out.1, rfl, HBAD.out.2⟩
      obtain ⟨n, rfl⟩ : ∃ n : Nat, x = (n : Int) := ⟨x.toNat, by omega⟩
      have hn : n ≤ 1048576 := by omega
      go_wp2_with fail
      refine (put_any n _ (by omega)).mono ?_
      rintro e w5 ⟨v5, rfl, own5, b5⟩
      have b05 : Below W0.heap.size W0 w5 := HK.out.2.1.trans (b5.mono HK.out.2.1.size)
      obtain ⟨⟨ua, un, uc⟩, w6, hr6, own6, b6, z6⟩ := bytes_append (HK.out.1.below1 b5) b05 (own5.slice u8c_len) b05.size (by have h1 := bodyV_len HK.out.2.2 hk; have h2 := (putB_len n 10 (by omega)).2 (by omega); omega)
      rw [← bodyV_step HX.out] at own6
      have HN := Lib.hid (And.intro own6 (And.intro b6 (InV.take_snoc HX.out HK.out.2.2 hn)))
      clear own5 own6 b5 b6 b05 z6
      go_wp2_with (at_builtin; refine Lib.wpList_append_run _ rfl _ _ _ _ rfl _ _ rfl rfl _ _ hr6 ?_)
      go_roundg (8 - (k + 1))
      case measure => rw [HG.out]; omega
      case rel => exact ⟨k + 1, ⟨ua, un, uc⟩, rfl, by omega, rfl, by go_num, HN⟩
    · have hk1 : ¬ (k : Int) < 8 := by omega
      obtain rfl : k = 8 := by omega
      have hall : V.take 8 = V := List.take_of_length_le (by omega)
      have HI : Hid (InV V) := Lib.hid (hall ▸ HK.out.2.2)
      have HE : Hid (wrapB 65 (bodyV V 8) = askB (natV V)) := Lib.hid (by unfold askB bodyV; rw [hall])
      have HBW := Lib.hid (HB0.out.1.trans (HK.out.2.1.mono HB0.out.1.size))
      have HL := Lib.hid (bodyV_len HK.out.2.2 (by omega))
      clear hall
      go_wp2_with fail
      refine (wrap_any 65 _ (bodyV V 8) _ (HK.out.1.slice u8c_len)).mono ?_
      rintro e w7 (⟨_, v7, rfl, own7, b7⟩ | ⟨h, _⟩)
      rotate_left
      · exact absurd h (by have := HL.out; omega)
      rw [HE.out] at own7
      have HF := Lib.hid (And.intro (own7.mono HBW.out.size) (HBW.out.trans (b7.mono HBW.out.size)))
      clear own7 b7
      go_wp2_with fail
      go_ret2
      exact .inl ⟨HI.out, _, rfl, HF.out.1, HF.out.2⟩
  
end Go.Proofs.YtgmdimbiipemhaaGreatDoor
namespace Go.Proofs.YtgmdimbiipemhaaGreatDoor
open Go.RowKit Go.Deep
set_option linter.unusedSimpArgs false
set_option linter.unusedVariables false
set_option maxHeartbeats 2000000 in
theorem eq_vecT (a0 a1 a2 a3 a4 a5 a6 a7 b0 b1 b2 b3 b4 b5 b6 b7 : Int) (w : World) : (Op.equalIn 10000 32 (.agg #[.int .i64 a0, .int .i64 a1, .int .i64 a2, .int .i64 a3, .int .i64 a4, .int .i64 a5, .int .i64 a6, .int .i64 a7]) (.agg #[.int .i64 b0, .int .i64 b1, .int .i64 b2, .int .i64 b3, .int .i64 b4, .int .i64 b5, .int .i64 b6, .int .i64 b7])).run Tryz.prog w = .ok (decide (([a0, a1, a2, a3, a4, a5, a6, a7] : List Int) = [b0, b1, b2, b3, b4, b5, b6, b7])) w := by
  obtain ⟨i, hi⟩ := info_int8
  rw [show (10000 : Nat) = 9999 + 1 from rfl, run_equalIn_array w 9999 _ _ Tryz.underlying32 hi, cells_int8, show List.range 8 = [0, 1, 2, 3, 4, 5, 6, 7] from rfl]
  simp only [Op.eqItems]
  go_simp
  by_cases h0 : a0 = b0
  case neg => simp [h0]
  subst h0
  by_cases h1 : a1 = b1
  case neg => simp [h1]
  subst h1
  by_cases h2 : a2 = b2
  case neg => simp [h2]
  subst h2
  by_cases h3 : a3 = b3
  case neg => simp [h3]
  subst h3
  by_cases h4 : a4 = b4
  case neg => simp [h4]
  subst h4
  by_cases h5 : a5 = b5
  case neg => simp [h5]
  subst h5
  by_cases h6 : a6 = b6
  case neg => simp [h6]
  subst h6
  by_cases h7 : a7 = b7
  case neg => simp [h7]
  subst h7
  simp
theorem list8 {vs : List Nat} (h : vs.length = 8) : ∃ n0 n1 n2 n3 n4 n5 n6 n7 : Nat, vs = [n0, n1, n2, n3, n4, n5, n6, n7] := by
  match vs, h with
  | [n0, n1, n2, n3, n4, n5, n6, n7], _ => exact ⟨n0, n1, n2, n3, n4, n5, n6, n7, rfl⟩
theorem vecV_eq (n0 n1 n2 n3 n4 n5 n6 n7 : Nat) : vecV [n0, n1, n2, n3, n4, n5, n6, n7] = .agg #[.int .i64 (n0 : Int), .int .i64 (n1 : Int), .int .i64 (n2 : Int), .int .i64 (n3 : Int), .int .i64 (n4 : Int), .int .i64 (n5 : Int), .int .i64 (n6 : Int), .int .i64 (n7 : Int)] := rfl
set_option maxRecDepth 100000 in
theorem vec_eqN (a b : List Int) (ha : a.length = 8) (hb : b.length = 8) (W : World) : (Op.equal 32 (.agg (a.map (Value.int .i64)).toArray) (.agg (b.map (Value.int .i64)).toArray)).run Tryz.prog W = .ok (decide (a = b)) W := by
  match a, ha, b, hb with
  | [a0, a1, a2, a3, a4, a5, a6, a7], _, [b0, b1, b2, b3, b4, b5, b6, b7], _ =>
    have h := eq_vecT a0 a1 a2 a3 a4 a5 a6 a7 b0 b1 b2 b3 b4 b5 b6 b7 W
    simp only [List.map_cons, List.map_nil]
    unfold Op.equal Op.maxDepth
    exact h
theorem run_eql_vec (a b : List Int) (ha : a.length = 8) (hb : b.length = 8) (W : World) : (binOp .eql 32 (.agg (a.map (Value.int .i64)).toArray) (.agg (b.map (Value.int .i64)).toArray)).run Tryz.prog W = .ok (.bool (decide (a = b))) W := by
  simp [binOp, vec_eqN a b ha hb W]
theorem ask3_len : (askB [3, 0, 0, 0, 0, 0, 0, 0]).length = 19 := by
  unfold askB
  rw [wrapB_len]
  simp [putB_lt]
theorem hear3 : hearP (askB [3, 0, 0, 0, 0, 0, 0, 0]) = some ([3, 0, 0, 0, 0, 0, 0, 0], []) := hear_ask rfl (by decide)
set_option maxRecDepth 20000 in
set_option maxHeartbeats 2000000 in
theorem alive21_any (w : World) (hg : ErrTy w) : Calls Tryz.prog 18 #[] w fun e w' => e = .returned (.bool true) ∧ Below w.heap.size w w' := by
  have HG := Lib.hid hg
  clear hg
  go_enter Tryz.func18, Tryz.ntmps18
  go_wp2_with fail
  refine (ask_any 3 0 0 0 0 0 0 0 _).mono ?_
  rintro e w2 (⟨hin, v2, rfl, own2, b2⟩ | ⟨hin, _⟩)
  rotate_left
  · exact absurd (by intro x hx; simp at hx; omega) hin
  have eb : askB (natV [3, 0, 0, 0, 0, 0, 0, 0]) = askB [3, 0, 0, 0, 0, 0, 0, 0] := rfl
  rw [eb] at own2
  have hl := ask3_len
  have hh := hear3
  obtain ⟨B, hB⟩ : ∃ B, askB [3, 0, 0, 0, 0, 0, 0, 0] = B := ⟨_, rfl⟩
  rw [hB] at own2 hl hh
  obtain ⟨⟨sa, sn, sc⟩, e2⟩ := own2.sl
  dsimp only at e2
  subst e2
  obtain rfl : sn = B.length := (own2.nlen u8c_len).1
  have H2 := Lib.hid (And.intro (own2.slice u8c_len) (And.intro b2 (HG.out.below b2)))
  have HHH := Lib.hid hh
  have HL := Lib.hid hl
  rw [hl]
  rw [hl] at H2
  clear own2 b2 hin eb hB hh hl
  go_wp2_with fail
  refine (hear_any _ B _ H2.out.1 H2.out.2.2).mono ?_
  rintro e w3 (⟨vs, l, x, hh, hvs, rfl, own3, b3⟩ | ⟨hno, _⟩)
  rotate_left
  · rw [HHH.out] at hno; cases hno
  rw [HHH.out] at hh
  cases hh
  have ev : vecV [3, 0, 0, 0, 0, 0, 0, 0] = .agg #[.int .i64 3, .int .i64 0, .int .i64 0, .int .i64 0, .int .i64 0, .int .i64 0, .int .i64 0, .int .i64 0] := rfl
  rw [ev]
  obtain ⟨⟨xa, xn, xc⟩, e3⟩ := own3.sl
  dsimp only at e3
  subst e3
  obtain rfl : xn = ([] : List OpD).length := (own3.nlen OpD.len).1
  have HB : Hid (Below w.heap.size w (w3.alloc (.cells #[.int .i64 3, .int .i64 0, .int .i64 0, .int .i64 0, .int .i64 0, .int .i64 0, .int .i64 0, .int .i64 0] 32))) := Lib.hid ((H2.out.2.1.trans (b3.mono H2.out.2.1.size)).alloc (Nat.le_trans H2.out.2.1.size b3.size) _)
  clear own3 b3 hvs ev
  go_wp2_with fail
  go_ret
  exact ⟨rfl, HB.out⟩
end Go.Proofs.YtgmdimbiipemhaaGreatDoor
namespace Go.Proofs.YtgmdimbiipemhaaGreatDoor
open Go.RowKit Go.Deep
set_option linter.unusedSimpArgs false
set_option linter.unusedVariables false
def VBox (W : World) (B : Nat) (V : List Int) : Prop := W.heap[B]? = some (.cells (V.map (Value.int .i64)).toArray 32 (0, 0))
theorem VBox.below {W W' : World} {B : Nat} {V : List Int} (h : VBox W B V) (hb : Below W.heap.size W W') : VBox W' B V := (hb.block B (Array.getElem?_eq_some_iff.1 h).1).trans h
theorem VBox.cells {W : World} {B : Nat} {d0 d1 d2 d3 d4 d5 d6 d7 : Int} (h : VBox W B [d0, d1, d2, d3, d4, d5, d6, d7]) : W.cell? ⟨B, 0, none⟩ = some (.int .i64 d0) ∧ W.cell? ⟨B, 1, none⟩ = some (.int .i64 d1) ∧ W.cell? ⟨B, 2, none⟩ = some (.int .i64 d2) ∧ W.cell? ⟨B, 3, none⟩ = some (.int .i64 d3) ∧ W.cell? ⟨B, 4, none⟩ = some (.int .i64 d4) ∧ W.cell? ⟨B, 5, none⟩ = some (.int .i64 d5) ∧ W.cell? ⟨B, 6, none⟩ = some (.int .i64 d6) ∧ W.cell? ⟨B, 7, none⟩ = some (.int .i64 d7) := by
  have hc : ∀ (k : Nat) (x : Int), ([d0, d1, d2, d3, d4, d5, d6, d7] : List Int)[k]? = some x → W.cell? ⟨B, k, none⟩ = some (.int .i64 x) := by
    intro k x hx
    have h1 : W.heap[B]? = some (.cells ([.int .i64 d0, .int .i64 d1, .int .i64 d2, .int .i64 d3, .int .i64 d4, .int .i64 d5, .int .i64 d6, .int .i64 d7]).toArray 32 (0, 0)) := h
    unfold World.cell?
    rw [h1]
    have := vcell21 d0 d1 d2 d3 d4 d5 d6 d7 hx
    simpa using this
  exact ⟨hc 0 _ rfl, hc 1 _ rfl, hc 2 _ rfl, hc 3 _ rfl, hc 4 _ rfl, hc 5 _ rfl, hc 6 _ rfl, hc 7 _ rfl⟩
end Go.Proofs.YtgmdimbiipemhaaGreatDoor
namespace Go.Proofs.YtgmdimbiipemhaaGreatDoor
open Go.RowKit Go.Deep
set_option linter.unusedSimpArgs false
set_option linter.unusedVariables false
set_option maxRecDepth 20000 in
set_option maxHeartbeats 2000000 in
theorem four_any (n : Nat) (w : World) (h : n < 4294967296) : Calls Tryz.prog 116 #[.int .u32 (n : Int)] w fun e w' => BytesPost w (fourB n) e w' := by
  have HF := Lib.hid (fourB_eq n)
  obtain ⟨z0, h0⟩ : ∃ z, UInt8.ofNat (n % 256) = z := ⟨_, rfl⟩
  obtain ⟨z1, h1⟩ : ∃ z, UInt8.ofNat (n / 256 % 256) = z := ⟨_, rfl⟩
  obtain ⟨z2, h2⟩ : ∃ z, UInt8.ofNat (n / 65536 % 256) = z := ⟨_, rfl⟩
  obtain ⟨z3, h3⟩ : ∃ z, UInt8.ofNat (n / 16777216 % 256) = z := ⟨_, rfl⟩
  have e0 : (n : Int) % 256 = (z0.toNat : Int) := by rw [← h0, u8_nat (by omega)]; omega
  have e1 : (n : Int) / 256 % 256 = (z1.toNat : Int) := by rw [← h1, u8_nat (by omega)]; omega
  have e2 : (n : Int) / 65536 % 256 = (z2.toNat : Int) := by rw [← h2, u8_nat (by omega)]; omega
  have e3 : (n : Int) / 16777216 = (z3.toNat : Int) := by rw [← h3, u8_nat (by omega)]; omega
  rw [h0, h1, h2, h3] at HF
  have HO := Lib.hid (own_made (base := w.heap.size) (W := w) [z0, z1, z2, z3] (Nat.le_refl _) (by simp))
  have HB : Hid (Below w.heap.size w (w.alloc (.cells ([z0, z1, z2, z3].flatMap u8c).toArray 5))) := Lib.hid ((Below.refl _ _).alloc (Nat.le_refl _) _)
  clear h0 h1 h2 h3
  go_enter Tryz.func116, Tryz.ntmps116
  go_wp2_with fail
  go_ret
  exact ⟨_, rfl, by rw [HF.out]; exact HO.out, HB.out⟩
set_option maxRecDepth 20000 in
set_option maxHeartbeats 4000000 in
theorem rwrap_any (k : UInt8) (v : Value) (body : List UInt8) (w : World) (h : SliceIs u8c 1 w v body) : Calls Tryz.prog 67 #[.int .u8 (k.toNat : Int), v] w fun e w' => WrapPost w k body e w' := by
  obtain ⟨a, cap, rfl, hcap, hmax, -⟩ := id h
  unfold maxLen at hmax
  by_cases hbig : 65536 < body.length
  · have hb1 : (65536 : Int) < (body.length : Int) := by omega
    go_enter Tryz.func67, Tryz.ntmps67
    go_wp2_with fail
    go_ret2
    exact .inr ⟨hbig, rfl, Below.refl _ _⟩
  have hb1 : ¬ (65536 : Int) < (body.length : Int) := by omega
  have hN : body.length ≤ 65536 := by omega
  have HH := Lib.hid h
  have ho1 := own_made (base := w.heap.size) (W := w) [k] (Nat.le_refl _) (by simp)
  have bb1 : Below w.heap.size w (w.alloc (.cells ([k].flatMap u8c).toArray 5)) := (Below.refl _ _).alloc (Nat.le_refl _) _
  have H1 := Lib.hid (And.intro ho1 bb1)
  clear h hbig ho1 bb1
  go_enter Tryz.func67, Tryz.ntmps67
  go_wp2_with fail
  refine (four_any body.length _ (by omega)).mono ?_
  rintro e w2 ⟨v2, rfl, own2, b2⟩
  have ho2 := H1.out.1.below1 b2
  have bb2 : Below w.heap.size w w2 := H1.out.2.trans (b2.mono H1.out.2.size)
  obtain ⟨⟨ua, un, uc⟩, w3, hr3, own3, b3, z3⟩ := bytes_append ho2 bb2 (own2.slice u8c_len) bb2.size (by simp [fourB])
  have hd3 : [k] ++ fourB body.length = headB k body := rfl
  rw [hd3] at own3
  have b4 : Below w3.heap.size w3 (w3.alloc (.cells #[] 5)) := (Below.refl _ _).alloc (Nat.le_refl _) _
  have HX3 := HH.out.below b3
  obtain ⟨⟨sa, sn, sc⟩, w5, hr5, own5, b5, z5⟩ := bytes_append (own_noB (base := w3.heap.size) (Nat.le_refl _)) b4 ((own3.slice u8c_len).below b4) b4.size (by simp [headB, fourB])
  rw [List.nil_append] at own5
  obtain ⟨⟨ta, tn, tc⟩, w6, hr6, own6, b6, z6⟩ := bytes_append own5 b5 (HX3.below b5) z5 (by simp [headB, fourB]; omega)
  have H3 := Lib.hid (And.intro ((own3.slice u8c_len).below b6) (And.intro (HX3.below b6) (b3.trans (b6.mono z3))))
  have H6 := Lib.hid (own6.slice u8c_len)
  clear own2 ho2 bb2 own3 b4 own5 own6 b3 b5 b6 hd3 b2 HX3 z3 z5 z6
  go_wp2_with (first | (at_builtin; refine Lib.wpList_append_run _ rfl _ _ _ _ rfl _ _ rfl rfl _ _ hr3 ?_) | (at_builtin; refine Lib.wpList_append_run _ rfl _ _ _ _ rfl _ _ rfl rfl _ _ hr5 ?_) | (at_builtin; refine Lib.wpList_append_run _ rfl _ _ _ _ rfl _ _ rfl rfl _ _ hr6 ?_))
  clear hr3 hr5 hr6
  refine (rsum_any _ _ _ H6.out).mono ?_
  rintro e w7 ⟨rfl, rfl⟩
  have HC := Lib.hid (crcB_lt (headB k body ++ body))
  obtain ⟨c, hc⟩ : ∃ c, crcB (headB k body ++ body) = c := ⟨_, rfl⟩
  have HCC := Lib.hid hc
  rw [hc] at HC ⊢
  clear hc
  have b7 : Below w6.heap.size w6 (w6.alloc (.cells ([83, 84].flatMap u8c).toArray 5)) := (Below.refl _ _).alloc (Nat.le_refl _) _
  have ho7 := own_made (base := w6.heap.size) (W := w6) [83, 84] (Nat.le_refl _) (by simp)
  obtain ⟨⟨ka, kn, kc⟩, w8, hr8, own8, b8, z8⟩ := bytes_append ho7 b7 (H3.out.1.below b7) b7.size (by simp [headB, fourB])
  have H8 := Lib.hid (And.intro own8 (And.intro b8 z8))
  clear b7 ho7 own8 b8 z8
  go_wp2_with (at_builtin; refine Lib.wpList_append_run _ rfl _ _ _ _ rfl _ _ rfl rfl _ _ hr8 ?_)
  clear hr8
  refine (four_any c w8 HC.out).mono ?_
  rintro e w9 ⟨v9, rfl, own9, b9⟩
  have b69 : Below w6.heap.size w6 w9 := H8.out.2.1.trans (b9.mono H8.out.2.2)
  obtain ⟨⟨la, ln, lc⟩, w10, hr10, own10, b10, z10⟩ := bytes_append (H8.out.1.below1 b9) b69 (own9.slice u8c_len) b69.size (by simp [headB, fourB])
  obtain ⟨⟨ma, mn, mc⟩, w11, hr11, own11, b11, z11⟩ := bytes_append own10 b10 (H3.out.2.1.below b10) z10 (by simp [headB, fourB]; omega)
  have ew : [83, 84] ++ headB k body ++ fourB c ++ body = wrapB k body := by
    unfold wrapB
    rw [HCC.out]
    simp
  rw [ew] at own11
  have HF := Lib.hid (And.intro (own11.mono H3.out.2.2.size) (H3.out.2.2.trans (b11.mono H3.out.2.2.size)))
  clear own9 own10 own11 b9 b69 b10 b11 z10 z11 ew
  go_wp2_with (first | (at_builtin; refine Lib.wpList_append_run _ rfl _ _ _ _ rfl _ _ rfl rfl _ _ hr10 ?_) | (at_builtin; refine Lib.wpList_append_run _ rfl _ _ _ _ rfl _ _ rfl rfl _ _ hr11 ?_))
  go_ret2
  exact .inl ⟨hN, _, rfl, HF.out.1, HF.out.2⟩
end Go.Proofs.YtgmdimbiipemhaaGreatDoor
namespace Go.Proofs.YtgmdimbiipemhaaGreatDoor
open Go.RowKit Go.Deep
set_option linter.unusedSimpArgs false
set_option linter.unusedVariables false
set_option maxRecDepth 20000 in
set_option maxHeartbeats 8000000 in
theorem rtaken_small (v : Value) (b : List UInt8) (w : World) (h : SliceIs u8c 1 w v b) (hs : b.length < 7) : Calls Tryz.prog 63 #[v] w fun e w' => TakeFPost w b e w' := by
  obtain ⟨a, cap, rfl, hcap, hmax, -⟩ := id h
  unfold maxLen at hmax
  have HNO := Lib.hid (takeF_short (b := b) (by omega))
  have HH := Lib.hid h
  clear h
  match b, hs, HH, HNO, hcap with
  | [], _, HH, HNO, hcap =>
    simp only [List.length_cons, List.length_nil, Nat.zero_add, Nat.reduceAdd] at hcap ⊢
    go_enter Tryz.func63, Tryz.ntmps63
    go_wp2_with fail
    all_goals
      (try simp only [Exit.inBlock, Exit.then])
      refine bodyPost_ret (results_tmp4 rfl _ _ _) rfl ?_
      exact .inr ⟨HNO.out, ⟨_, by decide, rfl⟩, Below.refl _ _⟩
  | [x0], _, HH, HNO, hcap =>
    obtain ⟨bb, o, rfl, c0⟩ := HH.out.at1 (k := 0) (x := x0) (u := .int .u8 (x0.toNat : Int)) rfl rfl
    rw [Nat.add_zero] at c0
    have l0 := x0.toNat_lt
    simp only [List.length_cons, List.length_nil, Nat.zero_add, Nat.reduceAdd] at hcap ⊢
    go_enter Tryz.func63, Tryz.ntmps63
    go_wp2_with fail
    all_goals
      (try simp only [Exit.inBlock, Exit.then])
      refine bodyPost_ret (results_tmp4 rfl _ _ _) rfl ?_
      exact .inr ⟨HNO.out, ⟨_, by decide, rfl⟩, Below.refl _ _⟩
  | [x0, x1], _, HH, HNO, hcap =>
    obtain ⟨bb, o, rfl, c0⟩ := HH.out.at1 (k := 0) (x := x0) (u := .int .u8 (x0.toNat : Int)) rfl rfl
    have c1 : w.cell? ⟨bb, o + 1, none⟩ = some (.int .u8 (x1.toNat : Int)) := by obtain ⟨_, _, e, c⟩ := HH.out.at1 (k := 1) (x := x1) (u := .int .u8 (x1.toNat : Int)) rfl rfl; cases e; exact c
    rw [Nat.add_zero] at c0
    have l0 := x0.toNat_lt
    have l1 := x1.toNat_lt
    simp only [List.length_cons, List.length_nil, Nat.zero_add, Nat.reduceAdd] at hcap ⊢
    go_enter Tryz.func63, Tryz.ntmps63
    go_wp2_with fail
    all_goals
      (try simp only [Exit.inBlock, Exit.then])
      refine bodyPost_ret (results_tmp4 rfl _ _ _) rfl ?_
      exact .inr ⟨HNO.out, ⟨_, by decide, rfl⟩, Below.refl _ _⟩
  | [x0, x1, x2], _, HH, HNO, hcap =>
    obtain ⟨bb, o, rfl, c0⟩ := HH.out.at1 (k := 0) (x := x0) (u := .int .u8 (x0.toNat : Int)) rfl rfl
    have c1 : w.cell? ⟨bb, o + 1, none⟩ = some (.int .u8 (x1.toNat : Int)) := by obtain ⟨_, _, e, c⟩ := HH.out.at1 (k := 1) (x := x1) (u := .int .u8 (x1.toNat : Int)) rfl rfl; cases e; exact c
    have c2 : w.cell? ⟨bb, o + 2, none⟩ = some (.int .u8 (x2.toNat : Int)) := by obtain ⟨_, _, e, c⟩ := HH.out.at1 (k := 2) (x := x2) (u := .int .u8 (x2.toNat : Int)) rfl rfl; cases e; exact c
    rw [Nat.add_zero] at c0
    have l0 := x0.toNat_lt
    have l1 := x1.toNat_lt
    have l2 := x2.toNat_lt
    simp only [List.length_cons, List.length_nil, Nat.zero_add, Nat.reduceAdd] at hcap ⊢
    go_enter Tryz.func63, Tryz.ntmps63
    go_wp2_with fail
    all_goals
      (try simp only [Exit.inBlock, Exit.then])
      refine bodyPost_ret (results_tmp4 rfl _ _ _) rfl ?_
      exact .inr ⟨HNO.out, ⟨_, by decide, rfl⟩, Below.refl _ _⟩
  | [x0, x1, x2, x3], _, HH, HNO, hcap =>
    obtain ⟨bb, o, rfl, c0⟩ := HH.out.at1 (k := 0) (x := x0) (u := .int .u8 (x0.toNat : Int)) rfl rfl
    have c1 : w.cell? ⟨bb, o + 1, none⟩ = some (.int .u8 (x1.toNat : Int)) := by obtain ⟨_, _, e, c⟩ := HH.out.at1 (k := 1) (x := x1) (u := .int .u8 (x1.toNat : Int)) rfl rfl; cases e; exact c
    have c2 : w.cell? ⟨bb, o + 2, none⟩ = some (.int .u8 (x2.toNat : Int)) := by obtain ⟨_, _, e, c⟩ := HH.out.at1 (k := 2) (x := x2) (u := .int .u8 (x2.toNat : Int)) rfl rfl; cases e; exact c
    have c3 : w.cell? ⟨bb, o + 3, none⟩ = some (.int .u8 (x3.toNat : Int)) := by obtain ⟨_, _, e, c⟩ := HH.out.at1 (k := 3) (x := x3) (u := .int .u8 (x3.toNat : Int)) rfl rfl; cases e; exact c
    rw [Nat.add_zero] at c0
    have l0 := x0.toNat_lt
    have l1 := x1.toNat_lt
    have l2 := x2.toNat_lt
    have l3 := x3.toNat_lt
    simp only [List.length_cons, List.length_nil, Nat.zero_add, Nat.reduceAdd] at hcap ⊢
    go_enter Tryz.func63, Tryz.ntmps63
    go_wp2_with fail
    all_goals
      (try simp only [Exit.inBlock, Exit.then])
      refine bodyPost_ret (results_tmp4 rfl _ _ _) rfl ?_
      exact .inr ⟨HNO.out, ⟨_, by decide, rfl⟩, Below.refl _ _⟩
  | [x0, x1, x2, x3, x4], _, HH, HNO, hcap =>
    obtain ⟨bb, o, rfl, c0⟩ := HH.out.at1 (k := 0) (x := x0) (u := .int .u8 (x0.toNat : Int)) rfl rfl
    have c1 : w.cell? ⟨bb, o + 1, none⟩ = some (.int .u8 (x1.toNat : Int)) := by obtain ⟨_, _, e, c⟩ := HH.out.at1 (k := 1) (x := x1) (u := .int .u8 (x1.toNat : Int)) rfl rfl; cases e; exact c
    have c2 : w.cell? ⟨bb, o + 2, none⟩ = some (.int .u8 (x2.toNat : Int)) := by obtain ⟨_, _, e, c⟩ := HH.out.at1 (k := 2) (x := x2) (u := .int .u8 (x2.toNat : Int)) rfl rfl; cases e; exact c
    have c3 : w.cell? ⟨bb, o + 3, none⟩ = some (.int .u8 (x3.toNat : Int)) := by obtain ⟨_, _, e, c⟩ := HH.out.at1 (k := 3) (x := x3) (u := .int .u8 (x3.toNat : Int)) rfl rfl; cases e; exact c
    have c4 : w.cell? ⟨bb, o + 4, none⟩ = some (.int .u8 (x4.toNat : Int)) := by obtain ⟨_, _, e, c⟩ := HH.out.at1 (k := 4) (x := x4) (u := .int .u8 (x4.toNat : Int)) rfl rfl; cases e; exact c
    rw [Nat.add_zero] at c0
    have l0 := x0.toNat_lt
    have l1 := x1.toNat_lt
    have l2 := x2.toNat_lt
    have l3 := x3.toNat_lt
    have l4 := x4.toNat_lt
    simp only [List.length_cons, List.length_nil, Nat.zero_add, Nat.reduceAdd] at hcap ⊢
    go_enter Tryz.func63, Tryz.ntmps63
    go_wp2_with fail
    all_goals
      (try simp only [Exit.inBlock, Exit.then])
      refine bodyPost_ret (results_tmp4 rfl _ _ _) rfl ?_
      exact .inr ⟨HNO.out, ⟨_, by decide, rfl⟩, Below.refl _ _⟩
  | [x0, x1, x2, x3, x4, x5], _, HH, HNO, hcap =>
    obtain ⟨bb, o, rfl, c0⟩ := HH.out.at1 (k := 0) (x := x0) (u := .int .u8 (x0.toNat : Int)) rfl rfl
    have c1 : w.cell? ⟨bb, o + 1, none⟩ = some (.int .u8 (x1.toNat : Int)) := by obtain ⟨_, _, e, c⟩ := HH.out.at1 (k := 1) (x := x1) (u := .int .u8 (x1.toNat : Int)) rfl rfl; cases e; exact c
    have c2 : w.cell? ⟨bb, o + 2, none⟩ = some (.int .u8 (x2.toNat : Int)) := by obtain ⟨_, _, e, c⟩ := HH.out.at1 (k := 2) (x := x2) (u := .int .u8 (x2.toNat : Int)) rfl rfl; cases e; exact c
    have c3 : w.cell? ⟨bb, o + 3, none⟩ = some (.int .u8 (x3.toNat : Int)) := by obtain ⟨_, _, e, c⟩ := HH.out.at1 (k := 3) (x := x3) (u := .int .u8 (x3.toNat : Int)) rfl rfl; cases e; exact c
    have c4 : w.cell? ⟨bb, o + 4, none⟩ = some (.int .u8 (x4.toNat : Int)) := by obtain ⟨_, _, e, c⟩ := HH.out.at1 (k := 4) (x := x4) (u := .int .u8 (x4.toNat : Int)) rfl rfl; cases e; exact c
    have c5 : w.cell? ⟨bb, o + 5, none⟩ = some (.int .u8 (x5.toNat : Int)) := by obtain ⟨_, _, e, c⟩ := HH.out.at1 (k := 5) (x := x5) (u := .int .u8 (x5.toNat : Int)) rfl rfl; cases e; exact c
    rw [Nat.add_zero] at c0
    have l0 := x0.toNat_lt
    have l1 := x1.toNat_lt
    have l2 := x2.toNat_lt
    have l3 := x3.toNat_lt
    have l4 := x4.toNat_lt
    have l5 := x5.toNat_lt
    simp only [List.length_cons, List.length_nil, Nat.zero_add, Nat.reduceAdd] at hcap ⊢
    go_enter Tryz.func63, Tryz.ntmps63
    go_wp2_with fail
    all_goals
      (try simp only [Exit.inBlock, Exit.then])
      refine bodyPost_ret (results_tmp4 rfl _ _ _) rfl ?_
      exact .inr ⟨HNO.out, ⟨_, by decide, rfl⟩, Below.refl _ _⟩
theorem sum4 (a b c d p q r N : Nat) (h : a + b * p + c * q + d * r = N) : (a : Int) + (b : Int) * (p : Int) + (c : Int) * (q : Int) + (d : Int) * (r : Int) = (N : Int) := by
  rw [← h]
  push_cast
  rfl
theorem seven {b : List UInt8} (h : 7 ≤ b.length) : ∃ m0 m1 k a0 a1 a2 a3 r, b = m0 :: m1 :: k :: a0 :: a1 :: a2 :: a3 :: r := by
  match b, h with
  | m0 :: m1 :: k :: a0 :: a1 :: a2 :: a3 :: r, _ => exact ⟨m0, m1, k, a0, a1, a2, a3, r, rfl⟩
theorem takeF_four {m0 m1 k a0 a1 a2 a3 : UInt8} {r : List UInt8} {q : UInt8 × List UInt8} (h : takeF (m0 :: m1 :: k :: a0 :: a1 :: a2 :: a3 :: r) = some q) : q.1 = k ∧ q.2.length = fourV a0 a1 a2 a3 ∧ q.2 = ((m0 :: m1 :: k :: a0 :: a1 :: a2 :: a3 :: r).take (11 + fourV a0 a1 a2 a3)).drop 11 ∧ wrapB k q.2 = (m0 :: m1 :: k :: a0 :: a1 :: a2 :: a3 :: r).take (11 + fourV a0 a1 a2 a3) := by
  have h9 := takeF_is (k := q.1) (body := q.2) h
  by_cases hl : 11 ≤ (m0 :: m1 :: k :: a0 :: a1 :: a2 :: a3 :: r).length
  · obtain ⟨_, _, _, _, _, _, _, s0, s1, s2, s3, t, e⟩ := eleven hl
    simp only [List.cons.injEq] at e
    obtain ⟨rfl, rfl, rfl, rfl, rfl, rfl, rfl, rfl⟩ := e
    rw [takeF_eq] at h
    split at h
    · rename_i hc
      cases h
      obtain ⟨n, hn⟩ : ∃ n, fourV a0 a1 a2 a3 = n := ⟨_, rfl⟩
      rw [hn] at hc h9 ⊢
      have hlen : (t.take n).length = n := by rw [List.length_take, Nat.min_eq_left hc.2.2.2.1]
      rw [take_eleven]
      refine ⟨rfl, hlen, rfl, ?_⟩
      have h8 := (List.prefix_iff_eq_take.1 h9.2)
      rw [wrapB_len, hlen, take_eleven] at h8
      exact h8
    · cases h
  · rw [takeF_short (by omega)] at h
    cases h
theorem takeF_wrapped {m0 m1 k a0 a1 a2 a3 : UInt8} {r : List UInt8} {N : Nat} (hN : fourV a0 a1 a2 a3 = N) (hb : N ≤ 65536) (hl : 11 + N ≤ (m0 :: m1 :: k :: a0 :: a1 :: a2 :: a3 :: r).length) :
    (wrapB k (((m0 :: m1 :: k :: a0 :: a1 :: a2 :: a3 :: r).take (11 + N)).drop 11) = (m0 :: m1 :: k :: a0 :: a1 :: a2 :: a3 :: r).take (11 + N) → takeF (m0 :: m1 :: k :: a0 :: a1 :: a2 :: a3 :: r) = some (k, ((m0 :: m1 :: k :: a0 :: a1 :: a2 :: a3 :: r).take (11 + N)).drop 11)) ∧
    (¬ wrapB k (((m0 :: m1 :: k :: a0 :: a1 :: a2 :: a3 :: r).take (11 + N)).drop 11) = (m0 :: m1 :: k :: a0 :: a1 :: a2 :: a3 :: r).take (11 + N) → takeF (m0 :: m1 :: k :: a0 :: a1 :: a2 :: a3 :: r) = none) := by
  subst hN
  constructor
  · intro h
    refine is_takeF ⟨?_, ?_⟩
    · rw [List.length_drop, List.length_take]; omega
    · rw [h]; exact List.take_prefix _ _
  · intro h
    cases ht : takeF (m0 :: m1 :: k :: a0 :: a1 :: a2 :: a3 :: r) with
    | none => rfl
    | some q =>
      obtain ⟨h1, h2, h3, h4⟩ := takeF_four ht
      rw [h3] at h4
      exact absurd h4 h
theorem takeF_many {m0 m1 k a0 a1 a2 a3 : UInt8} {r : List UInt8} {N : Nat} (hN : fourV a0 a1 a2 a3 = N) (h : 65536 < N ∨ (m0 :: m1 :: k :: a0 :: a1 :: a2 :: a3 :: r).length < 11 + N) : takeF (m0 :: m1 :: k :: a0 :: a1 :: a2 :: a3 :: r) = none := by
  subst hN
  cases ht : takeF (m0 :: m1 :: k :: a0 :: a1 :: a2 :: a3 :: r) with
  | none => rfl
  | some q =>
    obtain ⟨h1, h2, h3, h4⟩ := takeF_four ht
    have h5 := takeF_len (k := q.1) (body := q.2) ht
    omega
set_option maxRecDepth 20000 in
set_option maxHeartbeats 8000000 in
theorem rtaken_any (v : Value) (b : List UInt8) (w : World) (h : SliceIs u8c 1 w v b) : Calls Tryz.prog 63 #[v] w fun e w' => TakeFPost w b e w' := by
  by_cases h7 : b.length < 7
  · exact rtaken_small v b w h h7
  obtain ⟨m0, m1, k, x3, x4, x5, x6, r, rfl⟩ := seven (b := b) (by omega)
  obtain ⟨a, cap, rfl, hcap, hmax, -⟩ := id h
  unfold maxLen at hmax
  have HP := Lib.hid (fun N hN => takeF_wrapped (m0 := m0) (m1 := m1) (k := k) (a0 := x3) (a1 := x4) (a2 := x5) (a3 := x6) (r := r) (N := N) hN)
  have HM := Lib.hid (fun N hN => takeF_many (m0 := m0) (m1 := m1) (k := k) (a0 := x3) (a1 := x4) (a2 := x5) (a3 := x6) (r := r) (N := N) hN)
  have HMK := Lib.hid (takeF_mark (b := m0 :: m1 :: k :: x3 :: x4 :: x5 :: x6 :: r))
  obtain ⟨b, hb⟩ : ∃ b, m0 :: m1 :: k :: x3 :: x4 :: x5 :: x6 :: r = b := ⟨_, rfl⟩
  have g0 : b[0]? = some m0 := by rw [← hb]; rfl
  have g1 : b[1]? = some m1 := by rw [← hb]; rfl
  have g2 : b[2]? = some k := by rw [← hb]; rfl
  have g3 : b[3]? = some x3 := by rw [← hb]; rfl
  have g4 : b[4]? = some x4 := by rw [← hb]; rfl
  have g5 : b[5]? = some x5 := by rw [← hb]; rfl
  have g6 : b[6]? = some x6 := by rw [← hb]; rfl
  rw [hb] at h h7 hcap HP HM HMK ⊢
  have hmk : takeF b ≠ none → m0 = 83 ∧ m1 = 84 := fun h => by have := HMK.out h; rw [← hb] at this; simpa using this
  clear HMK hb
  obtain ⟨n, hn⟩ : ∃ n, b.length = n := ⟨_, rfl⟩
  rw [hn] at h hcap h7 HP HM ⊢
  have HH := Lib.hid h
  obtain ⟨bb, o, rfl, c0⟩ := h.at1 g0 rfl
  have l0 := m0.toNat_lt
  have c1 : w.cell? ⟨bb, o + 1, none⟩ = some (.int .u8 (m1.toNat : Int)) := by obtain ⟨_, _, e, c⟩ := h.at1 g1 rfl; cases e; exact c
  have l1 := m1.toNat_lt
  have c2 : w.cell? ⟨bb, o + 2, none⟩ = some (.int .u8 (k.toNat : Int)) := by obtain ⟨_, _, e, c⟩ := h.at1 g2 rfl; cases e; exact c
  have l2 := k.toNat_lt
  have c3 : w.cell? ⟨bb, o + 3, none⟩ = some (.int .u8 (x3.toNat : Int)) := by obtain ⟨_, _, e, c⟩ := h.at1 g3 rfl; cases e; exact c
  have l3 := x3.toNat_lt
  have c4 : w.cell? ⟨bb, o + 4, none⟩ = some (.int .u8 (x4.toNat : Int)) := by obtain ⟨_, _, e, c⟩ := h.at1 g4 rfl; cases e; exact c
  have l4 := x4.toNat_lt
  have c5 : w.cell? ⟨bb, o + 5, none⟩ = some (.int .u8 (x5.toNat : Int)) := by obtain ⟨_, _, e, c⟩ := h.at1 g5 rfl; cases e; exact c
  have l5 := x5.toNat_lt
  have c6 : w.cell? ⟨bb, o + 6, none⟩ = some (.int .u8 (x6.toNat : Int)) := by obtain ⟨_, _, e, c⟩ := h.at1 g6 rfl; cases e; exact c
  have l6 := x6.toNat_lt
  rw [Nat.add_zero] at c0
  have h70 : ¬ (n : Int) < 7 := by omega
  have h0n : (0 : Int) < (n : Int) := by omega
  have h1n : (1 : Int) < (n : Int) := by omega
  clear h g0 g1 g3 g4 g5 g6
  by_cases hm : m0 = 83 ∧ m1 = 84
  rotate_left
  · have HNO : Hid (takeF b = none) := Lib.hid (Classical.byContradiction fun h => hm (hmk h))
    by_cases hm0 : m0 = 83
    · have hm1 : ¬ (m1.toNat : Int) = 84 := fun e => hm ⟨hm0, UInt8.toNat_inj.1 (show m1.toNat = 84 by omega)⟩
      subst hm0
      clear hm hmk
      go_enter Tryz.func63, Tryz.ntmps63
      go_wp2_with fail
      (try simp only [Exit.inBlock, Exit.then])
      refine bodyPost_ret (results_tmp4 rfl _ _ _) rfl ?_
      exact .inr ⟨HNO.out, ⟨_, by decide, rfl⟩, Below.refl _ _⟩
    · have hm1 : ¬ (m0.toNat : Int) = 83 := fun e => hm0 (UInt8.toNat_inj.1 (show m0.toNat = 83 by omega))
      clear hm hmk hm0
      go_enter Tryz.func63, Tryz.ntmps63
      go_wp2_with fail
      (try simp only [Exit.inBlock, Exit.then])
      refine bodyPost_ret (results_tmp4 rfl _ _ _) rfl ?_
      exact .inr ⟨HNO.out, ⟨_, by decide, rfl⟩, Below.refl _ _⟩
  obtain ⟨rfl, rfl⟩ := hm
  clear hmk
  obtain ⟨N, hN⟩ : ∃ N, fourV x3 x4 x5 x6 = N := ⟨_, rfl⟩
  have hsum : x3.toNat + x4.toNat * 256 + x5.toNat * 65536 + x6.toNat * 16777216 = N := hN
  have HN := Lib.hid hN
  have HS := Lib.hid hsum
  have i0 : IntKind.i64.wrap ((x3.toNat : Int)) = (x3.toNat : Int) := IntWalk.i64_in _ (by omega)
  have i1 : IntKind.i64.wrap ((x4.toNat : Int)) = (x4.toNat : Int) := IntWalk.i64_in _ (by omega)
  have i2 : IntKind.i64.wrap ((x5.toNat : Int)) = (x5.toNat : Int) := IntWalk.i64_in _ (by omega)
  have i3 : IntKind.i64.wrap ((x6.toNat : Int)) = (x6.toNat : Int) := IntWalk.i64_in _ (by omega)
  have i4 : IntKind.i64.wrap ((x4.toNat : Int) * 256) = (x4.toNat : Int) * 256 := IntWalk.i64_in _ (by omega)
  have i5 : IntKind.i64.wrap ((x5.toNat : Int) * 65536) = (x5.toNat : Int) * 65536 := IntWalk.i64_in _ (by omega)
  have i6 : IntKind.i64.wrap ((x6.toNat : Int) * 16777216) = (x6.toNat : Int) * 16777216 := IntWalk.i64_in _ (by omega)
  have i7 : IntKind.i64.wrap ((x3.toNat : Int) + (x4.toNat : Int) * 256) = (x3.toNat : Int) + (x4.toNat : Int) * 256 := IntWalk.i64_in _ (by omega)
  have i8 : IntKind.i64.wrap ((x3.toNat : Int) + (x4.toNat : Int) * 256 + (x5.toNat : Int) * 65536) = (x3.toNat : Int) + (x4.toNat : Int) * 256 + (x5.toNat : Int) * 65536 := IntWalk.i64_in _ (by omega)
  have i9 : IntKind.i64.wrap ((x3.toNat : Int) + (x4.toNat : Int) * 256 + (x5.toNat : Int) * 65536 + (x6.toNat : Int) * 16777216) = (x3.toNat : Int) + (x4.toNat : Int) * 256 + (x5.toNat : Int) * 65536 + (x6.toNat : Int) * 16777216 := IntWalk.i64_in _ (by omega)
  have u2 : ¬ (n : Int) ≤ 2 := by omega
  have u3 : ¬ (n : Int) ≤ 3 := by omega
  have u4 : ¬ (n : Int) ≤ 4 := by omega
  have u5 : ¬ (n : Int) ≤ 5 := by omega
  have u6 : ¬ (n : Int) ≤ 6 := by omega
  go_enter Tryz.func63, Tryz.ntmps63
  go_upto_region 7 with fail
  refine wp_region_s (fun W : World => W.cell? ⟨bb, o + 3, none⟩ = some (.int .u8 (x3.toNat : Int)) ∧ W.cell? ⟨bb, o + 4, none⟩ = some (.int .u8 (x4.toNat : Int)) ∧ W.cell? ⟨bb, o + 5, none⟩ = some (.int .u8 (x5.toNat : Int)) ∧ W.cell? ⟨bb, o + 6, none⟩ = some (.int .u8 (x6.toNat : Int))) (fun _ => false) (by kernel_rfl) ?_
  have hS0 : (fun W : World => W.cell? ⟨bb, o + 3, none⟩ = some (.int .u8 (x3.toNat : Int)) ∧ W.cell? ⟨bb, o + 4, none⟩ = some (.int .u8 (x4.toNat : Int)) ∧ W.cell? ⟨bb, o + 5, none⟩ = some (.int .u8 (x5.toNat : Int)) ∧ W.cell? ⟨bb, o + 6, none⟩ = some (.int .u8 (x6.toNat : Int))) w.drew := ⟨c3, c4, c5, c6⟩
  have H2 : Hid (w.drew.cell? ⟨bb, o + 2, none⟩ = some (.int .u8 (k.toNat : Int)) ∧ SliceIs u8c 1 w.drew (.slice (some ⟨bb, o, none⟩) n cap) b ∧ Below w.heap.size w w.drew) := Lib.hid ⟨c2, HH.out.below (Below.refl _ _).drew, (Below.refl _ _).drew⟩
  clear c0 c1 c2 c3 c4 c5 c6 hsum
  generalize w.drew = W1 at hS0 H2 ⊢
  refine wpAnyS_take (i := 0) (d := some 64) rfl rfl rfl (by kernel_rfl) (by kernel_rfl) (by kernel_rfl) (by kernel_rfl) (fun _ _ _ h => h) (.inl ⟨by rfl, fun W hW => by obtain ⟨q0, q1, q2, q3⟩ := hW; go_simp; try rfl⟩) hS0 ?_
  try simp only [Act.put, List.setIfInBounds_toArray, List.set_cons_zero, List.set_cons_succ]
  refine wpAnyS_take (i := 1) (d := some 65) (v := .pointer (some ⟨bb, o + 3, none⟩)) rfl rfl rfl (by kernel_rfl) (by kernel_rfl) (by kernel_rfl) (by kernel_rfl) (fun _ _ _ h => h) (.inl ⟨by rfl, fun W hW => by obtain ⟨q0, q1, q2, q3⟩ := hW; go_simp; try rfl⟩) hS0 ?_
  try simp only [Act.put, List.setIfInBounds_toArray, List.set_cons_zero, List.set_cons_succ]
  refine wpAnyS_take (i := 2) (d := some 66) (v := .int .u8 (x3.toNat : Int)) rfl rfl rfl (by kernel_rfl) (by kernel_rfl) (by kernel_rfl) (by kernel_rfl) (fun _ _ _ h => h) (.inl ⟨by rfl, fun W hW => by obtain ⟨q0, q1, q2, q3⟩ := hW; go_simp; try rfl⟩) hS0 ?_
  try simp only [Act.put, List.setIfInBounds_toArray, List.set_cons_zero, List.set_cons_succ]
  refine wpAnyS_take (i := 3) (d := some 67) (v := .int .i64 (x3.toNat : Int)) rfl rfl rfl (by kernel_rfl) (by kernel_rfl) (by kernel_rfl) (by kernel_rfl) (fun _ _ _ h => h) (.inl ⟨by rfl, fun W hW => by obtain ⟨q0, q1, q2, q3⟩ := hW; go_simp; try rfl⟩) hS0 ?_
  try simp only [Act.put, List.setIfInBounds_toArray, List.set_cons_zero, List.set_cons_succ]
  refine wpAnyS_take (i := 4) (d := some 68) rfl rfl rfl (by kernel_rfl) (by kernel_rfl) (by kernel_rfl) (by kernel_rfl) (fun _ _ _ h => h) (.inl ⟨by rfl, fun W hW => by obtain ⟨q0, q1, q2, q3⟩ := hW; go_simp; try rfl⟩) hS0 ?_
  try simp only [Act.put, List.setIfInBounds_toArray, List.set_cons_zero, List.set_cons_succ]
  refine wpAnyS_take (i := 5) (d := some 69) (v := .pointer (some ⟨bb, o + 4, none⟩)) rfl rfl rfl (by kernel_rfl) (by kernel_rfl) (by kernel_rfl) (by kernel_rfl) (fun _ _ _ h => h) (.inl ⟨by rfl, fun W hW => by obtain ⟨q0, q1, q2, q3⟩ := hW; go_simp; try rfl⟩) hS0 ?_
  try simp only [Act.put, List.setIfInBounds_toArray, List.set_cons_zero, List.set_cons_succ]
  refine wpAnyS_take (i := 6) (d := some 70) (v := .int .u8 (x4.toNat : Int)) rfl rfl rfl (by kernel_rfl) (by kernel_rfl) (by kernel_rfl) (by kernel_rfl) (fun _ _ _ h => h) (.inl ⟨by rfl, fun W hW => by obtain ⟨q0, q1, q2, q3⟩ := hW; go_simp; try rfl⟩) hS0 ?_
  try simp only [Act.put, List.setIfInBounds_toArray, List.set_cons_zero, List.set_cons_succ]
  refine wpAnyS_take (i := 7) (d := some 71) (v := .int .i64 (x4.toNat : Int)) rfl rfl rfl (by kernel_rfl) (by kernel_rfl) (by kernel_rfl) (by kernel_rfl) (fun _ _ _ h => h) (.inl ⟨by rfl, fun W hW => by obtain ⟨q0, q1, q2, q3⟩ := hW; go_simp; try rfl⟩) hS0 ?_
  try simp only [Act.put, List.setIfInBounds_toArray, List.set_cons_zero, List.set_cons_succ]
  refine wpAnyS_take (i := 8) (d := some 72) (v := .int .i64 ((x4.toNat : Int) * 256)) rfl rfl rfl (by kernel_rfl) (by kernel_rfl) (by kernel_rfl) (by kernel_rfl) (fun _ _ _ h => h) (.inl ⟨by rfl, fun W hW => by obtain ⟨q0, q1, q2, q3⟩ := hW; go_simp; try rfl⟩) hS0 ?_
  try simp only [Act.put, List.setIfInBounds_toArray, List.set_cons_zero, List.set_cons_succ]
  refine wpAnyS_take (i := 9) (d := some 73) (v := .int .i64 ((x3.toNat : Int) + (x4.toNat : Int) * 256)) rfl rfl rfl (by kernel_rfl) (by kernel_rfl) (by kernel_rfl) (by kernel_rfl) (fun _ _ _ h => h) (.inl ⟨by rfl, fun W hW => by obtain ⟨q0, q1, q2, q3⟩ := hW; go_simp; try rfl⟩) hS0 ?_
  try simp only [Act.put, List.setIfInBounds_toArray, List.set_cons_zero, List.set_cons_succ]
  refine wpAnyS_take (i := 10) (d := some 74) rfl rfl rfl (by kernel_rfl) (by kernel_rfl) (by kernel_rfl) (by kernel_rfl) (fun _ _ _ h => h) (.inl ⟨by rfl, fun W hW => by obtain ⟨q0, q1, q2, q3⟩ := hW; go_simp; try rfl⟩) hS0 ?_
  try simp only [Act.put, List.setIfInBounds_toArray, List.set_cons_zero, List.set_cons_succ]
  refine wpAnyS_take (i := 11) (d := some 75) (v := .pointer (some ⟨bb, o + 5, none⟩)) rfl rfl rfl (by kernel_rfl) (by kernel_rfl) (by kernel_rfl) (by kernel_rfl) (fun _ _ _ h => h) (.inl ⟨by rfl, fun W hW => by obtain ⟨q0, q1, q2, q3⟩ := hW; go_simp; try rfl⟩) hS0 ?_
  try simp only [Act.put, List.setIfInBounds_toArray, List.set_cons_zero, List.set_cons_succ]
  refine wpAnyS_take (i := 12) (d := some 76) (v := .int .u8 (x5.toNat : Int)) rfl rfl rfl (by kernel_rfl) (by kernel_rfl) (by kernel_rfl) (by kernel_rfl) (fun _ _ _ h => h) (.inl ⟨by rfl, fun W hW => by obtain ⟨q0, q1, q2, q3⟩ := hW; go_simp; try rfl⟩) hS0 ?_
  try simp only [Act.put, List.setIfInBounds_toArray, List.set_cons_zero, List.set_cons_succ]
  refine wpAnyS_take (i := 13) (d := some 77) (v := .int .i64 (x5.toNat : Int)) rfl rfl rfl (by kernel_rfl) (by kernel_rfl) (by kernel_rfl) (by kernel_rfl) (fun _ _ _ h => h) (.inl ⟨by rfl, fun W hW => by obtain ⟨q0, q1, q2, q3⟩ := hW; go_simp; try rfl⟩) hS0 ?_
  try simp only [Act.put, List.setIfInBounds_toArray, List.set_cons_zero, List.set_cons_succ]
  refine wpAnyS_take (i := 14) (d := some 78) (v := .int .i64 ((x5.toNat : Int) * 65536)) rfl rfl rfl (by kernel_rfl) (by kernel_rfl) (by kernel_rfl) (by kernel_rfl) (fun _ _ _ h => h) (.inl ⟨by rfl, fun W hW => by obtain ⟨q0, q1, q2, q3⟩ := hW; go_simp; try rfl⟩) hS0 ?_
  try simp only [Act.put, List.setIfInBounds_toArray, List.set_cons_zero, List.set_cons_succ]
  refine wpAnyS_take (i := 15) (d := some 79) (v := .int .i64 ((x3.toNat : Int) + (x4.toNat : Int) * 256 + (x5.toNat : Int) * 65536)) rfl rfl rfl (by kernel_rfl) (by kernel_rfl) (by kernel_rfl) (by kernel_rfl) (fun _ _ _ h => h) (.inl ⟨by rfl, fun W hW => by obtain ⟨q0, q1, q2, q3⟩ := hW; go_simp; try rfl⟩) hS0 ?_
  try simp only [Act.put, List.setIfInBounds_toArray, List.set_cons_zero, List.set_cons_succ]
  refine wpAnyS_take (i := 16) (d := some 80) rfl rfl rfl (by kernel_rfl) (by kernel_rfl) (by kernel_rfl) (by kernel_rfl) (fun _ _ _ h => h) (.inl ⟨by rfl, fun W hW => by obtain ⟨q0, q1, q2, q3⟩ := hW; go_simp; try rfl⟩) hS0 ?_
  try simp only [Act.put, List.setIfInBounds_toArray, List.set_cons_zero, List.set_cons_succ]
  refine wpAnyS_take (i := 17) (d := some 81) (v := .pointer (some ⟨bb, o + 6, none⟩)) rfl rfl rfl (by kernel_rfl) (by kernel_rfl) (by kernel_rfl) (by kernel_rfl) (fun _ _ _ h => h) (.inl ⟨by rfl, fun W hW => by obtain ⟨q0, q1, q2, q3⟩ := hW; go_simp; try rfl⟩) hS0 ?_
  try simp only [Act.put, List.setIfInBounds_toArray, List.set_cons_zero, List.set_cons_succ]
  refine wpAnyS_take (i := 18) (d := some 82) (v := .int .u8 (x6.toNat : Int)) rfl rfl rfl (by kernel_rfl) (by kernel_rfl) (by kernel_rfl) (by kernel_rfl) (fun _ _ _ h => h) (.inl ⟨by rfl, fun W hW => by obtain ⟨q0, q1, q2, q3⟩ := hW; go_simp; try rfl⟩) hS0 ?_
  try simp only [Act.put, List.setIfInBounds_toArray, List.set_cons_zero, List.set_cons_succ]
  refine wpAnyS_take (i := 19) (d := some 83) (v := .int .i64 (x6.toNat : Int)) rfl rfl rfl (by kernel_rfl) (by kernel_rfl) (by kernel_rfl) (by kernel_rfl) (fun _ _ _ h => h) (.inl ⟨by rfl, fun W hW => by obtain ⟨q0, q1, q2, q3⟩ := hW; go_simp; try rfl⟩) hS0 ?_
  try simp only [Act.put, List.setIfInBounds_toArray, List.set_cons_zero, List.set_cons_succ]
  refine wpAnyS_take (i := 20) (d := some 84) (v := .int .i64 ((x6.toNat : Int) * 16777216)) rfl rfl rfl (by kernel_rfl) (by kernel_rfl) (by kernel_rfl) (by kernel_rfl) (fun _ _ _ h => h) (.inl ⟨by rfl, fun W hW => by obtain ⟨q0, q1, q2, q3⟩ := hW; go_simp; try rfl⟩) hS0 ?_
  try simp only [Act.put, List.setIfInBounds_toArray, List.set_cons_zero, List.set_cons_succ]
  refine wpAnyS_take (i := 21) (d := some 85) (v := .int .i64 ((x3.toNat : Int) + (x4.toNat : Int) * 256 + (x5.toNat : Int) * 65536 + (x6.toNat : Int) * 16777216)) rfl rfl rfl (by kernel_rfl) (by kernel_rfl) (by kernel_rfl) (by kernel_rfl) (fun _ _ _ h => h) (.inl ⟨by rfl, fun W hW => by obtain ⟨q0, q1, q2, q3⟩ := hW; go_simp; try rfl⟩) hS0 ?_
  try simp only [Act.put, List.setIfInBounds_toArray, List.set_cons_zero, List.set_cons_succ]
  refine wpAnyS_take (i := 22) (d := some 6) rfl rfl rfl (by kernel_rfl) (by kernel_rfl) (by kernel_rfl) (by kernel_rfl) (fun _ _ _ h => h) (.inl ⟨by rfl, fun W hW => by obtain ⟨q0, q1, q2, q3⟩ := hW; go_simp; try rfl⟩) hS0 ?_
  try simp only [Act.put, List.setIfInBounds_toArray, List.set_cons_zero, List.set_cons_succ]
  refine wpAnyS_done (by kernel_rfl) ?_ _
  rw [show (x3.toNat : Int) + (x4.toNat : Int) * 256 + (x5.toNat : Int) * 65536 + (x6.toNat : Int) * 16777216 = (N : Int) from sum4 x3.toNat x4.toNat x5.toNat x6.toNat 256 65536 16777216 N HS.out]
  clear l0 l1 l3 l4 l5 l6 hS0 i0 i1 i2 i3 i4 i5 i6 i7 i8 i9 u3 u4 u5 u6
  by_cases hbig : 65536 < N
  · have hb1 : (65536 : Int) < (N : Int) := by omega
    have HNO := Lib.hid (HM.out N HN.out (.inl hbig))
    go_wp2_with fail
    (try simp only [Exit.inBlock, Exit.then])
    refine bodyPost_ret (results_tmp4 rfl _ _ _) rfl ?_
    exact .inr ⟨HNO.out, ⟨_, by decide, rfl⟩, H2.out.2.2⟩
  have hb1 : ¬ (65536 : Int) < (N : Int) := by omega
  have hNb : N ≤ 65536 := by omega
  by_cases hsh : n < 11 + N
  · have hs2 : (n : Int) < 11 + (N : Int) := by omega
    have HNO := Lib.hid (HM.out N HN.out (.inr hsh))
    go_wp2_with fail
    (try simp only [Exit.inBlock, Exit.then])
    refine bodyPost_ret (results_tmp4 rfl _ _ _) rfl ?_
    exact .inr ⟨HNO.out, ⟨_, by decide, rfl⟩, H2.out.2.2⟩
  have hs2 : ¬ (n : Int) < 11 + (N : Int) := by omega
  have ck := H2.out.1
  obtain ⟨a5, c5, hs5, hS5⟩ := slice_mid21 (P := Tryz.prog) (ea := u8c) Tryz.underlying22 size_u8 (some ⟨bb, o, none⟩) n cap 11 (11 + N) hcap (by omega) (by omega)
  have hr5 : ∀ W, (Instr.slice 22 (.slice (some ⟨bb, o, none⟩) n cap) (some (.int .i64 11)) (some (.int .i64 (11 + (N : Int)))) none).run Tryz.prog W = .ok (.slice a5 N c5) W := fun W => by
    have := hs5 W
    rwa [show ((11 + N : Nat) : Int) = 11 + (N : Int) by omega, show 11 + N - 11 = N by omega] at this
  obtain ⟨a6, hs6, hS6⟩ := slice_to21 (P := Tryz.prog) (ea := u8c) Tryz.underlying22 size_u8 (some ⟨bb, o, none⟩) n cap (11 + N) hcap (by omega)
  have hr6 : ∀ W, (Instr.slice 22 (.slice (some ⟨bb, o, none⟩) n cap) none (some (.int .i64 (11 + (N : Int)))) none).run Tryz.prog W = .ok (.slice a6 (11 + N) cap) W := fun W => by
    have := hs6 W
    rwa [show ((11 + N : Nat) : Int) = 11 + (N : Int) by omega] at this
  obtain ⟨body, hbody⟩ : ∃ body, (b.take (11 + N)).drop 11 = body := ⟨_, rfl⟩
  have hq5 := hS5 W1 b hn H2.out.2.1
  rw [hbody, show 11 + N - 11 = N by omega] at hq5
  have hq6 := hS6 W1 b hn H2.out.2.1
  have hbl : body.length = N := by rw [← hbody, List.length_drop, List.length_take]; omega
  have hpl := HP.out N HN.out hNb (by omega)
  rw [hbody] at hpl
  have H5 := Lib.hid (And.intro hq5 (And.intro hq6 (And.intro hbl hpl)))
  clear hs5 hS5 hs6 hS6 hq5 hq6 hbl hpl hbody
  have h2n : (2 : Int) < (n : Int) := by omega
  have iN : IntKind.i64.wrap (11 + (N : Int)) = 11 + (N : Int) := IntWalk.i64_in _ (by omega)
  have hN0 : (0 : Int) ≤ 11 + (N : Int) := by omega
  go_wp2_with fail
  refine wp_region_s (fun W : World => W.cell? ⟨bb, o + 2, none⟩ = some (.int .u8 (k.toNat : Int))) (fun _ => false) (by kernel_rfl) ?_
  have hS0 : (fun W : World => W.cell? ⟨bb, o + 2, none⟩ = some (.int .u8 (k.toNat : Int))) W1.drew := ck
  have H2d : Hid (SliceIs u8c 1 W1.drew (.slice a5 N c5) body ∧ SliceIs u8c 1 W1.drew (.slice a6 (11 + N) cap) (b.take (11 + N)) ∧ Below w.heap.size w W1.drew) := Lib.hid ⟨H5.out.1.below (Below.refl _ _).drew, H5.out.2.1.below (Below.refl _ _).drew, H2.out.2.2.drew⟩
  clear ck
  generalize W1.drew = W2 at hS0 H2d ⊢
  refine wpAnyS_take (i := 0) (d := some 94) rfl rfl rfl (by kernel_rfl) (by kernel_rfl) (by kernel_rfl) (by kernel_rfl) (fun _ _ _ h => h) (.inl ⟨by rfl, fun W hW => by go_simp; try rfl⟩) hS0 ?_
  try simp only [Act.put, List.setIfInBounds_toArray, List.set_cons_zero, List.set_cons_succ]
  refine wpAnyS_take (i := 1) (d := some 95) (v := .pointer (some ⟨bb, o + 2, none⟩)) rfl rfl rfl (by kernel_rfl) (by kernel_rfl) (by kernel_rfl) (by kernel_rfl) (fun _ _ _ h => h) (.inl ⟨by rfl, fun W hW => by go_simp; try rfl⟩) hS0 ?_
  try simp only [Act.put, List.setIfInBounds_toArray, List.set_cons_zero, List.set_cons_succ]
  refine wpAnyS_take (i := 2) (d := some 96) rfl rfl rfl (by kernel_rfl) (by kernel_rfl) (by kernel_rfl) (by kernel_rfl) (fun _ _ _ h => h) (.inl ⟨by rfl, fun W hW => by go_simp; try rfl⟩) hS0 ?_
  try simp only [Act.put, List.setIfInBounds_toArray, List.set_cons_zero, List.set_cons_succ]
  refine wpAnyS_take (i := 3) (d := some 97) rfl rfl rfl (by kernel_rfl) (by kernel_rfl) (by kernel_rfl) (by kernel_rfl) (fun _ _ _ h => h) (.inl ⟨by rfl, fun W hW => by go_simp; try rfl⟩) hS0 ?_
  try simp only [Act.put, List.setIfInBounds_toArray, List.set_cons_zero, List.set_cons_succ]
  refine wpAnyS_take (i := 4) (d := some 98) rfl rfl rfl (by kernel_rfl) (by kernel_rfl) (by kernel_rfl) (by kernel_rfl) (fun _ _ _ h => h) (.inl ⟨by rfl, fun W hW => by go_simp; try rfl⟩) hS0 ?_
  try simp only [Act.put, List.setIfInBounds_toArray, List.set_cons_zero, List.set_cons_succ]
  refine wpAnyS_take (i := 5) (d := some 99) (v := .int .i64 (11 + (N : Int))) rfl rfl rfl (by kernel_rfl) (by kernel_rfl) (by kernel_rfl) (by kernel_rfl) (fun _ _ _ h => h) (.inl ⟨by rfl, fun W hW => by go_simp; try rfl⟩) hS0 ?_
  try simp only [Act.put, List.setIfInBounds_toArray, List.set_cons_zero, List.set_cons_succ]
  refine wpAnyS_take (i := 6) (d := some 100) (v := .slice a5 N c5) rfl rfl rfl (by kernel_rfl) (by kernel_rfl) (by kernel_rfl) (by kernel_rfl) (fun _ _ _ h => h) (.inl ⟨by rfl, fun W hW => by go_simp; try rfl⟩) hS0 ?_
  try simp only [Act.put, List.setIfInBounds_toArray, List.set_cons_zero, List.set_cons_succ]
  refine wpAnyS_call (i := 7) (d := some 101) (f := 67) (args := #[.int .u8 (k.toNat : Int), .slice a5 N c5]) (w' := W2) (by kernel_rfl) rfl rfl (by rfl) (by go_simp; try rfl) ?_
  refine (rwrap_any k _ body _ H2d.out.1).mono ?_
  rintro e w3 (⟨_, v3, rfl, own3, b3⟩ | ⟨h, _⟩)
  rotate_left
  · exact absurd h (by rw [H5.out.2.2.1]; omega)
  obtain ⟨⟨sa, sn, sc⟩, e3⟩ := own3.sl
  dsimp only at e3
  subst e3
  have hS3 : (fun W : World => W.cell? ⟨bb, o + 2, none⟩ = some (.int .u8 (k.toNat : Int))) w3 := keepB b3 hS0
  refine ⟨_, rfl, fun _ => hS3, ?_⟩
  try simp only [Act.put, List.setIfInBounds_toArray, List.set_cons_zero, List.set_cons_succ]
  refine wpAnyS_take (i := 8) (d := some 93) rfl rfl rfl (by kernel_rfl) (by kernel_rfl) (by kernel_rfl) (by kernel_rfl) (fun _ _ _ h => h) (.inl ⟨by rfl, fun W hW => by go_simp; try rfl⟩) hS3 ?_
  try simp only [Act.put, List.setIfInBounds_toArray, List.set_cons_zero, List.set_cons_succ]
  refine wpAnyS_take (i := 9) (d := some 102) (v := .slice sa sn sc) rfl rfl rfl (by kernel_rfl) (by kernel_rfl) (by kernel_rfl) (by kernel_rfl) (fun _ _ _ h => h) (.inl ⟨by rfl, fun W hW => by go_simp; try rfl⟩) hS3 ?_
  try simp only [Act.put, List.setIfInBounds_toArray, List.set_cons_zero, List.set_cons_succ]
  refine wpAnyS_take (i := 10) (d := some 103) (v := .int .i64 0) rfl rfl rfl (by kernel_rfl) (by kernel_rfl) (by kernel_rfl) (by kernel_rfl) (fun _ _ _ h => h) (.inl ⟨by rfl, fun W hW => by go_simp; try rfl⟩) hS3 ?_
  try simp only [Act.put, List.setIfInBounds_toArray, List.set_cons_zero, List.set_cons_succ]
  refine wpAnyS_take (i := 11) (d := some 7) rfl rfl rfl (by kernel_rfl) (by kernel_rfl) (by kernel_rfl) (by kernel_rfl) (fun _ _ _ h => h) (.inl ⟨by rfl, fun W hW => by go_simp; try rfl⟩) hS3 ?_
  try simp only [Act.put, List.setIfInBounds_toArray, List.set_cons_zero, List.set_cons_succ]
  refine wpAnyS_take (i := 12) (d := some 8) rfl rfl rfl (by kernel_rfl) (by kernel_rfl) (by kernel_rfl) (by kernel_rfl) (fun _ _ _ h => h) (.inl ⟨by rfl, fun W hW => by go_simp; try rfl⟩) hS3 ?_
  try simp only [Act.put, List.setIfInBounds_toArray, List.set_cons_zero, List.set_cons_succ]
  refine wpAnyS_done (by kernel_rfl) ?_ _
  have H3 := Lib.hid (And.intro (own3.slice u8c_len) (And.intro (H2d.out.2.1.below b3) (And.intro (H2d.out.1.below b3) (And.intro hS3 (H2d.out.2.2.trans (b3.mono H2d.out.2.2.size))))))
  clear own3 b3 hS3 hS0
  go_wp2_with fail
  refine wp_region_s (fun W : World => SliceIs u8c 1 W (.slice sa sn sc) (wrapB k body) ∧ SliceIs u8c 1 W (.slice a6 (11 + N) cap) (b.take (11 + N))) (fun _ => false) (by kernel_rfl) ?_
  have hS0 : (fun W : World => SliceIs u8c 1 W (.slice sa sn sc) (wrapB k body) ∧ SliceIs u8c 1 W (.slice a6 (11 + N) cap) (b.take (11 + N))) w3.drew := ⟨H3.out.1.below (Below.refl _ _).drew, H3.out.2.1.below (Below.refl _ _).drew⟩
  have H4 : Hid (w3.drew.cell? ⟨bb, o + 2, none⟩ = some (.int .u8 (k.toNat : Int)) ∧ SliceIs u8c 1 w3.drew (.slice a5 N c5) body ∧ Below w.heap.size w w3.drew) := Lib.hid ⟨H3.out.2.2.2.1, H3.out.2.2.1.below (Below.refl _ _).drew, H3.out.2.2.2.2.drew⟩
  clear H3
  generalize w3.drew = W4 at hS0 H4 ⊢
  by_cases heq : wrapB k body = b.take (11 + N)
  rotate_left
  · have HNO := Lib.hid (H5.out.2.2.2.2 heq)
    have HQ := Lib.hid heq
    clear heq
    refine wpAnyS_take (i := 0) (d := some 104) rfl rfl rfl (by kernel_rfl) (by kernel_rfl) (by kernel_rfl) (by kernel_rfl) (fun _ _ _ h => h) (.inl ⟨by rfl, fun W hW => by obtain ⟨q0, q1⟩ := hW; go_simp; try rfl⟩) hS0 ?_
    try simp only [Act.put, List.setIfInBounds_toArray, List.set_cons_zero, List.set_cons_succ]
    refine wpAnyS_take (i := 1) (d := some 105) (v := .string ⟨(wrapB k body).toArray⟩) rfl rfl rfl (by kernel_rfl) (by kernel_rfl) (by kernel_rfl) (by kernel_rfl) (fun _ _ _ h => h) (.inl ⟨by rfl, fun W hW => by obtain ⟨q0, q1⟩ := hW; have q3 := conv_bytes q0; go_simp; try rfl⟩) hS0 ?_
    try simp only [Act.put, List.setIfInBounds_toArray, List.set_cons_zero, List.set_cons_succ]
    refine wpAnyS_take (i := 2) (d := some 106) rfl rfl rfl (by kernel_rfl) (by kernel_rfl) (by kernel_rfl) (by kernel_rfl) (fun _ _ _ h => h) (.inl ⟨by rfl, fun W hW => by obtain ⟨q0, q1⟩ := hW; go_simp; try rfl⟩) hS0 ?_
    try simp only [Act.put, List.setIfInBounds_toArray, List.set_cons_zero, List.set_cons_succ]
    refine wpAnyS_take (i := 3) (d := some 107) rfl rfl rfl (by kernel_rfl) (by kernel_rfl) (by kernel_rfl) (by kernel_rfl) (fun _ _ _ h => h) (.inl ⟨by rfl, fun W hW => by obtain ⟨q0, q1⟩ := hW; go_simp; try rfl⟩) hS0 ?_
    try simp only [Act.put, List.setIfInBounds_toArray, List.set_cons_zero, List.set_cons_succ]
    refine wpAnyS_take (i := 4) (d := some 108) (v := .int .i64 (11 + (N : Int))) rfl rfl rfl (by kernel_rfl) (by kernel_rfl) (by kernel_rfl) (by kernel_rfl) (fun _ _ _ h => h) (.inl ⟨by rfl, fun W hW => by obtain ⟨q0, q1⟩ := hW; go_simp; try rfl⟩) hS0 ?_
    try simp only [Act.put, List.setIfInBounds_toArray, List.set_cons_zero, List.set_cons_succ]
    refine wpAnyS_take (i := 5) (d := some 109) (v := .slice a6 (11 + N) cap) rfl rfl rfl (by kernel_rfl) (by kernel_rfl) (by kernel_rfl) (by kernel_rfl) (fun _ _ _ h => h) (.inl ⟨by rfl, fun W hW => by obtain ⟨q0, q1⟩ := hW; go_simp; try rfl⟩) hS0 ?_
    try simp only [Act.put, List.setIfInBounds_toArray, List.set_cons_zero, List.set_cons_succ]
    refine wpAnyS_take (i := 6) (d := some 110) (v := .string ⟨(b.take (11 + N)).toArray⟩) rfl rfl rfl (by kernel_rfl) (by kernel_rfl) (by kernel_rfl) (by kernel_rfl) (fun _ _ _ h => h) (.inl ⟨by rfl, fun W hW => by obtain ⟨q0, q1⟩ := hW; have q3 := conv_bytes q1; go_simp; try rfl⟩) hS0 ?_
    try simp only [Act.put, List.setIfInBounds_toArray, List.set_cons_zero, List.set_cons_succ]
    refine wpAnyS_take (i := 7) (d := some 111) (v := .bool true) rfl rfl rfl (by kernel_rfl) (by kernel_rfl) (by kernel_rfl) (by kernel_rfl) (fun _ _ _ h => h) (.inl ⟨by rfl, fun W hW => by obtain ⟨q0, q1⟩ := hW; have q4 := HQ.out; go_simp; try rfl⟩) hS0 ?_
    try simp only [Act.put, List.setIfInBounds_toArray, List.set_cons_zero, List.set_cons_succ]
    refine wpAnyS_done (by kernel_rfl) ?_ _
    clear hS0
    go_wp2_with fail
    (try simp only [Exit.inBlock, Exit.then])
    refine bodyPost_ret (results_tmp4 rfl _ _ _) rfl ?_
    exact .inr ⟨HNO.out, ⟨_, by decide, rfl⟩, H4.out.2.2⟩
  have HYES := Lib.hid (H5.out.2.2.2.1 heq)
  have HQ := Lib.hid heq
  clear heq
  refine wpAnyS_take (i := 0) (d := some 104) rfl rfl rfl (by kernel_rfl) (by kernel_rfl) (by kernel_rfl) (by kernel_rfl) (fun _ _ _ h => h) (.inl ⟨by rfl, fun W hW => by obtain ⟨q0, q1⟩ := hW; go_simp; try rfl⟩) hS0 ?_
  try simp only [Act.put, List.setIfInBounds_toArray, List.set_cons_zero, List.set_cons_succ]
  refine wpAnyS_take (i := 1) (d := some 105) (v := .string ⟨(wrapB k body).toArray⟩) rfl rfl rfl (by kernel_rfl) (by kernel_rfl) (by kernel_rfl) (by kernel_rfl) (fun _ _ _ h => h) (.inl ⟨by rfl, fun W hW => by obtain ⟨q0, q1⟩ := hW; have q3 := conv_bytes q0; go_simp; try rfl⟩) hS0 ?_
  try simp only [Act.put, List.setIfInBounds_toArray, List.set_cons_zero, List.set_cons_succ]
  refine wpAnyS_take (i := 2) (d := some 106) rfl rfl rfl (by kernel_rfl) (by kernel_rfl) (by kernel_rfl) (by kernel_rfl) (fun _ _ _ h => h) (.inl ⟨by rfl, fun W hW => by obtain ⟨q0, q1⟩ := hW; go_simp; try rfl⟩) hS0 ?_
  try simp only [Act.put, List.setIfInBounds_toArray, List.set_cons_zero, List.set_cons_succ]
  refine wpAnyS_take (i := 3) (d := some 107) rfl rfl rfl (by kernel_rfl) (by kernel_rfl) (by kernel_rfl) (by kernel_rfl) (fun _ _ _ h => h) (.inl ⟨by rfl, fun W hW => by obtain ⟨q0, q1⟩ := hW; go_simp; try rfl⟩) hS0 ?_
  try simp only [Act.put, List.setIfInBounds_toArray, List.set_cons_zero, List.set_cons_succ]
  refine wpAnyS_take (i := 4) (d := some 108) (v := .int .i64 (11 + (N : Int))) rfl rfl rfl (by kernel_rfl) (by kernel_rfl) (by kernel_rfl) (by kernel_rfl) (fun _ _ _ h => h) (.inl ⟨by rfl, fun W hW => by obtain ⟨q0, q1⟩ := hW; go_simp; try rfl⟩) hS0 ?_
  try simp only [Act.put, List.setIfInBounds_toArray, List.set_cons_zero, List.set_cons_succ]
  refine wpAnyS_take (i := 5) (d := some 109) (v := .slice a6 (11 + N) cap) rfl rfl rfl (by kernel_rfl) (by kernel_rfl) (by kernel_rfl) (by kernel_rfl) (fun _ _ _ h => h) (.inl ⟨by rfl, fun W hW => by obtain ⟨q0, q1⟩ := hW; go_simp; try rfl⟩) hS0 ?_
  try simp only [Act.put, List.setIfInBounds_toArray, List.set_cons_zero, List.set_cons_succ]
  refine wpAnyS_take (i := 6) (d := some 110) (v := .string ⟨(b.take (11 + N)).toArray⟩) rfl rfl rfl (by kernel_rfl) (by kernel_rfl) (by kernel_rfl) (by kernel_rfl) (fun _ _ _ h => h) (.inl ⟨by rfl, fun W hW => by obtain ⟨q0, q1⟩ := hW; have q3 := conv_bytes q1; go_simp; try rfl⟩) hS0 ?_
  try simp only [Act.put, List.setIfInBounds_toArray, List.set_cons_zero, List.set_cons_succ]
  refine wpAnyS_take (i := 7) (d := some 111) (v := .bool false) rfl rfl rfl (by kernel_rfl) (by kernel_rfl) (by kernel_rfl) (by kernel_rfl) (fun _ _ _ h => h) (.inl ⟨by rfl, fun W hW => by obtain ⟨q0, q1⟩ := hW; have q4 := HQ.out; go_simp; try rfl⟩) hS0 ?_
  try simp only [Act.put, List.setIfInBounds_toArray, List.set_cons_zero, List.set_cons_succ]
  refine wpAnyS_done (by kernel_rfl) ?_ _
  clear hS0
  go_wp2_with fail
  refine wp_region_s (fun W : World => W.cell? ⟨bb, o + 2, none⟩ = some (.int .u8 (k.toNat : Int))) (fun _ => false) (by kernel_rfl) ?_
  have hS0 : (fun W : World => W.cell? ⟨bb, o + 2, none⟩ = some (.int .u8 (k.toNat : Int))) W4.drew := H4.out.1
  have H6 : Hid (SliceIs u8c 1 W4.drew (.slice a5 N c5) body ∧ Below w.heap.size w W4.drew) := Lib.hid ⟨H4.out.2.1.below (Below.refl _ _).drew, H4.out.2.2.drew⟩
  clear H4
  generalize W4.drew = W5 at hS0 H6 ⊢
  refine wpAnyS_take (i := 0) (d := some 112) rfl rfl rfl (by kernel_rfl) (by kernel_rfl) (by kernel_rfl) (by kernel_rfl) (fun _ _ _ h => h) (.inl ⟨by rfl, fun W hW => by go_simp; try rfl⟩) hS0 ?_
  try simp only [Act.put, List.setIfInBounds_toArray, List.set_cons_zero, List.set_cons_succ]
  refine wpAnyS_take (i := 1) (d := some 113) (v := .pointer (some ⟨bb, o + 2, none⟩)) rfl rfl rfl (by kernel_rfl) (by kernel_rfl) (by kernel_rfl) (by kernel_rfl) (fun _ _ _ h => h) (.inl ⟨by rfl, fun W hW => by go_simp; try rfl⟩) hS0 ?_
  try simp only [Act.put, List.setIfInBounds_toArray, List.set_cons_zero, List.set_cons_succ]
  refine wpAnyS_take (i := 2) (d := some 114) rfl rfl rfl (by kernel_rfl) (by kernel_rfl) (by kernel_rfl) (by kernel_rfl) (fun _ _ _ h => h) (.inl ⟨by rfl, fun W hW => by go_simp; try rfl⟩) hS0 ?_
  try simp only [Act.put, List.setIfInBounds_toArray, List.set_cons_zero, List.set_cons_succ]
  refine wpAnyS_take (i := 4) (d := some 116) rfl rfl rfl (by kernel_rfl) (by kernel_rfl) (by kernel_rfl) (by kernel_rfl) (fun _ _ _ h => h) (.inl ⟨by rfl, fun W hW => by go_simp; try rfl⟩) hS0 ?_
  try simp only [Act.put, List.setIfInBounds_toArray, List.set_cons_zero, List.set_cons_succ]
  refine wpAnyS_take (i := 5) (d := some 117) rfl rfl rfl (by kernel_rfl) (by kernel_rfl) (by kernel_rfl) (by kernel_rfl) (fun _ _ _ h => h) (.inl ⟨by rfl, fun W hW => by go_simp; try rfl⟩) hS0 ?_
  try simp only [Act.put, List.setIfInBounds_toArray, List.set_cons_zero, List.set_cons_succ]
  refine wpAnyS_take (i := 6) (d := some 118) (v := .int .i64 (11 + (N : Int))) rfl rfl rfl (by kernel_rfl) (by kernel_rfl) (by kernel_rfl) (by kernel_rfl) (fun _ _ _ h => h) (.inl ⟨by rfl, fun W hW => by go_simp; try rfl⟩) hS0 ?_
  try simp only [Act.put, List.setIfInBounds_toArray, List.set_cons_zero, List.set_cons_succ]
  refine wpAnyS_take (i := 7) (d := some 119) (v := .slice a5 N c5) rfl rfl rfl (by kernel_rfl) (by kernel_rfl) (by kernel_rfl) (by kernel_rfl) (fun _ _ _ h => h) (.inl ⟨by rfl, fun W hW => by go_simp; try rfl⟩) hS0 ?_
  try simp only [Act.put, List.setIfInBounds_toArray, List.set_cons_zero, List.set_cons_succ]
  refine wpAnyS_take (i := 9) (d := some 121) rfl rfl rfl (by kernel_rfl) (by kernel_rfl) (by kernel_rfl) (by kernel_rfl) (fun _ _ _ h => h) (.inl ⟨by rfl, fun W hW => by go_simp; try rfl⟩) hS0 ?_
  try simp only [Act.put, List.setIfInBounds_toArray, List.set_cons_zero, List.set_cons_succ]
  refine wpAnyS_take (i := 10) (d := some 122) (v := .int .i64 (11 + (N : Int))) rfl rfl rfl (by kernel_rfl) (by kernel_rfl) (by kernel_rfl) (by kernel_rfl) (fun _ _ _ h => h) (.inl ⟨by rfl, fun W hW => by go_simp; try rfl⟩) hS0 ?_
  try simp only [Act.put, List.setIfInBounds_toArray, List.set_cons_zero, List.set_cons_succ]
  have b6 : Below W5.heap.size W5 (W5.alloc (.cells #[] 5)) := (Below.refl _ _).alloc (Nat.le_refl _) _
  refine wpAnyS_ran (i := 3) (d := some 115) (v := .slice (some ⟨W5.heap.size, 0, none⟩) 0 0) (w' := W5.alloc (.cells #[] 5)) (by kernel_rfl) rfl rfl (by rfl) (by go_simp; try rfl) (fun _ => keepB b6 hS0) ?_
  try simp only [Act.put, List.setIfInBounds_toArray, List.set_cons_zero, List.set_cons_succ]
  obtain ⟨⟨ua, un, uc⟩, w7, hr7, own7, b7, z7⟩ := bytes_append (own_noB (base := W5.heap.size) (Nat.le_refl _)) b6 (H6.out.1.below b6) b6.size (by simp; omega)
  rw [List.nil_append] at own7
  refine wpAnyS_ran (i := 8) (d := some 120) (v := .slice ua un uc) (w' := w7) (by kernel_rfl) rfl rfl (by rfl) (exec_append rfl rfl rfl hr7) (fun _ => keepB b7 hS0) ?_
  try simp only [Act.put, List.setIfInBounds_toArray, List.set_cons_zero, List.set_cons_succ]
  have hS7 : (fun W : World => W.cell? ⟨bb, o + 2, none⟩ = some (.int .u8 (k.toNat : Int))) w7 := keepB b7 hS0
  refine wpAnyS_take (i := 11) (d := some 2) rfl rfl rfl (by kernel_rfl) (by kernel_rfl) (by kernel_rfl) (by kernel_rfl) (fun _ _ _ h => h) (.inl ⟨by rfl, fun W hW => by go_simp; try rfl⟩) hS7 ?_
  try simp only [Act.put, List.setIfInBounds_toArray, List.set_cons_zero, List.set_cons_succ]
  refine wpAnyS_take (i := 12) (d := some 3) rfl rfl rfl (by kernel_rfl) (by kernel_rfl) (by kernel_rfl) (by kernel_rfl) (fun _ _ _ h => h) (.inl ⟨by rfl, fun W hW => by go_simp; try rfl⟩) hS7 ?_
  try simp only [Act.put, List.setIfInBounds_toArray, List.set_cons_zero, List.set_cons_succ]
  refine wpAnyS_take (i := 13) (d := some 4) rfl rfl rfl (by kernel_rfl) (by kernel_rfl) (by kernel_rfl) (by kernel_rfl) (fun _ _ _ h => h) (.inl ⟨by rfl, fun W hW => by go_simp; try rfl⟩) hS7 ?_
  try simp only [Act.put, List.setIfInBounds_toArray, List.set_cons_zero, List.set_cons_succ]
  refine wpAnyS_take (i := 14) (d := some 5) rfl rfl rfl (by kernel_rfl) (by kernel_rfl) (by kernel_rfl) (by kernel_rfl) (fun _ _ _ h => h) (.inl ⟨by rfl, fun W hW => by go_simp; try rfl⟩) hS7 ?_
  try simp only [Act.put, List.setIfInBounds_toArray, List.set_cons_zero, List.set_cons_succ]
  refine wpAnyS_done (by kernel_rfl) ?_ _
  have HFIN := Lib.hid (And.intro (own7.mono H6.out.2.size) (H6.out.2.trans (b7.mono H6.out.2.size)))
  clear own7 b7 b6 hS7 hS0 hr5 hr6 hr7 z7
  go_wp2_with fail
  (try simp only [Exit.inBlock, Exit.then])
  refine bodyPost_ret (results_tmp4 rfl _ _ _) rfl ?_
  refine .inl ⟨k, body, _, HYES.out, ?_, HFIN.out.1, HFIN.out.2⟩
  have e11 : ((11 + body.length : Nat) : Int) = 11 + (N : Int) := by rw [H5.out.2.2.1]; omega
  rw [e11]
  rfl
end Go.Proofs.YtgmdimbiipemhaaGreatDoor
namespace Go.Proofs.YtgmdimbiipemhaaGreatDoor
open Go.RowKit Go.Deep
set_option linter.unusedSimpArgs false
set_option linter.unusedVariables false
set_option maxRecDepth 20000 in
set_option maxHeartbeats 8000000 in
theorem rhear_any (v : Value) (b : List UInt8) (w : World) (h : SliceIs u8c 1 w v b) : Calls Tryz.prog 20 #[v] w fun e w' => HearPost w b e w' := by
  obtain ⟨a, cap, rfl, hcap, hmax, -⟩ := id h
  unfold maxLen at hmax
  obtain ⟨n, hn⟩ : ∃ n, b.length = n := ⟨_, rfl⟩
  rw [hn] at h hcap ⊢
  have HN0 := Lib.hid hn
  have H0 : Hid (SliceIs u8c 1 (w.alloc (.cells (vecN zero8) 32)) (.slice a n cap) b ∧ VecAt (w.alloc (.cells (vecN zero8) 32)) w.heap.size zero8 ∧ Below w.heap.size w (w.alloc (.cells (vecN zero8) 32)) ∧ w.heap.size < (w.alloc (.cells (vecN zero8) 32)).heap.size) := Lib.hid (by
    have hb : Below w.heap.size w (w.alloc (.cells (vecN zero8) 32)) := (Below.refl _ _).alloc (Nat.le_refl _) _
    exact ⟨h.below hb, VecAt.new w (vs := zero8) rfl, hb, by simp⟩)
  clear h hn
  go_enter Tryz.func20, Tryz.ntmps20
  go_wp2_with fail
  refine (rtaken_any _ b _ H0.out.1).mono ?_
  rintro e w2 (⟨k, body, v2, ht, rfl, own2, b2⟩ | ⟨hno, ⟨c, hc, rfl⟩, b2⟩)
  rotate_left
  · have HT := Lib.hid (H0.out.2.1.below b2)
    have HB : Hid (Below w.heap.size w w2) := Lib.hid (H0.out.2.2.1.trans (b2.mono H0.out.2.2.1.size))
    have HNO := Lib.hid (hearP_none hno)
    clear b2 hno
    have hT0 := HT.out.1
    go_wp2_with (with_reducible refine wpList_store_row rfl _ _ _ rfl w.heap.size (vecN zero8) rfl rfl _ _ hT0 (vec_size8 rfl) rfl (vecN_one _) ?_)
    (try simp only [Exit.inBlock, Exit.then])
    refine bodyPost_ret (results_cell3 rfl _ _ _ w.heap.size _ (vecN zero8) _ _ rfl (setRow_heap _ _ _ _ _ _ HT.out.1) rfl Tryz.underlying32 (vec_size8 rfl)) rfl ?_
    exact .inr ⟨HNO.out, rfl, Ext.new HB.out (ext_setRow1 _ _ _) (fun i hi _ e => by omega) HB.out.size⟩
  obtain ⟨⟨ta, tn, tc⟩, e2⟩ := own2.sl
  dsimp only at e2
  subst e2
  have htn := (own2.nlen u8c_len).1
  have hts := (own2.slice u8c_len).n_eq.2
  have H2 : Hid (SliceIs u8c 1 w2 (.slice ta tn tc) body ∧ w.heap.size < w2.heap.size ∧ body.length = tn) := Lib.hid ⟨own2.slice u8c_len, Nat.lt_of_lt_of_le H0.out.2.2.2 b2.size, htn.symm⟩
  have HT := Lib.hid (H0.out.2.1.below b2)
  have HB : Hid (Below w.heap.size w w2) := Lib.hid (H0.out.2.2.1.trans (b2.mono H0.out.2.2.1.size))
  have HTK := Lib.hid ht
  clear own2 b2 ht
  obtain ⟨q, hq⟩ : ∃ q, 11 + body.length = q := ⟨_, rfl⟩
  rw [hq]
  have HQ := Lib.hid hq
  clear hq htn
  by_cases hqn : q = n
  rotate_left
  · have hqn1 : ¬ (q : Int) = (n : Int) := by omega
    have HNO := Lib.hid (hearP_len HTK.out (by rw [HQ.out, HN0.out]; exact hqn))
    clear hqn
    have hT0 := HT.out.1
    go_wp2_with (with_reducible refine wpList_store_row rfl _ _ _ rfl w.heap.size (vecN zero8) rfl rfl _ _ hT0 (vec_size8 rfl) rfl (vecN_one _) ?_)
    (try simp only [Exit.inBlock, Exit.then])
    refine bodyPost_ret (results_cell3 rfl _ _ _ w.heap.size _ (vecN zero8) _ _ rfl (setRow_heap _ _ _ _ _ _ HT.out.1) rfl Tryz.underlying32 (vec_size8 rfl)) rfl ?_
    exact .inr ⟨HNO.out, rfl, Ext.new HB.out (ext_setRow1 _ _ _) (fun i hi _ e => by omega) HB.out.size⟩
  subst hqn
  have HL : Hid (11 + body.length = b.length) := Lib.hid (by rw [HQ.out, HN0.out])
  have hkl := k.toNat_lt
  by_cases hk71 : k = 71
  · have hk2 : (k.toNat : Int) = 71 := by rw [hk71]; rfl
    have HP := Lib.hid (hearP_give (by rw [← hk71]; exact HTK.out) HL.out)
    clear hk71
    go_wp2_with fail
    refine (rdecode8_any _ body w2 H2.out.1).mono ?_
    rintro e w3 (⟨l, x, hd, rfl, own3, b3⟩ | ⟨hd, rfl, b3⟩)
    rotate_left
    · have HNO : Hid (hearP b = none) := Lib.hid (by rw [HP.out, hd])
      have HT3 := Lib.hid (HT.out.below b3)
      have HB3 : Hid (Below w.heap.size w w3) := Lib.hid (HB.out.trans (b3.mono HB.out.size))
      clear b3 hd
      have hT0 := HT3.out.1
      go_wp2_with (with_reducible refine wpList_store_row rfl _ _ _ rfl w.heap.size (vecN zero8) rfl rfl _ _ hT0 (vec_size8 rfl) rfl (vecN_one _) ?_)
      (try simp only [Exit.inBlock, Exit.then])
      refine bodyPost_ret (results_cell3 rfl _ _ _ w.heap.size _ (vecN zero8) _ _ rfl (setRow_heap _ _ _ _ _ _ HT3.out.1) rfl Tryz.underlying32 (vec_size8 rfl)) rfl ?_
      exact .inr ⟨HNO.out, rfl, Ext.new HB3.out (ext_setRow1 _ _ _) (fun i hi _ e => by omega) HB3.out.size⟩
    obtain ⟨⟨xa, xn, xc⟩, e3⟩ := own3.sl
    dsimp only at e3
    subst e3
    obtain rfl : xn = l.length := (own3.nlen OpD.len).1
    have HT3 := Lib.hid (HT.out.below b3)
    have HB3 : Hid (Below w.heap.size w w3) := Lib.hid (HB.out.trans (b3.mono HB.out.size))
    have HOB := Lib.hid own3
    clear own3 b3
    by_cases hl : l = []
    · have hl0 : (l.length : Int) = 0 := by rw [hl]; rfl
      have HNO : Hid (hearP b = none) := Lib.hid (by rw [HP.out, hd]; exact if_pos hl)
      clear hl hd
      have hT0 := HT3.out.1
      go_wp2_with (with_reducible refine wpList_store_row rfl _ _ _ rfl w.heap.size (vecN zero8) rfl rfl _ _ hT0 (vec_size8 rfl) rfl (vecN_one _) ?_)
      (try simp only [Exit.inBlock, Exit.then])
      refine bodyPost_ret (results_cell3 rfl _ _ _ w.heap.size _ (vecN zero8) _ _ rfl (setRow_heap _ _ _ _ _ _ HT3.out.1) rfl Tryz.underlying32 (vec_size8 rfl)) rfl ?_
      exact .inr ⟨HNO.out, rfl, Ext.new HB3.out (ext_setRow1 _ _ _) (fun i hi _ e => by omega) HB3.out.size⟩
    have hl0 : ¬ (l.length : Int) = 0 := by have := List.length_pos_iff.2 hl; omega
    have HYES : Hid (hearP b = some (zero8, l)) := Lib.hid (by rw [HP.out, hd]; exact if_neg hl)
    have HXX : Hid (Own OpD.cells 26 68 w.heap.size (w3.setRow w.heap.size (vecN zero8)) (.slice xa l.length xc) l) := Lib.hid ((HOB.out.ext (ext_setRow1 w3 w.heap.size (vecN zero8)) (fun i hi e => by have := (HOB.out.blk i hi).1; have := H2.out.2.1; omega)).mono HB.out.size)
    clear hl hd
    have hT0 := HT3.out.1
    go_wp2_with (with_reducible refine wpList_store_row rfl _ _ _ rfl w.heap.size (vecN zero8) rfl rfl _ _ hT0 (vec_size8 rfl) rfl (vecN_one _) ?_)
    (try simp only [Exit.inBlock, Exit.then])
    refine bodyPost_ret (results_cell3 rfl _ _ _ w.heap.size _ (vecN zero8) _ _ rfl (setRow_heap _ _ _ _ _ _ HT3.out.1) rfl Tryz.underlying32 (vec_size8 rfl)) rfl ?_
    exact .inl ⟨zero8, l, _, HYES.out, rfl, rfl, HXX.out, Ext.new HB3.out (ext_setRow1 _ _ _) (fun i hi _ e => by omega) HB3.out.size⟩
  have hk2 : ¬ (k.toNat : Int) = 71 := fun e => hk71 (UInt8.toNat_inj.1 (show k.toNat = 71 by omega))
  have hkb : ((k.toNat : Int) == 71) = false := by simpa using hk2
  have HK71 := Lib.hid hk71
  have HBAD : Hid (numsR 8 body = none → hearP b = none) := Lib.hid (fun h => by
    by_cases h65 : k = 65
    · rw [hearP_ask (by rw [← h65]; exact HTK.out) HL.out, h]; rfl
    · exact hearP_kind HTK.out h65 HK71.out)
  have H1 : Hid (VecAt (w2.alloc (.cells (vecN zero8) 32)) w2.heap.size ([] ++ List.replicate (8 - 0) 0) ∧ Below w2.heap.size w2 (w2.alloc (.cells (vecN zero8) 32))) := Lib.hid ⟨VecAt.new w2 (vs := zero8) rfl, (Below.refl _ _).alloc (Nat.le_refl _) _⟩
  clear hk71
  go_wp2_with fail
  go_loopg [12, 13] 8 (fun gg uv iv wr => ∃ (j u : Nat) (vs : List Nat), gg = 8 - j ∧ j ≤ 8 ∧ u ≤ tn ∧ uv = .int .i64 u ∧ iv = .int .i64 j ∧ Hid (vs.length = j ∧ numsR 8 body = (numsR (8 - j) (body.drop u)).map (vs ++ ·) ∧ Below w2.heap.size w2 wr) ∧ Hid (VecAt wr w2.heap.size (vs ++ List.replicate (8 - j) 0)))
  case atStart => exact ⟨0, 0, [], rfl, by omega, by omega, rfl, rfl, Lib.hid ⟨rfl, by rw [List.drop_zero]; cases numsR 8 body <;> simp, H1.out.2⟩, Lib.hid H1.out.1⟩
  case round =>
    clear H1
    obtain ⟨j, u, vs, hg, hj, hu, rfl, rfl, HK, HV⟩ := hrel
    have HG := Lib.hid hg
    clear hg
    have hts2 := hts.1
    have HTR := Lib.hid (HT.out.below HK.out.2.2)
    have HBR : Hid (Below w.heap.size w wr) := Lib.hid (HB.out.trans (HK.out.2.2.mono HB.out.size))
    by_cases hlt : j < 8
    · have hj1 : (j : Int) < 8 := by omega
      obtain ⟨a4, c4, hs4, hS4, -⟩ := slice_from (P := Tryz.prog) (ea := u8c) Tryz.underlying22 size_u8 ta tn tc u hts2 hu
      have hq4 := hS4 wr body H2.out.2.2 (H2.out.1.below HK.out.2.2)
      have HQ4 := Lib.hid hq4
      clear hS4 hq4
      go_wp2_with fail
      refine (rtake_any _ (body.drop u) wr HQ4.out).mono ?_
      rintro e w5 ⟨rfl, b5⟩
      have HT5 := Lib.hid (HTR.out.below b5)
      have HB5 : Hid (Below w.heap.size w w5) := Lib.hid (HBR.out.trans (b5.mono HBR.out.size))
      have HK5 : Hid (Below w2.heap.size w2 w5) := Lib.hid (HK.out.2.2.trans (b5.mono HK.out.2.2.size))
      have HV5 := Lib.hid (HV.out.below b5)
      clear b5
      cases hv : takeV (body.drop u) with
      | none =>
        have hR := takeR_none (takeV_none.1 hv)
        have HNO : Hid (hearP b = none) := Lib.hid (HBAD.out (by rw [HK.out.2.1, show 8 - j = (8 - (j + 1)) + 1 by omega, numsR_none hv]; rfl))
        rw [hR]
        clear hR hv hs4
        have hT0 := HT5.out.1
        go_wp2_with (with_reducible refine wpList_store_row rfl _ _ _ rfl w.heap.size (vecN zero8) rfl rfl _ _ hT0 (vec_size8 rfl) rfl (vecN_one _) ?_)
        (try simp only [Exit.inBlock, Exit.then])
        refine bodyPost_ret (results_cell3 rfl _ _ _ w.heap.size _ (vecN zero8) _ _ rfl (setRow_heap _ _ _ _ _ _ HT5.out.1) rfl Tryz.underlying32 (vec_size8 rfl)) rfl ?_
        exact .inr ⟨HNO.out, rfl, Ext.new HB5.out (ext_setRow1 _ _ _) (fun i hi _ e => by omega) HB5.out.size⟩
      | some x =>
        have hR := takeR_some (takeV_some.1 hv)
        have HX := Lib.hid hv
        have hpb : (putB x).length ≤ (body.drop u).length := (takeV_some.1 hv).2.length_le
        have hxlt := (takeV_some.1 hv).1
        rw [List.length_drop, H2.out.2.2] at hpb
        obtain ⟨p, hp⟩ : ∃ p, (putB x).length = p := ⟨_, rfl⟩
        rw [hp] at hR hpb
        have HU := Lib.hid hp
        rw [hR]
        clear hR hv hp hs4
        by_cases hbig : 1048576 < x
        · have hb1 : (1048576 : Int) < (x : Int) := by omega
          have HNO : Hid (hearP b = none) := Lib.hid (HBAD.out (by rw [HK.out.2.1, show 8 - j = (8 - (j + 1)) + 1 by omega, numsR_big HX.out hbig]; rfl))
          have hT0 := HT5.out.1
          go_wp2_with (with_reducible refine wpList_store_row rfl _ _ _ rfl w.heap.size (vecN zero8) rfl rfl _ _ hT0 (vec_size8 rfl) rfl (vecN_one _) ?_)
          (try simp only [Exit.inBlock, Exit.then])
          refine bodyPost_ret (results_cell3 rfl _ _ _ w.heap.size _ (vecN zero8) _ _ rfl (setRow_heap _ _ _ _ _ _ HT5.out.1) rfl Tryz.underlying32 (vec_size8 rfl)) rfl ?_
          exact .inr ⟨HNO.out, rfl, Ext.new HB5.out (ext_setRow1 _ _ _) (fun i hi _ e => by omega) HB5.out.size⟩
        have hb1 : ¬ (1048576 : Int) < (x : Int) := by omega
        have cv := HV5.out.cell (fill_get HK.out.1 hlt)
        have fv := HV5.out.free j
        have HNEW : Hid ((vs ++ [x]).length = j + 1 ∧ numsR 8 body = (numsR (8 - (j + 1)) (body.drop (u + p))).map ((vs ++ [x]) ++ ·) ∧ Below w2.heap.size w2 (w5.setCell ⟨w2.heap.size, j, none⟩ (.int .i64 (x : Int)))) := Lib.hid (by
          refine ⟨by rw [List.length_append, HK.out.1]; rfl, ?_, HK5.out.setCell (Nat.le_refl _) _⟩
          rw [HK.out.2.1, show 8 - j = (8 - (j + 1)) + 1 by omega, numsR_step HX.out hbig, HU.out, opt_map_map, List.drop_drop])
        have HVN : Hid (VecAt (w5.setCell ⟨w2.heap.size, j, none⟩ (.int .i64 (x : Int))) w2.heap.size ((vs ++ [x]) ++ List.replicate (8 - (j + 1)) 0)) := Lib.hid (by rw [← fill_step HK.out.1 hlt]; exact HV5.out.set)
        have hup : u + p ≤ tn := by omega
        go_wp2_with fail
        go_roundg (8 - (j + 1))
        case measure => rw [HG.out]; omega
        case rel => exact ⟨j + 1, u + p, vs ++ [x], rfl, by omega, hup, by go_num, by go_num, HNEW, HVN⟩
    · have hj1 : ¬ (j : Int) < 8 := by omega
      obtain rfl : j = 8 := by omega
      by_cases h65 : k = 65
      rotate_left
      · have hk3 : ¬ (k.toNat : Int) = 65 := fun e => h65 (UInt8.toNat_inj.1 (show k.toNat = 65 by omega))
        have HNO := Lib.hid (hearP_kind HTK.out h65 HK71.out)
        clear h65
        have hT0 := HTR.out.1
        go_wp2_with (with_reducible refine wpList_store_row rfl _ _ _ rfl w.heap.size (vecN zero8) rfl rfl _ _ hT0 (vec_size8 rfl) rfl (vecN_one _) ?_)
        (try simp only [Exit.inBlock, Exit.then])
        refine bodyPost_ret (results_cell3 rfl _ _ _ w.heap.size _ (vecN zero8) _ _ rfl (setRow_heap _ _ _ _ _ _ HTR.out.1) rfl Tryz.underlying32 (vec_size8 rfl)) rfl ?_
        exact .inr ⟨HNO.out, rfl, Ext.new HBR.out (ext_setRow1 _ _ _) (fun i hi _ e => by omega) HBR.out.size⟩
      have hk3 : (k.toNat : Int) = 65 := by rw [h65]; rfl
      have HP : Hid (hearP b = (numsR 8 body).map (fun vs => (vs, []))) := Lib.hid (hearP_ask (by rw [← h65]; exact HTK.out) HL.out)
      clear h65
      by_cases hun : u = tn
      rotate_left
      · have hu1 : ¬ (u : Int) = (tn : Int) := by omega
        have HNO : Hid (hearP b = none) := Lib.hid (HBAD.out (by
          rw [HK.out.2.1, Nat.sub_self, numsR_zero, if_neg (fun e => by have h1 := congrArg List.length e; rw [List.length_drop, H2.out.2.2, List.length_nil] at h1; omega)]
          rfl))
        clear hun
        have hT0 := HTR.out.1
        go_wp2_with (with_reducible refine wpList_store_row rfl _ _ _ rfl w.heap.size (vecN zero8) rfl rfl _ _ hT0 (vec_size8 rfl) rfl (vecN_one _) ?_)
        (try simp only [Exit.inBlock, Exit.then])
        refine bodyPost_ret (results_cell3 rfl _ _ _ w.heap.size _ (vecN zero8) _ _ rfl (setRow_heap _ _ _ _ _ _ HTR.out.1) rfl Tryz.underlying32 (vec_size8 rfl)) rfl ?_
        exact .inr ⟨HNO.out, rfl, Ext.new HBR.out (ext_setRow1 _ _ _) (fun i hi _ e => by omega) HBR.out.size⟩
      subst hun
      have HYES : Hid (numsR 8 body = some vs) := Lib.hid (by
        rw [HK.out.2.1, Nat.sub_self, numsR_zero, if_pos (List.drop_of_length_le (by rw [H2.out.2.2]; exact Nat.le_refl _))]
        simp)
      have hV8 := HV.out
      rw [Nat.sub_self, List.replicate_zero, List.append_nil] at hV8
      have HV8 := Lib.hid hV8
      clear hV8
      have hV1 := HV8.out.1
      have hT0 := HTR.out.1
      have hz8 := vec_size8 HV8.out.2
      have hold8 : (vecN zero8).size = (vecN vs).size := by rw [vecN_size, vecN_size, HV8.out.2]; rfl
      go_wp2_with (first | (refine wpList_load_row rfl 32 (.tmp 11) rfl w2.heap.size rfl _ _ _ _ hV1 Tryz.underlying32 rfl hz8 ?_) | (refine wpList_store_row rfl 32 (.tmp 2) (.tmp 85) rfl w.heap.size (vecN vs) rfl rfl _ _ hT0 hz8 hold8 (vecN_one _) ?_))
      (try simp only [Exit.inBlock, Exit.then])
      refine bodyPost_ret (results_cell3 rfl _ _ _ w.heap.size _ (vecN vs) _ _ rfl (setRow_heap _ _ _ _ _ _ HTR.out.1) rfl Tryz.underlying32 hz8) rfl ?_
      exact .inl ⟨vs, [], _, by rw [HP.out, HYES.out]; rfl, HV8.out.2, rfl, Own.nil, Ext.new HBR.out (ext_setRow1 _ _ _) (fun i hi _ e => by omega) HBR.out.size⟩
end Go.Proofs.YtgmdimbiipemhaaGreatDoor
namespace Go.Proofs.YtgmdimbiipemhaaGreatDoor
open Go.RowKit Go.Deep
set_option linter.unusedSimpArgs false
set_option linter.unusedVariables false
noncomputable def hearC (b : List UInt8) : Int := match hearP b with | none => 211 | some _ => 0
noncomputable def hearV (b : List UInt8) : List Nat := match hearP b with | none => zero8 | some p => p.1
noncomputable def hearO (b : List UInt8) : List OpD := match hearP b with | none => [] | some p => p.2
theorem HearPost.fn {w w' : World} {b : List UInt8} {e : Ending} (h : HearPost w b e w') : ∃ a n cap, e = .returned (.tuple #[vecV (hearV b), .slice a n cap, .int .i64 (hearC b)]) ∧ (hearV b).length = 8 ∧ SliceIs OpD.cells 26 w' (.slice a n cap) (hearO b) ∧ Below w.heap.size w w' := by
  unfold hearC hearV hearO
  rcases h with ⟨vs, l, x, hh, h8, rfl, ho, hb⟩ | ⟨hh, rfl, hb⟩
  · rw [hh]
    obtain ⟨⟨a, n, cap⟩, rfl⟩ := ho.sl
    exact ⟨a, n, cap, rfl, h8, ho.slice OpD.len, hb⟩
  · rw [hh]
    exact ⟨none, 0, 0, rfl, rfl, SliceIs.nil_any _ _ (by omega), hb⟩
set_option maxRecDepth 100000 in
set_option maxHeartbeats 16000000 in
theorem ghears_any (v : Value) (l : List UInt8) (w : World) (h : SliceIs u8c 1 w v l) (hg : ErrTy w) : Calls Tryz.prog 4 #[v] w fun e w' => e = .returned (.bool true) ∧ Below w.heap.size w w' := by
  obtain ⟨a, cap, rfl, hcap, hmax, -⟩ := id h
  unfold maxLen at hmax
  have HH := Lib.hid (And.intro h hg)
  clear h hg
  by_cases hbig : 20000 < l.length
  · have hb1 : (20000 : Int) < (l.length : Int) := by omega
    go_enter Tryz.func4, Tryz.ntmps4
    go_wp2_with fail
    refine (alive21_any _ HH.out.2).mono ?_
    rintro e w2 ⟨rfl, hb⟩
    have HB := Lib.hid hb
    clear hb
    go_wp2_with fail
    go_ret
    exact ⟨rfl, HB.out⟩
  have hb1 : ¬ (20000 : Int) < (l.length : Int) := by omega
  have hbA : Below w.heap.size w (w.alloc (.cells #[] 5)) := (Below.refl _ _).alloc (Nat.le_refl _) _
  obtain ⟨⟨sa, sn, sc⟩, w6, hr6, ho6, hb6, hz6⟩ := bytes_append (own_noB (Nat.le_refl _)) hbA (HH.out.1.below hbA) (by simp) (by simp; omega)
  have hbB := hb6.alloc hz6 (.cells #[.int .u8 (((77 : UInt8).toNat : Nat) : Int)] 5)
  have hm8 := own_made (base := w.heap.size) (W := w6) [77] hz6 (by simp)
  obtain ⟨⟨ta, tn, tc⟩, w8, hr8, ho8, hb8, hz8⟩ := bytes_append (ho6.below1 ((Below.refl _ _).alloc (Nat.le_refl _) _)) hbB (hm8.slice u8c_len) (by simp; omega) (by simp; omega)
  rw [List.nil_append] at ho8
  obtain ⟨ta2, tc2, et, hct, -, -⟩ := id (ho8.slice u8c_len)
  rcases ho8.eq_slice with ⟨_, e⟩ | ⟨g, gc, e8, hg1, hg2⟩
  · simp at e
  obtain ⟨rfl, rfl, rfl⟩ : ta = some ⟨g, 0, none⟩ ∧ tn = (l ++ [77]).length ∧ tc = tc2 := by
    injection e8 with e1 e2 e3
    injection et with e4 e5 e6
    exact ⟨e1, e2, e6⟩
  clear e8 et
  rw [List.length_append, List.length_singleton] at hct
  have H8 := Lib.hid (And.intro (ho8.slice u8c_len) (And.intro hb8 hz8))
  have hc8 : (l.length : Int) ≤ (tc : Int) := by omega
  have hc9 : (l.length : Int) + 1 ≤ (tc : Int) := by omega
  have HO : Hid (SliceIs u8c 1 w8 (.slice (some ⟨g, 0, none⟩) l.length tc) l) := Lib.hid (by
    have h1 := H8.out.1.take1 (k := l.length) (by simp)
    rwa [List.take_left] at h1)
  have h77 : ((77 : UInt8).toNat : Int) = 77 := rfl
  have hr8b : (Builtin.append_ #[22, 22] 22 #[.slice sa sn sc, .slice (some ⟨w6.heap.size, 0, none⟩) 1 1]).run Tryz.prog (w6.alloc (.cells #[.int .u8 77] 5)) = .ok (.slice (some ⟨g, 0, none⟩) (l ++ [77]).length tc) w8 := hr8
  clear hbA ho6 hb6 hz6 hbB ho8 hb8 hz8 hg1 hg2 h77 hm8 hr8
  go_enter Tryz.func4, Tryz.ntmps4
  go_wp2_with (first | (at_builtin; refine Lib.wpList_append_run _ rfl _ _ _ _ rfl _ _ rfl rfl _ _ hr6 ?_) | (at_builtin; refine Lib.wpList_append_run _ rfl _ _ _ _ rfl _ _ rfl rfl _ _ hr8b ?_))
  clear hr6 hr8b
  refine (hear_any _ l _ HO.out (HH.out.2.below H8.out.2.1)).mono ?_
  intro e w9 hp
  obtain ⟨pa, pn, pc, rfl, h8, hs9, hb9⟩ := hp.fn
  obtain ⟨n0, n1, n2, n3, n4, n5, n6, n7, hV⟩ := list8 h8
  have HV := Lib.hid hV
  rw [hV, vecV_eq]
  obtain ⟨C, hC⟩ : ∃ C, hearC l = C := ⟨_, rfl⟩
  have HC := Lib.hid hC
  rw [hC]
  have b10 : Below w9.heap.size w9 (w9.alloc (.cells #[.int .i64 (n0 : Int), .int .i64 (n1 : Int), .int .i64 (n2 : Int), .int .i64 (n3 : Int), .int .i64 (n4 : Int), .int .i64 (n5 : Int), .int .i64 (n6 : Int), .int .i64 (n7 : Int)] 32)) := (Below.refl _ _).alloc (Nat.le_refl _) _
  have hbx : VBox (w9.alloc (.cells #[.int .i64 (n0 : Int), .int .i64 (n1 : Int), .int .i64 (n2 : Int), .int .i64 (n3 : Int), .int .i64 (n4 : Int), .int .i64 (n5 : Int), .int .i64 (n6 : Int), .int .i64 (n7 : Int)] 32)) w9.heap.size [(n0 : Int), (n1 : Int), (n2 : Int), (n3 : Int), (n4 : Int), (n5 : Int), (n6 : Int), (n7 : Int)] := heap_new8 w9 _
  have H9 := Lib.hid (And.intro (hs9.below b10) (And.intro ((H8.out.2.1.trans (hb9.mono H8.out.2.1.size)).trans (b10.mono (Nat.le_trans H8.out.2.1.size hb9.size))) (And.intro ((HO.out.below hb9).below b10) (And.intro ((H8.out.1.below hb9).below b10) hbx))))
  clear hp hs9 hb9 HO H8 hV hC h8 b10 hbx
  go_wp2_with fail
  refine (rhear_any _ l _ (HH.out.1.below H9.out.2.1)).mono ?_
  intro e w11 hp
  obtain ⟨qa, qn, qc, rfl, h8, hs11, hb11⟩ := hp.fn
  rw [HV.out, vecV_eq, HC.out]
  have b12 : Below w11.heap.size w11 (w11.alloc (.cells #[.int .i64 (n0 : Int), .int .i64 (n1 : Int), .int .i64 (n2 : Int), .int .i64 (n3 : Int), .int .i64 (n4 : Int), .int .i64 (n5 : Int), .int .i64 (n6 : Int), .int .i64 (n7 : Int)] 32)) := (Below.refl _ _).alloc (Nat.le_refl _) _
  have hby : VBox (w11.alloc (.cells #[.int .i64 (n0 : Int), .int .i64 (n1 : Int), .int .i64 (n2 : Int), .int .i64 (n3 : Int), .int .i64 (n4 : Int), .int .i64 (n5 : Int), .int .i64 (n6 : Int), .int .i64 (n7 : Int)] 32)) w11.heap.size [(n0 : Int), (n1 : Int), (n2 : Int), (n3 : Int), (n4 : Int), (n5 : Int), (n6 : Int), (n7 : Int)] := heap_new8 w11 _
  have H11 := Lib.hid (And.intro (hs11.below b12) (And.intro ((H9.out.1.below hb11).below b12) (And.intro ((H9.out.2.1.trans (hb11.mono H9.out.2.1.size)).trans (b12.mono (Nat.le_trans H9.out.2.1.size hb11.size))) (And.intro ((H9.out.2.2.1.below hb11).below b12) (And.intro ((H9.out.2.2.2.1.below hb11).below b12) (And.intro ((H9.out.2.2.2.2.below hb11).below b12) hby))))))
  clear hp hs11 hb11 H9 h8 b12 hby
  go_wp2_with fail
  refine (same7_any _ _ _ _ _ H11.out.2.1 H11.out.1).mono ?_
  rintro e w13 ⟨rfl, hb13⟩
  simp only [decide_true]
  have H13 := Lib.hid (And.intro (H11.out.2.2.1.trans (hb13.mono H11.out.2.2.1.size)) (And.intro (H11.out.2.2.2.1.below hb13) (And.intro (H11.out.2.2.2.2.1.below hb13) (And.intro (H11.out.2.2.2.2.2.1.below hb13) (H11.out.2.2.2.2.2.2.below hb13)))))
  clear hb13 H11
  go_wp2_with fail
  refine (sameB_any H13.out.2.1 (HH.out.1.below H13.out.1)).mono ?_
  rintro e w14 ⟨rfl, rfl⟩
  simp only [decide_true]
  go_wp2_with fail
  refine (alive21_any _ (HH.out.2.below H13.out.1)).mono ?_
  rintro e w15 ⟨rfl, hb⟩
  have c77 : w15.cell? ⟨g, l.length, none⟩ = some (.int .u8 77) := by
    obtain ⟨a9, c9, e9, _, _, h9⟩ := H13.out.2.2.1.below hb
    cases e9
    obtain ⟨b9, o9, e9, h10⟩ := h9 (by simp)
    cases e9
    have := h10 l.length 77 (by simp) 0 _ rfl
    simpa using this
  obtain ⟨z0, z1, z2, z3, z4, z5, z6, z7⟩ := (H13.out.2.2.2.1.below hb).cells
  obtain ⟨y0, y1, y2, y3, y4, y5, y6, y7⟩ := (H13.out.2.2.2.2.below hb).cells
  have heq := fun W => run_eql_vec [(n0 : Int), (n1 : Int), (n2 : Int), (n3 : Int), (n4 : Int), (n5 : Int), (n6 : Int), (n7 : Int)] [(n0 : Int), (n1 : Int), (n2 : Int), (n3 : Int), (n4 : Int), (n5 : Int), (n6 : Int), (n7 : Int)] rfl rfl W
  simp only [List.map_cons, List.map_nil, decide_true] at heq
  have HZ := Lib.hid (H13.out.1.trans (hb.mono H13.out.1.size))
  clear hb H13
  have hl0 : (0 : Int) ≤ (l.length : Int) := by omega
  go_wp2_with fail
  go_ret
  exact ⟨rfl, HZ.out⟩
end Go.Proofs.YtgmdimbiipemhaaGreatDoor
