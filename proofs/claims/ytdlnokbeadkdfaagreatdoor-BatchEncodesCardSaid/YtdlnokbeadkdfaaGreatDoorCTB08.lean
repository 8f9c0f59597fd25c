/- column.TakeBools: a contract. -/
import Derived.Test.YtdlnokbeadkdfaaGreatDoorTkP08
import Derived.Test.YtdlnokbeadkdfaaGreatDoorVar08
import Derived.Deep.LoopGhost
import Derived.Deep.QuietTactic
import Derived.Deep.CutBlock
import Derived.Deep.DeepCutAuto
namespace Go.Proofs.YtdlnokbeadkdfaaGreatDoor
open Go.RowKit Go.Deep
set_option linter.unusedSimpArgs false
set_option linter.unusedVariables false

set_option maxRecDepth 20000 in
set_option maxHeartbeats 1000000 in
theorem takebools_any (v : Value) (b : List UInt8) (n : Nat) (w : World) (h : SliceIs u8c 1 w v b) (hn0 : n ≤ 65536) : Calls Tryz.prog 82 #[v, .int .i64 n] w fun e w' => TbPost w b n e w' := by
  obtain ⟨a, cap, rfl, hcap, hmax, -⟩ := id h
  unfold maxLen at hmax
  have HH := Lib.hid h
  clear h
  have hn1 : ¬ (n : Int) < 0 := by omega
  have hn2 : ¬ (65536 : Int) < (n : Int) := by omega
  go_enter Tryz.func82, Tryz.ntmps82
  go_wp2_with fail
  go_loopg [7, 8, 9] (2 * n + 1) (fun g lv pv vv wr => ∃ (s : Sl) (l : List Bool) (p : Nat) (v : Bool), g = 2 * (n - l.length) + (if p = 0 then 1 else 0) ∧ lv = .slice s.a s.n s.cap ∧ pv = .int .i64 p ∧ vv = .bool v ∧ s.n = l.length ∧ l.length ≤ n ∧ p ≤ b.length ∧ Hid (TB b n l p v) ∧ Hid (Own btc 1 4 w.heap.size wr (.slice s.a s.n s.cap) l ∧ Below w.heap.size w wr))
  case atStart => exact ⟨⟨none, 0, 0⟩, [], 0, false, by simp, rfl, rfl, rfl, rfl, Nat.zero_le _, Nat.zero_le _, Lib.hid (TB.zero b n), Lib.hid ⟨Own.nil, Below.refl _ _⟩⟩
  case round =>
    obtain ⟨⟨sa, sn, sc⟩, l, p, v, hg, rfl, rfl, rfl, hsn, hln, hpb, HT, HU⟩ := hrel
    dsimp only at hsn HU ⊢
    subst hsn
    have HG := Lib.hid hg
    clear hg
    by_cases hlt : l.length < n
    · have hl1 : (l.length : Int) < (n : Int) := by omega
      obtain ⟨a1, c1, hsl, hS1, -⟩ := slice_from (P := Tryz.prog) (ea := u8c) Tryz.underlying34 size_u8 a b.length cap p hcap hpb
      have HS := Lib.hid (hS1 wr b rfl (HH.out.below HU.out.2))
      clear hS1
      go_wp2_with fail
      refine (take_any _ _ _ HS.out).mono ?_
      rintro e w5 ⟨rfl, e5⟩
      rw [← e5]
      clear e5 w5 HS
      cases hk : takeV (b.drop p) with
      | none =>
        have hr : takeR (b.drop p) = .tuple #[.int .u64 0, .int .i64 0, .int .i64 31] := by unfold takeR; rw [hk]
        have HD := Lib.hid (HT.out.bad hlt (.inl hk))
        rw [hr]
        clear hk hr hsl
        go_wp2_with fail
        go_ret3
        exact .inr ⟨HD.out, rfl, HU.out.2⟩
      | some k =>
        have hr : takeR (b.drop p) = .tuple #[.int .u64 k, .int .i64 (putB k).length, .int .i64 0] := by unfold takeR; rw [hk]
        have hk64 := (takeV_some.1 hk).1
        rw [hr]
        obtain ⟨q, hq⟩ : ∃ q, (putB k).length = q := ⟨_, rfl⟩
        rw [hq]
        obtain ⟨r, hrr⟩ : ∃ r : Nat, r = n - l.length := ⟨_, rfl⟩
        have hsub : (n : Int) - (l.length : Int) = (r : Int) := by omega
        by_cases hz : k = 0 ∧ p ≠ 0
        · obtain ⟨rfl, hp0⟩ := hz
          have hp4 : (0 : Int) < (p : Int) := by omega
          have HD := Lib.hid (HT.out.bad hlt (.inr ⟨0, hk, .inl ⟨rfl, hp0⟩⟩))
          clear hk hr hq hrr hp0 hsl
          go_wp2_with fail
          go_ret3
          exact .inr ⟨HD.out, rfl, HU.out.2⟩
        · have hz3 : ((k : Int) == 0) = false ∨ (((k : Int) == 0) = true ∧ ¬ (0 : Int) < (p : Int) ∧ decide (0 < p) = false) := by
            by_cases e : k = 0
            · have : p = 0 := Classical.byContradiction fun h => hz ⟨e, h⟩
              exact .inr ⟨by rw [e]; rfl, by omega, decide_eq_false (by omega)⟩
            · exact .inl (by have : ¬ (k : Int) = 0 := by omega
                             simpa using this)
          by_cases hkn : r < k
          · have hk1 : (r : Int) < (k : Int) := by omega
            have HD := Lib.hid (HT.out.bad hlt (.inr ⟨k, hk, .inr (by omega)⟩))
            clear hk hr hq hrr hkn hz hsl
            rcases hz3 with hz3 | ⟨hz3, hz4, hz5⟩
            all_goals
              go_wp2_with fail
              go_ret3
              exact .inr ⟨HD.out, rfl, HU.out.2⟩
          · have hk1 : ¬ (r : Int) < (k : Int) := by omega
            have HNX := Lib.hid (HT.out.step hlt hk hz (by omega))
            rw [hq] at HNX
            have hqp := (takeV_some.1 hk).2.length_le
            rw [hq, List.length_drop] at hqp
            have hq0 : 0 < q := by rw [← hq]; exact List.length_pos_iff.2 (putB_ne k)
            have HQ : Hid (0 < q ∧ p + q ≤ b.length) := Lib.hid ⟨hq0, by omega⟩
            have HKN : Hid (k ≤ n - l.length ∧ (k = 0 → p = 0)) := Lib.hid ⟨by omega, fun e => Classical.byContradiction fun h => hz ⟨e, h⟩⟩
            have hdk : decide (n - l.length < k) = false := decide_eq_false (by omega)
            have hk65 : k ≤ 65536 := by omega
            clear hk hr hq hqp hq0 hkn hz hsl hrr
            have hpq : IntKind.i64.wrap ((p : Int) + (q : Int)) = ((p + q : Nat) : Int) := by rw [IntWalk.i64_in _ (by have := HQ.out; omega)]; omega
            have HC := Lib.hid (repbt_any v wr.heap.size 1 k (wr.alloc (.cells #[.bool v] 4)) (bt_new wr v 0 _ rfl) hk65 (Nat.le_refl _))
            rcases hz3 with hz3 | ⟨hz3, hz4, hz5⟩
            all_goals
              go_wp2_with fail
              refine HC.out.mono ?_
              rintro e w6 ⟨v6, rfl, hown6, b6⟩
              have hb0 : Below w.heap.size w (wr.alloc (.cells #[.bool v] 4)) := HU.out.2.alloc HU.out.2.size _
              obtain ⟨⟨ta, tn, tc⟩, w7, hr7, own7, b7, hsz7⟩ := bools_append ((HU.out.1.alloc _).below1 b6) (hb0.trans (b6.mono hb0.size)) (hown6.slice btc_len) (Nat.le_trans hb0.size b6.size) (by rw [List.length_replicate]; omega)
              have HX := Lib.hid (And.intro own7 b7)
              have HTN := Lib.hid (own7.nlen btc_len).1
              clear own7 b7 hown6 b6 hb0 HC hsz7
              go_wp2_with (at_builtin; refine Lib.wpList_append_run _ rfl _ _ _ _ rfl _ _ rfl rfl _ _ hr7 ?_)
              go_roundg (2 * (n - (l ++ List.replicate k v).length) + (if p + q = 0 then 1 else 0))
              case measure => rw [HG.out, List.length_append, List.length_replicate, if_neg (by have := HQ.out; omega)]; have h1 := HKN.out; split <;> omega
              case rel => exact ⟨⟨ta, tn, tc⟩, l ++ List.replicate k v, p + q, !v, rfl, rfl, rfl, rfl, HTN.out, by rw [List.length_append, List.length_replicate]; have h1 := HKN.out.1; omega, HQ.out.2, HNX, HX⟩
    · have hll : l.length = n := by omega
      have hl1 : ¬ (l.length : Int) < (n : Int) := by omega
      have HD := Lib.hid (HT.out.done hll)
      clear hll hlt
      go_wp2_with fail
      go_ret3
      exact .inl ⟨l, p, _, HD.out, rfl, HU.out.1, HU.out.2⟩

end Go.Proofs.YtdlnokbeadkdfaaGreatDoor
