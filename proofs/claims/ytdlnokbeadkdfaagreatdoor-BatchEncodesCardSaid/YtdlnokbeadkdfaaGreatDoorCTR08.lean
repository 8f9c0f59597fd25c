/- column.TakeRuns: a contract. -/
import Derived.Test.YtdlnokbeadkdfaaGreatDoorTkP08
import Derived.Test.YtdlnokbeadkdfaaGreatDoorVar08
import Derived.Deep.LoopGhost
import Derived.Deep.QuietTactic
import Derived.Deep.CutBlock
import Derived.Deep.DeepCutAuto
namespace Go.Proofs.YtdlnokbeadkdfaaGreatDoor
open Go.RowKit Go.Deep
set_option linter.unusedSimpArgs false
set_option linter.unusedVariables false

set_option maxRecDepth 20000 in
set_option maxHeartbeats 4000000 in
theorem takeruns_any (v : Value) (b : List UInt8) (n : Nat) (w : World) (h : SliceIs u8c 1 w v b) (hn0 : n ≤ 65536) : Calls Tryz.prog 79 #[v, .int .i64 n] w fun e w' => TrPost w b n e w' := by
  obtain ⟨a, cap, rfl, hcap, hmax, -⟩ := id h
  unfold maxLen at hmax
  have HH := Lib.hid h
  clear h
  have hn1 : ¬ (n : Int) < 0 := by omega
  have hn2 : ¬ (65536 : Int) < (n : Int) := by omega
  go_enter Tryz.func79, Tryz.ntmps79
  go_wp2_with fail
  go_loopg [7, 8] n (fun g lv pv wr => ∃ (s : Sl) (l : List Int) (p : Nat), g = n - l.length ∧ lv = .slice s.a s.n s.cap ∧ pv = .int .i64 p ∧ s.n = l.length ∧ l.length ≤ n ∧ p ≤ b.length ∧ Hid (TR b n l p) ∧ Hid (Own intc 1 3 w.heap.size wr (.slice s.a s.n s.cap) l ∧ Below w.heap.size w wr))
  case atStart => exact ⟨⟨none, 0, 0⟩, [], 0, rfl, rfl, rfl, rfl, Nat.zero_le _, Nat.zero_le _, Lib.hid (TR.zero b n), Lib.hid ⟨Own.nil, Below.refl _ _⟩⟩
  case round =>
    obtain ⟨⟨sa, sn, sc⟩, l, p, hg, rfl, rfl, hsn, hln, hpb, HT, HU⟩ := hrel
    dsimp only at hsn HU ⊢
    subst hsn
    have HG := Lib.hid hg
    clear hg
    by_cases hlt : l.length < n
    · have hl1 : (l.length : Int) < (n : Int) := by omega
      obtain ⟨a1, c1, hsl, hS1, -⟩ := slice_from (P := Tryz.prog) (ea := u8c) Tryz.underlying34 size_u8 a b.length cap p hcap hpb
      have HS := Lib.hid (hS1 wr b rfl (HH.out.below HU.out.2))
      clear hS1
      go_wp2_with fail
      refine (take_any _ _ _ HS.out).mono ?_
      rintro e w5 ⟨rfl, e5⟩
      rw [← e5]
      clear e5 w5
      cases hk : takeV (b.drop p) with
      | none =>
        have hr : takeR (b.drop p) = .tuple #[.int .u64 0, .int .i64 0, .int .i64 31] := by unfold takeR; rw [hk]
        have HD := Lib.hid (HT.out.bad hlt (.inl hk))
        rw [hr]
        have HR := Lib.hid hr
        clear hk hr
        have hp00 : (p : Int) + 0 = (p : Int) := by omega
        go_wp2_with fail
        refine (take_any _ _ _ HS.out).mono ?_
        rintro e w5 ⟨rfl, e5⟩
        rw [← e5, HR.out]
        clear e5 w5 HS hsl
        go_wp2_with fail
        refine (zag_any 0 _ (by omega)).mono ?_
        rintro e w5 ⟨rfl, e5⟩
        rw [← e5]
        clear e5 w5
        go_wp2_with fail
        go_ret3
        exact .inr ⟨HD.out, rfl, HU.out.2⟩
      | some k =>
        have hr : takeR (b.drop p) = .tuple #[.int .u64 k, .int .i64 (putB k).length, .int .i64 0] := by unfold takeR; rw [hk]
        have hk64 := (takeV_some.1 hk).1
        have hqp := (takeV_some.1 hk).2.length_le
        rw [List.length_drop] at hqp
        have hq0 : 0 < (putB k).length := List.length_pos_iff.2 (putB_ne k)
        rw [hr]
        obtain ⟨q, hq⟩ : ∃ q, (putB k).length = q := ⟨_, rfl⟩
        rw [hq] at hqp hq0 ⊢
        obtain ⟨a2, c2, hsl2, hS2, -⟩ := slice_from (P := Tryz.prog) (ea := u8c) Tryz.underlying34 size_u8 a b.length cap (p + q) hcap (by omega)
        have HS2 := Lib.hid (hS2 wr b rfl (HH.out.below HU.out.2))
        simp only [Int.natCast_add] at hsl2
        clear hS2 hr HS hsl
        go_wp2_with fail
        refine (take_any _ _ _ HS2.out).mono ?_
        rintro e w5 ⟨rfl, e5⟩
        rw [← e5]
        clear e5 w5 HS2
        cases hv : takeV (b.drop (p + q)) with
        | none =>
          have hr : takeR (b.drop (p + q)) = .tuple #[.int .u64 0, .int .i64 0, .int .i64 31] := by unfold takeR; rw [hv]
          have HD := Lib.hid (HT.out.bad hlt (.inr ⟨k, hk, .inl (by rw [hq]; exact hv)⟩))
          rw [hr]
          clear hk hr hv hsl2 hq
          go_wp2_with fail
          refine (zag_any 0 _ (by omega)).mono ?_
          rintro e w5 ⟨rfl, e5⟩
          rw [← e5]
          clear e5 w5
          go_wp2_with fail
          go_ret3
          exact .inr ⟨HD.out, rfl, HU.out.2⟩
        | some v =>
          have hr : takeR (b.drop (p + q)) = .tuple #[.int .u64 v, .int .i64 (putB v).length, .int .i64 0] := by unfold takeR; rw [hv]
          have hv64 := (takeV_some.1 hv).1
          have hqp2 := (takeV_some.1 hv).2.length_le
          rw [List.length_drop] at hqp2
          rw [hr]
          have HBAD := Lib.hid (fun h => HT.out.bad hlt (.inr ⟨k, hk, .inr ⟨v, by rw [hq]; exact hv, h⟩⟩))
          have HSTEP := Lib.hid (fun h0 h1 h2 => HT.out.step hk (by rw [hq]; exact hv) h0 h1 h2)
          rw [hq] at HSTEP
          obtain ⟨q2, hq2⟩ : ∃ q2, (putB v).length = q2 := ⟨_, rfl⟩
          rw [hq2] at hqp2 HSTEP ⊢
          obtain ⟨x, hx⟩ : ∃ x, zagI v = x := ⟨_, rfl⟩
          rw [hx] at HBAD HSTEP
          have hQ : 0 < q ∧ p + q + q2 ≤ b.length := ⟨hq0, by omega⟩
          have HQ := Lib.hid hQ
          have hxin := zagI_in hv64
          rw [hx] at hxin
          clear hr hsl2 hk hv hq hq2 hqp hqp2 hq0 hQ
          go_wp2_with fail
          refine (zag_any v _ hv64).mono ?_
          rintro e w5 ⟨rfl, e5⟩
          rw [← e5, hx]
          clear e5 w5 hx
          obtain ⟨r, hrr⟩ : ∃ r : Nat, r = n - l.length := ⟨_, rfl⟩
          have hsub : (n : Int) - (l.length : Int) = (r : Int) := by omega
          by_cases hz : k = 0
          · have HD := Lib.hid (HBAD.out (.inl hz))
            have hz1 : ((k : Int) == 0) = true := by rw [hz]; rfl
            clear hz hrr hsub HBAD HSTEP
            go_wp2_with fail
            go_ret3
            exact .inr ⟨HD.out, rfl, HU.out.2⟩
          · have hz1 : ((k : Int) == 0) = false := by simpa using hz
            by_cases hkn : r < k
            · have hk1 : (r : Int) < (k : Int) := by omega
              have HD := Lib.hid (HBAD.out (.inr (.inl (by omega))))
              have hdk : decide (n - l.length < k) = true := decide_eq_true (by omega)
              clear hz hkn hrr HBAD HSTEP
              go_wp2_with fail
              go_ret3
              exact .inr ⟨HD.out, rfl, HU.out.2⟩
            · have hk1 : ¬ (r : Int) < (k : Int) := by omega
              have hdk : decide (n - l.length < k) = false := decide_eq_false (by omega)
              have hk65 : k ≤ 65536 := by omega
              have HKN : Hid (k ≤ n - l.length ∧ k ≠ 0) := Lib.hid ⟨by omega, hz⟩
              have hpq : IntKind.i64.wrap ((p : Int) + ((q : Int) + (q2 : Int))) = ((p + q + q2 : Nat) : Int) := by rw [IntWalk.i64_in _ (by have := HQ.out; omega)]; omega
              have HC := Lib.hid (repint_any x wr.heap.size 1 k (wr.alloc (.cells #[.int .i64 x] 3)) (int_new wr x 0 _ rfl) hk65 (Nat.le_refl _))
              by_cases hl0 : l.length = 0
              · have hl2 : ¬ (0 : Int) < (l.length : Int) := by omega
                have hl3 : decide (0 < l.length) = false := decide_eq_false (by omega)
                have HNX := Lib.hid (HSTEP.out HKN.out.2 HKN.out.1 (by rw [List.eq_nil_of_length_eq_zero hl0]; simp))
                clear hz hkn hrr hl0 HBAD HSTEP
                have hqs := HQ.out.2
                clear hpq
                go_wp2_with fail
                refine HC.out.mono ?_
                rintro e w6 ⟨v6, rfl, hown6, b6⟩
                have hb0 : Below w.heap.size w (wr.alloc (.cells #[.int .i64 x] 3)) := HU.out.2.alloc HU.out.2.size _
                obtain ⟨⟨ta, tn, tc⟩, w7, hr7, own7, b7, hsz7⟩ := ints_append ((HU.out.1.alloc _).below1 b6) (hb0.trans (b6.mono hb0.size)) (hown6.slice intc_len) (Nat.le_trans hb0.size b6.size) (by rw [List.length_replicate]; omega)
                have HX := Lib.hid (And.intro own7 b7)
                have HTN := Lib.hid (own7.nlen intc_len).1
                clear own7 b7 hown6 b6 hb0 HC hsz7
                go_wp2_with (at_builtin; refine Lib.wpList_append_run _ rfl _ _ _ _ rfl _ _ rfl rfl _ _ hr7 ?_)
                go_roundg (n - (l ++ List.replicate k x).length)
                case measure => rw [HG.out, List.length_append, List.length_replicate]; have h1 := HKN.out; omega
                case rel => exact ⟨⟨ta, tn, tc⟩, l ++ List.replicate k x, p + q + q2, rfl, rfl, by simp; omega, HTN.out, by rw [List.length_append, List.length_replicate]; have h1 := HKN.out.1; omega, HQ.out.2, HNX, HX⟩
              · obtain ⟨j, hj⟩ : ∃ j, l.length = j + 1 := ⟨l.length - 1, by omega⟩
                obtain ⟨y, hy⟩ : ∃ y, l[j]? = some y := ⟨_, List.getElem?_eq_getElem (by omega)⟩
                have hlast : l.getLast? = some y := by rw [List.getLast?_eq_getElem?, hj]; exact hy
                obtain ⟨bb, oo, rfl, c0⟩ := (HU.out.1.slice intc_len).at1 hy rfl
                have hl2 : (0 : Int) < (l.length : Int) := by omega
                have hl3 : decide (0 < l.length) = true := decide_eq_true (by omega)
                have hj1 : (l.length : Int) - 1 = (j : Int) := by omega
                have hj2 : l.length - 1 = j := by omega
                have hj3 : (j : Int) < (l.length : Int) := by omega
                clear hj
                by_cases hyx : y = x
                · have HD := Lib.hid (HBAD.out (.inr (.inr (by rw [hlast, hyx]))))
                  have hyy : (y == x) = true := by simpa using hyx
                  clear hz hkn hrr hl0 HBAD HSTEP hlast hy hyx HC
                  go_wp2_with fail
                  go_ret3
                  exact .inr ⟨HD.out, rfl, HU.out.2⟩
                · have HNX := Lib.hid (HSTEP.out HKN.out.2 HKN.out.1 (by rw [hlast]; exact fun e => hyx (Option.some.inj e)))
                  have hyy : (y == x) = false := by simpa using hyx
                  clear hz hkn hrr hl0 HBAD HSTEP hlast hy hyx
                  have hqs := HQ.out.2
                  clear hpq
                  go_wp2_with fail
                  refine HC.out.mono ?_
                  rintro e w6 ⟨v6, rfl, hown6, b6⟩
                  have hb0 : Below w.heap.size w (wr.alloc (.cells #[.int .i64 x] 3)) := HU.out.2.alloc HU.out.2.size _
                  obtain ⟨⟨ta, tn, tc⟩, w7, hr7, own7, b7, hsz7⟩ := ints_append ((HU.out.1.alloc _).below1 b6) (hb0.trans (b6.mono hb0.size)) (hown6.slice intc_len) (Nat.le_trans hb0.size b6.size) (by rw [List.length_replicate]; omega)
                  have HX := Lib.hid (And.intro own7 b7)
                  have HTN := Lib.hid (own7.nlen intc_len).1
                  clear own7 b7 hown6 b6 hb0 HC hsz7
                  go_wp2_with (at_builtin; refine Lib.wpList_append_run _ rfl _ _ _ _ rfl _ _ rfl rfl _ _ hr7 ?_)
                  go_roundg (n - (l ++ List.replicate k x).length)
                  case measure => rw [HG.out, List.length_append, List.length_replicate]; have h1 := HKN.out; omega
                  case rel => exact ⟨⟨ta, tn, tc⟩, l ++ List.replicate k x, p + q + q2, rfl, rfl, by simp; omega, HTN.out, by rw [List.length_append, List.length_replicate]; have h1 := HKN.out.1; omega, HQ.out.2, HNX, HX⟩
    · have hll : l.length = n := by omega
      have hl1 : ¬ (l.length : Int) < (n : Int) := by omega
      have HD := Lib.hid (HT.out.done hll)
      clear hll hlt
      go_wp2_with fail
      go_ret3
      exact .inl ⟨l, p, _, HD.out, rfl, HU.out.1, HU.out.2⟩

end Go.Proofs.YtdlnokbeadkdfaaGreatDoor
