/- The document's Runs: a contract. -/
import Derived.Test.YtgmdimbiipemhaaGreatDoorRVar08
import Derived.Test.YtgmdimbiipemhaaGreatDoorAppB08
import Derived.Deep.LoopGhost
import Derived.Deep.QuietTactic
import Derived.Deep.CutBlock
import Derived.Deep.DeepCutAuto
import Derived.IntWalk
import Derived.Lib.AppendZeros
namespace Go.Proofs.YtgmdimbiipemhaaGreatDoor
open Go.RowKit Go.Deep
set_option linter.unusedSimpArgs false
set_option linter.unusedVariables false

theorem runsB_drop {l : List Int} {i : Nat} {x : Int} (hx : l[i]? = some x) : runsB (l.drop i) = putB (leadN x (l.drop i)) ++ putB (zigN x) ++ runsB (l.drop (i + leadN x (l.drop i))) := by
  have e : l.drop i = x :: l.drop (i + 1) := by
    have hi := (List.getElem?_eq_some_iff.1 hx)
    rw [← hi.2]
    exact List.drop_eq_getElem_cons hi.1
  have e2 : leadN x (l.drop i) = leadN x (l.drop (i + 1)) + 1 := by rw [e, leadN, if_pos rfl]
  rw [e2]
  conv => lhs; rw [e, runsB]
  congr 2
  rw [List.drop_drop]
  congr 1
  omega
theorem below_drewN {B : Nat} {w x : World} (h : Below B w x) (n : Nat) : Below B w (x.drewN n) := by
  induction n with
  | zero => exact h
  | succ n ih => exact ih.drew

set_option maxRecDepth 20000 in
set_option maxHeartbeats 1000000 in
theorem rruns_any (v : Value) (l : List Int) (w : World) (h : SliceIs intc 1 w v l) (hn : l.length ≤ 1000000000000) (hin : ∀ x ∈ l, -9223372036854775808 ≤ x ∧ x ≤ 9223372036854775807) : Calls Tryz.prog 108 #[v] w fun e w' => BytesPost w (runsB l) e w' := by
  obtain ⟨a, cap, rfl, hcap, hmax, -⟩ := id h
  unfold maxLen at hmax
  have HH := Lib.hid h
  have HL := Lib.hid (runsB_len _ l rfl (by omega) (fun x hx => zigN_lt (hin x hx).1 (hin x hx).2))
  have HIN := Lib.hid hin
  clear h hin
  go_enter Tryz.func108, Tryz.ntmps108
  go_wp2_with fail
  go_loopg [3, 4] l.length (fun g ov iv wr => ∃ (i : Nat) (s : Sl) (out : List UInt8), g = l.length - i ∧ ov = .slice s.a s.n s.cap ∧ iv = .int .i64 i ∧ i ≤ l.length ∧ Hid (runsB l = out ++ runsB (l.drop i)) ∧ Hid (Own u8c 1 5 w.heap.size wr (.slice s.a s.n s.cap) out ∧ Below w.heap.size w wr))
  case atStart => exact ⟨0, ⟨none, 0, 0⟩, [], rfl, rfl, rfl, Nat.zero_le _, Lib.hid rfl, Lib.hid ⟨Own.nil, Below.refl _ _⟩⟩
  case round =>
    obtain ⟨i, ⟨sa, sn, sc⟩, out, hg, rfl, rfl, hil, HE, HU⟩ := hrel
    dsimp only at HU ⊢
    have HG := Lib.hid hg
    clear hg
    by_cases hlt : i < l.length
    · have hi1 : (i : Int) < (l.length : Int) := by omega
      obtain ⟨x0, hx0⟩ : ∃ x, l[i]? = some x := ⟨_, List.getElem?_eq_getElem (by omega)⟩
      have HX0 := Lib.hid hx0
      clear hx0
      go_wp2_with fail
      go_loopg [5] (l.length - i) (fun g kv wx => ∃ k : Nat, g = l.length - k ∧ kv = .int .i64 k ∧ i ≤ k ∧ k ≤ l.length ∧ Hid (k - i ≤ leadN x0 (l.drop i)) ∧ Hid (Own u8c 1 5 w.heap.size wx (.slice sa sn sc) out ∧ Below w.heap.size w wx))
      case atStart => exact ⟨i, rfl, rfl, Nat.le_refl _, by omega, Lib.hid (by omega), HU⟩
      case round =>
        obtain ⟨k, hg2, rfl, hik, hkl, HC, HU⟩ := hrel
        have HG2 := Lib.hid hg2
        clear hg2
        have HUN : Hid (∀ n, Own u8c 1 5 w.heap.size (wr.drewN n) (.slice sa sn sc) out ∧ Below w.heap.size w (wr.drewN n)) := Lib.hid (fun n => ⟨HU.out.1.below1 (below_drewN (Below.refl _ _) n), below_drewN HU.out.2 n⟩)
        obtain ⟨bb, o, rfl, c1⟩ := (HH.out.below HU.out.2).at1 HX0.out rfl
        by_cases hk : k < l.length
        · have hk1 : (k : Int) < (l.length : Int) := by omega
          obtain ⟨x, hx⟩ : ∃ x, l[k]? = some x := ⟨_, List.getElem?_eq_getElem (by omega)⟩
          obtain ⟨bb2, o2, e2, c0⟩ := (HH.out.below HU.out.2).at1 hx rfl
          cases e2
          have HX := Lib.hid (lead_go hik HC.out hx)
          clear hx
          by_cases hxv : x = x0
          · have HC2 := Lib.hid (HX.out.1 hxv)
            clear HX
            subst hxv
            have hs1 : (x == x) = true := by simp
            go_upto_region 5 with fail
            go_quiet (fail)
            have HN := Lib.hid (HUN.out nq)
            go_wp2_with fail
            go_roundg (l.length - (k + 1))
            case measure => rw [HG2.out]; omega
            case rel => exact ⟨k + 1, rfl, by simp, by omega, by omega, HC2, HN⟩
          · have HM := Lib.hid (HX.out.2 hxv)
            have hs1 : (x == x0) = false := by simpa using hxv
            clear hxv
            obtain ⟨m, hm⟩ : ∃ m, m = k - i := ⟨_, rfl⟩
            have hsub : ((k : Nat) : Int) - (i : Int) = (m : Int) := by omega
            have hm64 : m < 18446744073709551616 := by omega
            have hmm : m = leadN x0 (l.drop i) := hm.trans HM.out
            have hm0 : 0 < m := by
              have h1 := HX0.out
              have e : l.drop i = x0 :: l.drop (i + 1) := by
                have hi := (List.getElem?_eq_some_iff.1 h1)
                rw [← hi.2]
                exact List.drop_eq_getElem_cons hi.1
              rw [hmm, e, leadN, if_pos rfl]
              omega
            have hki : k = i + m := by omega
            have hE2 : runsB l = ((out ++ putB m) ++ putB (zigN x0)) ++ runsB (l.drop (k)) := by rw [HE.out, runsB_drop HX0.out, ← hmm, hki]; simp
            have HE2 := Lib.hid hE2
            have hin := HIN.out x0 (List.mem_of_getElem? HX0.out)
            have hz64 := zigN_lt hin.1 hin.2
            have hlen : out.length + (putB m).length ≤ 140737488355328 ∧ (out ++ putB m).length + (putB (zigN x0)).length ≤ 140737488355328 := by have h1 := HL.out; rw [hE2, List.length_append, List.length_append, List.length_append] at h1; rw [List.length_append]; omega
            have HLEN := Lib.hid hlen
            have HKI := Lib.hid (show i < k from by omega)
            clear hm hmm hE2 hlen hm0 hki
            go_upto_region 5 with fail
            go_quiet (fail)
            have HN0 := Lib.hid (HUN.out nq)
            generalize wr.drewN nq = W0 at HN0 ⊢
            clear HU HUN hs1 c1 c0
            go_wp2_with fail
            refine (rput_any m _ hm64).mono ?_
            rintro e w5 ⟨v5, rfl, hown5, b5⟩
            obtain ⟨⟨ta, tn, tc⟩, w6, hr6, own6, b6, hsz6⟩ := bytes_append (HN0.out.1.below1 b5) (HN0.out.2.trans (b5.mono HN0.out.2.size)) (hown5.slice u8c_len) (Nat.le_trans HN0.out.2.size b5.size) HLEN.out.1
            have HN := Lib.hid (And.intro own6 b6)
            obtain ⟨bb6, o6, e6, c6⟩ := (HH.out.below b6).at1 HX0.out rfl
            cases e6
            clear own6 b6 hown5 b5 hsub
            go_wp2_with (at_builtin; refine Lib.wpList_append_run _ rfl _ _ _ _ rfl _ _ rfl rfl _ _ hr6 ?_)
            clear hr6 c6
            refine (rzig_any x0 _ hin.1 hin.2).mono ?_
            rintro e w7 ⟨rfl, rfl⟩
            go_wp2_with fail
            refine (rput_any _ _ hz64).mono ?_
            rintro e w8 ⟨v8, rfl, hown8, b8⟩
            obtain ⟨⟨ua, un, uc⟩, w9, hr9, own9, b9, hsz9⟩ := bytes_append (HN.out.1.below1 b8) (HN.out.2.trans (b8.mono HN.out.2.size)) (hown8.slice u8c_len) (Nat.le_trans HN.out.2.size b8.size) HLEN.out.2
            have HN2 := Lib.hid (And.intro own9 b9)
            clear own9 b9 hown8 b8 HN HN0 hsz6 hsz9 hin
            go_wp2_with (at_builtin; refine Lib.wpList_append_run _ rfl _ _ _ _ rfl _ _ rfl rfl _ _ hr9 ?_)
            go_roundg (l.length - k)
            case measure => rw [HG.out]; have := HKI.out; omega
            case rel => exact ⟨k, ⟨ua, un, uc⟩, _, rfl, rfl, rfl, by omega, HE2, HN2⟩
        · have hkk : k = l.length := by omega
          have hk1 : ¬ (k : Int) < (l.length : Int) := by omega
          have hkk2 : k = l.length := hkk
          go_upto_region 5 with fail
          have hS0 : (fun _ : World => True) wr.drew := trivial
          refine wp_region_s (fun _ => True) (fun _ => false) (by kernel_rfl) ?_
          refine wpAnyS_take (i := 0) (d := some 11) rfl rfl rfl (by kernel_rfl) (by kernel_rfl) (by kernel_rfl) (by kernel_rfl) (fun _ _ _ h => h) (.inl ⟨by rfl, fun W hW => by go_simp; try rfl⟩) hS0 ?_
          try simp only [Act.put, List.setIfInBounds_toArray, List.set_cons_zero, List.set_cons_succ]
          refine wpAnyS_take (i := 1) (d := some 12) rfl rfl rfl (by kernel_rfl) (by kernel_rfl) (by kernel_rfl) (by kernel_rfl) (fun _ _ _ h => h) (.inl ⟨by rfl, fun W hW => by go_simp; try rfl⟩) hS0 ?_
          try simp only [Act.put, List.setIfInBounds_toArray, List.set_cons_zero, List.set_cons_succ]
          refine wpAnyS_take (i := 2) (d := some 13) (v := .int .i64 l.length) rfl rfl rfl (by kernel_rfl) (by kernel_rfl) (by kernel_rfl) (by kernel_rfl) (fun _ _ _ h => h) (.inl ⟨by rfl, fun W hW => by go_simp; try rfl⟩) hS0 ?_
          try simp only [Act.put, List.setIfInBounds_toArray, List.set_cons_zero, List.set_cons_succ]
          refine wpAnyS_take (i := 3) (d := some 14) (v := .bool false) rfl rfl rfl (by kernel_rfl) (by kernel_rfl) (by kernel_rfl) (by kernel_rfl) (fun _ _ _ h => h) (.inl ⟨by rfl, fun W hW => by go_simp; try rfl⟩) hS0 ?_
          try simp only [Act.put, List.setIfInBounds_toArray, List.set_cons_zero, List.set_cons_succ]
          refine wpAnyS_take (i := 4) (d := some 15) (v := .bool false) rfl rfl rfl (by kernel_rfl) (by kernel_rfl) (by kernel_rfl) (by kernel_rfl) (fun _ _ _ h => h) (.inl ⟨by rfl, fun W hW => by go_simp; try rfl⟩) hS0 ?_
          try simp only [Act.put, List.setIfInBounds_toArray, List.set_cons_zero, List.set_cons_succ]
          refine wpAnyS_take (i := 5) (d := some 16) (v := undef) rfl rfl rfl (by kernel_rfl) (by kernel_rfl) (by kernel_rfl) (by kernel_rfl) (fun _ _ _ h => h) (.inr ⟨by rfl, rfl⟩) hS0 ?_
          try simp only [Act.put, List.setIfInBounds_toArray, List.set_cons_zero, List.set_cons_succ]
          refine wpAnyS_take (i := 6) (d := some 17) (v := undef) rfl rfl rfl (by kernel_rfl) (by kernel_rfl) (by kernel_rfl) (by kernel_rfl) (fun _ _ _ h => h) (.inr ⟨by rfl, rfl⟩) hS0 ?_
          try simp only [Act.put, List.setIfInBounds_toArray, List.set_cons_zero, List.set_cons_succ]
          refine wpAnyS_take (i := 7) (d := some 18) (v := undef) rfl rfl rfl (by kernel_rfl) (by kernel_rfl) (by kernel_rfl) (by kernel_rfl) (fun _ _ _ h => h) (.inr ⟨by rfl, rfl⟩) hS0 ?_
          try simp only [Act.put, List.setIfInBounds_toArray, List.set_cons_zero, List.set_cons_succ]
          refine wpAnyS_take (i := 8) (d := some 19) (v := undef) rfl rfl rfl (by kernel_rfl) (by kernel_rfl) (by kernel_rfl) (by kernel_rfl) (fun _ _ _ h => h) (.inr ⟨by rfl, rfl⟩) hS0 ?_
          try simp only [Act.put, List.setIfInBounds_toArray, List.set_cons_zero, List.set_cons_succ]
          refine wpAnyS_take (i := 9) (d := some 20) (v := undef) rfl rfl rfl (by kernel_rfl) (by kernel_rfl) (by kernel_rfl) (by kernel_rfl) (fun _ _ _ h => h) (.inr ⟨by rfl, rfl⟩) hS0 ?_
          try simp only [Act.put, List.setIfInBounds_toArray, List.set_cons_zero, List.set_cons_succ]
          refine wpAnyS_take (i := 10) (d := some 21) (v := undef) rfl rfl rfl (by kernel_rfl) (by kernel_rfl) (by kernel_rfl) (by kernel_rfl) (fun _ _ _ h => h) (.inr ⟨by rfl, rfl⟩) hS0 ?_
          try simp only [Act.put, List.setIfInBounds_toArray, List.set_cons_zero, List.set_cons_succ]
          refine wpAnyS_take (i := 11) (d := some 22) (v := undef) rfl rfl rfl (by kernel_rfl) (by kernel_rfl) (by kernel_rfl) (by kernel_rfl) (fun _ _ _ h => h) (.inr ⟨by rfl, rfl⟩) hS0 ?_
          try simp only [Act.put, List.setIfInBounds_toArray, List.set_cons_zero, List.set_cons_succ]
          refine wpAnyS_take (i := 12) (d := some 23) (v := undef) rfl rfl rfl (by kernel_rfl) (by kernel_rfl) (by kernel_rfl) (by kernel_rfl) (fun _ _ _ h => h) (.inr ⟨by rfl, rfl⟩) hS0 ?_
          try simp only [Act.put, List.setIfInBounds_toArray, List.set_cons_zero, List.set_cons_succ]
          refine wpAnyS_take (i := 13) (d := some 24) (v := undef) rfl rfl rfl (by kernel_rfl) (by kernel_rfl) (by kernel_rfl) (by kernel_rfl) (fun _ _ _ h => h) (.inr ⟨by rfl, rfl⟩) hS0 ?_
          try simp only [Act.put, List.setIfInBounds_toArray, List.set_cons_zero, List.set_cons_succ]
          refine wpAnyS_take (i := 14) (d := some 25) (v := .bool false) rfl rfl rfl (by kernel_rfl) (by kernel_rfl) (by kernel_rfl) (by kernel_rfl) (fun _ _ _ h => h) (.inl ⟨by rfl, fun W hW => by go_simp; try rfl⟩) hS0 ?_
          try simp only [Act.put, List.setIfInBounds_toArray, List.set_cons_zero, List.set_cons_succ]
          refine wpAnyS_done (by kernel_rfl) ?_ _
          clear hS0
          have HM : Hid (k - i = leadN x0 (l.drop i)) := Lib.hid (by have h1 := HC.out; rw [hkk] at h1 ⊢; exact lead_end (by omega) h1)
          clear hk hkk hkk2
          obtain ⟨m, hm⟩ : ∃ m, m = k - i := ⟨_, rfl⟩
          have hsub : ((k : Nat) : Int) - (i : Int) = (m : Int) := by omega
          have hm64 : m < 18446744073709551616 := by omega
          have hmm : m = leadN x0 (l.drop i) := hm.trans HM.out
          have hm0 : 0 < m := by
            have h1 := HX0.out
            have e : l.drop i = x0 :: l.drop (i + 1) := by
              have hi := (List.getElem?_eq_some_iff.1 h1)
              rw [← hi.2]
              exact List.drop_eq_getElem_cons hi.1
            rw [hmm, e, leadN, if_pos rfl]
            omega
          have hki : k = i + m := by omega
          have hE2 : runsB l = ((out ++ putB m) ++ putB (zigN x0)) ++ runsB (l.drop (k)) := by rw [HE.out, runsB_drop HX0.out, ← hmm, hki]; simp
          have HE2 := Lib.hid hE2
          have hin := HIN.out x0 (List.mem_of_getElem? HX0.out)
          have hz64 := zigN_lt hin.1 hin.2
          have hlen : out.length + (putB m).length ≤ 140737488355328 ∧ (out ++ putB m).length + (putB (zigN x0)).length ≤ 140737488355328 := by have h1 := HL.out; rw [hE2, List.length_append, List.length_append, List.length_append] at h1; rw [List.length_append]; omega
          have HLEN := Lib.hid hlen
          have HKI := Lib.hid (show i < k from by omega)
          clear hm hmm hE2 hlen hm0 hki
          have HN0 := Lib.hid (HUN.out 1)
          change Hid (Own u8c 1 5 w.heap.size wr.drew (.slice sa sn sc) out ∧ Below w.heap.size w wr.drew) at HN0
          generalize wr.drew = W0 at HN0 ⊢
          clear HU HUN c1 
          go_wp2_with fail
          refine (rput_any m _ hm64).mono ?_
          rintro e w5 ⟨v5, rfl, hown5, b5⟩
          obtain ⟨⟨ta, tn, tc⟩, w6, hr6, own6, b6, hsz6⟩ := bytes_append (HN0.out.1.below1 b5) (HN0.out.2.trans (b5.mono HN0.out.2.size)) (hown5.slice u8c_len) (Nat.le_trans HN0.out.2.size b5.size) HLEN.out.1
          have HN := Lib.hid (And.intro own6 b6)
          obtain ⟨bb6, o6, e6, c6⟩ := (HH.out.below b6).at1 HX0.out rfl
          cases e6
          clear own6 b6 hown5 b5 hsub
          go_wp2_with (at_builtin; refine Lib.wpList_append_run _ rfl _ _ _ _ rfl _ _ rfl rfl _ _ hr6 ?_)
          clear hr6 c6
          refine (rzig_any x0 _ hin.1 hin.2).mono ?_
          rintro e w7 ⟨rfl, rfl⟩
          go_wp2_with fail
          refine (rput_any _ _ hz64).mono ?_
          rintro e w8 ⟨v8, rfl, hown8, b8⟩
          obtain ⟨⟨ua, un, uc⟩, w9, hr9, own9, b9, hsz9⟩ := bytes_append (HN.out.1.below1 b8) (HN.out.2.trans (b8.mono HN.out.2.size)) (hown8.slice u8c_len) (Nat.le_trans HN.out.2.size b8.size) HLEN.out.2
          have HN2 := Lib.hid (And.intro own9 b9)
          clear own9 b9 hown8 b8 HN HN0 hsz6 hsz9 hin
          go_wp2_with (at_builtin; refine Lib.wpList_append_run _ rfl _ _ _ _ rfl _ _ rfl rfl _ _ hr9 ?_)
          go_roundg (l.length - k)
          case measure => rw [HG.out]; have := HKI.out; omega
          case rel => exact ⟨k, ⟨ua, un, uc⟩, _, rfl, rfl, rfl, by omega, HE2, HN2⟩
    · obtain rfl : i = l.length := by omega
      have hi1 : ¬ (l.length : Int) < (l.length : Int) := by omega
      have HR : Hid (runsB l = out) := Lib.hid (by rw [HE.out, List.drop_length, runsB, List.append_nil])
      clear hlt
      go_wp2_with fail
      go_ret
      exact ⟨_, rfl, by rw [HR.out]; exact HU.out.1, HU.out.2⟩

end Go.Proofs.YtgmdimbiipemhaaGreatDoor
