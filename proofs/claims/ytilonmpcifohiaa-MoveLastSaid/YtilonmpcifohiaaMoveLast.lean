/- The law MoveLast: a block hangs where the last move of it that took effect, by stamps, put it, and nowhere, if none did; for every input. -/
import Derived.Test.YtilonmpcifohiaaPlainLast14
import Derived.Test.YtilonmpcifohiaaRows
import Derived.Test.YtilonmpcifohiaaHand
import Derived.ProofKit
import Derived.OpenShut
import Derived.ShutString
import Derived.ChangeOld
import Derived.Below
namespace Go.Proofs.Ytilonmpcifohiaa
open Go.ChangeShapes Go.WideShapes Go.ChangeAt Go.RowKit
set_option linter.unusedSimpArgs false
set_option linter.unusedVariables false

set_option maxRecDepth 100000 in
set_option maxHeartbeats 4000000 in
theorem moveLast_walk (v : Value) (l : List RMv) (w : World) (hv : SliceIs RMv.cells 7 w v l) :
    Calls Try.prog 4 #[v] w fun e w' => e = .returned (.bool true) ∧ Below w.heap.size w w' := by
  have hK := addAll_kept (l.take 60)
  have hlen := addAll_len (l.take 60)
  rw [List.length_take] at hlen
  have hmv := moved_any v l w hv
  generalize (addAll (l.take 60)).1 = c at *
  generalize (addAll (l.take 60)).2 = all at *
  have hcl : c.length ≤ 60 := by omega
  have hal : all.length ≤ 60 := by omega
  have HK := Lib.hid hK
  clear hlen hK hv
  go_enter Try.func4, Try.ntmps4
  go_wp2_with fail
  refine hmv.mono ?_
  rintro e w1 ⟨vo, rfl, hT, hO, hB⟩
  clear hmv
  obtain ⟨va, vc, rfl, hcap, hmax, _⟩ := hO.slice RMv.len
  unfold maxLen at hmax
  go_wp2_with fail
  refine (alive_any _).mono ?_
  rintro e w2 ⟨rfl, b2⟩
  replace hT := hT.below b2
  have hS := (hO.slice RMv.len).below b2
  replace hB := hB.trans (b2.mono hB.size)
  clear b2 hO
  go_wp2_with fail
  go_loopg [5] all.length (fun g iv wx => ∃ i : Nat, g = all.length - i ∧ i ≤ all.length ∧ iv = .int .i64 i ∧ TreeHas w.heap.size wx (w.heap.size + 1) w.heap.size c ∧ SliceIs RMv.cells 7 wx (.slice va all.length vc) all ∧ Below w.heap.size w wx)
  case atStart => exact ⟨0, rfl, Nat.zero_le _, rfl, hT, hS, hB⟩
  case round =>
    clear hT hS hB
    obtain ⟨i, hg, hi, rfl, hT, hS, hB⟩ := hrel
    have HG := Lib.hid hg
    clear hg
    by_cases hlt : i < all.length
    · obtain ⟨x, hx⟩ : ∃ x, all[i]? = some x := ⟨_, List.getElem?_eq_getElem (by omega)⟩
      obtain ⟨b, o, cp, hve, hcs⟩ := hS.rcells (by intro e; rw [e] at hx; simp at hx)
      cases hve
      have HX := Lib.hid hx
      clear hx hcs
      go_wp2_with fail
      -- INNER
      obtain ⟨wo, rfl⟩ : ∃ wo : World, wo = wr := ⟨_, rfl⟩
      go_loopg [6, 7] all.length (fun g lv kv wx => ∃ (k : Nat) (last : Int), g = all.length - k ∧ k ≤ all.length ∧ lv = .int .i64 last ∧ kv = .int .i64 k ∧ Hid (LastOf c all x.block k last) ∧ TreeHas w.heap.size wx (w.heap.size + 1) w.heap.size c ∧ SliceIs RMv.cells 7 wx (.slice (some ⟨b, o, none⟩) all.length vc) all ∧ Below w.heap.size w wx)
      case atStart => exact ⟨0, -1, rfl, Nat.zero_le _, rfl, rfl, LastOf.zero, hT, hS, hB⟩
      case round =>
        clear hT hS hB
        obtain ⟨k, last, hg2, hk, rfl, rfl, hLo, hT, hS, hB⟩ := hrel
        have HG2 := Lib.hid hg2
        clear hg2
        obtain ⟨_, _, _, hve, hcs⟩ := hS.rcells (by intro e; rw [e] at hlt; simp at hlt)
        cases hve
        obtain ⟨_, _, x2, x3, x4, x5, x6⟩ := hcs i x HX.out
        by_cases hlt2 : k < all.length
        · obtain ⟨y, hy⟩ : ∃ y, all[k]? = some y := ⟨_, List.getElem?_eq_getElem (by omega)⟩
          obtain ⟨y0, y1, y2, y3, _⟩ := hcs k y hy
          have HY := Lib.hid hy
          have HCS := Lib.hid hcs
          clear hy hcs x4 x5 x6
          by_cases hbk : y.block = x.block
          · have e1 : y.block.n = x.block.n := by rw [hbk]
            have e2 : y.block.r = x.block.r := by rw [hbk]
            rw [e1] at y2
            rw [e2] at y3
            clear e1 e2
            have HBK := Lib.hid hbk
            clear hbk
            have hTk := fun (W : World) (h : TreeHas w.heap.size W (w.heap.size + 1) w.heap.size c) => took_any (w.heap.size + 1) y.at_.n y.at_.r W h (by omega)
            cases htk : tookC c y.at_ with
            | false =>
              rw [htk] at hTk
              have HTK := Lib.hid hTk
              have HLO := Lib.hid (hLo.out.skip HY.out (fun h => by rw [htk] at h; cases h.2))
              clear hTk htk
              go_wp2_with fail
              have hS0 : (fun W => W.cell? ⟨b, o + k * 7, none⟩ = some (.int .i64 y.at_.n) ∧ W.cell? ⟨b, o + k * 7 + 1, none⟩ = some (.int .i64 y.at_.r) ∧ W.cell? ⟨b, o + k * 7 + 2, none⟩ = some (.int .i64 x.block.n) ∧ W.cell? ⟨b, o + k * 7 + 3, none⟩ = some (.int .i64 x.block.r) ∧ W.cell? ⟨b, o + i * 7 + 2, none⟩ = some (.int .i64 x.block.n) ∧ W.cell? ⟨b, o + i * 7 + 3, none⟩ = some (.int .i64 x.block.r)) wr.drew := ⟨y0, y1, y2, y3, x2, x3⟩
              refine wp_region_held_drew (S := (fun W => W.cell? ⟨b, o + k * 7, none⟩ = some (.int .i64 y.at_.n) ∧ W.cell? ⟨b, o + k * 7 + 1, none⟩ = some (.int .i64 y.at_.r) ∧ W.cell? ⟨b, o + k * 7 + 2, none⟩ = some (.int .i64 x.block.n) ∧ W.cell? ⟨b, o + k * 7 + 3, none⟩ = some (.int .i64 x.block.r) ∧ W.cell? ⟨b, o + i * 7 + 2, none⟩ = some (.int .i64 x.block.n) ∧ W.cell? ⟨b, o + i * 7 + 3, none⟩ = some (.int .i64 x.block.r))) (by kernel_rfl) hS0 (fun _ => ?_)
              refine held_take (i := 0) (d := (some 33)) rfl rfl (by kernel_rfl) (by kernel_rfl) (by kernel_rfl) (fun _ _ _ h => h) (.inl ⟨by rfl, fun W hW => by go_simp; rfl⟩) hS0 ?_
              try simp only [Act.put, List.setIfInBounds_toArray, List.set_cons_zero, List.set_cons_succ]
              refine held_take (i := 1) (d := (some 34)) rfl rfl (by kernel_rfl) (by kernel_rfl) (by kernel_rfl) (fun _ _ _ h => h) (.inl ⟨by rfl, fun W hW => by go_simp; rfl⟩) hS0 ?_
              try simp only [Act.put, List.setIfInBounds_toArray, List.set_cons_zero, List.set_cons_succ]
              refine held_take (i := 2) (d := (some 35)) rfl rfl (by kernel_rfl) (by kernel_rfl) (by kernel_rfl) (fun _ _ _ h => h) (.inl ⟨by rfl, fun W hW => by go_simp; rfl⟩) hS0 ?_
              try simp only [Act.put, List.setIfInBounds_toArray, List.set_cons_zero, List.set_cons_succ]
              refine held_take (i := 3) (d := (some 36)) rfl rfl (by kernel_rfl) (by kernel_rfl) (by kernel_rfl) (fun _ _ _ h => h) (.inl ⟨by rfl, fun W hW => by go_simp; rfl⟩) hS0 ?_
              try simp only [Act.put, List.setIfInBounds_toArray, List.set_cons_zero, List.set_cons_succ]
              refine held_take (i := 4) (d := (some 37)) rfl rfl (by kernel_rfl) (by kernel_rfl) (by kernel_rfl) (fun _ _ _ h => h) (.inl ⟨by rfl, fun W hW => by obtain ⟨q0, q1, q2, q3, q4, q5⟩ := hW; go_simp; rfl⟩) hS0 ?_
              try simp only [Act.put, List.setIfInBounds_toArray, List.set_cons_zero, List.set_cons_succ]
              refine held_take (i := 5) (d := (some 38)) rfl rfl (by kernel_rfl) (by kernel_rfl) (by kernel_rfl) (fun _ _ _ h => h) (.inl ⟨by rfl, fun W hW => by go_simp; rfl⟩) hS0 ?_
              try simp only [Act.put, List.setIfInBounds_toArray, List.set_cons_zero, List.set_cons_succ]
              refine held_take (i := 6) (d := (some 39)) rfl rfl (by kernel_rfl) (by kernel_rfl) (by kernel_rfl) (fun _ _ _ h => h) (.inl ⟨by rfl, fun W hW => by go_simp; rfl⟩) hS0 ?_
              try simp only [Act.put, List.setIfInBounds_toArray, List.set_cons_zero, List.set_cons_succ]
              refine held_take (i := 7) (d := (some 40)) rfl rfl (by kernel_rfl) (by kernel_rfl) (by kernel_rfl) (fun _ _ _ h => h) (.inl ⟨by rfl, fun W hW => by go_simp; rfl⟩) hS0 ?_
              try simp only [Act.put, List.setIfInBounds_toArray, List.set_cons_zero, List.set_cons_succ]
              refine held_take (i := 8) (d := (some 41)) rfl rfl (by kernel_rfl) (by kernel_rfl) (by kernel_rfl) (fun _ _ _ h => h) (.inl ⟨by rfl, fun W hW => by go_simp; rfl⟩) hS0 ?_
              try simp only [Act.put, List.setIfInBounds_toArray, List.set_cons_zero, List.set_cons_succ]
              refine held_take (i := 9) (d := (some 42)) rfl rfl (by kernel_rfl) (by kernel_rfl) (by kernel_rfl) (fun _ _ _ h => h) (.inl ⟨by rfl, fun W hW => by obtain ⟨q0, q1, q2, q3, q4, q5⟩ := hW; go_simp; rfl⟩) hS0 ?_
              try simp only [Act.put, List.setIfInBounds_toArray, List.set_cons_zero, List.set_cons_succ]
              refine held_take (i := 10) (d := (some 43)) rfl rfl (by kernel_rfl) (by kernel_rfl) (by kernel_rfl) (fun _ _ _ h => h) (.inl ⟨by rfl, fun W hW => by go_simp; rfl⟩) hS0 ?_
              try simp only [Act.put, List.setIfInBounds_toArray, List.set_cons_zero, List.set_cons_succ]
              refine held_take (i := 11) (d := (some 44)) rfl rfl (by kernel_rfl) (by kernel_rfl) (by kernel_rfl) (fun _ _ _ h => h) (.inl ⟨by rfl, fun W hW => by go_simp; rfl⟩) hS0 ?_
              try simp only [Act.put, List.setIfInBounds_toArray, List.set_cons_zero, List.set_cons_succ]
              refine held_take (i := 12) (d := (some 45)) rfl rfl (by kernel_rfl) (by kernel_rfl) (by kernel_rfl) (fun _ _ _ h => h) (.inl ⟨by rfl, fun W hW => by go_simp; rfl⟩) hS0 ?_
              try simp only [Act.put, List.setIfInBounds_toArray, List.set_cons_zero, List.set_cons_succ]
              refine held_take (i := 13) (d := (some 46)) rfl rfl (by kernel_rfl) (by kernel_rfl) (by kernel_rfl) (fun _ _ _ h => h) (.inl ⟨by rfl, fun W hW => by go_simp; rfl⟩) hS0 ?_
              try simp only [Act.put, List.setIfInBounds_toArray, List.set_cons_zero, List.set_cons_succ]
              refine held_take (i := 14) (d := (some 47)) rfl rfl (by kernel_rfl) (by kernel_rfl) (by kernel_rfl) (fun _ _ _ h => h) (.inl ⟨by rfl, fun W hW => by go_simp; rfl⟩) hS0 ?_
              try simp only [Act.put, List.setIfInBounds_toArray, List.set_cons_zero, List.set_cons_succ]
              refine held_take (i := 15) (d := (some 48)) rfl rfl (by kernel_rfl) (by kernel_rfl) (by kernel_rfl) (fun _ _ _ h => h) (.inl ⟨by rfl, fun W hW => by go_simp; rfl⟩) hS0 ?_
              try simp only [Act.put, List.setIfInBounds_toArray, List.set_cons_zero, List.set_cons_succ]
              refine held_take (i := 16) (d := (some 49)) rfl rfl (by kernel_rfl) (by kernel_rfl) (by kernel_rfl) (fun _ _ _ h => h) (.inl ⟨by rfl, fun W hW => by go_simp; rfl⟩) hS0 ?_
              try simp only [Act.put, List.setIfInBounds_toArray, List.set_cons_zero, List.set_cons_succ]
              refine held_take (i := 17) (d := (some 50)) rfl rfl (by kernel_rfl) (by kernel_rfl) (by kernel_rfl) (fun _ _ _ h => h) (.inl ⟨by rfl, fun W hW => by obtain ⟨q0, q1, q2, q3, q4, q5⟩ := hW; go_simp; rfl⟩) hS0 ?_
              try simp only [Act.put, List.setIfInBounds_toArray, List.set_cons_zero, List.set_cons_succ]
              refine held_call (i := 18) (d := (some 51)) (by kernel_rfl) rfl rfl (by rfl) (by go_simp; first | rfl | exact ⟨rfl, rfl⟩ | exact ⟨⟨rfl, rfl⟩, rfl⟩) ?_
              refine (HTK.out _ hT.drew).mono ?_
              rintro e w5 ⟨rfl, b5⟩
              simp only [heap_drew, below_drew] at b5
              have hS5 : (fun W => W.cell? ⟨b, o + k * 7, none⟩ = some (.int .i64 y.at_.n) ∧ W.cell? ⟨b, o + k * 7 + 1, none⟩ = some (.int .i64 y.at_.r) ∧ W.cell? ⟨b, o + k * 7 + 2, none⟩ = some (.int .i64 x.block.n) ∧ W.cell? ⟨b, o + k * 7 + 3, none⟩ = some (.int .i64 x.block.r) ∧ W.cell? ⟨b, o + i * 7 + 2, none⟩ = some (.int .i64 x.block.n) ∧ W.cell? ⟨b, o + i * 7 + 3, none⟩ = some (.int .i64 x.block.r)) w5 := ⟨keepB b5 y0, keepB b5 y1, keepB b5 y2, keepB b5 y3, keepB b5 x2, keepB b5 x3⟩
              refine ⟨_, rfl, hS5, ?_⟩
              try simp only [Act.put, List.setIfInBounds_toArray, List.set_cons_zero, List.set_cons_succ]
              refine held_take (i := 19) (d := (some 52)) rfl rfl (by kernel_rfl) (by kernel_rfl) (by kernel_rfl) (fun _ _ _ h => h) (.inl ⟨by rfl, fun W hW => by go_simp; rfl⟩) hS5 ?_
              try simp only [Act.put, List.setIfInBounds_toArray, List.set_cons_zero, List.set_cons_succ]
              refine held_take (i := 20) (d := (some 53)) rfl rfl (by kernel_rfl) (by kernel_rfl) (by kernel_rfl) (fun _ _ _ h => h) (.inl ⟨by rfl, fun W hW => by go_simp; rfl⟩) hS5 ?_
              try simp only [Act.put, List.setIfInBounds_toArray, List.set_cons_zero, List.set_cons_succ]
              refine held_take (i := 21) (d := (some 54)) (v := undef) rfl rfl (by kernel_rfl) (by kernel_rfl) (by kernel_rfl) (fun _ _ _ h => h) (.inr ⟨by rfl, rfl⟩) hS5 ?_
              try simp only [Act.put, List.setIfInBounds_toArray, List.set_cons_zero, List.set_cons_succ]
              refine held_take (i := 22) (d := (some 55)) (v := undef) rfl rfl (by kernel_rfl) (by kernel_rfl) (by kernel_rfl) (fun _ _ _ h => h) (.inr ⟨by rfl, rfl⟩) hS5 ?_
              try simp only [Act.put, List.setIfInBounds_toArray, List.set_cons_zero, List.set_cons_succ]
              refine held_take (i := 23) (d := (some 56)) (v := undef) rfl rfl (by kernel_rfl) (by kernel_rfl) (by kernel_rfl) (fun _ _ _ h => h) (.inr ⟨by rfl, rfl⟩) hS5 ?_
              try simp only [Act.put, List.setIfInBounds_toArray, List.set_cons_zero, List.set_cons_succ]
              refine held_take (i := 24) (d := (some 57)) (v := undef) rfl rfl (by kernel_rfl) (by kernel_rfl) (by kernel_rfl) (fun _ _ _ h => h) (.inr ⟨by rfl, rfl⟩) hS5 ?_
              try simp only [Act.put, List.setIfInBounds_toArray, List.set_cons_zero, List.set_cons_succ]
              refine held_take (i := 25) (d := (some 58)) (v := undef) rfl rfl (by kernel_rfl) (by kernel_rfl) (by kernel_rfl) (fun _ _ _ h => h) (.inr ⟨by rfl, rfl⟩) hS5 ?_
              try simp only [Act.put, List.setIfInBounds_toArray, List.set_cons_zero, List.set_cons_succ]
              refine held_take (i := 26) (d := (some 59)) (v := undef) rfl rfl (by kernel_rfl) (by kernel_rfl) (by kernel_rfl) (fun _ _ _ h => h) (.inr ⟨by rfl, rfl⟩) hS5 ?_
              try simp only [Act.put, List.setIfInBounds_toArray, List.set_cons_zero, List.set_cons_succ]
              refine held_take (i := 27) (d := (some 60)) (v := undef) rfl rfl (by kernel_rfl) (by kernel_rfl) (by kernel_rfl) (fun _ _ _ h => h) (.inr ⟨by rfl, rfl⟩) hS5 ?_
              try simp only [Act.put, List.setIfInBounds_toArray, List.set_cons_zero, List.set_cons_succ]
              refine held_take (i := 28) (d := (some 61)) (v := undef) rfl rfl (by kernel_rfl) (by kernel_rfl) (by kernel_rfl) (fun _ _ _ h => h) (.inr ⟨by rfl, rfl⟩) hS5 ?_
              try simp only [Act.put, List.setIfInBounds_toArray, List.set_cons_zero, List.set_cons_succ]
              refine held_take (i := 29) (d := (some 62)) (v := undef) rfl rfl (by kernel_rfl) (by kernel_rfl) (by kernel_rfl) (fun _ _ _ h => h) (.inr ⟨by rfl, rfl⟩) hS5 ?_
              try simp only [Act.put, List.setIfInBounds_toArray, List.set_cons_zero, List.set_cons_succ]
              refine held_take (i := 30) (d := (some 63)) (v := undef) rfl rfl (by kernel_rfl) (by kernel_rfl) (by kernel_rfl) (fun _ _ _ h => h) (.inr ⟨by rfl, rfl⟩) hS5 ?_
              try simp only [Act.put, List.setIfInBounds_toArray, List.set_cons_zero, List.set_cons_succ]
              refine held_take (i := 31) (d := (some 64)) (v := undef) rfl rfl (by kernel_rfl) (by kernel_rfl) (by kernel_rfl) (fun _ _ _ h => h) (.inr ⟨by rfl, rfl⟩) hS5 ?_
              try simp only [Act.put, List.setIfInBounds_toArray, List.set_cons_zero, List.set_cons_succ]
              refine held_take (i := 32) (d := (some 65)) (v := undef) rfl rfl (by kernel_rfl) (by kernel_rfl) (by kernel_rfl) (fun _ _ _ h => h) (.inr ⟨by rfl, rfl⟩) hS5 ?_
              try simp only [Act.put, List.setIfInBounds_toArray, List.set_cons_zero, List.set_cons_succ]
              refine held_take (i := 33) (d := (some 66)) (v := undef) rfl rfl (by kernel_rfl) (by kernel_rfl) (by kernel_rfl) (fun _ _ _ h => h) (.inr ⟨by rfl, rfl⟩) hS5 ?_
              try simp only [Act.put, List.setIfInBounds_toArray, List.set_cons_zero, List.set_cons_succ]
              refine held_take (i := 34) (d := (some 67)) (v := undef) rfl rfl (by kernel_rfl) (by kernel_rfl) (by kernel_rfl) (fun _ _ _ h => h) (.inr ⟨by rfl, rfl⟩) hS5 ?_
              try simp only [Act.put, List.setIfInBounds_toArray, List.set_cons_zero, List.set_cons_succ]
              refine held_take (i := 35) (d := (some 68)) (v := undef) rfl rfl (by kernel_rfl) (by kernel_rfl) (by kernel_rfl) (fun _ _ _ h => h) (.inr ⟨by rfl, rfl⟩) hS5 ?_
              try simp only [Act.put, List.setIfInBounds_toArray, List.set_cons_zero, List.set_cons_succ]
              refine held_take (i := 36) (d := (some 69)) (v := undef) rfl rfl (by kernel_rfl) (by kernel_rfl) (by kernel_rfl) (fun _ _ _ h => h) (.inr ⟨by rfl, rfl⟩) hS5 ?_
              try simp only [Act.put, List.setIfInBounds_toArray, List.set_cons_zero, List.set_cons_succ]
              refine held_take (i := 37) (d := (some 70)) rfl rfl (by kernel_rfl) (by kernel_rfl) (by kernel_rfl) (fun _ _ _ h => h) (.inl ⟨by rfl, fun W hW => by go_simp; rfl⟩) hS5 ?_
              try simp only [Act.put, List.setIfInBounds_toArray, List.set_cons_zero, List.set_cons_succ]
              refine wpAnyH_done (by kernel_rfl) ?_ _
              clear hS0 hS5
              go_wp2_with fail
              go_roundg (all.length - (k + 1))
              case measure => rw [HG2.out]; omega
              case rel => exact ⟨k + 1, last, rfl, hlt2, rfl, by go_num, HLO.out, (hT).below b5, (hS).below b5, (hB).trans (b5.mono (hB).size)⟩
            | true =>
              rw [htk] at hTk
              have HTK := Lib.hid hTk
              clear hTk
              rcases hLo.out.get with rfl | ⟨m, z, rfl, hmk, hz⟩
              · have HLO := Lib.hid (hLo.out.first HY.out HBK.out htk)
                clear htk hLo
                go_wp2_with fail
                have hS0 : (fun W => W.cell? ⟨b, o + k * 7, none⟩ = some (.int .i64 y.at_.n) ∧ W.cell? ⟨b, o + k * 7 + 1, none⟩ = some (.int .i64 y.at_.r) ∧ W.cell? ⟨b, o + k * 7 + 2, none⟩ = some (.int .i64 x.block.n) ∧ W.cell? ⟨b, o + k * 7 + 3, none⟩ = some (.int .i64 x.block.r) ∧ W.cell? ⟨b, o + i * 7 + 2, none⟩ = some (.int .i64 x.block.n) ∧ W.cell? ⟨b, o + i * 7 + 3, none⟩ = some (.int .i64 x.block.r)) wr.drew := ⟨y0, y1, y2, y3, x2, x3⟩
                refine wp_region_held_drew (S := (fun W => W.cell? ⟨b, o + k * 7, none⟩ = some (.int .i64 y.at_.n) ∧ W.cell? ⟨b, o + k * 7 + 1, none⟩ = some (.int .i64 y.at_.r) ∧ W.cell? ⟨b, o + k * 7 + 2, none⟩ = some (.int .i64 x.block.n) ∧ W.cell? ⟨b, o + k * 7 + 3, none⟩ = some (.int .i64 x.block.r) ∧ W.cell? ⟨b, o + i * 7 + 2, none⟩ = some (.int .i64 x.block.n) ∧ W.cell? ⟨b, o + i * 7 + 3, none⟩ = some (.int .i64 x.block.r))) (by kernel_rfl) hS0 (fun _ => ?_)
                refine held_take (i := 0) (d := (some 33)) rfl rfl (by kernel_rfl) (by kernel_rfl) (by kernel_rfl) (fun _ _ _ h => h) (.inl ⟨by rfl, fun W hW => by go_simp; rfl⟩) hS0 ?_
                try simp only [Act.put, List.setIfInBounds_toArray, List.set_cons_zero, List.set_cons_succ]
                refine held_take (i := 1) (d := (some 34)) rfl rfl (by kernel_rfl) (by kernel_rfl) (by kernel_rfl) (fun _ _ _ h => h) (.inl ⟨by rfl, fun W hW => by go_simp; rfl⟩) hS0 ?_
                try simp only [Act.put, List.setIfInBounds_toArray, List.set_cons_zero, List.set_cons_succ]
                refine held_take (i := 2) (d := (some 35)) rfl rfl (by kernel_rfl) (by kernel_rfl) (by kernel_rfl) (fun _ _ _ h => h) (.inl ⟨by rfl, fun W hW => by go_simp; rfl⟩) hS0 ?_
                try simp only [Act.put, List.setIfInBounds_toArray, List.set_cons_zero, List.set_cons_succ]
                refine held_take (i := 3) (d := (some 36)) rfl rfl (by kernel_rfl) (by kernel_rfl) (by kernel_rfl) (fun _ _ _ h => h) (.inl ⟨by rfl, fun W hW => by go_simp; rfl⟩) hS0 ?_
                try simp only [Act.put, List.setIfInBounds_toArray, List.set_cons_zero, List.set_cons_succ]
                refine held_take (i := 4) (d := (some 37)) rfl rfl (by kernel_rfl) (by kernel_rfl) (by kernel_rfl) (fun _ _ _ h => h) (.inl ⟨by rfl, fun W hW => by obtain ⟨q0, q1, q2, q3, q4, q5⟩ := hW; go_simp; rfl⟩) hS0 ?_
                try simp only [Act.put, List.setIfInBounds_toArray, List.set_cons_zero, List.set_cons_succ]
                refine held_take (i := 5) (d := (some 38)) rfl rfl (by kernel_rfl) (by kernel_rfl) (by kernel_rfl) (fun _ _ _ h => h) (.inl ⟨by rfl, fun W hW => by go_simp; rfl⟩) hS0 ?_
                try simp only [Act.put, List.setIfInBounds_toArray, List.set_cons_zero, List.set_cons_succ]
                refine held_take (i := 6) (d := (some 39)) rfl rfl (by kernel_rfl) (by kernel_rfl) (by kernel_rfl) (fun _ _ _ h => h) (.inl ⟨by rfl, fun W hW => by go_simp; rfl⟩) hS0 ?_
                try simp only [Act.put, List.setIfInBounds_toArray, List.set_cons_zero, List.set_cons_succ]
                refine held_take (i := 7) (d := (some 40)) rfl rfl (by kernel_rfl) (by kernel_rfl) (by kernel_rfl) (fun _ _ _ h => h) (.inl ⟨by rfl, fun W hW => by go_simp; rfl⟩) hS0 ?_
                try simp only [Act.put, List.setIfInBounds_toArray, List.set_cons_zero, List.set_cons_succ]
                refine held_take (i := 8) (d := (some 41)) rfl rfl (by kernel_rfl) (by kernel_rfl) (by kernel_rfl) (fun _ _ _ h => h) (.inl ⟨by rfl, fun W hW => by go_simp; rfl⟩) hS0 ?_
                try simp only [Act.put, List.setIfInBounds_toArray, List.set_cons_zero, List.set_cons_succ]
                refine held_take (i := 9) (d := (some 42)) rfl rfl (by kernel_rfl) (by kernel_rfl) (by kernel_rfl) (fun _ _ _ h => h) (.inl ⟨by rfl, fun W hW => by obtain ⟨q0, q1, q2, q3, q4, q5⟩ := hW; go_simp; rfl⟩) hS0 ?_
                try simp only [Act.put, List.setIfInBounds_toArray, List.set_cons_zero, List.set_cons_succ]
                refine held_take (i := 10) (d := (some 43)) rfl rfl (by kernel_rfl) (by kernel_rfl) (by kernel_rfl) (fun _ _ _ h => h) (.inl ⟨by rfl, fun W hW => by go_simp; rfl⟩) hS0 ?_
                try simp only [Act.put, List.setIfInBounds_toArray, List.set_cons_zero, List.set_cons_succ]
                refine held_take (i := 11) (d := (some 44)) rfl rfl (by kernel_rfl) (by kernel_rfl) (by kernel_rfl) (fun _ _ _ h => h) (.inl ⟨by rfl, fun W hW => by go_simp; rfl⟩) hS0 ?_
                try simp only [Act.put, List.setIfInBounds_toArray, List.set_cons_zero, List.set_cons_succ]
                refine held_take (i := 12) (d := (some 45)) rfl rfl (by kernel_rfl) (by kernel_rfl) (by kernel_rfl) (fun _ _ _ h => h) (.inl ⟨by rfl, fun W hW => by go_simp; rfl⟩) hS0 ?_
                try simp only [Act.put, List.setIfInBounds_toArray, List.set_cons_zero, List.set_cons_succ]
                refine held_take (i := 13) (d := (some 46)) rfl rfl (by kernel_rfl) (by kernel_rfl) (by kernel_rfl) (fun _ _ _ h => h) (.inl ⟨by rfl, fun W hW => by go_simp; rfl⟩) hS0 ?_
                try simp only [Act.put, List.setIfInBounds_toArray, List.set_cons_zero, List.set_cons_succ]
                refine held_take (i := 14) (d := (some 47)) rfl rfl (by kernel_rfl) (by kernel_rfl) (by kernel_rfl) (fun _ _ _ h => h) (.inl ⟨by rfl, fun W hW => by go_simp; rfl⟩) hS0 ?_
                try simp only [Act.put, List.setIfInBounds_toArray, List.set_cons_zero, List.set_cons_succ]
                refine held_take (i := 15) (d := (some 48)) rfl rfl (by kernel_rfl) (by kernel_rfl) (by kernel_rfl) (fun _ _ _ h => h) (.inl ⟨by rfl, fun W hW => by go_simp; rfl⟩) hS0 ?_
                try simp only [Act.put, List.setIfInBounds_toArray, List.set_cons_zero, List.set_cons_succ]
                refine held_take (i := 16) (d := (some 49)) rfl rfl (by kernel_rfl) (by kernel_rfl) (by kernel_rfl) (fun _ _ _ h => h) (.inl ⟨by rfl, fun W hW => by go_simp; rfl⟩) hS0 ?_
                try simp only [Act.put, List.setIfInBounds_toArray, List.set_cons_zero, List.set_cons_succ]
                refine held_take (i := 17) (d := (some 50)) rfl rfl (by kernel_rfl) (by kernel_rfl) (by kernel_rfl) (fun _ _ _ h => h) (.inl ⟨by rfl, fun W hW => by obtain ⟨q0, q1, q2, q3, q4, q5⟩ := hW; go_simp; rfl⟩) hS0 ?_
                try simp only [Act.put, List.setIfInBounds_toArray, List.set_cons_zero, List.set_cons_succ]
                refine held_call (i := 18) (d := (some 51)) (by kernel_rfl) rfl rfl (by rfl) (by go_simp; first | rfl | exact ⟨rfl, rfl⟩ | exact ⟨⟨rfl, rfl⟩, rfl⟩) ?_
                refine (HTK.out _ hT.drew).mono ?_
                rintro e w5 ⟨rfl, b5⟩
                simp only [heap_drew, below_drew] at b5
                have hS5 : (fun W => W.cell? ⟨b, o + k * 7, none⟩ = some (.int .i64 y.at_.n) ∧ W.cell? ⟨b, o + k * 7 + 1, none⟩ = some (.int .i64 y.at_.r) ∧ W.cell? ⟨b, o + k * 7 + 2, none⟩ = some (.int .i64 x.block.n) ∧ W.cell? ⟨b, o + k * 7 + 3, none⟩ = some (.int .i64 x.block.r) ∧ W.cell? ⟨b, o + i * 7 + 2, none⟩ = some (.int .i64 x.block.n) ∧ W.cell? ⟨b, o + i * 7 + 3, none⟩ = some (.int .i64 x.block.r)) w5 := ⟨keepB b5 y0, keepB b5 y1, keepB b5 y2, keepB b5 y3, keepB b5 x2, keepB b5 x3⟩
                refine ⟨_, rfl, hS5, ?_⟩
                try simp only [Act.put, List.setIfInBounds_toArray, List.set_cons_zero, List.set_cons_succ]
                refine held_take (i := 19) (d := (some 52)) rfl rfl (by kernel_rfl) (by kernel_rfl) (by kernel_rfl) (fun _ _ _ h => h) (.inl ⟨by rfl, fun W hW => by go_simp; rfl⟩) hS5 ?_
                try simp only [Act.put, List.setIfInBounds_toArray, List.set_cons_zero, List.set_cons_succ]
                refine held_take (i := 20) (d := (some 53)) rfl rfl (by kernel_rfl) (by kernel_rfl) (by kernel_rfl) (fun _ _ _ h => h) (.inl ⟨by rfl, fun W hW => by go_simp; rfl⟩) hS5 ?_
                try simp only [Act.put, List.setIfInBounds_toArray, List.set_cons_zero, List.set_cons_succ]
                refine held_take (i := 21) (d := (some 54)) rfl rfl (by kernel_rfl) (by kernel_rfl) (by kernel_rfl) (fun _ _ _ h => h) (.inl ⟨by rfl, fun W hW => by go_simp; rfl⟩) hS5 ?_
                try simp only [Act.put, List.setIfInBounds_toArray, List.set_cons_zero, List.set_cons_succ]
                refine held_take (i := 22) (d := (some 55)) rfl rfl (by kernel_rfl) (by kernel_rfl) (by kernel_rfl) (fun _ _ _ h => h) (.inl ⟨by rfl, fun W hW => by go_simp; rfl⟩) hS5 ?_
                try simp only [Act.put, List.setIfInBounds_toArray, List.set_cons_zero, List.set_cons_succ]
                refine held_take (i := 23) (d := (some 56)) rfl rfl (by kernel_rfl) (by kernel_rfl) (by kernel_rfl) (fun _ _ _ h => h) (.inl ⟨by rfl, fun W hW => by go_simp; rfl⟩) hS5 ?_
                try simp only [Act.put, List.setIfInBounds_toArray, List.set_cons_zero, List.set_cons_succ]
                refine held_take (i := 24) (d := (some 57)) (v := undef) rfl rfl (by kernel_rfl) (by kernel_rfl) (by kernel_rfl) (fun _ _ _ h => h) (.inr ⟨by rfl, rfl⟩) hS5 ?_
                try simp only [Act.put, List.setIfInBounds_toArray, List.set_cons_zero, List.set_cons_succ]
                refine held_take (i := 25) (d := (some 58)) (v := undef) rfl rfl (by kernel_rfl) (by kernel_rfl) (by kernel_rfl) (fun _ _ _ h => h) (.inr ⟨by rfl, rfl⟩) hS5 ?_
                try simp only [Act.put, List.setIfInBounds_toArray, List.set_cons_zero, List.set_cons_succ]
                refine held_take (i := 26) (d := (some 59)) (v := undef) rfl rfl (by kernel_rfl) (by kernel_rfl) (by kernel_rfl) (fun _ _ _ h => h) (.inr ⟨by rfl, rfl⟩) hS5 ?_
                try simp only [Act.put, List.setIfInBounds_toArray, List.set_cons_zero, List.set_cons_succ]
                refine held_take (i := 27) (d := (some 60)) (v := undef) rfl rfl (by kernel_rfl) (by kernel_rfl) (by kernel_rfl) (fun _ _ _ h => h) (.inr ⟨by rfl, rfl⟩) hS5 ?_
                try simp only [Act.put, List.setIfInBounds_toArray, List.set_cons_zero, List.set_cons_succ]
                refine held_take (i := 28) (d := (some 61)) (v := undef) rfl rfl (by kernel_rfl) (by kernel_rfl) (by kernel_rfl) (fun _ _ _ h => h) (.inr ⟨by rfl, rfl⟩) hS5 ?_
                try simp only [Act.put, List.setIfInBounds_toArray, List.set_cons_zero, List.set_cons_succ]
                refine held_take (i := 29) (d := (some 62)) (v := undef) rfl rfl (by kernel_rfl) (by kernel_rfl) (by kernel_rfl) (fun _ _ _ h => h) (.inr ⟨by rfl, rfl⟩) hS5 ?_
                try simp only [Act.put, List.setIfInBounds_toArray, List.set_cons_zero, List.set_cons_succ]
                refine held_take (i := 30) (d := (some 63)) (v := undef) rfl rfl (by kernel_rfl) (by kernel_rfl) (by kernel_rfl) (fun _ _ _ h => h) (.inr ⟨by rfl, rfl⟩) hS5 ?_
                try simp only [Act.put, List.setIfInBounds_toArray, List.set_cons_zero, List.set_cons_succ]
                refine held_take (i := 31) (d := (some 64)) (v := undef) rfl rfl (by kernel_rfl) (by kernel_rfl) (by kernel_rfl) (fun _ _ _ h => h) (.inr ⟨by rfl, rfl⟩) hS5 ?_
                try simp only [Act.put, List.setIfInBounds_toArray, List.set_cons_zero, List.set_cons_succ]
                refine held_take (i := 32) (d := (some 65)) (v := undef) rfl rfl (by kernel_rfl) (by kernel_rfl) (by kernel_rfl) (fun _ _ _ h => h) (.inr ⟨by rfl, rfl⟩) hS5 ?_
                try simp only [Act.put, List.setIfInBounds_toArray, List.set_cons_zero, List.set_cons_succ]
                refine held_take (i := 33) (d := (some 66)) (v := undef) rfl rfl (by kernel_rfl) (by kernel_rfl) (by kernel_rfl) (fun _ _ _ h => h) (.inr ⟨by rfl, rfl⟩) hS5 ?_
                try simp only [Act.put, List.setIfInBounds_toArray, List.set_cons_zero, List.set_cons_succ]
                refine held_take (i := 34) (d := (some 67)) (v := undef) rfl rfl (by kernel_rfl) (by kernel_rfl) (by kernel_rfl) (fun _ _ _ h => h) (.inr ⟨by rfl, rfl⟩) hS5 ?_
                try simp only [Act.put, List.setIfInBounds_toArray, List.set_cons_zero, List.set_cons_succ]
                refine held_take (i := 35) (d := (some 68)) (v := undef) rfl rfl (by kernel_rfl) (by kernel_rfl) (by kernel_rfl) (fun _ _ _ h => h) (.inr ⟨by rfl, rfl⟩) hS5 ?_
                try simp only [Act.put, List.setIfInBounds_toArray, List.set_cons_zero, List.set_cons_succ]
                refine held_take (i := 36) (d := (some 69)) rfl rfl (by kernel_rfl) (by kernel_rfl) (by kernel_rfl) (fun _ _ _ h => h) (.inl ⟨by rfl, fun W hW => by go_simp; rfl⟩) hS5 ?_
                try simp only [Act.put, List.setIfInBounds_toArray, List.set_cons_zero, List.set_cons_succ]
                refine held_take (i := 37) (d := (some 70)) rfl rfl (by kernel_rfl) (by kernel_rfl) (by kernel_rfl) (fun _ _ _ h => h) (.inl ⟨by rfl, fun W hW => by go_simp; rfl⟩) hS5 ?_
                try simp only [Act.put, List.setIfInBounds_toArray, List.set_cons_zero, List.set_cons_succ]
                refine wpAnyH_done (by kernel_rfl) ?_ _
                clear hS0 hS5
                go_wp2_with fail
                go_roundg (all.length - (k + 1))
                case measure => rw [HG2.out]; omega
                case rel => exact ⟨k + 1, k, rfl, hlt2, rfl, by go_num, HLO.out, (hT).below b5, (hS).below b5, (hB).trans (b5.mono (hB).size)⟩
              · obtain ⟨z0, z1, _⟩ := HCS.out m z hz
                have hml : m < all.length := by omega
                have hcm := fun (W : World) => compare_any y.at_.n y.at_.r z.at_.n z.at_.r W
                have hgt := cmpS_gt y.at_ z.at_
                by_cases hlt3 : stLt z.at_ y.at_
                · have hpos : 0 < cmpS ⟨y.at_.n, y.at_.r⟩ ⟨z.at_.n, z.at_.r⟩ := hgt.2 hlt3
                  have HLO := Lib.hid (hLo.out.more HY.out hz HBK.out htk hlt3)
                  clear htk hLo hlt3 hgt hz
                  generalize cmpS ⟨y.at_.n, y.at_.r⟩ ⟨z.at_.n, z.at_.r⟩ = q at *
                  have HCM := Lib.hid hcm
                  clear hcm
                  go_wp2_with fail
                  have hS0 : (fun W => W.cell? ⟨b, o + k * 7, none⟩ = some (.int .i64 y.at_.n) ∧ W.cell? ⟨b, o + k * 7 + 1, none⟩ = some (.int .i64 y.at_.r) ∧ W.cell? ⟨b, o + k * 7 + 2, none⟩ = some (.int .i64 x.block.n) ∧ W.cell? ⟨b, o + k * 7 + 3, none⟩ = some (.int .i64 x.block.r) ∧ W.cell? ⟨b, o + i * 7 + 2, none⟩ = some (.int .i64 x.block.n) ∧ W.cell? ⟨b, o + i * 7 + 3, none⟩ = some (.int .i64 x.block.r) ∧ W.cell? ⟨b, o + m * 7, none⟩ = some (.int .i64 z.at_.n) ∧ W.cell? ⟨b, o + m * 7 + 1, none⟩ = some (.int .i64 z.at_.r)) wr.drew := ⟨y0, y1, y2, y3, x2, x3, z0, z1⟩
                  refine wp_region_held_drew (S := (fun W => W.cell? ⟨b, o + k * 7, none⟩ = some (.int .i64 y.at_.n) ∧ W.cell? ⟨b, o + k * 7 + 1, none⟩ = some (.int .i64 y.at_.r) ∧ W.cell? ⟨b, o + k * 7 + 2, none⟩ = some (.int .i64 x.block.n) ∧ W.cell? ⟨b, o + k * 7 + 3, none⟩ = some (.int .i64 x.block.r) ∧ W.cell? ⟨b, o + i * 7 + 2, none⟩ = some (.int .i64 x.block.n) ∧ W.cell? ⟨b, o + i * 7 + 3, none⟩ = some (.int .i64 x.block.r) ∧ W.cell? ⟨b, o + m * 7, none⟩ = some (.int .i64 z.at_.n) ∧ W.cell? ⟨b, o + m * 7 + 1, none⟩ = some (.int .i64 z.at_.r))) (by kernel_rfl) hS0 (fun _ => ?_)
                  refine held_take (i := 0) (d := (some 33)) rfl rfl (by kernel_rfl) (by kernel_rfl) (by kernel_rfl) (fun _ _ _ h => h) (.inl ⟨by rfl, fun W hW => by go_simp; rfl⟩) hS0 ?_
                  try simp only [Act.put, List.setIfInBounds_toArray, List.set_cons_zero, List.set_cons_succ]
                  refine held_take (i := 1) (d := (some 34)) rfl rfl (by kernel_rfl) (by kernel_rfl) (by kernel_rfl) (fun _ _ _ h => h) (.inl ⟨by rfl, fun W hW => by go_simp; rfl⟩) hS0 ?_
                  try simp only [Act.put, List.setIfInBounds_toArray, List.set_cons_zero, List.set_cons_succ]
                  refine held_take (i := 2) (d := (some 35)) rfl rfl (by kernel_rfl) (by kernel_rfl) (by kernel_rfl) (fun _ _ _ h => h) (.inl ⟨by rfl, fun W hW => by go_simp; rfl⟩) hS0 ?_
                  try simp only [Act.put, List.setIfInBounds_toArray, List.set_cons_zero, List.set_cons_succ]
                  refine held_take (i := 3) (d := (some 36)) rfl rfl (by kernel_rfl) (by kernel_rfl) (by kernel_rfl) (fun _ _ _ h => h) (.inl ⟨by rfl, fun W hW => by go_simp; rfl⟩) hS0 ?_
                  try simp only [Act.put, List.setIfInBounds_toArray, List.set_cons_zero, List.set_cons_succ]
                  refine held_take (i := 4) (d := (some 37)) rfl rfl (by kernel_rfl) (by kernel_rfl) (by kernel_rfl) (fun _ _ _ h => h) (.inl ⟨by rfl, fun W hW => by obtain ⟨q0, q1, q2, q3, q4, q5, q6, q7⟩ := hW; go_simp; rfl⟩) hS0 ?_
                  try simp only [Act.put, List.setIfInBounds_toArray, List.set_cons_zero, List.set_cons_succ]
                  refine held_take (i := 5) (d := (some 38)) rfl rfl (by kernel_rfl) (by kernel_rfl) (by kernel_rfl) (fun _ _ _ h => h) (.inl ⟨by rfl, fun W hW => by go_simp; rfl⟩) hS0 ?_
                  try simp only [Act.put, List.setIfInBounds_toArray, List.set_cons_zero, List.set_cons_succ]
                  refine held_take (i := 6) (d := (some 39)) rfl rfl (by kernel_rfl) (by kernel_rfl) (by kernel_rfl) (fun _ _ _ h => h) (.inl ⟨by rfl, fun W hW => by go_simp; rfl⟩) hS0 ?_
                  try simp only [Act.put, List.setIfInBounds_toArray, List.set_cons_zero, List.set_cons_succ]
                  refine held_take (i := 7) (d := (some 40)) rfl rfl (by kernel_rfl) (by kernel_rfl) (by kernel_rfl) (fun _ _ _ h => h) (.inl ⟨by rfl, fun W hW => by go_simp; rfl⟩) hS0 ?_
                  try simp only [Act.put, List.setIfInBounds_toArray, List.set_cons_zero, List.set_cons_succ]
                  refine held_take (i := 8) (d := (some 41)) rfl rfl (by kernel_rfl) (by kernel_rfl) (by kernel_rfl) (fun _ _ _ h => h) (.inl ⟨by rfl, fun W hW => by go_simp; rfl⟩) hS0 ?_
                  try simp only [Act.put, List.setIfInBounds_toArray, List.set_cons_zero, List.set_cons_succ]
                  refine held_take (i := 9) (d := (some 42)) rfl rfl (by kernel_rfl) (by kernel_rfl) (by kernel_rfl) (fun _ _ _ h => h) (.inl ⟨by rfl, fun W hW => by obtain ⟨q0, q1, q2, q3, q4, q5, q6, q7⟩ := hW; go_simp; rfl⟩) hS0 ?_
                  try simp only [Act.put, List.setIfInBounds_toArray, List.set_cons_zero, List.set_cons_succ]
                  refine held_take (i := 10) (d := (some 43)) rfl rfl (by kernel_rfl) (by kernel_rfl) (by kernel_rfl) (fun _ _ _ h => h) (.inl ⟨by rfl, fun W hW => by go_simp; rfl⟩) hS0 ?_
                  try simp only [Act.put, List.setIfInBounds_toArray, List.set_cons_zero, List.set_cons_succ]
                  refine held_take (i := 11) (d := (some 44)) rfl rfl (by kernel_rfl) (by kernel_rfl) (by kernel_rfl) (fun _ _ _ h => h) (.inl ⟨by rfl, fun W hW => by go_simp; rfl⟩) hS0 ?_
                  try simp only [Act.put, List.setIfInBounds_toArray, List.set_cons_zero, List.set_cons_succ]
                  refine held_take (i := 12) (d := (some 45)) rfl rfl (by kernel_rfl) (by kernel_rfl) (by kernel_rfl) (fun _ _ _ h => h) (.inl ⟨by rfl, fun W hW => by go_simp; rfl⟩) hS0 ?_
                  try simp only [Act.put, List.setIfInBounds_toArray, List.set_cons_zero, List.set_cons_succ]
                  refine held_take (i := 13) (d := (some 46)) rfl rfl (by kernel_rfl) (by kernel_rfl) (by kernel_rfl) (fun _ _ _ h => h) (.inl ⟨by rfl, fun W hW => by go_simp; rfl⟩) hS0 ?_
                  try simp only [Act.put, List.setIfInBounds_toArray, List.set_cons_zero, List.set_cons_succ]
                  refine held_take (i := 14) (d := (some 47)) rfl rfl (by kernel_rfl) (by kernel_rfl) (by kernel_rfl) (fun _ _ _ h => h) (.inl ⟨by rfl, fun W hW => by go_simp; rfl⟩) hS0 ?_
                  try simp only [Act.put, List.setIfInBounds_toArray, List.set_cons_zero, List.set_cons_succ]
                  refine held_take (i := 15) (d := (some 48)) rfl rfl (by kernel_rfl) (by kernel_rfl) (by kernel_rfl) (fun _ _ _ h => h) (.inl ⟨by rfl, fun W hW => by go_simp; rfl⟩) hS0 ?_
                  try simp only [Act.put, List.setIfInBounds_toArray, List.set_cons_zero, List.set_cons_succ]
                  refine held_take (i := 16) (d := (some 49)) rfl rfl (by kernel_rfl) (by kernel_rfl) (by kernel_rfl) (fun _ _ _ h => h) (.inl ⟨by rfl, fun W hW => by go_simp; rfl⟩) hS0 ?_
                  try simp only [Act.put, List.setIfInBounds_toArray, List.set_cons_zero, List.set_cons_succ]
                  refine held_take (i := 17) (d := (some 50)) rfl rfl (by kernel_rfl) (by kernel_rfl) (by kernel_rfl) (fun _ _ _ h => h) (.inl ⟨by rfl, fun W hW => by obtain ⟨q0, q1, q2, q3, q4, q5, q6, q7⟩ := hW; go_simp; rfl⟩) hS0 ?_
                  try simp only [Act.put, List.setIfInBounds_toArray, List.set_cons_zero, List.set_cons_succ]
                  refine held_call (i := 18) (d := (some 51)) (by kernel_rfl) rfl rfl (by rfl) (by go_simp; first | rfl | exact ⟨rfl, rfl⟩ | exact ⟨⟨rfl, rfl⟩, rfl⟩) ?_
                  refine (HTK.out _ hT.drew).mono ?_
                  rintro e w5 ⟨rfl, b5⟩
                  simp only [heap_drew, below_drew] at b5
                  have hS5 : (fun W => W.cell? ⟨b, o + k * 7, none⟩ = some (.int .i64 y.at_.n) ∧ W.cell? ⟨b, o + k * 7 + 1, none⟩ = some (.int .i64 y.at_.r) ∧ W.cell? ⟨b, o + k * 7 + 2, none⟩ = some (.int .i64 x.block.n) ∧ W.cell? ⟨b, o + k * 7 + 3, none⟩ = some (.int .i64 x.block.r) ∧ W.cell? ⟨b, o + i * 7 + 2, none⟩ = some (.int .i64 x.block.n) ∧ W.cell? ⟨b, o + i * 7 + 3, none⟩ = some (.int .i64 x.block.r) ∧ W.cell? ⟨b, o + m * 7, none⟩ = some (.int .i64 z.at_.n) ∧ W.cell? ⟨b, o + m * 7 + 1, none⟩ = some (.int .i64 z.at_.r)) w5 := ⟨keepB b5 y0, keepB b5 y1, keepB b5 y2, keepB b5 y3, keepB b5 x2, keepB b5 x3, keepB b5 z0, keepB b5 z1⟩
                  refine ⟨_, rfl, hS5, ?_⟩
                  try simp only [Act.put, List.setIfInBounds_toArray, List.set_cons_zero, List.set_cons_succ]
                  refine held_take (i := 19) (d := (some 52)) rfl rfl (by kernel_rfl) (by kernel_rfl) (by kernel_rfl) (fun _ _ _ h => h) (.inl ⟨by rfl, fun W hW => by go_simp; rfl⟩) hS5 ?_
                  try simp only [Act.put, List.setIfInBounds_toArray, List.set_cons_zero, List.set_cons_succ]
                  refine held_take (i := 20) (d := (some 53)) rfl rfl (by kernel_rfl) (by kernel_rfl) (by kernel_rfl) (fun _ _ _ h => h) (.inl ⟨by rfl, fun W hW => by go_simp; rfl⟩) hS5 ?_
                  try simp only [Act.put, List.setIfInBounds_toArray, List.set_cons_zero, List.set_cons_succ]
                  refine held_take (i := 21) (d := (some 54)) rfl rfl (by kernel_rfl) (by kernel_rfl) (by kernel_rfl) (fun _ _ _ h => h) (.inl ⟨by rfl, fun W hW => by go_simp; rfl⟩) hS5 ?_
                  try simp only [Act.put, List.setIfInBounds_toArray, List.set_cons_zero, List.set_cons_succ]
                  refine held_take (i := 22) (d := (some 55)) rfl rfl (by kernel_rfl) (by kernel_rfl) (by kernel_rfl) (fun _ _ _ h => h) (.inl ⟨by rfl, fun W hW => by go_simp; rfl⟩) hS5 ?_
                  try simp only [Act.put, List.setIfInBounds_toArray, List.set_cons_zero, List.set_cons_succ]
                  refine held_take (i := 23) (d := (some 56)) rfl rfl (by kernel_rfl) (by kernel_rfl) (by kernel_rfl) (fun _ _ _ h => h) (.inl ⟨by rfl, fun W hW => by go_simp; rfl⟩) hS5 ?_
                  try simp only [Act.put, List.setIfInBounds_toArray, List.set_cons_zero, List.set_cons_succ]
                  refine held_take (i := 24) (d := (some 57)) rfl rfl (by kernel_rfl) (by kernel_rfl) (by kernel_rfl) (fun _ _ _ h => h) (.inl ⟨by rfl, fun W hW => by go_simp; rfl⟩) hS5 ?_
                  try simp only [Act.put, List.setIfInBounds_toArray, List.set_cons_zero, List.set_cons_succ]
                  refine held_take (i := 25) (d := (some 58)) rfl rfl (by kernel_rfl) (by kernel_rfl) (by kernel_rfl) (fun _ _ _ h => h) (.inl ⟨by rfl, fun W hW => by go_simp; rfl⟩) hS5 ?_
                  try simp only [Act.put, List.setIfInBounds_toArray, List.set_cons_zero, List.set_cons_succ]
                  refine held_take (i := 26) (d := (some 59)) rfl rfl (by kernel_rfl) (by kernel_rfl) (by kernel_rfl) (fun _ _ _ h => h) (.inl ⟨by rfl, fun W hW => by go_simp; rfl⟩) hS5 ?_
                  try simp only [Act.put, List.setIfInBounds_toArray, List.set_cons_zero, List.set_cons_succ]
                  refine held_take (i := 27) (d := (some 60)) rfl rfl (by kernel_rfl) (by kernel_rfl) (by kernel_rfl) (fun _ _ _ h => h) (.inl ⟨by rfl, fun W hW => by go_simp; rfl⟩) hS5 ?_
                  try simp only [Act.put, List.setIfInBounds_toArray, List.set_cons_zero, List.set_cons_succ]
                  refine held_take (i := 28) (d := (some 61)) rfl rfl (by kernel_rfl) (by kernel_rfl) (by kernel_rfl) (fun _ _ _ h => h) (.inl ⟨by rfl, fun W hW => by obtain ⟨q0, q1, q2, q3, q4, q5, q6, q7⟩ := hW; go_simp; rfl⟩) hS5 ?_
                  try simp only [Act.put, List.setIfInBounds_toArray, List.set_cons_zero, List.set_cons_succ]
                  refine held_take (i := 29) (d := (some 62)) rfl rfl (by kernel_rfl) (by kernel_rfl) (by kernel_rfl) (fun _ _ _ h => h) (.inl ⟨by rfl, fun W hW => by go_simp; rfl⟩) hS5 ?_
                  try simp only [Act.put, List.setIfInBounds_toArray, List.set_cons_zero, List.set_cons_succ]
                  refine held_take (i := 30) (d := (some 63)) rfl rfl (by kernel_rfl) (by kernel_rfl) (by kernel_rfl) (fun _ _ _ h => h) (.inl ⟨by rfl, fun W hW => by go_simp; rfl⟩) hS5 ?_
                  try simp only [Act.put, List.setIfInBounds_toArray, List.set_cons_zero, List.set_cons_succ]
                  refine held_take (i := 31) (d := (some 64)) rfl rfl (by kernel_rfl) (by kernel_rfl) (by kernel_rfl) (fun _ _ _ h => h) (.inl ⟨by rfl, fun W hW => by go_simp; rfl⟩) hS5 ?_
                  try simp only [Act.put, List.setIfInBounds_toArray, List.set_cons_zero, List.set_cons_succ]
                  refine held_take (i := 32) (d := (some 65)) rfl rfl (by kernel_rfl) (by kernel_rfl) (by kernel_rfl) (fun _ _ _ h => h) (.inl ⟨by rfl, fun W hW => by go_simp; rfl⟩) hS5 ?_
                  try simp only [Act.put, List.setIfInBounds_toArray, List.set_cons_zero, List.set_cons_succ]
                  refine held_take (i := 33) (d := (some 66)) rfl rfl (by kernel_rfl) (by kernel_rfl) (by kernel_rfl) (fun _ _ _ h => h) (.inl ⟨by rfl, fun W hW => by obtain ⟨q0, q1, q2, q3, q4, q5, q6, q7⟩ := hW; go_simp; rfl⟩) hS5 ?_
                  try simp only [Act.put, List.setIfInBounds_toArray, List.set_cons_zero, List.set_cons_succ]
                  refine held_call (i := 34) (d := (some 67)) (by kernel_rfl) rfl rfl (by rfl) (by go_simp; first | rfl | exact ⟨rfl, rfl⟩ | exact ⟨⟨rfl, rfl⟩, rfl⟩) ?_
                  refine (HCM.out _).mono ?_
                  rintro e w6 ⟨rfl, b6⟩
                  have hS6 : (fun W => W.cell? ⟨b, o + k * 7, none⟩ = some (.int .i64 y.at_.n) ∧ W.cell? ⟨b, o + k * 7 + 1, none⟩ = some (.int .i64 y.at_.r) ∧ W.cell? ⟨b, o + k * 7 + 2, none⟩ = some (.int .i64 x.block.n) ∧ W.cell? ⟨b, o + k * 7 + 3, none⟩ = some (.int .i64 x.block.r) ∧ W.cell? ⟨b, o + i * 7 + 2, none⟩ = some (.int .i64 x.block.n) ∧ W.cell? ⟨b, o + i * 7 + 3, none⟩ = some (.int .i64 x.block.r) ∧ W.cell? ⟨b, o + m * 7, none⟩ = some (.int .i64 z.at_.n) ∧ W.cell? ⟨b, o + m * 7 + 1, none⟩ = some (.int .i64 z.at_.r)) w6 := ⟨keepB b6 (keepB b5 y0), keepB b6 (keepB b5 y1), keepB b6 (keepB b5 y2), keepB b6 (keepB b5 y3), keepB b6 (keepB b5 x2), keepB b6 (keepB b5 x3), keepB b6 (keepB b5 z0), keepB b6 (keepB b5 z1)⟩
                  refine ⟨_, rfl, hS6, ?_⟩
                  try simp only [Act.put, List.setIfInBounds_toArray, List.set_cons_zero, List.set_cons_succ]
                  refine held_take (i := 35) (d := (some 68)) rfl rfl (by kernel_rfl) (by kernel_rfl) (by kernel_rfl) (fun _ _ _ h => h) (.inl ⟨by rfl, fun W hW => by go_simp; rfl⟩) hS6 ?_
                  try simp only [Act.put, List.setIfInBounds_toArray, List.set_cons_zero, List.set_cons_succ]
                  refine held_take (i := 36) (d := (some 69)) rfl rfl (by kernel_rfl) (by kernel_rfl) (by kernel_rfl) (fun _ _ _ h => h) (.inl ⟨by rfl, fun W hW => by go_simp; rfl⟩) hS6 ?_
                  try simp only [Act.put, List.setIfInBounds_toArray, List.set_cons_zero, List.set_cons_succ]
                  refine held_take (i := 37) (d := (some 70)) rfl rfl (by kernel_rfl) (by kernel_rfl) (by kernel_rfl) (fun _ _ _ h => h) (.inl ⟨by rfl, fun W hW => by go_simp; rfl⟩) hS6 ?_
                  try simp only [Act.put, List.setIfInBounds_toArray, List.set_cons_zero, List.set_cons_succ]
                  refine wpAnyH_done (by kernel_rfl) ?_ _
                  clear hS0 hS5 hS6
                  go_wp2_with fail
                  go_roundg (all.length - (k + 1))
                  case measure => rw [HG2.out]; omega
                  case rel => exact ⟨k + 1, k, rfl, hlt2, rfl, by go_num, HLO.out, ((hT).below b5).below b6, ((hS).below b5).below b6, ((hB).trans (b5.mono (hB).size)).trans (b6.mono ((hB).trans (b5.mono (hB).size)).size)⟩
                · have hpos : ¬ 0 < cmpS ⟨y.at_.n, y.at_.r⟩ ⟨z.at_.n, z.at_.r⟩ := fun h => hlt3 (hgt.1 h)
                  have HLO := Lib.hid (hLo.out.stay HY.out hz hlt3)
                  clear htk hLo hlt3 hgt hz
                  generalize cmpS ⟨y.at_.n, y.at_.r⟩ ⟨z.at_.n, z.at_.r⟩ = q at *
                  have HCM := Lib.hid hcm
                  clear hcm
                  go_wp2_with fail
                  have hS0 : (fun W => W.cell? ⟨b, o + k * 7, none⟩ = some (.int .i64 y.at_.n) ∧ W.cell? ⟨b, o + k * 7 + 1, none⟩ = some (.int .i64 y.at_.r) ∧ W.cell? ⟨b, o + k * 7 + 2, none⟩ = some (.int .i64 x.block.n) ∧ W.cell? ⟨b, o + k * 7 + 3, none⟩ = some (.int .i64 x.block.r) ∧ W.cell? ⟨b, o + i * 7 + 2, none⟩ = some (.int .i64 x.block.n) ∧ W.cell? ⟨b, o + i * 7 + 3, none⟩ = some (.int .i64 x.block.r) ∧ W.cell? ⟨b, o + m * 7, none⟩ = some (.int .i64 z.at_.n) ∧ W.cell? ⟨b, o + m * 7 + 1, none⟩ = some (.int .i64 z.at_.r)) wr.drew := ⟨y0, y1, y2, y3, x2, x3, z0, z1⟩
                  refine wp_region_held_drew (S := (fun W => W.cell? ⟨b, o + k * 7, none⟩ = some (.int .i64 y.at_.n) ∧ W.cell? ⟨b, o + k * 7 + 1, none⟩ = some (.int .i64 y.at_.r) ∧ W.cell? ⟨b, o + k * 7 + 2, none⟩ = some (.int .i64 x.block.n) ∧ W.cell? ⟨b, o + k * 7 + 3, none⟩ = some (.int .i64 x.block.r) ∧ W.cell? ⟨b, o + i * 7 + 2, none⟩ = some (.int .i64 x.block.n) ∧ W.cell? ⟨b, o + i * 7 + 3, none⟩ = some (.int .i64 x.block.r) ∧ W.cell? ⟨b, o + m * 7, none⟩ = some (.int .i64 z.at_.n) ∧ W.cell? ⟨b, o + m * 7 + 1, none⟩ = some (.int .i64 z.at_.r))) (by kernel_rfl) hS0 (fun _ => ?_)
                  refine held_take (i := 0) (d := (some 33)) rfl rfl (by kernel_rfl) (by kernel_rfl) (by kernel_rfl) (fun _ _ _ h => h) (.inl ⟨by rfl, fun W hW => by go_simp; rfl⟩) hS0 ?_
                  try simp only [Act.put, List.setIfInBounds_toArray, List.set_cons_zero, List.set_cons_succ]
                  refine held_take (i := 1) (d := (some 34)) rfl rfl (by kernel_rfl) (by kernel_rfl) (by kernel_rfl) (fun _ _ _ h => h) (.inl ⟨by rfl, fun W hW => by go_simp; rfl⟩) hS0 ?_
                  try simp only [Act.put, List.setIfInBounds_toArray, List.set_cons_zero, List.set_cons_succ]
                  refine held_take (i := 2) (d := (some 35)) rfl rfl (by kernel_rfl) (by kernel_rfl) (by kernel_rfl) (fun _ _ _ h => h) (.inl ⟨by rfl, fun W hW => by go_simp; rfl⟩) hS0 ?_
                  try simp only [Act.put, List.setIfInBounds_toArray, List.set_cons_zero, List.set_cons_succ]
                  refine held_take (i := 3) (d := (some 36)) rfl rfl (by kernel_rfl) (by kernel_rfl) (by kernel_rfl) (fun _ _ _ h => h) (.inl ⟨by rfl, fun W hW => by go_simp; rfl⟩) hS0 ?_
                  try simp only [Act.put, List.setIfInBounds_toArray, List.set_cons_zero, List.set_cons_succ]
                  refine held_take (i := 4) (d := (some 37)) rfl rfl (by kernel_rfl) (by kernel_rfl) (by kernel_rfl) (fun _ _ _ h => h) (.inl ⟨by rfl, fun W hW => by obtain ⟨q0, q1, q2, q3, q4, q5, q6, q7⟩ := hW; go_simp; rfl⟩) hS0 ?_
                  try simp only [Act.put, List.setIfInBounds_toArray, List.set_cons_zero, List.set_cons_succ]
                  refine held_take (i := 5) (d := (some 38)) rfl rfl (by kernel_rfl) (by kernel_rfl) (by kernel_rfl) (fun _ _ _ h => h) (.inl ⟨by rfl, fun W hW => by go_simp; rfl⟩) hS0 ?_
                  try simp only [Act.put, List.setIfInBounds_toArray, List.set_cons_zero, List.set_cons_succ]
                  refine held_take (i := 6) (d := (some 39)) rfl rfl (by kernel_rfl) (by kernel_rfl) (by kernel_rfl) (fun _ _ _ h => h) (.inl ⟨by rfl, fun W hW => by go_simp; rfl⟩) hS0 ?_
                  try simp only [Act.put, List.setIfInBounds_toArray, List.set_cons_zero, List.set_cons_succ]
                  refine held_take (i := 7) (d := (some 40)) rfl rfl (by kernel_rfl) (by kernel_rfl) (by kernel_rfl) (fun _ _ _ h => h) (.inl ⟨by rfl, fun W hW => by go_simp; rfl⟩) hS0 ?_
                  try simp only [Act.put, List.setIfInBounds_toArray, List.set_cons_zero, List.set_cons_succ]
                  refine held_take (i := 8) (d := (some 41)) rfl rfl (by kernel_rfl) (by kernel_rfl) (by kernel_rfl) (fun _ _ _ h => h) (.inl ⟨by rfl, fun W hW => by go_simp; rfl⟩) hS0 ?_
                  try simp only [Act.put, List.setIfInBounds_toArray, List.set_cons_zero, List.set_cons_succ]
                  refine held_take (i := 9) (d := (some 42)) rfl rfl (by kernel_rfl) (by kernel_rfl) (by kernel_rfl) (fun _ _ _ h => h) (.inl ⟨by rfl, fun W hW => by obtain ⟨q0, q1, q2, q3, q4, q5, q6, q7⟩ := hW; go_simp; rfl⟩) hS0 ?_
                  try simp only [Act.put, List.setIfInBounds_toArray, List.set_cons_zero, List.set_cons_succ]
                  refine held_take (i := 10) (d := (some 43)) rfl rfl (by kernel_rfl) (by kernel_rfl) (by kernel_rfl) (fun _ _ _ h => h) (.inl ⟨by rfl, fun W hW => by go_simp; rfl⟩) hS0 ?_
                  try simp only [Act.put, List.setIfInBounds_toArray, List.set_cons_zero, List.set_cons_succ]
                  refine held_take (i := 11) (d := (some 44)) rfl rfl (by kernel_rfl) (by kernel_rfl) (by kernel_rfl) (fun _ _ _ h => h) (.inl ⟨by rfl, fun W hW => by go_simp; rfl⟩) hS0 ?_
                  try simp only [Act.put, List.setIfInBounds_toArray, List.set_cons_zero, List.set_cons_succ]
                  refine held_take (i := 12) (d := (some 45)) rfl rfl (by kernel_rfl) (by kernel_rfl) (by kernel_rfl) (fun _ _ _ h => h) (.inl ⟨by rfl, fun W hW => by go_simp; rfl⟩) hS0 ?_
                  try simp only [Act.put, List.setIfInBounds_toArray, List.set_cons_zero, List.set_cons_succ]
                  refine held_take (i := 13) (d := (some 46)) rfl rfl (by kernel_rfl) (by kernel_rfl) (by kernel_rfl) (fun _ _ _ h => h) (.inl ⟨by rfl, fun W hW => by go_simp; rfl⟩) hS0 ?_
                  try simp only [Act.put, List.setIfInBounds_toArray, List.set_cons_zero, List.set_cons_succ]
                  refine held_take (i := 14) (d := (some 47)) rfl rfl (by kernel_rfl) (by kernel_rfl) (by kernel_rfl) (fun _ _ _ h => h) (.inl ⟨by rfl, fun W hW => by go_simp; rfl⟩) hS0 ?_
                  try simp only [Act.put, List.setIfInBounds_toArray, List.set_cons_zero, List.set_cons_succ]
                  refine held_take (i := 15) (d := (some 48)) rfl rfl (by kernel_rfl) (by kernel_rfl) (by kernel_rfl) (fun _ _ _ h => h) (.inl ⟨by rfl, fun W hW => by go_simp; rfl⟩) hS0 ?_
                  try simp only [Act.put, List.setIfInBounds_toArray, List.set_cons_zero, List.set_cons_succ]
                  refine held_take (i := 16) (d := (some 49)) rfl rfl (by kernel_rfl) (by kernel_rfl) (by kernel_rfl) (fun _ _ _ h => h) (.inl ⟨by rfl, fun W hW => by go_simp; rfl⟩) hS0 ?_
                  try simp only [Act.put, List.setIfInBounds_toArray, List.set_cons_zero, List.set_cons_succ]
                  refine held_take (i := 17) (d := (some 50)) rfl rfl (by kernel_rfl) (by kernel_rfl) (by kernel_rfl) (fun _ _ _ h => h) (.inl ⟨by rfl, fun W hW => by obtain ⟨q0, q1, q2, q3, q4, q5, q6, q7⟩ := hW; go_simp; rfl⟩) hS0 ?_
                  try simp only [Act.put, List.setIfInBounds_toArray, List.set_cons_zero, List.set_cons_succ]
                  refine held_call (i := 18) (d := (some 51)) (by kernel_rfl) rfl rfl (by rfl) (by go_simp; first | rfl | exact ⟨rfl, rfl⟩ | exact ⟨⟨rfl, rfl⟩, rfl⟩) ?_
                  refine (HTK.out _ hT.drew).mono ?_
                  rintro e w5 ⟨rfl, b5⟩
                  simp only [heap_drew, below_drew] at b5
                  have hS5 : (fun W => W.cell? ⟨b, o + k * 7, none⟩ = some (.int .i64 y.at_.n) ∧ W.cell? ⟨b, o + k * 7 + 1, none⟩ = some (.int .i64 y.at_.r) ∧ W.cell? ⟨b, o + k * 7 + 2, none⟩ = some (.int .i64 x.block.n) ∧ W.cell? ⟨b, o + k * 7 + 3, none⟩ = some (.int .i64 x.block.r) ∧ W.cell? ⟨b, o + i * 7 + 2, none⟩ = some (.int .i64 x.block.n) ∧ W.cell? ⟨b, o + i * 7 + 3, none⟩ = some (.int .i64 x.block.r) ∧ W.cell? ⟨b, o + m * 7, none⟩ = some (.int .i64 z.at_.n) ∧ W.cell? ⟨b, o + m * 7 + 1, none⟩ = some (.int .i64 z.at_.r)) w5 := ⟨keepB b5 y0, keepB b5 y1, keepB b5 y2, keepB b5 y3, keepB b5 x2, keepB b5 x3, keepB b5 z0, keepB b5 z1⟩
                  refine ⟨_, rfl, hS5, ?_⟩
                  try simp only [Act.put, List.setIfInBounds_toArray, List.set_cons_zero, List.set_cons_succ]
                  refine held_take (i := 19) (d := (some 52)) rfl rfl (by kernel_rfl) (by kernel_rfl) (by kernel_rfl) (fun _ _ _ h => h) (.inl ⟨by rfl, fun W hW => by go_simp; rfl⟩) hS5 ?_
                  try simp only [Act.put, List.setIfInBounds_toArray, List.set_cons_zero, List.set_cons_succ]
                  refine held_take (i := 20) (d := (some 53)) rfl rfl (by kernel_rfl) (by kernel_rfl) (by kernel_rfl) (fun _ _ _ h => h) (.inl ⟨by rfl, fun W hW => by go_simp; rfl⟩) hS5 ?_
                  try simp only [Act.put, List.setIfInBounds_toArray, List.set_cons_zero, List.set_cons_succ]
                  refine held_take (i := 21) (d := (some 54)) rfl rfl (by kernel_rfl) (by kernel_rfl) (by kernel_rfl) (fun _ _ _ h => h) (.inl ⟨by rfl, fun W hW => by go_simp; rfl⟩) hS5 ?_
                  try simp only [Act.put, List.setIfInBounds_toArray, List.set_cons_zero, List.set_cons_succ]
                  refine held_take (i := 22) (d := (some 55)) rfl rfl (by kernel_rfl) (by kernel_rfl) (by kernel_rfl) (fun _ _ _ h => h) (.inl ⟨by rfl, fun W hW => by go_simp; rfl⟩) hS5 ?_
                  try simp only [Act.put, List.setIfInBounds_toArray, List.set_cons_zero, List.set_cons_succ]
                  refine held_take (i := 23) (d := (some 56)) rfl rfl (by kernel_rfl) (by kernel_rfl) (by kernel_rfl) (fun _ _ _ h => h) (.inl ⟨by rfl, fun W hW => by go_simp; rfl⟩) hS5 ?_
                  try simp only [Act.put, List.setIfInBounds_toArray, List.set_cons_zero, List.set_cons_succ]
                  refine held_take (i := 24) (d := (some 57)) rfl rfl (by kernel_rfl) (by kernel_rfl) (by kernel_rfl) (fun _ _ _ h => h) (.inl ⟨by rfl, fun W hW => by go_simp; rfl⟩) hS5 ?_
                  try simp only [Act.put, List.setIfInBounds_toArray, List.set_cons_zero, List.set_cons_succ]
                  refine held_take (i := 25) (d := (some 58)) rfl rfl (by kernel_rfl) (by kernel_rfl) (by kernel_rfl) (fun _ _ _ h => h) (.inl ⟨by rfl, fun W hW => by go_simp; rfl⟩) hS5 ?_
                  try simp only [Act.put, List.setIfInBounds_toArray, List.set_cons_zero, List.set_cons_succ]
                  refine held_take (i := 26) (d := (some 59)) rfl rfl (by kernel_rfl) (by kernel_rfl) (by kernel_rfl) (fun _ _ _ h => h) (.inl ⟨by rfl, fun W hW => by go_simp; rfl⟩) hS5 ?_
                  try simp only [Act.put, List.setIfInBounds_toArray, List.set_cons_zero, List.set_cons_succ]
                  refine held_take (i := 27) (d := (some 60)) rfl rfl (by kernel_rfl) (by kernel_rfl) (by kernel_rfl) (fun _ _ _ h => h) (.inl ⟨by rfl, fun W hW => by go_simp; rfl⟩) hS5 ?_
                  try simp only [Act.put, List.setIfInBounds_toArray, List.set_cons_zero, List.set_cons_succ]
                  refine held_take (i := 28) (d := (some 61)) rfl rfl (by kernel_rfl) (by kernel_rfl) (by kernel_rfl) (fun _ _ _ h => h) (.inl ⟨by rfl, fun W hW => by obtain ⟨q0, q1, q2, q3, q4, q5, q6, q7⟩ := hW; go_simp; rfl⟩) hS5 ?_
                  try simp only [Act.put, List.setIfInBounds_toArray, List.set_cons_zero, List.set_cons_succ]
                  refine held_take (i := 29) (d := (some 62)) rfl rfl (by kernel_rfl) (by kernel_rfl) (by kernel_rfl) (fun _ _ _ h => h) (.inl ⟨by rfl, fun W hW => by go_simp; rfl⟩) hS5 ?_
                  try simp only [Act.put, List.setIfInBounds_toArray, List.set_cons_zero, List.set_cons_succ]
                  refine held_take (i := 30) (d := (some 63)) rfl rfl (by kernel_rfl) (by kernel_rfl) (by kernel_rfl) (fun _ _ _ h => h) (.inl ⟨by rfl, fun W hW => by go_simp; rfl⟩) hS5 ?_
                  try simp only [Act.put, List.setIfInBounds_toArray, List.set_cons_zero, List.set_cons_succ]
                  refine held_take (i := 31) (d := (some 64)) rfl rfl (by kernel_rfl) (by kernel_rfl) (by kernel_rfl) (fun _ _ _ h => h) (.inl ⟨by rfl, fun W hW => by go_simp; rfl⟩) hS5 ?_
                  try simp only [Act.put, List.setIfInBounds_toArray, List.set_cons_zero, List.set_cons_succ]
                  refine held_take (i := 32) (d := (some 65)) rfl rfl (by kernel_rfl) (by kernel_rfl) (by kernel_rfl) (fun _ _ _ h => h) (.inl ⟨by rfl, fun W hW => by go_simp; rfl⟩) hS5 ?_
                  try simp only [Act.put, List.setIfInBounds_toArray, List.set_cons_zero, List.set_cons_succ]
                  refine held_take (i := 33) (d := (some 66)) rfl rfl (by kernel_rfl) (by kernel_rfl) (by kernel_rfl) (fun _ _ _ h => h) (.inl ⟨by rfl, fun W hW => by obtain ⟨q0, q1, q2, q3, q4, q5, q6, q7⟩ := hW; go_simp; rfl⟩) hS5 ?_
                  try simp only [Act.put, List.setIfInBounds_toArray, List.set_cons_zero, List.set_cons_succ]
                  refine held_call (i := 34) (d := (some 67)) (by kernel_rfl) rfl rfl (by rfl) (by go_simp; first | rfl | exact ⟨rfl, rfl⟩ | exact ⟨⟨rfl, rfl⟩, rfl⟩) ?_
                  refine (HCM.out _).mono ?_
                  rintro e w6 ⟨rfl, b6⟩
                  have hS6 : (fun W => W.cell? ⟨b, o + k * 7, none⟩ = some (.int .i64 y.at_.n) ∧ W.cell? ⟨b, o + k * 7 + 1, none⟩ = some (.int .i64 y.at_.r) ∧ W.cell? ⟨b, o + k * 7 + 2, none⟩ = some (.int .i64 x.block.n) ∧ W.cell? ⟨b, o + k * 7 + 3, none⟩ = some (.int .i64 x.block.r) ∧ W.cell? ⟨b, o + i * 7 + 2, none⟩ = some (.int .i64 x.block.n) ∧ W.cell? ⟨b, o + i * 7 + 3, none⟩ = some (.int .i64 x.block.r) ∧ W.cell? ⟨b, o + m * 7, none⟩ = some (.int .i64 z.at_.n) ∧ W.cell? ⟨b, o + m * 7 + 1, none⟩ = some (.int .i64 z.at_.r)) w6 := ⟨keepB b6 (keepB b5 y0), keepB b6 (keepB b5 y1), keepB b6 (keepB b5 y2), keepB b6 (keepB b5 y3), keepB b6 (keepB b5 x2), keepB b6 (keepB b5 x3), keepB b6 (keepB b5 z0), keepB b6 (keepB b5 z1)⟩
                  refine ⟨_, rfl, hS6, ?_⟩
                  try simp only [Act.put, List.setIfInBounds_toArray, List.set_cons_zero, List.set_cons_succ]
                  refine held_take (i := 35) (d := (some 68)) rfl rfl (by kernel_rfl) (by kernel_rfl) (by kernel_rfl) (fun _ _ _ h => h) (.inl ⟨by rfl, fun W hW => by go_simp; rfl⟩) hS6 ?_
                  try simp only [Act.put, List.setIfInBounds_toArray, List.set_cons_zero, List.set_cons_succ]
                  refine held_take (i := 36) (d := (some 69)) rfl rfl (by kernel_rfl) (by kernel_rfl) (by kernel_rfl) (fun _ _ _ h => h) (.inl ⟨by rfl, fun W hW => by go_simp; rfl⟩) hS6 ?_
                  try simp only [Act.put, List.setIfInBounds_toArray, List.set_cons_zero, List.set_cons_succ]
                  refine held_take (i := 37) (d := (some 70)) rfl rfl (by kernel_rfl) (by kernel_rfl) (by kernel_rfl) (fun _ _ _ h => h) (.inl ⟨by rfl, fun W hW => by go_simp; rfl⟩) hS6 ?_
                  try simp only [Act.put, List.setIfInBounds_toArray, List.set_cons_zero, List.set_cons_succ]
                  refine wpAnyH_done (by kernel_rfl) ?_ _
                  clear hS0 hS5 hS6
                  go_wp2_with fail
                  go_roundg (all.length - (k + 1))
                  case measure => rw [HG2.out]; omega
                  case rel => exact ⟨k + 1, m, rfl, hlt2, rfl, by go_num, HLO.out, ((hT).below b5).below b6, ((hS).below b5).below b6, ((hB).trans (b5.mono (hB).size)).trans (b6.mono ((hB).trans (b5.mono (hB).size)).size)⟩
          · have HLO := Lib.hid (hLo.out.skip HY.out (fun h => hbk h.1))
            clear hLo
            by_cases e1 : y.block.n = x.block.n
            · have e2 : ¬ y.block.r = x.block.r := fun e2 => hbk (st_eq e1 e2)
              clear hbk
              go_wp2_with fail
              have hS0 : (fun W => W.cell? ⟨b, o + k * 7, none⟩ = some (.int .i64 y.at_.n) ∧ W.cell? ⟨b, o + k * 7 + 1, none⟩ = some (.int .i64 y.at_.r) ∧ W.cell? ⟨b, o + k * 7 + 2, none⟩ = some (.int .i64 y.block.n) ∧ W.cell? ⟨b, o + k * 7 + 3, none⟩ = some (.int .i64 y.block.r) ∧ W.cell? ⟨b, o + i * 7 + 2, none⟩ = some (.int .i64 x.block.n) ∧ W.cell? ⟨b, o + i * 7 + 3, none⟩ = some (.int .i64 x.block.r)) wr.drew := ⟨y0, y1, y2, y3, x2, x3⟩
              refine wp_region_held_drew (S := (fun W => W.cell? ⟨b, o + k * 7, none⟩ = some (.int .i64 y.at_.n) ∧ W.cell? ⟨b, o + k * 7 + 1, none⟩ = some (.int .i64 y.at_.r) ∧ W.cell? ⟨b, o + k * 7 + 2, none⟩ = some (.int .i64 y.block.n) ∧ W.cell? ⟨b, o + k * 7 + 3, none⟩ = some (.int .i64 y.block.r) ∧ W.cell? ⟨b, o + i * 7 + 2, none⟩ = some (.int .i64 x.block.n) ∧ W.cell? ⟨b, o + i * 7 + 3, none⟩ = some (.int .i64 x.block.r))) (by kernel_rfl) hS0 (fun _ => ?_)
              refine held_take (i := 0) (d := (some 33)) rfl rfl (by kernel_rfl) (by kernel_rfl) (by kernel_rfl) (fun _ _ _ h => h) (.inl ⟨by rfl, fun W hW => by go_simp; rfl⟩) hS0 ?_
              try simp only [Act.put, List.setIfInBounds_toArray, List.set_cons_zero, List.set_cons_succ]
              refine held_take (i := 1) (d := (some 34)) rfl rfl (by kernel_rfl) (by kernel_rfl) (by kernel_rfl) (fun _ _ _ h => h) (.inl ⟨by rfl, fun W hW => by go_simp; rfl⟩) hS0 ?_
              try simp only [Act.put, List.setIfInBounds_toArray, List.set_cons_zero, List.set_cons_succ]
              refine held_take (i := 2) (d := (some 35)) rfl rfl (by kernel_rfl) (by kernel_rfl) (by kernel_rfl) (fun _ _ _ h => h) (.inl ⟨by rfl, fun W hW => by go_simp; rfl⟩) hS0 ?_
              try simp only [Act.put, List.setIfInBounds_toArray, List.set_cons_zero, List.set_cons_succ]
              refine held_take (i := 3) (d := (some 36)) rfl rfl (by kernel_rfl) (by kernel_rfl) (by kernel_rfl) (fun _ _ _ h => h) (.inl ⟨by rfl, fun W hW => by go_simp; rfl⟩) hS0 ?_
              try simp only [Act.put, List.setIfInBounds_toArray, List.set_cons_zero, List.set_cons_succ]
              refine held_take (i := 4) (d := (some 37)) rfl rfl (by kernel_rfl) (by kernel_rfl) (by kernel_rfl) (fun _ _ _ h => h) (.inl ⟨by rfl, fun W hW => by obtain ⟨q0, q1, q2, q3, q4, q5⟩ := hW; go_simp; rfl⟩) hS0 ?_
              try simp only [Act.put, List.setIfInBounds_toArray, List.set_cons_zero, List.set_cons_succ]
              refine held_take (i := 5) (d := (some 38)) rfl rfl (by kernel_rfl) (by kernel_rfl) (by kernel_rfl) (fun _ _ _ h => h) (.inl ⟨by rfl, fun W hW => by go_simp; rfl⟩) hS0 ?_
              try simp only [Act.put, List.setIfInBounds_toArray, List.set_cons_zero, List.set_cons_succ]
              refine held_take (i := 6) (d := (some 39)) rfl rfl (by kernel_rfl) (by kernel_rfl) (by kernel_rfl) (fun _ _ _ h => h) (.inl ⟨by rfl, fun W hW => by go_simp; rfl⟩) hS0 ?_
              try simp only [Act.put, List.setIfInBounds_toArray, List.set_cons_zero, List.set_cons_succ]
              refine held_take (i := 7) (d := (some 40)) rfl rfl (by kernel_rfl) (by kernel_rfl) (by kernel_rfl) (fun _ _ _ h => h) (.inl ⟨by rfl, fun W hW => by go_simp; rfl⟩) hS0 ?_
              try simp only [Act.put, List.setIfInBounds_toArray, List.set_cons_zero, List.set_cons_succ]
              refine held_take (i := 8) (d := (some 41)) rfl rfl (by kernel_rfl) (by kernel_rfl) (by kernel_rfl) (fun _ _ _ h => h) (.inl ⟨by rfl, fun W hW => by go_simp; rfl⟩) hS0 ?_
              try simp only [Act.put, List.setIfInBounds_toArray, List.set_cons_zero, List.set_cons_succ]
              refine held_take (i := 9) (d := (some 42)) rfl rfl (by kernel_rfl) (by kernel_rfl) (by kernel_rfl) (fun _ _ _ h => h) (.inl ⟨by rfl, fun W hW => by obtain ⟨q0, q1, q2, q3, q4, q5⟩ := hW; go_simp; rfl⟩) hS0 ?_
              try simp only [Act.put, List.setIfInBounds_toArray, List.set_cons_zero, List.set_cons_succ]
              refine held_take (i := 10) (d := (some 43)) rfl rfl (by kernel_rfl) (by kernel_rfl) (by kernel_rfl) (fun _ _ _ h => h) (.inl ⟨by rfl, fun W hW => by go_simp; rfl⟩) hS0 ?_
              try simp only [Act.put, List.setIfInBounds_toArray, List.set_cons_zero, List.set_cons_succ]
              refine held_take (i := 11) (d := (some 44)) rfl rfl (by kernel_rfl) (by kernel_rfl) (by kernel_rfl) (fun _ _ _ h => h) (.inl ⟨by rfl, fun W hW => by go_simp; rfl⟩) hS0 ?_
              try simp only [Act.put, List.setIfInBounds_toArray, List.set_cons_zero, List.set_cons_succ]
              refine held_take (i := 12) (d := (some 45)) (v := undef) rfl rfl (by kernel_rfl) (by kernel_rfl) (by kernel_rfl) (fun _ _ _ h => h) (.inr ⟨by rfl, rfl⟩) hS0 ?_
              try simp only [Act.put, List.setIfInBounds_toArray, List.set_cons_zero, List.set_cons_succ]
              refine held_take (i := 13) (d := (some 46)) (v := undef) rfl rfl (by kernel_rfl) (by kernel_rfl) (by kernel_rfl) (fun _ _ _ h => h) (.inr ⟨by rfl, rfl⟩) hS0 ?_
              try simp only [Act.put, List.setIfInBounds_toArray, List.set_cons_zero, List.set_cons_succ]
              refine held_take (i := 14) (d := (some 47)) (v := undef) rfl rfl (by kernel_rfl) (by kernel_rfl) (by kernel_rfl) (fun _ _ _ h => h) (.inr ⟨by rfl, rfl⟩) hS0 ?_
              try simp only [Act.put, List.setIfInBounds_toArray, List.set_cons_zero, List.set_cons_succ]
              refine held_take (i := 15) (d := (some 48)) (v := undef) rfl rfl (by kernel_rfl) (by kernel_rfl) (by kernel_rfl) (fun _ _ _ h => h) (.inr ⟨by rfl, rfl⟩) hS0 ?_
              try simp only [Act.put, List.setIfInBounds_toArray, List.set_cons_zero, List.set_cons_succ]
              refine held_take (i := 16) (d := (some 49)) (v := undef) rfl rfl (by kernel_rfl) (by kernel_rfl) (by kernel_rfl) (fun _ _ _ h => h) (.inr ⟨by rfl, rfl⟩) hS0 ?_
              try simp only [Act.put, List.setIfInBounds_toArray, List.set_cons_zero, List.set_cons_succ]
              refine held_take (i := 17) (d := (some 50)) (v := undef) rfl rfl (by kernel_rfl) (by kernel_rfl) (by kernel_rfl) (fun _ _ _ h => h) (.inr ⟨by rfl, rfl⟩) hS0 ?_
              try simp only [Act.put, List.setIfInBounds_toArray, List.set_cons_zero, List.set_cons_succ]
              refine held_take (i := 18) (d := (some 51)) (v := undef) rfl rfl (by kernel_rfl) (by kernel_rfl) (by kernel_rfl) (fun _ _ _ h => h) (.inr ⟨by rfl, rfl⟩) hS0 ?_
              try simp only [Act.put, List.setIfInBounds_toArray, List.set_cons_zero, List.set_cons_succ]
              refine held_take (i := 19) (d := (some 52)) rfl rfl (by kernel_rfl) (by kernel_rfl) (by kernel_rfl) (fun _ _ _ h => h) (.inl ⟨by rfl, fun W hW => by go_simp; rfl⟩) hS0 ?_
              try simp only [Act.put, List.setIfInBounds_toArray, List.set_cons_zero, List.set_cons_succ]
              refine held_take (i := 20) (d := (some 53)) rfl rfl (by kernel_rfl) (by kernel_rfl) (by kernel_rfl) (fun _ _ _ h => h) (.inl ⟨by rfl, fun W hW => by go_simp; rfl⟩) hS0 ?_
              try simp only [Act.put, List.setIfInBounds_toArray, List.set_cons_zero, List.set_cons_succ]
              refine held_take (i := 21) (d := (some 54)) (v := undef) rfl rfl (by kernel_rfl) (by kernel_rfl) (by kernel_rfl) (fun _ _ _ h => h) (.inr ⟨by rfl, rfl⟩) hS0 ?_
              try simp only [Act.put, List.setIfInBounds_toArray, List.set_cons_zero, List.set_cons_succ]
              refine held_take (i := 22) (d := (some 55)) (v := undef) rfl rfl (by kernel_rfl) (by kernel_rfl) (by kernel_rfl) (fun _ _ _ h => h) (.inr ⟨by rfl, rfl⟩) hS0 ?_
              try simp only [Act.put, List.setIfInBounds_toArray, List.set_cons_zero, List.set_cons_succ]
              refine held_take (i := 23) (d := (some 56)) (v := undef) rfl rfl (by kernel_rfl) (by kernel_rfl) (by kernel_rfl) (fun _ _ _ h => h) (.inr ⟨by rfl, rfl⟩) hS0 ?_
              try simp only [Act.put, List.setIfInBounds_toArray, List.set_cons_zero, List.set_cons_succ]
              refine held_take (i := 24) (d := (some 57)) (v := undef) rfl rfl (by kernel_rfl) (by kernel_rfl) (by kernel_rfl) (fun _ _ _ h => h) (.inr ⟨by rfl, rfl⟩) hS0 ?_
              try simp only [Act.put, List.setIfInBounds_toArray, List.set_cons_zero, List.set_cons_succ]
              refine held_take (i := 25) (d := (some 58)) (v := undef) rfl rfl (by kernel_rfl) (by kernel_rfl) (by kernel_rfl) (fun _ _ _ h => h) (.inr ⟨by rfl, rfl⟩) hS0 ?_
              try simp only [Act.put, List.setIfInBounds_toArray, List.set_cons_zero, List.set_cons_succ]
              refine held_take (i := 26) (d := (some 59)) (v := undef) rfl rfl (by kernel_rfl) (by kernel_rfl) (by kernel_rfl) (fun _ _ _ h => h) (.inr ⟨by rfl, rfl⟩) hS0 ?_
              try simp only [Act.put, List.setIfInBounds_toArray, List.set_cons_zero, List.set_cons_succ]
              refine held_take (i := 27) (d := (some 60)) (v := undef) rfl rfl (by kernel_rfl) (by kernel_rfl) (by kernel_rfl) (fun _ _ _ h => h) (.inr ⟨by rfl, rfl⟩) hS0 ?_
              try simp only [Act.put, List.setIfInBounds_toArray, List.set_cons_zero, List.set_cons_succ]
              refine held_take (i := 28) (d := (some 61)) (v := undef) rfl rfl (by kernel_rfl) (by kernel_rfl) (by kernel_rfl) (fun _ _ _ h => h) (.inr ⟨by rfl, rfl⟩) hS0 ?_
              try simp only [Act.put, List.setIfInBounds_toArray, List.set_cons_zero, List.set_cons_succ]
              refine held_take (i := 29) (d := (some 62)) (v := undef) rfl rfl (by kernel_rfl) (by kernel_rfl) (by kernel_rfl) (fun _ _ _ h => h) (.inr ⟨by rfl, rfl⟩) hS0 ?_
              try simp only [Act.put, List.setIfInBounds_toArray, List.set_cons_zero, List.set_cons_succ]
              refine held_take (i := 30) (d := (some 63)) (v := undef) rfl rfl (by kernel_rfl) (by kernel_rfl) (by kernel_rfl) (fun _ _ _ h => h) (.inr ⟨by rfl, rfl⟩) hS0 ?_
              try simp only [Act.put, List.setIfInBounds_toArray, List.set_cons_zero, List.set_cons_succ]
              refine held_take (i := 31) (d := (some 64)) (v := undef) rfl rfl (by kernel_rfl) (by kernel_rfl) (by kernel_rfl) (fun _ _ _ h => h) (.inr ⟨by rfl, rfl⟩) hS0 ?_
              try simp only [Act.put, List.setIfInBounds_toArray, List.set_cons_zero, List.set_cons_succ]
              refine held_take (i := 32) (d := (some 65)) (v := undef) rfl rfl (by kernel_rfl) (by kernel_rfl) (by kernel_rfl) (fun _ _ _ h => h) (.inr ⟨by rfl, rfl⟩) hS0 ?_
              try simp only [Act.put, List.setIfInBounds_toArray, List.set_cons_zero, List.set_cons_succ]
              refine held_take (i := 33) (d := (some 66)) (v := undef) rfl rfl (by kernel_rfl) (by kernel_rfl) (by kernel_rfl) (fun _ _ _ h => h) (.inr ⟨by rfl, rfl⟩) hS0 ?_
              try simp only [Act.put, List.setIfInBounds_toArray, List.set_cons_zero, List.set_cons_succ]
              refine held_take (i := 34) (d := (some 67)) (v := undef) rfl rfl (by kernel_rfl) (by kernel_rfl) (by kernel_rfl) (fun _ _ _ h => h) (.inr ⟨by rfl, rfl⟩) hS0 ?_
              try simp only [Act.put, List.setIfInBounds_toArray, List.set_cons_zero, List.set_cons_succ]
              refine held_take (i := 35) (d := (some 68)) (v := undef) rfl rfl (by kernel_rfl) (by kernel_rfl) (by kernel_rfl) (fun _ _ _ h => h) (.inr ⟨by rfl, rfl⟩) hS0 ?_
              try simp only [Act.put, List.setIfInBounds_toArray, List.set_cons_zero, List.set_cons_succ]
              refine held_take (i := 36) (d := (some 69)) (v := undef) rfl rfl (by kernel_rfl) (by kernel_rfl) (by kernel_rfl) (fun _ _ _ h => h) (.inr ⟨by rfl, rfl⟩) hS0 ?_
              try simp only [Act.put, List.setIfInBounds_toArray, List.set_cons_zero, List.set_cons_succ]
              refine held_take (i := 37) (d := (some 70)) rfl rfl (by kernel_rfl) (by kernel_rfl) (by kernel_rfl) (fun _ _ _ h => h) (.inl ⟨by rfl, fun W hW => by go_simp; rfl⟩) hS0 ?_
              try simp only [Act.put, List.setIfInBounds_toArray, List.set_cons_zero, List.set_cons_succ]
              refine wpAnyH_done (by kernel_rfl) ?_ _
              clear hS0
              go_wp2_with fail
              go_roundg (all.length - (k + 1))
              case measure => rw [HG2.out]; omega
              case rel => exact ⟨k + 1, last, rfl, hlt2, rfl, by go_num, HLO.out, hT.drew, hS.below (Below.refl _ _).drew, hB.drew⟩
            · clear hbk
              go_wp2_with fail
              have hS0 : (fun W => W.cell? ⟨b, o + k * 7, none⟩ = some (.int .i64 y.at_.n) ∧ W.cell? ⟨b, o + k * 7 + 1, none⟩ = some (.int .i64 y.at_.r) ∧ W.cell? ⟨b, o + k * 7 + 2, none⟩ = some (.int .i64 y.block.n) ∧ W.cell? ⟨b, o + k * 7 + 3, none⟩ = some (.int .i64 y.block.r) ∧ W.cell? ⟨b, o + i * 7 + 2, none⟩ = some (.int .i64 x.block.n) ∧ W.cell? ⟨b, o + i * 7 + 3, none⟩ = some (.int .i64 x.block.r)) wr.drew := ⟨y0, y1, y2, y3, x2, x3⟩
              refine wp_region_held_drew (S := (fun W => W.cell? ⟨b, o + k * 7, none⟩ = some (.int .i64 y.at_.n) ∧ W.cell? ⟨b, o + k * 7 + 1, none⟩ = some (.int .i64 y.at_.r) ∧ W.cell? ⟨b, o + k * 7 + 2, none⟩ = some (.int .i64 y.block.n) ∧ W.cell? ⟨b, o + k * 7 + 3, none⟩ = some (.int .i64 y.block.r) ∧ W.cell? ⟨b, o + i * 7 + 2, none⟩ = some (.int .i64 x.block.n) ∧ W.cell? ⟨b, o + i * 7 + 3, none⟩ = some (.int .i64 x.block.r))) (by kernel_rfl) hS0 (fun _ => ?_)
              refine held_take (i := 0) (d := (some 33)) rfl rfl (by kernel_rfl) (by kernel_rfl) (by kernel_rfl) (fun _ _ _ h => h) (.inl ⟨by rfl, fun W hW => by go_simp; rfl⟩) hS0 ?_
              try simp only [Act.put, List.setIfInBounds_toArray, List.set_cons_zero, List.set_cons_succ]
              refine held_take (i := 1) (d := (some 34)) rfl rfl (by kernel_rfl) (by kernel_rfl) (by kernel_rfl) (fun _ _ _ h => h) (.inl ⟨by rfl, fun W hW => by go_simp; rfl⟩) hS0 ?_
              try simp only [Act.put, List.setIfInBounds_toArray, List.set_cons_zero, List.set_cons_succ]
              refine held_take (i := 2) (d := (some 35)) rfl rfl (by kernel_rfl) (by kernel_rfl) (by kernel_rfl) (fun _ _ _ h => h) (.inl ⟨by rfl, fun W hW => by go_simp; rfl⟩) hS0 ?_
              try simp only [Act.put, List.setIfInBounds_toArray, List.set_cons_zero, List.set_cons_succ]
              refine held_take (i := 3) (d := (some 36)) rfl rfl (by kernel_rfl) (by kernel_rfl) (by kernel_rfl) (fun _ _ _ h => h) (.inl ⟨by rfl, fun W hW => by go_simp; rfl⟩) hS0 ?_
              try simp only [Act.put, List.setIfInBounds_toArray, List.set_cons_zero, List.set_cons_succ]
              refine held_take (i := 4) (d := (some 37)) rfl rfl (by kernel_rfl) (by kernel_rfl) (by kernel_rfl) (fun _ _ _ h => h) (.inl ⟨by rfl, fun W hW => by obtain ⟨q0, q1, q2, q3, q4, q5⟩ := hW; go_simp; rfl⟩) hS0 ?_
              try simp only [Act.put, List.setIfInBounds_toArray, List.set_cons_zero, List.set_cons_succ]
              refine held_take (i := 5) (d := (some 38)) rfl rfl (by kernel_rfl) (by kernel_rfl) (by kernel_rfl) (fun _ _ _ h => h) (.inl ⟨by rfl, fun W hW => by go_simp; rfl⟩) hS0 ?_
              try simp only [Act.put, List.setIfInBounds_toArray, List.set_cons_zero, List.set_cons_succ]
              refine held_take (i := 6) (d := (some 39)) rfl rfl (by kernel_rfl) (by kernel_rfl) (by kernel_rfl) (fun _ _ _ h => h) (.inl ⟨by rfl, fun W hW => by go_simp; rfl⟩) hS0 ?_
              try simp only [Act.put, List.setIfInBounds_toArray, List.set_cons_zero, List.set_cons_succ]
              refine held_take (i := 7) (d := (some 40)) rfl rfl (by kernel_rfl) (by kernel_rfl) (by kernel_rfl) (fun _ _ _ h => h) (.inl ⟨by rfl, fun W hW => by go_simp; rfl⟩) hS0 ?_
              try simp only [Act.put, List.setIfInBounds_toArray, List.set_cons_zero, List.set_cons_succ]
              refine held_take (i := 8) (d := (some 41)) rfl rfl (by kernel_rfl) (by kernel_rfl) (by kernel_rfl) (fun _ _ _ h => h) (.inl ⟨by rfl, fun W hW => by go_simp; rfl⟩) hS0 ?_
              try simp only [Act.put, List.setIfInBounds_toArray, List.set_cons_zero, List.set_cons_succ]
              refine held_take (i := 9) (d := (some 42)) rfl rfl (by kernel_rfl) (by kernel_rfl) (by kernel_rfl) (fun _ _ _ h => h) (.inl ⟨by rfl, fun W hW => by obtain ⟨q0, q1, q2, q3, q4, q5⟩ := hW; go_simp; rfl⟩) hS0 ?_
              try simp only [Act.put, List.setIfInBounds_toArray, List.set_cons_zero, List.set_cons_succ]
              refine held_take (i := 10) (d := (some 43)) rfl rfl (by kernel_rfl) (by kernel_rfl) (by kernel_rfl) (fun _ _ _ h => h) (.inl ⟨by rfl, fun W hW => by go_simp; rfl⟩) hS0 ?_
              try simp only [Act.put, List.setIfInBounds_toArray, List.set_cons_zero, List.set_cons_succ]
              refine held_take (i := 11) (d := (some 44)) rfl rfl (by kernel_rfl) (by kernel_rfl) (by kernel_rfl) (fun _ _ _ h => h) (.inl ⟨by rfl, fun W hW => by go_simp; rfl⟩) hS0 ?_
              try simp only [Act.put, List.setIfInBounds_toArray, List.set_cons_zero, List.set_cons_succ]
              refine held_take (i := 12) (d := (some 45)) (v := undef) rfl rfl (by kernel_rfl) (by kernel_rfl) (by kernel_rfl) (fun _ _ _ h => h) (.inr ⟨by rfl, rfl⟩) hS0 ?_
              try simp only [Act.put, List.setIfInBounds_toArray, List.set_cons_zero, List.set_cons_succ]
              refine held_take (i := 13) (d := (some 46)) (v := undef) rfl rfl (by kernel_rfl) (by kernel_rfl) (by kernel_rfl) (fun _ _ _ h => h) (.inr ⟨by rfl, rfl⟩) hS0 ?_
              try simp only [Act.put, List.setIfInBounds_toArray, List.set_cons_zero, List.set_cons_succ]
              refine held_take (i := 14) (d := (some 47)) (v := undef) rfl rfl (by kernel_rfl) (by kernel_rfl) (by kernel_rfl) (fun _ _ _ h => h) (.inr ⟨by rfl, rfl⟩) hS0 ?_
              try simp only [Act.put, List.setIfInBounds_toArray, List.set_cons_zero, List.set_cons_succ]
              refine held_take (i := 15) (d := (some 48)) (v := undef) rfl rfl (by kernel_rfl) (by kernel_rfl) (by kernel_rfl) (fun _ _ _ h => h) (.inr ⟨by rfl, rfl⟩) hS0 ?_
              try simp only [Act.put, List.setIfInBounds_toArray, List.set_cons_zero, List.set_cons_succ]
              refine held_take (i := 16) (d := (some 49)) (v := undef) rfl rfl (by kernel_rfl) (by kernel_rfl) (by kernel_rfl) (fun _ _ _ h => h) (.inr ⟨by rfl, rfl⟩) hS0 ?_
              try simp only [Act.put, List.setIfInBounds_toArray, List.set_cons_zero, List.set_cons_succ]
              refine held_take (i := 17) (d := (some 50)) (v := undef) rfl rfl (by kernel_rfl) (by kernel_rfl) (by kernel_rfl) (fun _ _ _ h => h) (.inr ⟨by rfl, rfl⟩) hS0 ?_
              try simp only [Act.put, List.setIfInBounds_toArray, List.set_cons_zero, List.set_cons_succ]
              refine held_take (i := 18) (d := (some 51)) (v := undef) rfl rfl (by kernel_rfl) (by kernel_rfl) (by kernel_rfl) (fun _ _ _ h => h) (.inr ⟨by rfl, rfl⟩) hS0 ?_
              try simp only [Act.put, List.setIfInBounds_toArray, List.set_cons_zero, List.set_cons_succ]
              refine held_take (i := 19) (d := (some 52)) rfl rfl (by kernel_rfl) (by kernel_rfl) (by kernel_rfl) (fun _ _ _ h => h) (.inl ⟨by rfl, fun W hW => by go_simp; rfl⟩) hS0 ?_
              try simp only [Act.put, List.setIfInBounds_toArray, List.set_cons_zero, List.set_cons_succ]
              refine held_take (i := 20) (d := (some 53)) rfl rfl (by kernel_rfl) (by kernel_rfl) (by kernel_rfl) (fun _ _ _ h => h) (.inl ⟨by rfl, fun W hW => by go_simp; rfl⟩) hS0 ?_
              try simp only [Act.put, List.setIfInBounds_toArray, List.set_cons_zero, List.set_cons_succ]
              refine held_take (i := 21) (d := (some 54)) (v := undef) rfl rfl (by kernel_rfl) (by kernel_rfl) (by kernel_rfl) (fun _ _ _ h => h) (.inr ⟨by rfl, rfl⟩) hS0 ?_
              try simp only [Act.put, List.setIfInBounds_toArray, List.set_cons_zero, List.set_cons_succ]
              refine held_take (i := 22) (d := (some 55)) (v := undef) rfl rfl (by kernel_rfl) (by kernel_rfl) (by kernel_rfl) (fun _ _ _ h => h) (.inr ⟨by rfl, rfl⟩) hS0 ?_
              try simp only [Act.put, List.setIfInBounds_toArray, List.set_cons_zero, List.set_cons_succ]
              refine held_take (i := 23) (d := (some 56)) (v := undef) rfl rfl (by kernel_rfl) (by kernel_rfl) (by kernel_rfl) (fun _ _ _ h => h) (.inr ⟨by rfl, rfl⟩) hS0 ?_
              try simp only [Act.put, List.setIfInBounds_toArray, List.set_cons_zero, List.set_cons_succ]
              refine held_take (i := 24) (d := (some 57)) (v := undef) rfl rfl (by kernel_rfl) (by kernel_rfl) (by kernel_rfl) (fun _ _ _ h => h) (.inr ⟨by rfl, rfl⟩) hS0 ?_
              try simp only [Act.put, List.setIfInBounds_toArray, List.set_cons_zero, List.set_cons_succ]
              refine held_take (i := 25) (d := (some 58)) (v := undef) rfl rfl (by kernel_rfl) (by kernel_rfl) (by kernel_rfl) (fun _ _ _ h => h) (.inr ⟨by rfl, rfl⟩) hS0 ?_
              try simp only [Act.put, List.setIfInBounds_toArray, List.set_cons_zero, List.set_cons_succ]
              refine held_take (i := 26) (d := (some 59)) (v := undef) rfl rfl (by kernel_rfl) (by kernel_rfl) (by kernel_rfl) (fun _ _ _ h => h) (.inr ⟨by rfl, rfl⟩) hS0 ?_
              try simp only [Act.put, List.setIfInBounds_toArray, List.set_cons_zero, List.set_cons_succ]
              refine held_take (i := 27) (d := (some 60)) (v := undef) rfl rfl (by kernel_rfl) (by kernel_rfl) (by kernel_rfl) (fun _ _ _ h => h) (.inr ⟨by rfl, rfl⟩) hS0 ?_
              try simp only [Act.put, List.setIfInBounds_toArray, List.set_cons_zero, List.set_cons_succ]
              refine held_take (i := 28) (d := (some 61)) (v := undef) rfl rfl (by kernel_rfl) (by kernel_rfl) (by kernel_rfl) (fun _ _ _ h => h) (.inr ⟨by rfl, rfl⟩) hS0 ?_
              try simp only [Act.put, List.setIfInBounds_toArray, List.set_cons_zero, List.set_cons_succ]
              refine held_take (i := 29) (d := (some 62)) (v := undef) rfl rfl (by kernel_rfl) (by kernel_rfl) (by kernel_rfl) (fun _ _ _ h => h) (.inr ⟨by rfl, rfl⟩) hS0 ?_
              try simp only [Act.put, List.setIfInBounds_toArray, List.set_cons_zero, List.set_cons_succ]
              refine held_take (i := 30) (d := (some 63)) (v := undef) rfl rfl (by kernel_rfl) (by kernel_rfl) (by kernel_rfl) (fun _ _ _ h => h) (.inr ⟨by rfl, rfl⟩) hS0 ?_
              try simp only [Act.put, List.setIfInBounds_toArray, List.set_cons_zero, List.set_cons_succ]
              refine held_take (i := 31) (d := (some 64)) (v := undef) rfl rfl (by kernel_rfl) (by kernel_rfl) (by kernel_rfl) (fun _ _ _ h => h) (.inr ⟨by rfl, rfl⟩) hS0 ?_
              try simp only [Act.put, List.setIfInBounds_toArray, List.set_cons_zero, List.set_cons_succ]
              refine held_take (i := 32) (d := (some 65)) (v := undef) rfl rfl (by kernel_rfl) (by kernel_rfl) (by kernel_rfl) (fun _ _ _ h => h) (.inr ⟨by rfl, rfl⟩) hS0 ?_
              try simp only [Act.put, List.setIfInBounds_toArray, List.set_cons_zero, List.set_cons_succ]
              refine held_take (i := 33) (d := (some 66)) (v := undef) rfl rfl (by kernel_rfl) (by kernel_rfl) (by kernel_rfl) (fun _ _ _ h => h) (.inr ⟨by rfl, rfl⟩) hS0 ?_
              try simp only [Act.put, List.setIfInBounds_toArray, List.set_cons_zero, List.set_cons_succ]
              refine held_take (i := 34) (d := (some 67)) (v := undef) rfl rfl (by kernel_rfl) (by kernel_rfl) (by kernel_rfl) (fun _ _ _ h => h) (.inr ⟨by rfl, rfl⟩) hS0 ?_
              try simp only [Act.put, List.setIfInBounds_toArray, List.set_cons_zero, List.set_cons_succ]
              refine held_take (i := 35) (d := (some 68)) (v := undef) rfl rfl (by kernel_rfl) (by kernel_rfl) (by kernel_rfl) (fun _ _ _ h => h) (.inr ⟨by rfl, rfl⟩) hS0 ?_
              try simp only [Act.put, List.setIfInBounds_toArray, List.set_cons_zero, List.set_cons_succ]
              refine held_take (i := 36) (d := (some 69)) (v := undef) rfl rfl (by kernel_rfl) (by kernel_rfl) (by kernel_rfl) (fun _ _ _ h => h) (.inr ⟨by rfl, rfl⟩) hS0 ?_
              try simp only [Act.put, List.setIfInBounds_toArray, List.set_cons_zero, List.set_cons_succ]
              refine held_take (i := 37) (d := (some 70)) rfl rfl (by kernel_rfl) (by kernel_rfl) (by kernel_rfl) (fun _ _ _ h => h) (.inl ⟨by rfl, fun W hW => by go_simp; rfl⟩) hS0 ?_
              try simp only [Act.put, List.setIfInBounds_toArray, List.set_cons_zero, List.set_cons_succ]
              refine wpAnyH_done (by kernel_rfl) ?_ _
              clear hS0
              go_wp2_with fail
              go_roundg (all.length - (k + 1))
              case measure => rw [HG2.out]; omega
              case rel => exact ⟨k + 1, last, rfl, hlt2, rfl, by go_num, HLO.out, hT.drew, hS.below (Below.refl _ _).drew, hB.drew⟩
        · obtain rfl : k = all.length := by omega
          have HLH := Lib.hid (last_hang HK.out hLo.out)
          clear hLo
          have HCS := Lib.hid hcs
          clear hcs
          go_wp2_with fail
          refine (parent_any _ _ _ _ hT).mono ?_
          rintro e w5 ⟨d, is, rfl, hd, b5⟩
          rcases HLH.out with ⟨rfl, hh⟩ | ⟨m, y, rfl, hm, hy, hh, hyb⟩
          · obtain ⟨rfl, rfl⟩ : is = false ∧ d = zeroCh := by
              rcases hd with ⟨_, h2⟩ | ⟨h1, _, h3⟩
              · rw [show (⟨x.block.n, x.block.r⟩ : St) = x.block from rfl, hh] at h2; cases h2
              · exact ⟨h1, h3⟩
            replace hT := hT.below b5
            replace hS := hS.below b5
            replace hB := hB.trans (b5.mono hB.size)
            clear b5 hd hh HLH
            go_wp2_with fail
            go_quiet (fail)
            go_wp2_with fail
            go_roundg (all.length - (i + 1))
            case measure => rw [HG.out]; omega
            case rel => exact ⟨i + 1, rfl, hlt, by go_num, (hT.alloc _).below (below_drewN (Below.refl _ _) _), (hS.below ((Below.refl _ _).alloc (Nat.le_refl _) _)).below (below_drewN (Below.refl _ _) _), below_drewN (hB.alloc hB.size _) _⟩
          · obtain ⟨rfl, rfl⟩ : is = true ∧ d = y.ch := by
              rcases hd with ⟨h1, h2⟩ | ⟨_, h2, _⟩
              · rw [show (⟨x.block.n, x.block.r⟩ : St) = x.block from rfl, hh] at h2; exact ⟨h1, (Option.some.inj h2).symm⟩
              · rw [show (⟨x.block.n, x.block.r⟩ : St) = x.block from rfl, hh] at h2; cases h2
            obtain ⟨_, _, y2, y3, y4, y5, y6⟩ := HCS.out m y hy
            replace hT := hT.below b5
            replace hS := hS.below b5
            replace hB := hB.trans (b5.mono hB.size)
            replace y2 := keepB b5 y2
            replace y3 := keepB b5 y3
            replace y4 := keepB b5 y4
            replace y5 := keepB b5 y5
            replace y6 := keepB b5 y6
            replace x2 := keepB b5 x2
            replace x3 := keepB b5 x3
            clear b5 hd hh HLH
            simp only [RMv.ch]
            have e1 : y.block.n = x.block.n := by rw [hyb]
            have e2 : y.block.r = x.block.r := by rw [hyb]
            rw [e1, e2]
            clear e1 e2 hyb hy
            go_wp2_with fail
            have k0 : (w5.alloc (.cells #[.int .i64 x.block.n, .int .i64 x.block.r, .int .i64 y.under.n, .int .i64 y.under.r, .string y.key] 36)).cell? ⟨w5.heap.size, 0, none⟩ = some (.int .i64 x.block.n) := by go_simp
            have k1 : (w5.alloc (.cells #[.int .i64 x.block.n, .int .i64 x.block.r, .int .i64 y.under.n, .int .i64 y.under.r, .string y.key] 36)).cell? ⟨w5.heap.size, 1, none⟩ = some (.int .i64 x.block.r) := by go_simp
            have k2 : (w5.alloc (.cells #[.int .i64 x.block.n, .int .i64 x.block.r, .int .i64 y.under.n, .int .i64 y.under.r, .string y.key] 36)).cell? ⟨w5.heap.size, 2, none⟩ = some (.int .i64 y.under.n) := by go_simp
            have k3 : (w5.alloc (.cells #[.int .i64 x.block.n, .int .i64 x.block.r, .int .i64 y.under.n, .int .i64 y.under.r, .string y.key] 36)).cell? ⟨w5.heap.size, 3, none⟩ = some (.int .i64 y.under.r) := by go_simp
            have k4 : (w5.alloc (.cells #[.int .i64 x.block.n, .int .i64 x.block.r, .int .i64 y.under.n, .int .i64 y.under.r, .string y.key] 36)).cell? ⟨w5.heap.size, 4, none⟩ = some (.string y.key) := by go_simp
            replace y4 := cell_alloc y4 (.cells #[.int .i64 x.block.n, .int .i64 x.block.r, .int .i64 y.under.n, .int .i64 y.under.r, .string y.key] 36)
            replace y5 := cell_alloc y5 (.cells #[.int .i64 x.block.n, .int .i64 x.block.r, .int .i64 y.under.n, .int .i64 y.under.r, .string y.key] 36)
            replace y6 := cell_alloc y6 (.cells #[.int .i64 x.block.n, .int .i64 x.block.r, .int .i64 y.under.n, .int .i64 y.under.r, .string y.key] 36)
            replace x2 := cell_alloc x2 (.cells #[.int .i64 x.block.n, .int .i64 x.block.r, .int .i64 y.under.n, .int .i64 y.under.r, .string y.key] 36)
            replace x3 := cell_alloc x3 (.cells #[.int .i64 x.block.n, .int .i64 x.block.r, .int .i64 y.under.n, .int .i64 y.under.r, .string y.key] 36)
            replace hT := hT.alloc (.cells #[.int .i64 x.block.n, .int .i64 x.block.r, .int .i64 y.under.n, .int .i64 y.under.r, .string y.key] 36)
            replace hS := hS.below ((Below.refl _ _).alloc (Nat.le_refl _) (.cells #[.int .i64 x.block.n, .int .i64 x.block.r, .int .i64 y.under.n, .int .i64 y.under.r, .string y.key] 36))
            replace hB := hB.alloc hB.size (.cells #[.int .i64 x.block.n, .int .i64 x.block.r, .int .i64 y.under.n, .int .i64 y.under.r, .string y.key] 36)
            generalize w5.alloc (.cells #[.int .i64 x.block.n, .int .i64 x.block.r, .int .i64 y.under.n, .int .i64 y.under.r, .string y.key] 36) = w6 at *
            generalize w5.heap.size = z6 at *
            clear y2 y3
            go_quiet (fail)
            go_wp2_with fail
            go_roundg (all.length - (i + 1))
            case measure => rw [HG.out]; omega
            case rel => exact ⟨i + 1, rfl, hlt, by go_num, hT.below (below_drewN (Below.refl _ _) _), hS.below (below_drewN (Below.refl _ _) _), below_drewN hB _⟩
    · go_wp2_with fail
      go_ret
      exact ⟨rfl, hB⟩

set_option maxRecDepth 100000 in
theorem moveLast_lifted (os : Os) (started : os.Started) (H : Type) (enc : TypeId × Value → H) :
    ReturnsInHanded {} Try.checked os 4 .any (Rows.moveLastSpec.pre6 enc Try.prog Try.f4 Rows.moveLastRow.domain false) (Rows.moveLastSpec.post enc Try.prog Try.f4 false true false false) := by
  refine returnsInHanded_of_change (C := Try.checked) Try.own started (by kernel_rfl) Try.func4
    (ChangeSpec.witness6 (enc := enc) (C := Try.checked) false ⟨#[], #[.slice none 0 0], []⟩ 8 (by kernel_rfl) (by kernel_rfl) (by kernel_rfl) (by kernel_rfl)) ?_
  intro W base args ds gs before hval0 hW hcnd _
  have hval : ∀ (j : Nat) t v, Try.f4.params[j]? = some t → args[j]? = some v → Value.okWide Try.prog W .any base t v := hval0
  have hW' := hW
  obtain ⟨p, q, hA0, hV, rfl, hfz, hnd⟩ := hW
  have hA : DataW.TrodAll enc Try.prog W 0 (fun _ => true) true Try.f4.params.toList args.toList ds p := hA0
  rw [Try.params4] at hA hval
  obtain ⟨v0, vs0, d0, ds0, p0, q0, hargs, rfl, rfl, h0, r0⟩ := trodAll_cons hA
  obtain ⟨rfl, rfl, rfl⟩ := trodAll_nil r0
  obtain rfl : args = #[v0] := by cases args; simp_all
  obtain ⟨rfl, rfl⟩ := trodVars_none hV
  have k0 := h0
  have lt0 : ∀ x ∈ p0, x.block < W.heap.size := by obtain ⟨m, hm⟩ := k0; exact DataW.trod_lt m _ _ _ hm
  obtain ⟨l, hv⟩ := open_rmoves (hval 0 22 v0 rfl rfl) h0
  clear hA0 hval0
  refine (moveLast_walk v0 l W hv).mono fun e W' ⟨he, bel⟩ => ?_
  subst he
  exact ⟨_, rfl, _, _, _, [], _, [], hW', trodAll_mk1 (shut_bool Try.underlying4 _), (trodAll_cons_mk (Below.trod Try.laidOut (by kernel_rfl) (of_decide_eq_true (by kernel_rfl)) k0 bel lt0) trodAll_mk0), rfl, bel.frame _, fun h => by cases h⟩

theorem moveLast_holds : Rows.MoveLastSaid :=
  OpenClaim.holds_of_wide 4 Try.f4 rfl rfl rfl rfl rfl rfl rfl ⟨rfl, rfl, rfl, rfl, rfl⟩ rfl rfl rfl rfl rfl (by kernel_rfl) Try.func4 (by kernel_rfl)
    (of_decide_eq_true (by kernel_rfl)) (by unfold Func.isWrapper; first | (rw [if_pos (by decide +kernel)]; kernel_rfl) | (rw [if_neg (by decide +kernel)]; exact ⟨rfl, rfl⟩))
    (fun os started H enc _ => moveLast_lifted os started H enc)

#print axioms moveLast_holds

end Go.Proofs.Ytilonmpcifohiaa
