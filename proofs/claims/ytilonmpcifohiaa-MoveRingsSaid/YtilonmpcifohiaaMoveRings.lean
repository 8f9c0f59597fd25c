/- The law MoveRings: from each block on, going from parent to parent ends; each block hangs in one place, and is told there among the kids, once; for every input. -/
import Derived.Test.YtilonmpcifohiaaRingsIn14
import Derived.Test.YtilonmpcifohiaaRows
import Derived.Test.YtilonmpcifohiaaOpenSt
import Derived.Test.YtilonmpcifohiaaHand
import Derived.Deep.CutBlock
import Derived.Deep.DeepCutAuto
import Derived.IntWalk
import Derived.BigQuiet
import Derived.Deep.QuietTactic
import Derived.Deep.RegionHeld3
import Derived.ProofKit
import Derived.OpenShut
import Derived.ShutString
import Derived.ChangeOld
import Derived.Below
namespace Go.Proofs.Ytilonmpcifohiaa
open Go.ChangeShapes Go.WideShapes Go.ChangeAt Go.RowKit
set_option linter.unusedSimpArgs false
set_option linter.unusedVariables false


set_option maxRecDepth 100000 in
set_option maxHeartbeats 4000000 in
theorem moveRings_walk (v : Value) (l : List RMv) (w : World) (hv : SliceIs RMv.cells 7 w v l) :
    Calls Try.prog 7 #[v] w fun e w' => e = .returned (.bool true) ∧ Below w.heap.size w w' := by
  have hlen := addAll_len (l.take 60)
  rw [List.length_take] at hlen
  have hmv := moved_any v l w hv
  generalize (addAll (l.take 60)).1 = c at *
  generalize (addAll (l.take 60)).2 = all at *
  have hcl : c.length ≤ 60 := by omega
  clear hlen hv
  go_enter Try.func7, Try.ntmps7
  go_wp2_with fail
  refine hmv.mono ?_
  rintro e w1 ⟨vo, rfl, hT, hO, hB⟩
  clear hmv hO
  go_wp2_with fail
  refine (alive_any _).mono ?_
  rintro e w2 ⟨rfl, b2⟩
  replace hT := hT.below b2
  replace hB := hB.trans (b2.mono hB.size)
  clear b2
  go_wp2_with fail
  refine (all_any _ hT (by omega)).mono ?_
  rintro e w3 ⟨av, A, rfl, hO3, hA3, b3⟩
  have hal : A.length ≤ 60 := by have := hA3.length; rw [List.length_map] at this; omega
  have hIn : RIn w.heap.size w c A av w3 := ⟨hT.below b3, hO3.mono hB.size, hB.trans (b3.mono hB.size)⟩
  have HA := Lib.hid hA3
  obtain ⟨aa, ac, rfl, hacap, hamax, hd⟩ := hO3.slice (fun _ => rfl)
  clear hT hB b3 hO3 hA3 hd
  unfold maxLen at hamax
  go_wp2_with fail
  go_loopg [6] A.length (fun g iv wx => ∃ i : Nat, g = A.length - i ∧ i ≤ A.length ∧ iv = .int .i64 i ∧ RIn w.heap.size w c A (.slice aa A.length ac) wx)
  case atStart => exact ⟨0, rfl, Nat.zero_le _, rfl, hIn⟩
  case round =>
    clear hIn
    obtain ⟨i, hg, hi, rfl, hIn⟩ := hrel
    have HG := Lib.hid hg
    clear hg
    by_cases hlt : i < A.length
    · obtain ⟨x, hx⟩ : ∃ x, A[i]? = some x := ⟨_, List.getElem?_eq_getElem hlt⟩
      have hhx : hang c x.block = some x := (HA.out.1 x).1 (List.mem_of_getElem? hx)
      have HHX := Lib.hid hhx
      obtain ⟨m0, hm0, hm1⟩ := ends_le (keyed_play _) (acyc_play _) HA.out x.block
      have HM0 := Lib.hid hm0
      obtain ⟨b, o, cp, hve, hcs⟩ := (hIn.own.slice (fun _ => rfl)).dcells (by intro e; rw [e] at hlt; simp at hlt)
      cases hve
      obtain ⟨x0, x1, _, _, _⟩ := hcs i x hx
      have HX := Lib.hid hx
      clear hcs hx hhx hm0
      go_upto_region 9 with fail
      have hbs : BoxS (wr.alloc (.cells #[.int .i64 x.block.n, .int .i64 x.block.r] 24)) wr.heap.size x.block := BoxS.new wr x.block
      have hzb : w.heap.size ≤ wr.heap.size := hIn.bel.size
      replace hIn := hIn.below ((Below.refl _ _).alloc (Nat.le_refl _) (.cells #[.int .i64 x.block.n, .int .i64 x.block.r] 24))
      clear x0 x1
      generalize wr.alloc (.cells #[.int .i64 x.block.n, .int .i64 x.block.r] 24) = w4 at *
      generalize wr.heap.size = zb at *
      go_wp2_with fail
      go_loopg [8] m0 (fun g nv wx => ∃ (n m : Nat) (u : St), g = m ∧ n + m ≤ A.length ∧ nv = .int .i64 n ∧ Hid (Ends (hang c) m u) ∧ BoxS wx zb u ∧ RIn w.heap.size w c A (.slice (some ⟨b, o, none⟩) A.length ac) wx)
      case atStart => exact ⟨0, m0, x.block, rfl, by omega, rfl, HM0, hbs, hIn⟩
      case round =>
        clear hbs hIn HM0 hm1
        obtain ⟨n, m, u, hg2, hnm, rfl, hE, hbs, hIn⟩ := hrel
        have HG2 := Lib.hid hg2
        clear hg2
        have b0 := hbs.c0
        have b1 := hbs.c1
        have hnl : n ≤ A.length := by omega
        cases hu : hang c u with
        | some y =>
          have HU := Lib.hid hu
          obtain ⟨m', hm', hE2⟩ := ends_succ hE.out hu
          have HE2 := Lib.hid hE2
          clear hu hE2 hE
          go_wp2_with fail
          refine (parent_some _ u.n u.r HU.out hIn.tree).mono ?_
          rintro e w5 ⟨rfl, b5⟩
          replace hIn := hIn.below b5
          replace hbs := hbs.below b5
          clear b0 b1 b5
          go_upto_region 12 with fail
          have hbx : BoxC (w5.alloc (.cells #[.int .i64 y.block.n, .int .i64 y.block.r, .int .i64 y.under.n, .int .i64 y.under.r, .string y.key] 36)) w5.heap.size y := World.alloc_heap_new w5 _
          replace hIn := hIn.below ((Below.refl _ _).alloc (Nat.le_refl _) (.cells #[.int .i64 y.block.n, .int .i64 y.block.r, .int .i64 y.under.n, .int .i64 y.under.r, .string y.key] 36))
          replace hbs := hbs.alloc (.cells #[.int .i64 y.block.n, .int .i64 y.block.r, .int .i64 y.under.n, .int .i64 y.under.r, .string y.key] 36)
          generalize w5.alloc (.cells #[.int .i64 y.block.n, .int .i64 y.block.r, .int .i64 y.under.n, .int .i64 y.under.r, .string y.key] 36) = w6 at *
          generalize w5.heap.size = zc at *
          have b0 := hbs.c0
          have b1 := hbs.c1
          have f0 := hbs.f0
          have f1 := hbs.f1
          obtain ⟨_, _, c2, c3, _⟩ := hbx.cs
          have hset := hbs.set y.under.n y.under.r
          have hex : Ext (· = zb) w6 ((w6.setCell ⟨zb, 0, none⟩ (.int .i64 y.under.n)).setCell ⟨zb, 1, none⟩ (.int .i64 y.under.r)) := ((Ext.refl (· = zb) w6).setCell (.inr rfl) _).setCell (.inr rfl) _
          have HIn2 := Lib.hid (hIn.box hbs hex hzb)
          have HSet := Lib.hid hset
          clear hbx hset hex hIn hbs
          go_wp2_with fail
          go_roundg m'
          case measure => rw [HG2.out]; omega
          case rel => exact ⟨n + 1, m', y.under, rfl, by omega, by go_num, HE2, HSet.out, HIn2.out⟩
        | none =>
          have HU := Lib.hid hu
          clear hu hE
          go_wp2_with fail
          refine (parent_none _ u.n u.r HU.out hIn.tree).mono ?_
          rintro e w5 ⟨rfl, b5⟩
          replace hIn := hIn.below b5
          clear b0 b1 b5 hbs
          go_upto_region 15 with fail
          replace hIn := hIn.below ((Below.refl _ _).alloc (Nat.le_refl _) (.cells #[.int .i64 0, .int .i64 0, .int .i64 0, .int .i64 0, .string ⟨#[]⟩] 36))
          generalize w5.alloc (.cells #[.int .i64 0, .int .i64 0, .int .i64 0, .int .i64 0, .string ⟨#[]⟩] 36) = w6 at *
          obtain ⟨_, _, _, hve, hcs⟩ := (hIn.own.slice (fun _ => rfl)).dcells (by intro e; rw [e] at hlt; simp at hlt)
          cases hve
          obtain ⟨x0, x1, _, _, _⟩ := hcs i x HX.out
          clear hcs
          go_wp2_with fail
          refine (parent_some _ x.block.n x.block.r HHX.out hIn.tree).mono ?_
          rintro e w7 ⟨rfl, b7⟩
          replace hIn := hIn.below b7
          clear x0 x1 b7
          go_upto_region 16 with fail
          have hbz : BoxC (w7.alloc (.cells #[.int .i64 x.block.n, .int .i64 x.block.r, .int .i64 x.under.n, .int .i64 x.under.r, .string x.key] 36)) w7.heap.size x := World.alloc_heap_new w7 _
          replace hIn := hIn.below ((Below.refl _ _).alloc (Nat.le_refl _) (.cells #[.int .i64 x.block.n, .int .i64 x.block.r, .int .i64 x.under.n, .int .i64 x.under.r, .string x.key] 36))
          generalize w7.alloc (.cells #[.int .i64 x.block.n, .int .i64 x.block.r, .int .i64 x.under.n, .int .i64 x.under.r, .string x.key] 36) = w8 at *
          generalize w7.heap.size = zd at *
          obtain ⟨d0, d1, d2, d3, d4⟩ := hbz.cs
          obtain ⟨_, _, _, hve, hcs⟩ := (hIn.own.slice (fun _ => rfl)).dcells (by intro e; rw [e] at hlt; simp at hlt)
          cases hve
          obtain ⟨x0, x1, x2, x3, x4⟩ := hcs i x HX.out
          have HCS := Lib.hid hcs
          have hkk := beq_bytes_self x.key
          have g1 : decide ((A.length : Int) < (n : Int)) = false := decide_eq_false (by omega)
          have g1n : decide (A.length < n) = false := decide_eq_false (by omega)
          clear hcs hbz
          go_cut [103] (fun bv wx => bv = .bool false ∧ Below w8.heap.size w8 wx)
          case first =>
            by_cases hi0 : 0 < i
            · have g2 : decide ((0 : Int) < (i : Int)) = true := decide_eq_true (by omega)
              have g2n : decide (0 < i) = true := decide_eq_true (by omega)
              obtain ⟨p, hp⟩ : ∃ p, p + 1 = i := ⟨i - 1, by omega⟩
              have ip : (i : Int) - 1 = (p : Int) := by omega
              have p0 : (0 : Int) ≤ (p : Int) := by omega
              have p1 : (p : Int) < (A.length : Int) := by omega
              have ipw : IntKind.i64.wrap (p : Int) = (p : Int) := IntWalk.i64_in _ (by omega)
              obtain ⟨z, hz⟩ : ∃ z, A[p]? = some z := ⟨_, List.getElem?_eq_getElem (by omega)⟩
              have hzx := pair_at HA.out.2 (show p < i by omega) hz HX.out
              obtain ⟨z0, z1, _, _, _⟩ := HCS.out p z hz
              have hcm : cmpS ⟨z.block.n, z.block.r⟩ ⟨x.block.n, x.block.r⟩ < 0 := (cmpS_lt _ _).2 hzx
              have hcg : decide (0 ≤ cmpS ⟨z.block.n, z.block.r⟩ ⟨x.block.n, x.block.r⟩) = false := decide_eq_false (by omega)
              clear hz hzx hp hi0
              go_region_held3 (fun W => W.cell? ⟨zd, 0, none⟩ = some (.int .i64 x.block.n) ∧ W.cell? ⟨zd, 1, none⟩ = some (.int .i64 x.block.r) ∧ W.cell? ⟨zd, 2, none⟩ = some (.int .i64 x.under.n) ∧ W.cell? ⟨zd, 3, none⟩ = some (.int .i64 x.under.r) ∧ W.cell? ⟨zd, 4, none⟩ = some (.string x.key) ∧ W.cell? ⟨b, o + i * 5, none⟩ = some (.int .i64 x.block.n) ∧ W.cell? ⟨b, o + i * 5 + 1, none⟩ = some (.int .i64 x.block.r) ∧ W.cell? ⟨b, o + i * 5 + 2, none⟩ = some (.int .i64 x.under.n) ∧ W.cell? ⟨b, o + i * 5 + 3, none⟩ = some (.int .i64 x.under.r) ∧ W.cell? ⟨b, o + i * 5 + 4, none⟩ = some (.string x.key) ∧ W.cell? ⟨b, o + p * 5, none⟩ = some (.int .i64 z.block.n) ∧ W.cell? ⟨b, o + p * 5 + 1, none⟩ = some (.int .i64 z.block.r)) (first | exact ⟨d0, d1, d2, d3, d4, x0, x1, x2, x3, x4, z0, z1⟩ | exact ⟨keepB b5 d0, keepB b5 d1, keepB b5 d2, keepB b5 d3, keepB b5 d4, keepB b5 x0, keepB b5 x1, keepB b5 x2, keepB b5 x3, keepB b5 x4, keepB b5 z0, keepB b5 z1⟩) ((go_at_call 13; ((with_reducible refine (compare_any _ _ _ _ _).mono ?_); rintro e w5 ⟨rfl, b5⟩; simp only [heap_drew, below_drew] at b5)))
              go_wp2_with fail
              go_meet
              case rel => exact ⟨rfl, b5⟩
            · have g2 : decide ((0 : Int) < (i : Int)) = false := decide_eq_false (by omega)
              have g2n : decide (0 < i) = false := decide_eq_false (by omega)
              clear hi0
              go_quiet (fail)
              go_wp2_with fail
              go_meet
              case rel => exact ⟨rfl, below_drewN (Below.refl _ _) _⟩
          case rest =>
            obtain ⟨rfl, bc⟩ := hcut
            replace hIn := hIn.below bc
            clear d0 d1 d2 d3 d4 x0 x1 x2 x3 x4 HCS hkk g1 g1n bc HG2 HU hnl hnm
            go_wp2_with fail
            go_loopg [13, 14] A.length (fun g tv kv wx => ∃ k t : Nat, g = A.length - k ∧ k ≤ A.length ∧ t ≤ 1 ∧ tv = .int .i64 t ∧ Hid (t = toldN A x.under k) ∧ kv = .int .i64 k ∧ RIn w.heap.size w c A (.slice (some ⟨b, o, none⟩) A.length ac) wx)
            case atStart => exact ⟨0, 0, rfl, Nat.zero_le _, by omega, rfl, Lib.hid (toldN_zero _ _).symm, rfl, hIn⟩
            case round =>
              clear hIn
              obtain ⟨k, t, hg3, hk, ht, rfl, hto, rfl, hIn⟩ := hrel
              have HG3 := Lib.hid hg3
              clear hg3
              by_cases hkl : k < A.length
              · obtain ⟨y, hy⟩ : ∃ y, A[k]? = some y := ⟨_, List.getElem?_eq_getElem hkl⟩
                obtain ⟨_, _, _, hve, hcs⟩ := (hIn.own.slice (fun _ => rfl)).dcells (by intro e; rw [e] at hlt; simp at hlt)
                cases hve
                obtain ⟨_, _, y2, y3, _⟩ := hcs k y hy
                have HY := Lib.hid hy
                have HT := Lib.hid (toldN_succ (u := x.under) hy)
                clear hcs hy
                go_wp2_with fail
                refine (kids_any _ y.under.n y.under.r hIn.tree (by omega)).mono ?_
                rintro e w9 ⟨kv, K, rfl, o9, k9, b9⟩
                replace hIn := hIn.below b9
                have hKS := o9.slice (fun _ => rfl)
                have hKl : K.length ≤ 60 := by have := k9.length; omega
                have HK := Lib.hid k9
                have HMA := Lib.hid (metN_all k9 HHX.out)
                obtain ⟨ka, kc, hkv, hkcap, hkmax, hd2⟩ := id hKS
                rw [List.length_map] at hkv hkcap
                subst hkv
                unfold maxLen at hkmax
                clear hd2 o9 k9 b9 y2 y3
                go_wp2_with fail
                go_loopg [16, 17] k (fun g fv jv wx => ∃ j : Nat, g = k - j ∧ j ≤ k ∧ fv = .bool (decide (y.under ∉ (A.take j).map Ch.under)) ∧ jv = .int .i64 j ∧ RIn w.heap.size w c A (.slice (some ⟨b, o, none⟩) A.length ac) wx ∧ SliceIs St.cells 2 wx (.slice ka K.length kc) (K.map Ch.block))
                case atStart => exact ⟨0, rfl, Nat.zero_le _, by simp, rfl, hIn, hKS⟩
                case round =>
                  clear hIn hKS
                  obtain ⟨j, hg4, hj, rfl, rfl, hIn, hKS⟩ := hrel
                  have HG4 := Lib.hid hg4
                  clear hg4
                  obtain ⟨_, _, _, hve, hcs⟩ := (hIn.own.slice (fun _ => rfl)).dcells (by intro e; rw [e] at hlt; simp at hlt)
                  cases hve
                  obtain ⟨_, _, y2, y3, _⟩ := hcs k y HY.out
                  by_cases hjl : j < k
                  · obtain ⟨z, hz⟩ : ∃ z, A[j]? = some z := ⟨_, List.getElem?_eq_getElem (by omega)⟩
                    obtain ⟨_, _, z2, z3, _⟩ := hcs j z hz
                    have hjn : (j : Int) < (A.length : Int) := by omega
                    have HS : Hid ((A.take (j + 1)).map Ch.under = (A.take j).map Ch.under ++ [z.under]) := Lib.hid (by rw [List.take_add_one, hz]; simp)
                    clear hcs hz
                    by_cases hm : y.under ∈ (A.take j).map Ch.under
                    · have hf : decide (y.under ∉ (A.take j).map Ch.under) = false := decide_eq_false (fun h => h hm)
                      have hf2 : Hid (decide (y.under ∉ (A.take (j + 1)).map Ch.under) = false) := Lib.hid (decide_eq_false (fun h => h (by rw [HS.out]; exact List.mem_append_left _ hm)))
                      clear hm
                      rw [hf]
                      clear hf
                      go_wp2_with fail
                      go_quiet (fail)
                      have hIn2 := hIn.below (below_drewN (Below.refl _ _) nq)
                      have hKS2 := hKS.below (below_drewN (Below.refl _ _) nq)
                      go_wp2_with fail
                      go_roundg (k - (j + 1))
                      case measure => rw [HG4.out]; omega
                      case rel => exact ⟨j + 1, rfl, hjl, by rw [hf2.out], by go_num, hIn2, hKS2⟩
                    · have hf : decide (y.under ∉ (A.take j).map Ch.under) = true := decide_eq_true hm
                      rw [hf]
                      clear hf
                      have HM := Lib.hid hm
                      clear hm
                      by_cases hbk : z.under = y.under
                      · have hf2 : Hid (decide (y.under ∉ (A.take (j + 1)).map Ch.under) = false) := Lib.hid (decide_eq_false (fun h => h (by rw [HS.out, hbk]; exact List.mem_append_right _ (by simp))))
                        have e1 : z.under.n = y.under.n := by rw [hbk]
                        have e2 : z.under.r = y.under.r := by rw [hbk]
                        rw [e1] at z2
                        rw [e2] at z3
                        clear e1 e2 hbk
                        go_wp2_with fail
                        go_quiet (fail)
                        have hIn2 := hIn.below (below_drewN (Below.refl _ _) nq)
                        have hKS2 := hKS.below (below_drewN (Below.refl _ _) nq)
                        go_wp2_with fail
                        go_roundg (k - (j + 1))
                        case measure => rw [HG4.out]; omega
                        case rel => exact ⟨j + 1, rfl, hjl, by rw [hf2.out], by go_num, hIn2, hKS2⟩
                      · have hf2 : Hid (decide (y.under ∉ (A.take (j + 1)).map Ch.under) = true) := Lib.hid (decide_eq_true (by rw [HS.out, List.mem_append]; rintro (h | h); exact HM.out h; exact hbk (List.mem_singleton.1 h).symm))
                        by_cases e1 : z.under.n = y.under.n
                        · have e2 : ¬ z.under.r = y.under.r := fun e => hbk (st_eq e1 e)
                          rw [e1] at z2
                          have e3 : (z.under.r == y.under.r) = false := by rw [beq_eq_false_iff_ne]; exact e2
                          clear hbk e1
                          go_wp2_with fail
                          go_quiet (fail)
                          have hIn2 := hIn.below (below_drewN (Below.refl _ _) nq)
                          have hKS2 := hKS.below (below_drewN (Below.refl _ _) nq)
                          go_wp2_with fail
                          go_roundg (k - (j + 1))
                          case measure => rw [HG4.out]; omega
                          case rel => exact ⟨j + 1, rfl, hjl, by rw [hf2.out], by go_num, hIn2, hKS2⟩
                        · have e3 : (z.under.n == y.under.n) = false := by rw [beq_eq_false_iff_ne]; exact e1
                          clear hbk
                          go_wp2_with fail
                          go_quiet (fail)
                          have hIn2 := hIn.below (below_drewN (Below.refl _ _) nq)
                          have hKS2 := hKS.below (below_drewN (Below.refl _ _) nq)
                          go_wp2_with fail
                          go_roundg (k - (j + 1))
                          case measure => rw [HG4.out]; omega
                          case rel => exact ⟨j + 1, rfl, hjl, by rw [hf2.out], by go_num, hIn2, hKS2⟩
                  · obtain rfl : j = k := by omega
                    clear hjl HG4 hj y2 y3
                    clear hcs
                    obtain ⟨f, hf⟩ : ∃ f, f = decide (y.under ∉ (A.take j).map Ch.under) := ⟨_, rfl⟩
                    rw [← hf]
                    have HF := Lib.hid hf
                    clear hf
                    go_wp2_with fail
                    go_loopg [13, 18] K.length (fun g tv jv wx => ∃ q s : Nat, g = K.length - q ∧ q ≤ K.length ∧ s ≤ 2 ∧ Hid (f = false → q = 0) ∧ tv = .int .i64 s ∧ Hid (s = t + metN K x.block q) ∧ jv = .int .i64 q ∧ RIn w.heap.size w c A (.slice (some ⟨b, o, none⟩) A.length ac) wx ∧ SliceIs St.cells 2 wx (.slice ka K.length kc) (K.map Ch.block))
                    case atStart => exact ⟨0, t, rfl, Nat.zero_le _, by omega, Lib.hid (fun _ => rfl), rfl, Lib.hid (by rw [metN_zero]; rfl), rfl, hIn, hKS⟩
                    case round =>
                      clear hIn hKS
                      obtain ⟨q, s, hg5, hq, hs2, hfq, rfl, hsm, rfl, hIn, hKS⟩ := hrel
                      have HG5 := Lib.hid hg5
                      clear hg5
                      cases f with
                      | false =>
                        have hsn : Hid (s = toldN A x.under (j + 1)) := Lib.hid (by rw [hsm.out, hfq.out rfl, metN_zero, HT.out, if_neg (fun h => by have := HF.out; rw [decide_eq_true h.1] at this; cases this)]; exact congrArg (· + 0) hto.out)
                        have hs1 : s ≤ 1 := by rw [hsm.out, hfq.out rfl, metN_zero]; exact ht
                        go_wp2_with fail
                        go_roundg (A.length - (j + 1))
                        case measure => rw [HG3.out]; omega
                        case rel => exact ⟨j + 1, s, rfl, by omega, hs1, rfl, hsn, by go_num, hIn⟩
                      | true =>
                        by_cases hql : q < K.length
                        · obtain ⟨z, hz⟩ : ∃ z, K[q]? = some z := ⟨_, List.getElem?_eq_getElem hql⟩
                          obtain ⟨b2, o2, c2, hve2, hcs2⟩ := hKS.kcells (by intro e; rw [e] at hql; simp at hql)
                          cases hve2
                          obtain ⟨z0, z1⟩ := hcs2 q z hz
                          obtain ⟨_, _, _, hve, hcs⟩ := (hIn.own.slice (fun _ => rfl)).dcells (by intro e; rw [e] at hlt; simp at hlt)
                          cases hve
                          obtain ⟨x0, x1, _, _, _⟩ := hcs i x HX.out
                          have HMS := Lib.hid (metN_succ (b := x.block) HK.out hz)
                          have hle : metN K x.block q ≤ 1 := by unfold metN; split <;> omega
                          have HLE := Lib.hid hle
                          clear hcs hcs2 hz hle
                          by_cases hbk : z.block = x.block
                          · have hms : Hid (metN K x.block (q + 1) = metN K x.block q + 1) := Lib.hid (by rw [HMS.out, if_pos hbk])
                            have hle2 : metN K x.block (q + 1) ≤ 1 := by unfold metN; split <;> omega
                            have hs3 : s + 1 ≤ 2 := by have := hms.out; have := hsm.out; omega
                            have e1 : z.block.n = x.block.n := by rw [hbk]
                            have e2 : z.block.r = x.block.r := by rw [hbk]
                            rw [e1] at z0
                            rw [e2] at z1
                            clear e1 e2 hbk hle2
                            go_wp2_with fail
                            go_quiet (fail)
                            have hIn2 := hIn.below (below_drewN (Below.refl _ _) nq)
                            have hKS2 := hKS.below (below_drewN (Below.refl _ _) nq)
                            go_wp2_with fail
                            go_roundg (K.length - (q + 1))
                            case measure => rw [HG5.out]; omega
                            case rel => exact ⟨q + 1, s + 1, rfl, hql, hs3, Lib.hid (fun h => by cases h), by go_num, Lib.hid (by rw [hms.out, hsm.out]; omega), by go_num, hIn2, hKS2⟩
                          · have hms : Hid (metN K x.block (q + 1) = metN K x.block q) := Lib.hid (by rw [HMS.out, if_neg hbk]; rfl)
                            by_cases e1 : z.block.n = x.block.n
                            · have e2 : ¬ z.block.r = x.block.r := fun e => hbk (st_eq e1 e)
                              rw [e1] at z0
                              have e3 : (z.block.r == x.block.r) = false := by rw [beq_eq_false_iff_ne]; exact e2
                              clear hbk e1
                              go_wp2_with fail
                              go_quiet (fail)
                              have hIn2 := hIn.below (below_drewN (Below.refl _ _) nq)
                              have hKS2 := hKS.below (below_drewN (Below.refl _ _) nq)
                              go_wp2_with fail
                              go_roundg (K.length - (q + 1))
                              case measure => rw [HG5.out]; omega
                              case rel => exact ⟨q + 1, s, rfl, hql, hs2, Lib.hid (fun h => by cases h), rfl, Lib.hid (by rw [hms.out]; exact hsm.out), by go_num, hIn2, hKS2⟩
                            · have e3 : (z.block.n == x.block.n) = false := by rw [beq_eq_false_iff_ne]; exact e1
                              clear hbk
                              go_wp2_with fail
                              go_quiet (fail)
                              have hIn2 := hIn.below (below_drewN (Below.refl _ _) nq)
                              have hKS2 := hKS.below (below_drewN (Below.refl _ _) nq)
                              go_wp2_with fail
                              go_roundg (K.length - (q + 1))
                              case measure => rw [HG5.out]; omega
                              case rel => exact ⟨q + 1, s, rfl, hql, hs2, Lib.hid (fun h => by cases h), rfl, Lib.hid (by rw [hms.out]; exact hsm.out), by go_num, hIn2, hKS2⟩
                        · obtain rfl : q = K.length := by omega
                          have hsn : Hid (s = toldN A x.under (j + 1)) := Lib.hid (by
                            rw [hsm.out, HMA.out, HT.out, hto.out]
                            have hn : y.under ∉ (A.take j).map Ch.under := of_decide_eq_true HF.out.symm
                            by_cases e : y.under = x.under
                            · rw [if_pos e, if_pos ⟨hn, e⟩]
                            · rw [if_neg e, if_neg (fun h => e h.2)])
                          have hs1 : s ≤ 1 := by rw [hsn.out]; unfold toldN; split <;> omega
                          go_wp2_with fail
                          go_roundg (A.length - (j + 1))
                          case measure => rw [HG3.out]; omega
                          case rel => exact ⟨j + 1, s, rfl, by omega, hs1, rfl, hsn, by go_num, hIn⟩
              · obtain rfl : k = A.length := by omega
                have ht1 : t = 1 := by rw [hto.out]; exact toldN_all (List.mem_of_getElem? HX.out)
                subst ht1
                clear HG3 hto
                go_wp2_with fail
                go_roundg (A.length - (i + 1))
                case measure => rw [HG.out]; omega
                case rel => exact ⟨i + 1, rfl, hlt, by go_num, hIn⟩
    · go_wp2_with fail
      go_ret
      exact ⟨rfl, hIn.bel⟩

set_option maxRecDepth 100000 in
theorem moveRings_lifted (os : Os) (started : os.Started) (H : Type) (enc : TypeId × Value → H) :
    ReturnsInHanded {} Try.checked os 7 .any (Rows.moveRingsSpec.pre6 enc Try.prog Try.f7 Rows.moveRingsRow.domain false) (Rows.moveRingsSpec.post enc Try.prog Try.f7 false true false false) := by
  refine returnsInHanded_of_change (C := Try.checked) Try.own started (by kernel_rfl) Try.func7
    (ChangeSpec.witness6 (enc := enc) (C := Try.checked) false ⟨#[], #[.slice none 0 0], []⟩ 8 (by kernel_rfl) (by kernel_rfl) (by kernel_rfl) (by kernel_rfl)) ?_
  intro W base args ds gs before hval0 hW hcnd _
  have hval : ∀ (j : Nat) t v, Try.f7.params[j]? = some t → args[j]? = some v → Value.okWide Try.prog W .any base t v := hval0
  have hW' := hW
  obtain ⟨p, q, hA0, hV, rfl, hfz, hnd⟩ := hW
  have hA : DataW.TrodAll enc Try.prog W 0 (fun _ => true) true Try.f7.params.toList args.toList ds p := hA0
  rw [Try.params7] at hA hval
  obtain ⟨v0, vs0, d0, ds0, p0, q0, hargs, rfl, rfl, h0, r0⟩ := trodAll_cons hA
  obtain ⟨rfl, rfl, rfl⟩ := trodAll_nil r0
  obtain rfl : args = #[v0] := by cases args; simp_all
  obtain ⟨rfl, rfl⟩ := trodVars_none hV
  have k0 := h0
  have lt0 : ∀ x ∈ p0, x.block < W.heap.size := by obtain ⟨m, hm⟩ := k0; exact DataW.trod_lt m _ _ _ hm
  obtain ⟨l, hv⟩ := open_rmoves (hval 0 22 v0 rfl rfl) h0
  clear hA0 hval0
  refine (moveRings_walk v0 l W hv).mono fun e W' ⟨he, bel⟩ => ?_
  subst he
  exact ⟨_, rfl, _, _, _, [], _, [], hW', trodAll_mk1 (shut_bool Try.underlying4 _), (trodAll_cons_mk (Below.trod Try.laidOut (by kernel_rfl) (of_decide_eq_true (by kernel_rfl)) k0 bel lt0) trodAll_mk0), rfl, bel.frame _, fun h => by cases h⟩

theorem moveRings_holds : Rows.MoveRingsSaid :=
  OpenClaim.holds_of_wide 7 Try.f7 rfl rfl rfl rfl rfl rfl rfl ⟨rfl, rfl, rfl, rfl, rfl⟩ rfl rfl rfl rfl rfl (by kernel_rfl) Try.func7 (by kernel_rfl)
    (of_decide_eq_true (by kernel_rfl)) (by unfold Func.isWrapper; first | (rw [if_pos (by decide +kernel)]; kernel_rfl) | (rw [if_neg (by decide +kernel)]; exact ⟨rfl, rfl⟩))
    (fun os started H enc _ => moveRings_lifted os started H enc)

#print axioms moveRings_holds

end Go.Proofs.Ytilonmpcifohiaa
