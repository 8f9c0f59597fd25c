/- The law MoveKids: what hangs under a block is told by rising keys, those of one key by rising stamps, and each of them hangs there; for every input. -/
import Derived.Test.YtilonmpcifohiaaKidsIn14
import Derived.Test.YtilonmpcifohiaaRows
import Derived.Test.YtilonmpcifohiaaOpenSt
import Derived.Test.YtilonmpcifohiaaHand
import Derived.Deep.CutBlock
import Derived.Deep.DeepCutAuto
import Derived.IntWalk
import Derived.BigQuiet
import Derived.Deep.QuietTactic
import Derived.Deep.RegionHeld3
import Derived.ProofKit
import Derived.OpenShut
import Derived.ShutString
import Derived.ChangeOld
import Derived.Below
namespace Go.Proofs.Ytilonmpcifohiaa
open Go.ChangeShapes Go.WideShapes Go.ChangeAt Go.RowKit
set_option linter.unusedSimpArgs false
set_option linter.unusedVariables false


set_option maxRecDepth 100000 in
set_option maxHeartbeats 4000000 in
theorem moveKids_walk (v : Value) (l : List RMv) (un ur : Int) (w : World) (hv : SliceIs RMv.cells 7 w v l) :
    Calls Try.prog 9 #[v, .agg #[.int .i64 un, .int .i64 ur]] w fun e w' => e = .returned (.bool true) ∧ Below w.heap.size w w' := by
  have hK := addAll_kept (l.take 60)
  have hlen := addAll_len (l.take 60)
  rw [List.length_take] at hlen
  have hv1 := hv.below ((Below.refl _ _).alloc (Nat.le_refl _) (.cells #[.int .i64 un, .int .i64 ur] 24))
  have hmv := moved_any v l _ hv1
  generalize (addAll (l.take 60)).1 = c at *
  generalize (addAll (l.take 60)).2 = all at *
  have hcl : c.length ≤ 60 := by omega
  have hal : all.length ≤ 60 := by omega
  have HK := Lib.hid hK
  have hB0 : Below w.heap.size w (w.alloc (.cells #[.int .i64 un, .int .i64 ur] 24)) := (Below.refl _ _).alloc (Nat.le_refl _) _
  have hU := BoxS.new w ⟨un, ur⟩
  have hz : (w.alloc (.cells #[.int .i64 un, .int .i64 ur] 24)).heap.size = w.heap.size + 1 := by simp
  rw [hz] at hmv
  have HMV := Lib.hid hmv
  have HZ := Lib.hid hz
  clear hlen hK hv hv1 hmv hz
  go_enter Try.func9, Try.ntmps9
  go_wp2_with fail
  generalize w.alloc (.cells #[.int .i64 un, .int .i64 ur] 24) = w0 at *
  refine HMV.out.mono ?_
  rintro e w1 ⟨vo, rfl, hT, hO, hB⟩
  clear HMV
  have hU1 := hU.below (by rw [HZ.out]; exact hB)
  have hB1 := hB0.trans (hB.mono (by omega))
  have hS := hO.slice RMv.len
  clear hU hB hB0 hO
  obtain ⟨va, vc, rfl, hcap, hmax, hd1⟩ := id hS
  clear hd1
  unfold maxLen at hmax
  go_wp2_with fail
  refine (alive_any _).mono ?_
  rintro e w2 ⟨rfl, b2⟩
  replace hT := hT.below b2
  replace hS := hS.below b2
  replace hU1 := hU1.below b2
  replace hB1 := hB1.trans (b2.mono hB1.size)
  have u0 := hU1.c0
  have u1 := hU1.c1
  clear b2
  go_wp2_with fail
  refine (kids_any _ un ur hT (by omega)).mono ?_
  rintro e w3 ⟨kv, K, rfl, hO3, hKO, b3⟩
  have hKS := hO3.slice (fun _ => rfl)
  have hIn : KIn (w.heap.size + 1) w c all (.slice va all.length vc) (K.map Ch.block) kv w.heap.size ⟨un, ur⟩ w3 := ⟨hT.below b3, hS.below b3, hKS, hU1.below b3, hB1.trans (b3.mono hB1.size)⟩
  have hkl : K.length ≤ 60 := kids_le HK.out hKO hal
  have HKO := Lib.hid hKO
  obtain ⟨ka, kc, hkv, hkcap, hkmax, hd2⟩ := id hKS
  clear hd2
  rw [List.length_map] at hkv hkcap
  subst hkv
  unfold maxLen at hkmax
  clear hT hS hU1 hB1 b3 u0 u1 hO3 hKS hKO
  go_wp2_with fail
  go_loopg [8] K.length (fun g iv wx => ∃ i : Nat, g = K.length - i ∧ i ≤ K.length ∧ iv = .int .i64 i ∧ KIn (w.heap.size + 1) w c all (.slice va all.length vc) (K.map Ch.block) (.slice ka K.length kc) w.heap.size ⟨un, ur⟩ wx)
  case atStart => exact ⟨0, rfl, Nat.zero_le _, rfl, hIn⟩
  case round =>
    clear hIn
    obtain ⟨i, hg, hi, rfl, hIn⟩ := hrel
    have HG := Lib.hid hg
    clear hg
    by_cases hlt : i < K.length
    · obtain ⟨y, hy⟩ : ∃ y, K[i]? = some y := ⟨_, List.getElem?_eq_getElem hlt⟩
      obtain ⟨⟨bn, br⟩, yu, ck⟩ := y
      obtain ⟨hhy, hyu⟩ := (HKO.out.1 _).1 (List.mem_of_getElem? hy)
      obtain rfl : yu = ⟨un, ur⟩ := hyu
      have HHY := Lib.hid hhy
      obtain ⟨b, o, cp, hve, hcs⟩ := hIn.kids.kcells (by intro e; rw [e] at hlt; simp at hlt)
      cases hve
      obtain ⟨k0, k1⟩ := hcs i _ hy
      have HY := Lib.hid hy
      clear hy hhy hcs
      go_wp2_with fail
      refine (parent_kid _ HHY.out hIn.tree).mono ?_
      rintro e w5 ⟨rfl, b5⟩
      replace hIn := hIn.below b5
      clear k0 k1 b5
      go_upto_region 9 with fail
      have hbx : BoxC (w5.alloc (.cells #[.int .i64 bn, .int .i64 br, .int .i64 un, .int .i64 ur, .string ck] 36)) w5.heap.size ⟨⟨bn, br⟩, ⟨un, ur⟩, ck⟩ := World.alloc_heap_new w5 _
      replace hIn := hIn.below ((Below.refl _ _).alloc (Nat.le_refl _) (.cells #[.int .i64 bn, .int .i64 br, .int .i64 un, .int .i64 ur, .string ck] 36))
      generalize w5.alloc (.cells #[.int .i64 bn, .int .i64 br, .int .i64 un, .int .i64 ur, .string ck] 36) = w6 at *
      generalize w5.heap.size = zb at *
      have u0 := hIn.box.c0
      have u1 := hIn.box.c1
      obtain ⟨c0, c1, c2, c3, c4⟩ := hbx.cs
      by_cases hi0 : i = 0
      · have t0 : ((i : Int) == 0) = true := by rw [beq_iff_eq]; omega
        clear hbx
        go_wp2_with fail
        go_roundg (K.length - (i + 1))
        case measure => rw [HG.out]; omega
        case rel => exact ⟨i + 1, rfl, hlt, by go_num, hIn⟩
      · have t0 : ((i : Int) == 0) = false := by rw [beq_eq_false_iff_ne]; omega
        obtain ⟨p, hp⟩ : ∃ p, p + 1 = i := ⟨i - 1, by omega⟩
        have ip : (i : Int) - 1 = (p : Int) := by omega
        have p0 : (0 : Int) ≤ (p : Int) := by omega
        have p1 : (p : Int) < (K.length : Int) := by omega
        have ipw : IntKind.i64.wrap (p : Int) = (p : Int) := IntWalk.i64_in _ (by omega)
        obtain ⟨z, hz⟩ : ∃ z, K[p]? = some z := ⟨_, List.getElem?_eq_getElem (by omega)⟩
        have hkl := pair_at HKO.out.2 (show p < i by omega) hz HY.out
        obtain ⟨⟨zn, zr⟩, zu, dk⟩ := z
        obtain ⟨hhz, hzu⟩ := (HKO.out.1 _).1 (List.mem_of_getElem? hz)
        obtain rfl : zu = ⟨un, ur⟩ := hzu
        have HHZ := Lib.hid hhz
        have HKL := Lib.hid hkl
        obtain ⟨_, _, _, hve, hcs⟩ := hIn.kids.kcells (by intro e; rw [e] at hlt; simp at hlt)
        cases hve
        obtain ⟨z0, z1⟩ := hcs p _ hz
        have HZZ := Lib.hid hz
        have HP := Lib.hid hp
        clear hhz hkl hcs hz hp hi0
        go_wp2_with fail
        refine (parent_kid _ HHZ.out hIn.tree).mono ?_
        rintro e w7 ⟨rfl, b7⟩
        replace hIn := hIn.below b7
        replace hbx := hbx.below b7
        clear z0 z1 u0 u1 c0 c1 c2 c3 c4 b7
        go_upto_region 13 with fail
        have hbz : BoxC (w7.alloc (.cells #[.int .i64 zn, .int .i64 zr, .int .i64 un, .int .i64 ur, .string dk] 36)) w7.heap.size ⟨⟨zn, zr⟩, ⟨un, ur⟩, dk⟩ := World.alloc_heap_new w7 _
        replace hbx := hbx.below ((Below.refl _ _).alloc (Nat.le_refl _) (.cells #[.int .i64 zn, .int .i64 zr, .int .i64 un, .int .i64 ur, .string dk] 36))
        replace hIn := hIn.below ((Below.refl _ _).alloc (Nat.le_refl _) (.cells #[.int .i64 zn, .int .i64 zr, .int .i64 un, .int .i64 ur, .string dk] 36))
        generalize w7.alloc (.cells #[.int .i64 zn, .int .i64 zr, .int .i64 un, .int .i64 ur, .string dk] 36) = w8 at *
        generalize w7.heap.size = zd at *
        obtain ⟨_, _, _, _, c4⟩ := hbx.cs
        obtain ⟨_, _, _, _, d4⟩ := hbz.cs
        obtain ⟨_, _, _, hve, hcs⟩ := hIn.kids.kcells (by intro e; rw [e] at hlt; simp at hlt)
        cases hve
        obtain ⟨k0, k1⟩ := hcs i _ HY.out
        obtain ⟨z0, z1⟩ := hcs p _ HZZ.out
        clear hcs hbx hbz
        have hq : Op.bytesLess ck.toList dk.toList = false := by
          rw [bytesLess_eq, decide_eq_false_iff_not]
          rcases HKL.out with h | ⟨h, _⟩
          · exact fun h2 => List.lt_irrefl _ (List.lt_trans h h2)
          · intro h2
            have h3 : dk.toList = ck.toList := h
            rw [h3] at h2; exact List.lt_irrefl _ h2
        by_cases hkk : dk.toList = ck.toList
        · have hke : (dk.toList == ck.toList) = true := by rw [beq_iff_eq]; exact hkk
          have hst : stLt ⟨zn, zr⟩ ⟨bn, br⟩ := by
            rcases HKL.out with h | ⟨_, h⟩
            · have h : dk.toList < ck.toList := h
              rw [hkk] at h; exact absurd h (List.lt_irrefl _)
            · exact h
          have hcm : cmpS ⟨zn, zr⟩ ⟨bn, br⟩ < 0 := (cmpS_lt _ _).2 hst
          have hcg : decide (0 ≤ cmpS ⟨zn, zr⟩ ⟨bn, br⟩) = false := decide_eq_false (by omega)
          clear hst hkk
          go_region_held3 (fun W => W.cell? ⟨zb, 4, none⟩ = some (.string ck) ∧ W.cell? ⟨zd, 4, none⟩ = some (.string dk) ∧ W.cell? ⟨b, o + i * 2, none⟩ = some (.int .i64 bn) ∧ W.cell? ⟨b, o + i * 2 + 1, none⟩ = some (.int .i64 br) ∧ W.cell? ⟨b, o + p * 2, none⟩ = some (.int .i64 zn) ∧ W.cell? ⟨b, o + p * 2 + 1, none⟩ = some (.int .i64 zr)) (first | exact ⟨c4, d4, k0, k1, z0, z1⟩ | exact ⟨keepB b5 c4, keepB b5 d4, keepB b5 k0, keepB b5 k1, keepB b5 z0, keepB b5 z1⟩) ((go_at_call 13; ((with_reducible refine (compare_any _ _ _ _ _).mono ?_); rintro e w5 ⟨rfl, b5⟩; simp only [heap_drew, below_drew] at b5)))
          replace hIn := hIn.below b5
          clear k0 k1 z0 z1 c4 d4 b5
          go_wp2_with fail
          go_roundg (K.length - (i + 1))
          case measure => rw [HG.out]; omega
          case rel => exact ⟨i + 1, rfl, hlt, by go_num, hIn⟩
        · have hke : (dk.toList == ck.toList) = false := by rw [beq_eq_false_iff_ne]; exact hkk
          have hke2 : (dk == ck) = false := beq_bytes_ne (fun e => hkk (by rw [e]))
          have hke3 : decide (dk = ck) = false := decide_eq_false (fun e => hkk (by rw [e]))
          clear hkk
          have hq2 : Op.bytesLess dk.toList ck.toList = true := by
            rw [bytesLess_eq, decide_eq_true_eq]
            rcases HKL.out with h | ⟨h, _⟩
            · exact h
            · have h3 : dk.toList = ck.toList := h
              rw [h3] at hke; simp at hke
          clear hq
          go_quiet (fail)
          have hIn2 := hIn.below (below_drewN (Below.refl _ _) nq)
          clear k0 k1 z0 z1 c4 d4
          go_wp2_with fail
          go_roundg (K.length - (i + 1))
          case measure => rw [HG.out]; omega
          case rel => exact ⟨i + 1, rfl, hlt, by go_num, hIn2⟩
    · clear HG
      obtain ⟨HNK⟩ : Nonempty (Hid (kidsN (hang c) ⟨un, ur⟩ all = K.length)) := ⟨Lib.hid (kidsN_all HK.out HKO.out)⟩
      obtain ⟨wo, hwo⟩ : ∃ wo : World, wo = wr := ⟨_, rfl⟩
      subst hwo
      go_wp2_with fail
      clear hlt hi
      go_loopg [13, 14] all.length (fun g nv iv wx => ∃ i nn : Nat, g = all.length - i ∧ i ≤ all.length ∧ nv = .int .i64 nn ∧ iv = .int .i64 i ∧ nn ≤ i ∧ Hid (nn = kidsN (hang c) ⟨un, ur⟩ (all.take i)) ∧ KIn (w.heap.size + 1) w c all (.slice va all.length vc) (K.map Ch.block) (.slice ka K.length kc) w.heap.size ⟨un, ur⟩ wx)
      case atStart => exact ⟨0, 0, rfl, Nat.zero_le _, rfl, rfl, Nat.le_refl _, Lib.hid rfl, hIn⟩
      case round =>
        clear hIn
        obtain ⟨i, nn, hg, hi, rfl, rfl, hnn, hnk, hIn⟩ := hrel
        have HG := Lib.hid hg
        clear hg
        by_cases hlt : i < all.length
        · obtain ⟨x, hx⟩ : ∃ x, all[i]? = some x := ⟨_, List.getElem?_eq_getElem hlt⟩
          have HX := Lib.hid hx
          clear hx
          obtain ⟨wo, hwo⟩ : ∃ wo : World, wo = wr := ⟨_, rfl⟩
          subst hwo
          go_wp2_with fail
          go_loopg [15, 16] i (fun g fv jv wx => ∃ j : Nat, g = i - j ∧ j ≤ i ∧ fv = .bool (decide (x.block ∉ (all.take j).map RMv.block)) ∧ jv = .int .i64 j ∧ KIn (w.heap.size + 1) w c all (.slice va all.length vc) (K.map Ch.block) (.slice ka K.length kc) w.heap.size ⟨un, ur⟩ wx)
          case atStart => exact ⟨0, rfl, Nat.zero_le _, by simp, rfl, hIn⟩
          case round =>
            clear hIn
            obtain ⟨j, hg, hj, rfl, rfl, hIn⟩ := hrel
            have HG2 := Lib.hid hg
            clear hg
            obtain ⟨b, o, cp, hve, hcs⟩ := hIn.alls.rcells (by intro e; rw [e] at hlt; simp at hlt)
            cases hve
            obtain ⟨_, _, x2, x3, _⟩ := hcs i x HX.out
            by_cases hlt2 : j < i
            · obtain ⟨y, hy⟩ : ∃ y, all[j]? = some y := ⟨_, List.getElem?_eq_getElem (by omega)⟩
              obtain ⟨_, _, y2, y3, _⟩ := hcs j y hy
              have hjl : (j : Int) < (all.length : Int) := by omega
              have HS : Hid ((all.take (j + 1)).map RMv.block = (all.take j).map RMv.block ++ [y.block]) := Lib.hid (by rw [List.take_add_one, hy]; simp)
              clear hcs hy
              by_cases hm : x.block ∈ (all.take j).map RMv.block
              · have hf : decide (x.block ∉ (all.take j).map RMv.block) = false := decide_eq_false (fun h => h hm)
                have hf2 : Hid (decide (x.block ∉ (all.take (j + 1)).map RMv.block) = false) := Lib.hid (decide_eq_false (fun h => h (by rw [HS.out]; exact List.mem_append_left _ hm)))
                clear hm
                rw [hf]
                clear hf
                go_wp2_with fail
                go_quiet (fail)
                have hIn2 := hIn.below (below_drewN (Below.refl _ _) nq)
                go_wp2_with fail
                go_roundg (i - (j + 1))
                case measure => rw [HG2.out]; omega
                case rel => exact ⟨j + 1, rfl, hlt2, by rw [hf2.out], by go_num, hIn2⟩
              · have hf : decide (x.block ∉ (all.take j).map RMv.block) = true := decide_eq_true hm
                rw [hf]
                clear hf
                have HM := Lib.hid hm
                clear hm
                by_cases hbk : y.block = x.block
                · have hf2 : Hid (decide (x.block ∉ (all.take (j + 1)).map RMv.block) = false) := Lib.hid (decide_eq_false (fun h => h (by rw [HS.out, hbk]; exact List.mem_append_right _ (by simp))))
                  have e1 : y.block.n = x.block.n := by rw [hbk]
                  have e2 : y.block.r = x.block.r := by rw [hbk]
                  rw [e1] at y2
                  rw [e2] at y3
                  clear e1 e2 hbk
                  go_wp2_with fail
                  go_quiet (fail)
                  have hIn2 := hIn.below (below_drewN (Below.refl _ _) nq)
                  go_wp2_with fail
                  go_roundg (i - (j + 1))
                  case measure => rw [HG2.out]; omega
                  case rel => exact ⟨j + 1, rfl, hlt2, by rw [hf2.out], by go_num, hIn2⟩
                · have hf2 : Hid (decide (x.block ∉ (all.take (j + 1)).map RMv.block) = true) := Lib.hid (decide_eq_true (by rw [HS.out, List.mem_append]; rintro (h | h); exact HM.out h; exact hbk (List.mem_singleton.1 h).symm))
                  by_cases e1 : y.block.n = x.block.n
                  · have e2 : ¬ y.block.r = x.block.r := fun e => hbk (st_eq e1 e)
                    rw [e1] at y2
                    have e3 : (y.block.r == x.block.r) = false := by rw [beq_eq_false_iff_ne]; exact e2
                    clear hbk e1
                    go_wp2_with fail
                    go_quiet (fail)
                    have hIn2 := hIn.below (below_drewN (Below.refl _ _) nq)
                    go_wp2_with fail
                    go_roundg (i - (j + 1))
                    case measure => rw [HG2.out]; omega
                    case rel => exact ⟨j + 1, rfl, hlt2, by rw [hf2.out], by go_num, hIn2⟩
                  · have e3 : (y.block.n == x.block.n) = false := by rw [beq_eq_false_iff_ne]; exact e1
                    clear hbk
                    go_wp2_with fail
                    go_quiet (fail)
                    have hIn2 := hIn.below (below_drewN (Below.refl _ _) nq)
                    go_wp2_with fail
                    go_roundg (i - (j + 1))
                    case measure => rw [HG2.out]; omega
                    case rel => exact ⟨j + 1, rfl, hlt2, by rw [hf2.out], by go_num, hIn2⟩
            · obtain rfl : j = i := by omega
              clear hlt2 HG2 hj
              have HS : Hid (kidsN (hang c) ⟨un, ur⟩ (all.take (j + 1)) = kidsN (hang c) ⟨un, ur⟩ (all.take j) + if x.block ∉ (all.take j).map RMv.block ∧ hangsU (hang c) ⟨un, ur⟩ x.block = true then 1 else 0) := Lib.hid (by rw [take_snoc14 HX.out]; exact kidsN_snoc _ _ _ _)
              clear hcs
              obtain ⟨f, hf⟩ : ∃ f, f = decide (x.block ∉ (all.take j).map RMv.block) := ⟨_, rfl⟩
              rw [← hf]
              have HF := Lib.hid hf
              clear hf
              have hu0 := hIn.box.c0
              have hu1 := hIn.box.c1
              cases hh : hang c x.block with
              | none =>
                have HH := Lib.hid hh
                have hno : Hid (kidsN (hang c) ⟨un, ur⟩ (all.take (j + 1)) = kidsN (hang c) ⟨un, ur⟩ (all.take j)) := Lib.hid (by rw [HS.out, if_neg]; rfl; rintro ⟨_, h⟩; simp [hangsU, HH.out] at h)
                clear hh hu0 hu1
                go_wp2_with fail
                refine (parent_none _ _ _ HH.out hIn.tree).mono ?_
                rintro e w5 ⟨rfl, b5⟩
                replace hIn := (hIn.below b5).below ((Below.refl _ _).alloc (Nat.le_refl _) (.cells #[.int .i64 0, .int .i64 0, .int .i64 0, .int .i64 0, .string ⟨#[]⟩] 36))
                clear b5 x2 x3
                cases f
                · go_wp2_with fail
                  go_roundg (all.length - (j + 1))
                  case measure => rw [HG.out]; omega
                  case rel => exact ⟨j + 1, nn, rfl, hlt, rfl, by go_num, by omega, Lib.hid (by rw [hno.out]; exact hnk.out), hIn⟩
                · go_wp2_with fail
                  go_roundg (all.length - (j + 1))
                  case measure => rw [HG.out]; omega
                  case rel => exact ⟨j + 1, nn, rfl, hlt, rfl, by go_num, by omega, Lib.hid (by rw [hno.out]; exact hnk.out), hIn⟩
              | some y =>
                have HH := Lib.hid hh
                clear hh hu0 hu1
                go_wp2_with fail
                refine (parent_some _ _ _ HH.out hIn.tree).mono ?_
                rintro e w5 ⟨rfl, b5⟩
                replace hIn := hIn.below b5
                clear b5 x2 x3
                go_upto_region 25 with fail
                have hbx : BoxC (w5.alloc (.cells #[.int .i64 y.block.n, .int .i64 y.block.r, .int .i64 y.under.n, .int .i64 y.under.r, .string y.key] 36)) w5.heap.size y := World.alloc_heap_new w5 _
                replace hIn := hIn.below ((Below.refl _ _).alloc (Nat.le_refl _) (.cells #[.int .i64 y.block.n, .int .i64 y.block.r, .int .i64 y.under.n, .int .i64 y.under.r, .string y.key] 36))
                generalize w5.alloc (.cells #[.int .i64 y.block.n, .int .i64 y.block.r, .int .i64 y.under.n, .int .i64 y.under.r, .string y.key] 36) = w6 at *
                generalize w5.heap.size = zb at *
                have u0 := hIn.box.c0
                have u1 := hIn.box.c1
                obtain ⟨_, _, c2, c3, _⟩ := hbx.cs
                clear hbx
                cases f
                · have hno : Hid (kidsN (hang c) ⟨un, ur⟩ (all.take (j + 1)) = kidsN (hang c) ⟨un, ur⟩ (all.take j)) := Lib.hid (by rw [HS.out, if_neg]; rfl; rintro ⟨h, _⟩; have := HF.out; rw [decide_eq_true h] at this; cases this)
                  go_wp2_with fail
                  go_roundg (all.length - (j + 1))
                  case measure => rw [HG.out]; omega
                  case rel => exact ⟨j + 1, nn, rfl, hlt, rfl, by go_num, by omega, Lib.hid (by rw [hno.out]; exact hnk.out), hIn⟩
                · by_cases e1 : y.under.n = un
                  · by_cases e2 : y.under.r = ur
                    · have hyes : Hid (kidsN (hang c) ⟨un, ur⟩ (all.take (j + 1)) = kidsN (hang c) ⟨un, ur⟩ (all.take j) + 1) := Lib.hid (by rw [HS.out, if_pos ⟨of_decide_eq_true HF.out.symm, by simp only [hangsU, HH.out, decide_eq_true_eq]; exact st_eq e1 e2⟩])
                      rw [e1] at c2
                      rw [e2] at c3
                      clear e1 e2
                      go_wp2_with fail
                      go_roundg (all.length - (j + 1))
                      case measure => rw [HG.out]; omega
                      case rel => exact ⟨j + 1, nn + 1, rfl, hlt, by go_num, by go_num, by omega, Lib.hid (by rw [hyes.out, hnk.out]), hIn⟩
                    · have hno : Hid (kidsN (hang c) ⟨un, ur⟩ (all.take (j + 1)) = kidsN (hang c) ⟨un, ur⟩ (all.take j)) := Lib.hid (by rw [HS.out, if_neg]; rfl; rintro ⟨_, h⟩; simp only [hangsU, HH.out, decide_eq_true_eq] at h; exact e2 (by rw [h]))
                      rw [e1] at c2
                      have e3 : (y.under.r == ur) = false := by rw [beq_eq_false_iff_ne]; exact e2
                      clear e1
                      go_wp2_with fail
                      go_roundg (all.length - (j + 1))
                      case measure => rw [HG.out]; omega
                      case rel => exact ⟨j + 1, nn, rfl, hlt, rfl, by go_num, by omega, Lib.hid (by rw [hno.out]; exact hnk.out), hIn⟩
                  · have hno : Hid (kidsN (hang c) ⟨un, ur⟩ (all.take (j + 1)) = kidsN (hang c) ⟨un, ur⟩ (all.take j)) := Lib.hid (by rw [HS.out, if_neg]; rfl; rintro ⟨_, h⟩; simp only [hangsU, HH.out, decide_eq_true_eq] at h; exact e1 (by rw [h]))
                    have e3 : (y.under.n == un) = false := by rw [beq_eq_false_iff_ne]; exact e1
                    go_wp2_with fail
                    go_roundg (all.length - (j + 1))
                    case measure => rw [HG.out]; omega
                    case rel => exact ⟨j + 1, nn, rfl, hlt, rfl, by go_num, by omega, Lib.hid (by rw [hno.out]; exact hnk.out), hIn⟩
        · obtain rfl : i = all.length := by omega
          have hfin : nn = K.length := by rw [hnk.out, List.take_length]; exact HNK.out
          subst hfin
          go_wp2_with fail
          go_ret
          exact ⟨by simp, hIn.bel⟩

set_option maxRecDepth 100000 in
theorem moveKids_lifted (os : Os) (started : os.Started) (H : Type) (enc : TypeId × Value → H) :
    ReturnsInHanded {} Try.checked os 9 .any (Rows.moveKidsSpec.pre6 enc Try.prog Try.f9 Rows.moveKidsRow.domain false) (Rows.moveKidsSpec.post enc Try.prog Try.f9 false true false false) := by
  refine returnsInHanded_of_change (C := Try.checked) Try.own started (by kernel_rfl) Try.func9
    (ChangeSpec.witness6 (enc := enc) (C := Try.checked) false ⟨#[], #[.slice none 0 0, .agg #[.int .i64 0, .int .i64 0]], []⟩ 8 (by kernel_rfl) (by kernel_rfl) (by kernel_rfl) (by kernel_rfl)) ?_
  intro W base args ds gs before hval0 hW hcnd _
  have hval : ∀ (j : Nat) t v, Try.f9.params[j]? = some t → args[j]? = some v → Value.okWide Try.prog W .any base t v := hval0
  have hW' := hW
  obtain ⟨p, q, hA0, hV, rfl, hfz, hnd⟩ := hW
  have hA : DataW.TrodAll enc Try.prog W 0 (fun _ => true) true Try.f9.params.toList args.toList ds p := hA0
  rw [Try.params9] at hA hval
  obtain ⟨v0, vs0, d0, ds0, p0, q0, hargs, rfl, rfl, h0, r0⟩ := trodAll_cons hA
  obtain ⟨v1, vs1, d1, ds1, p1, q1, rfl, rfl, rfl, h1, r1⟩ := trodAll_cons r0
  obtain ⟨rfl, rfl, rfl⟩ := trodAll_nil r1
  obtain rfl : args = #[v0, v1] := by cases args; simp_all
  obtain ⟨rfl, rfl⟩ := trodVars_none hV
  have k0 := h0
  have lt0 : ∀ x ∈ p0, x.block < W.heap.size := by obtain ⟨m, hm⟩ := k0; exact DataW.trod_lt m _ _ _ hm
  have k1 := h1
  have lt1 : ∀ x ∈ p1, x.block < W.heap.size := by obtain ⟨m, hm⟩ := k1; exact DataW.trod_lt m _ _ _ hm
  obtain ⟨l, hv⟩ := open_rmoves (hval 0 22 v0 rfl rfl) h0
  obtain ⟨un, ur, rfl⟩ := open_stamp (hval 1 24 v1 rfl rfl) h1
  clear hA0 hval0
  refine (moveKids_walk v0 l un ur W hv).mono fun e W' ⟨he, bel⟩ => ?_
  subst he
  exact ⟨_, rfl, _, _, _, [], _, [], hW', trodAll_mk1 (shut_bool Try.underlying4 _), (trodAll_cons_mk (Below.trod Try.laidOut (by kernel_rfl) (of_decide_eq_true (by kernel_rfl)) k0 bel lt0) (trodAll_cons_mk (Below.trod Try.laidOut (by kernel_rfl) (of_decide_eq_true (by kernel_rfl)) k1 bel lt1) trodAll_mk0)), rfl, bel.frame _, fun h => by cases h⟩

theorem moveKids_holds : Rows.MoveKidsSaid :=
  OpenClaim.holds_of_wide 9 Try.f9 rfl rfl rfl rfl rfl rfl rfl ⟨rfl, rfl, rfl, rfl, rfl⟩ rfl rfl rfl rfl rfl (by kernel_rfl) Try.func9 (by kernel_rfl)
    (of_decide_eq_true (by kernel_rfl)) (by unfold Func.isWrapper; first | (rw [if_pos (by decide +kernel)]; kernel_rfl) | (rw [if_neg (by decide +kernel)]; exact ⟨rfl, rfl⟩))
    (fun os started H enc _ => moveKids_lifted os started H enc)

#print axioms moveKids_holds

end Go.Proofs.Ytilonmpcifohiaa
