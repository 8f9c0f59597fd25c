/- Layer 6's document answer: contract of Cut. -/
import Derived.Test.YtmlaojfhmaamcaaRefL06
import Derived.Test.YtmlaojfhmaamcaaRefP06
import Derived.Test.YtmlaojfhmaamcaaHeldT
import Derived.Outline
import Derived.Lib.AppendZeros
namespace Go.Proofs.Ytmlaojfhmaamcaa
open Go.RowKit Go.Deep
set_option linter.unusedSimpArgs false
set_option linter.unusedVariables false

/-- What the document's Cut answers, and leaves. -/
def RCutPost (w : World) (R : RefA) (at_ names : Int) (ks : List Bool) (torn : Int) (e : Ending) (w' : World) : Prop :=
  ∃ rb v, e = .returned (.pointer (some ⟨rb, 0, none⟩)) ∧ RefIs w.heap.size w' rb v (cutR R at_ names ks torn) ∧ Below w.heap.size w w'

set_option maxRecDepth 100000 in
set_option maxHeartbeats 10000000 in
theorem rcut_any {base : Nat} {w : World} {rb : Nat} {v : Value} {R : RefA} (h : RefIs base w rb v R) (at_ names torn : Int) (ks : List Bool) (vk : Value) (hk : SliceIs boolc 1 w vk ks) (ha1 : -9223372036854775808 ≤ at_) (ha2 : at_ ≤ 9223372036854775807) (hn1 : -9223372036854775808 ≤ names) (hn2 : names ≤ 9223372036854775807) (ht1 : -9223372036854775808 ≤ torn) (ht2 : torn ≤ 9223372036854775807)
    {N : Nat} (hs : R.Small N) (hN : N ≤ 100000) (hhl : ∀ f, (heldR R.L f).length ≤ 1048576) (nb : Nat) (hb0 : R.bse = nb) (hb1 : nb ≤ R.L.length) :
    Calls Try.prog 18 #[.pointer (some ⟨rb, 0, none⟩), .int .i64 at_, .int .i64 names, vk, .int .i64 torn] w fun e w' => RCutPost w R at_ names ks torn e w' := by
  obtain ⟨i0, hi, hz0, hz1, hz2⟩ := info_parts info_step
  obtain ⟨qs, hqo, hql, hqp⟩ := h.steps
  obtain ⟨a, cap, rfl, hcap, hmax, hcs⟩ := hqo.slice Stp.len
  obtain ⟨ka, kc, rfl, hkc, hkm, hkk⟩ := id hk
  have r0 := Joins.cell_of_block h.blk 0
  have r2 := Joins.cell_of_block h.blk 2
  simp only [List.getElem?_toArray, List.getElem?_cons_succ, List.getElem?_cons_zero] at r0 r2
  rw [hb0] at r2
  have hlq : qs.length ≤ 100000 := by have := hs.len; omega
  unfold maxLen at hmax hkm
  have hpk := rpick_any at_ (qs.length - nb + 1) ha1 ha2 (by omega) (by omega)
  have hpl := pickN_lt at_ (show 0 < qs.length - nb + 1 by omega)
  obtain ⟨pa, hpa⟩ : ∃ pa, pickN at_ (qs.length - nb + 1) = pa := ⟨_, rfl⟩
  rw [hpa] at hpk hpl
  rw [show ((qs.length - nb + 1 : Nat) : Int) = (qs.length : Int) - nb + 1 by omega] at hpk
  obtain ⟨m, hm⟩ : ∃ m, nb + pa = m := ⟨_, rfl⟩
  have hmi : (nb : Int) + (pa : Int) = (m : Int) := by omega
  have hmq : m ≤ qs.length := by omega
  have hmq2 : (m : Int) ≤ (cap : Int) := by omega
  have hnm : nb ≤ m := by omega
  have hw1 : IntKind.i64.wrap ((qs.length : Int) - nb) = (qs.length : Int) - nb := IntWalk.i64_in _ (by omega)
  have hw2 : IntKind.i64.wrap ((qs.length : Int) - nb + 1) = (qs.length : Int) - nb + 1 := IntWalk.i64_in _ (by omega)
  have hw3 : IntKind.i64.wrap ((nb : Int) + (pa : Int)) = (m : Int) := by rw [hmi]; exact IntWalk.i64_in _ (by omega)
  have hw4 : IntKind.i64.wrap (m : Int) = (m : Int) := IntWalk.i64_in _ (by omega)
  have hstp : StepsIs base w (.slice a m cap) (R.L.take m) := by
    have := h.steps
    exact this.take m (by omega)
  have hcut : cutR R at_ names ks torn = cutAt R.L nb m names ks torn := by
    unfold cutR cutAt
    have e1 : (R.bse + pickN at_ ((R.L.length : Int) - R.bse + 1).toNat).toNat = m := by
      rw [hb0, show ((R.L.length : Int) - (nb : Int) + 1).toNat = qs.length - nb + 1 by omega, hpa]
      omega
    dsimp only
    rw [e1, show R.bse.toNat = nb by omega]
  have hhl2 : ∀ f, (heldR (R.L.take m) f).length ≤ 1048576 := fun f => Nat.le_trans (heldR_take R.L f m) (hhl f)
  have hsh : (∃ g, a = some ⟨g, 0, none⟩) ∨ (a = none ∧ cap = 0 ∧ qs.length = 0) := by
    rcases hqo.eq_slice with ⟨e, e2⟩ | ⟨g, c, e, _⟩
    · simp only [Value.slice.injEq] at e
      exact .inr ⟨e.1, e.2.2, by rw [e2]; rfl⟩
    · simp only [Value.slice.injEq] at e
      exact .inl ⟨g, e.1⟩
  have HSH := Lib.hid hsh
  have HPK := Lib.hid hpk
  have HST := Lib.hid hstp
  have HCUT := Lib.hid hcut
  have HHL := Lib.hid hhl2
  have HK := Lib.hid hk
  have hrbl := h.lt
  have hll : (R.L.take m).length = m := by rw [List.length_take]; omega
  clear hsh hpk hstp hcut hhl2 hk hqo hqp hcs hkk hpa hhl h hs hb0 hb1 hql
  obtain ⟨L, hL⟩ : ∃ L, R.L.take m = L := ⟨_, rfl⟩
  rw [hL] at HST HHL hll
  have HLL := Lib.hid hll
  clear hll
  have HLE := Lib.hid hL
  clear hL
  go_enter Try.func18, Try.ntmps18
  go_wp2_with fail
  go_cut [11] (fun lv wx => lv = .slice a m cap ∧ Hid (Below w.heap.size w wx))
  case first =>
    rcases HSH.out with ⟨g, e1⟩ | ⟨e1, e2, e3⟩
    · subst e1
      go_region_held3 (fun W => W.cell? ⟨rb, 0, none⟩ = some (.slice (some ⟨g, 0, none⟩) qs.length cap) ∧ W.cell? ⟨rb, 2, none⟩ = some (.int .i64 nb)) (first | exact ⟨r0, r2⟩) (first | (go_at_call 38; ((with_reducible refine (HPK.out _).mono ?_); rintro e w4 ⟨rfl, rfl⟩)))
      all_goals
        go_wp2_with fail
        go_meet
        case rel => exact ⟨rfl, Lib.hid (Below.refl w.heap.size w).drew⟩
    · subst e1 e2
      have e4 := List.length_eq_zero_iff.1 e3
      subst e4
      obtain rfl : m = 0 := by simpa using hmq
      obtain rfl : nb = 0 := by omega
      obtain rfl : pa = 0 := by omega
      have hp1 := rpick_any at_ 1 ha1 ha2 (by omega) (by omega)
      have hp2 : pickN at_ 1 = 0 := by have := pickN_lt at_ (show 0 < 1 by omega); omega
      rw [hp2, show ((1 : Nat) : Int) = 1 from rfl] at hp1
      have HP1 := Lib.hid hp1
      clear hp1 hp2 hw1 hw2 hw3 hw4 hmi
      have hz0 : IntKind.i64.wrap 0 = 0 := by decide
      have hz1 : IntKind.i64.wrap 1 = 1 := by decide
      go_region_held3 (fun W => W.cell? ⟨rb, 0, none⟩ = some (.slice none 0 0) ∧ W.cell? ⟨rb, 2, none⟩ = some (.int .i64 ((0 : Nat) : Int))) (first | exact ⟨r0, r2⟩) (first | (go_at_call 38; ((with_reducible refine (HP1.out _).mono ?_); rintro e w4 ⟨rfl, rfl⟩)))
      all_goals
        go_wp2_with fail
        go_meet
        case rel => exact ⟨rfl, Lib.hid (Below.refl w.heap.size w).drew⟩
  case rest =>
  obtain ⟨rfl, HBX⟩ := hcut
  replace r2 := keepB HBX.out r2
  clear r0 hw1 hw2 hw3 HSH HPK
  -- LOOPS
  obtain ⟨qt, hto, htl, htp⟩ := HST.out
  obtain ⟨_, _, e1, _, _, htc⟩ := hto.slice Stp.len
  simp only [Value.slice.injEq] at e1
  obtain ⟨rfl, -, rfl⟩ := e1
  have HTC := Lib.hid htc
  have HTP := Lib.hid htp
  have HTL := Lib.hid htl
  have hmc : m ≤ 100000 := by omega
  have hll := HLL.out
  clear hto htl htp htc
  go_wp2_with fail
  go_loopg [12, 13] (m - nb) (fun g sv iv wr => ∃ (k : Nat), g = m - k ∧ k ≤ m ∧ nb ≤ k ∧ sv = .int .i64 (safeNR nb (L.take k)) ∧ iv = .int .i64 k ∧ wc = wr)
  case atStart => exact ⟨nb, by omega, by omega, by omega, by rw [safeNR_pre _ _ (by rw [List.length_take]; omega)], rfl, rfl⟩
  case round =>
    obtain ⟨k, hg, hk, hnk, rfl, rfl, rfl⟩ := hrel
    have HG := Lib.hid hg
    clear hg
    by_cases hkl : k < m
    · as_aux_lemma =>
      have htr : True := trivial
      obtain ⟨p, hp⟩ : ∃ p, L[k]? = some p := ⟨_, List.getElem?_eq_getElem (by omega)⟩
      obtain ⟨q, hq⟩ : ∃ q, qt[k]? = some q := ⟨_, List.getElem?_eq_getElem (by have := HTL.out; omega)⟩
      obtain ⟨b, o, e2, hcc⟩ := HTC.out (by intro e; rw [e] at hq; simp at hq)
      subst e2
      obtain ⟨p1, p2, p3, _⟩ := HTP.out k q p hq hp
      have q0 := keepB HBX.out (hcc k q hq 0 _ rfl)
      have q1 := keepB HBX.out (hcc k q hq 1 _ rfl)
      have q2 := keepB HBX.out (hcc k q hq 2 _ rfl)
      have q3 := keepB HBX.out (hcc k q hq 3 _ rfl)
      simp only [Nat.add_zero] at q0
      have hkk : (k : Int) < (m : Int) := by omega
      have HSN := Lib.hid (safeNR_take nb hp)
      obtain ⟨kd, fl, nm, ⟨ta, tn, tc⟩⟩ := q
      dsimp only at q0 q1 q2 q3 p1
      have HP1 := Lib.hid p1
      clear hq hp hcc p1 p2 p3
      by_cases e6 : kd = 6
      · subst e6
        have HE : Hid (safeNR nb (L.take (k + 1)) = k) := Lib.hid (by rw [HSN.out, if_pos ⟨hnk, HP1.out.symm⟩])
        go_wp2
        go_roundg (m - (k + 1))
        case measure => rw [HG.out]; omega
        case rel => exact ⟨k + 1, rfl, by omega, by omega, by rw [HE.out], by simp, rfl⟩
      · have e66 : (kd == 6) = false := by simpa using e6
        have HE : Hid (safeNR nb (L.take (k + 1)) = safeNR nb (L.take k)) := Lib.hid (by rw [HSN.out, if_neg (fun h => e6 (HP1.out.trans h.2))])
        go_wp2
        go_roundg (m - (k + 1))
        case measure => rw [HG.out]; omega
        case rel => exact ⟨k + 1, rfl, by omega, by omega, by rw [HE.out], by simp, rfl⟩
    · obtain rfl : k = m := by omega
      have hst : safeNR nb (L.take k) = safeNR nb L := by rw [List.take_of_length_le (by omega)]
      rw [hst]
      have hsl := safeNR_le nb L
      obtain ⟨safe, hsafe⟩ : ∃ safe, safeNR nb L = safe := ⟨_, rfl⟩
      rw [hsafe] at hsl ⊢
      have hsk : safe ≤ k := by omega
      have HSF := Lib.hid hsafe
      clear hst hsafe hsl hkl hnk
      obtain ⟨m, hmk⟩ : ∃ m, m = k := ⟨_, rfl⟩
      subst hmk
      go_wp2_with fail
      go_loopg [14, 15] (m - safe) (fun g ov iv wr => ∃ (k : Nat), g = m - k ∧ k ≤ m ∧ safe ≤ k ∧ ov = .int .i64 (openR (L.take k) safe) ∧ iv = .int .i64 k ∧ wc = wr)
      case atStart => exact ⟨safe, by omega, by omega, by omega, by rw [openR_zero]; rfl, rfl, rfl⟩
      case round =>
        obtain ⟨k, hg, hk, hsk2, rfl, rfl, rfl⟩ := hrel
        have HG := Lib.hid hg
        clear hg
        have hol := openR_le L safe k
        obtain ⟨on, hon⟩ : ∃ on, openR (L.take k) safe = on := ⟨_, rfl⟩
        rw [hon] at hol ⊢
        by_cases hkl : k < m
        · as_aux_lemma =>
          have htr : True := trivial
          obtain ⟨p, hp⟩ : ∃ p, L[k]? = some p := ⟨_, List.getElem?_eq_getElem (by omega)⟩
          obtain ⟨q, hq⟩ : ∃ q, qt[k]? = some q := ⟨_, List.getElem?_eq_getElem (by have := HTL.out; omega)⟩
          obtain ⟨b, o, e2, hcc⟩ := HTC.out (by intro e; rw [e] at hq; simp at hq)
          subst e2
          obtain ⟨p1, p2, p3, _⟩ := HTP.out k q p hq hp
          have q0 := keepB HBX.out (hcc k q hq 0 _ rfl)
          have q1 := keepB HBX.out (hcc k q hq 1 _ rfl)
          have q2 := keepB HBX.out (hcc k q hq 2 _ rfl)
          have q3 := keepB HBX.out (hcc k q hq 3 _ rfl)
          simp only [Nat.add_zero] at q0
          have hkk : (k : Int) < (m : Int) := by omega
          have HSN := Lib.hid (openR_take hp hsk2)
          rw [hon] at HSN
          obtain ⟨kd, fl, nm, ⟨ta, tn, tc⟩⟩ := q
          dsimp only at q0 q1 q2 q3 p1
          have HP1 := Lib.hid p1
          clear hq hp hcc p1 p2 p3 hon q1 q2 q3
          by_cases e1 : kd = 1
          · subst e1
            have HCH : Hid (chgR p = true) := Lib.hid (by simp [chgR, ← HP1.out])
            have HE : Hid (openR (L.take (k + 1)) safe = on + 1) := Lib.hid (by rw [HSN.out, if_pos HCH.out])
            go_wp2
            go_roundg (m - (k + 1))
            case measure => rw [HG.out]; omega
            case rel => exact ⟨k + 1, rfl, by omega, by omega, by rw [HE.out]; simp, by simp, rfl⟩
          · have e11 : (kd == 1) = false := by simpa using e1
            by_cases e3 : kd = 3
            · subst e3
              have HCH : Hid (chgR p = true) := Lib.hid (by simp [chgR, ← HP1.out])
              have HE : Hid (openR (L.take (k + 1)) safe = on + 1) := Lib.hid (by rw [HSN.out, if_pos HCH.out])
              go_wp2
              go_roundg (m - (k + 1))
              case measure => rw [HG.out]; omega
              case rel => exact ⟨k + 1, rfl, by omega, by omega, by rw [HE.out]; simp, by simp, rfl⟩
            · have e33 : (kd == 3) = false := by simpa using e3
              by_cases e4 : kd = 4
              · subst e4
                have HCH : Hid (chgR p = true) := Lib.hid (by simp [chgR, ← HP1.out])
                have HE : Hid (openR (L.take (k + 1)) safe = on + 1) := Lib.hid (by rw [HSN.out, if_pos HCH.out])
                go_wp2
                go_roundg (m - (k + 1))
                case measure => rw [HG.out]; omega
                case rel => exact ⟨k + 1, rfl, by omega, by omega, by rw [HE.out]; simp, by simp, rfl⟩
              · have e44 : (kd == 4) = false := by simpa using e4
                have HCH : Hid (chgR p = false) := Lib.hid (by simp [chgR, ← HP1.out, e1, e3, e4])
                have HE : Hid (openR (L.take (k + 1)) safe = on) := Lib.hid (by rw [HSN.out, if_neg (by rw [HCH.out]; simp), Nat.add_zero])
                go_wp2
                go_roundg (m - (k + 1))
                case measure => rw [HG.out]; omega
                case rel => exact ⟨k + 1, rfl, by omega, by omega, by rw [HE.out], by simp, rfl⟩
        · obtain rfl : k = m := by omega
          have hst : openR (L.take k) safe = openR L safe := by rw [List.take_of_length_le (by omega)]
          rw [hst] at hon
          have HON := Lib.hid hon
          have hpk := rpick_any names (on + 1) hn1 hn2 (by omega) (by omega)
          obtain ⟨n0, hn0⟩ : ∃ n0, pickN names (on + 1) = n0 := ⟨_, rfl⟩
          have hnl := pickN_lt names (show 0 < on + 1 by omega)
          rw [hn0] at hpk hnl
          rw [show ((on + 1 : Nat) : Int) = (on : Int) + 1 by omega] at hpk
          have HPK := Lib.hid hpk
          have HN0 := Lib.hid hn0
          have hn0m : n0 ≤ k := by omega
          clear hst hon hpk hn0 hkl hnl
          obtain ⟨m, hmk⟩ : ∃ m, m = k := ⟨_, rfl⟩
          subst hmk
          go_wp2_with fail
          refine (HPK.out _).mono ?_
          rintro e w4 ⟨rfl, e4⟩
          have e4' := e4.symm
          subst e4'
          go_wp2_with fail
          go_loopg [16, 17, 18] m (fun g nv tv iv wr => ∃ (k : Nat) (s : Sl), g = m - k ∧ k ≤ m ∧ nv = .int .i64 (thK L safe n0 k).2 ∧ tv = .slice s.a s.n s.cap ∧ iv = .int .i64 k ∧ Hid (SliceIs Nm.cells 2 wr (.slice s.a s.n s.cap) (thK L safe n0 k).1 ∧ Below wc.heap.size wc wr))
          case atStart => exact ⟨0, ⟨none, 0, 0⟩, by omega, by omega, by simp [thK], rfl, rfl, Lib.hid ⟨by simp only [thK, Nat.zero_min, List.take_zero, List.drop_nil, List.foldl_nil]; exact ⟨none, 0, rfl, Nat.le_refl _, Nat.zero_le _, fun h => absurd rfl h⟩, Below.refl _ _⟩⟩
          case round =>
            obtain ⟨k, ⟨sa, sn, sc⟩, hg, hk, rfl, rfl, rfl, hU⟩ := hrel
            dsimp only at hU ⊢
            have HG := Lib.hid hg
            clear hg
            have hlen := thK_len L safe n0 k (by omega)
            obtain ⟨tt, tn, htt⟩ : ∃ tt tn, thK L safe n0 k = (tt, tn) := ⟨_, _, rfl⟩
            rw [htt] at hlen hU
            have e0 : (thK L safe n0 k).2 = tn := by rw [htt]
            rw [e0]
            clear e0
            dsimp only at hlen hU
            have HTT := Lib.hid htt
            clear htt
            by_cases hkl : k < m
            · as_aux_lemma =>
              have htr : True := trivial
              obtain ⟨p, hp⟩ : ∃ p, L[k]? = some p := ⟨_, List.getElem?_eq_getElem (by omega)⟩
              obtain ⟨q, hq⟩ : ∃ q, qt[k]? = some q := ⟨_, List.getElem?_eq_getElem (by have := HTL.out; omega)⟩
              obtain ⟨b, o, e2, hcc⟩ := HTC.out (by intro e; rw [e] at hq; simp at hq)
              subst e2
              obtain ⟨p1, p2, p3, _⟩ := HTP.out k q p hq hp
              have q0 := keepB hU.out.2 (keepB HBX.out (hcc k q hq 0 _ rfl))
              have q1 := keepB hU.out.2 (keepB HBX.out (hcc k q hq 1 _ rfl))
              have q2 := keepB hU.out.2 (keepB HBX.out (hcc k q hq 2 _ rfl))
              have q3 := keepB hU.out.2 (keepB HBX.out (hcc k q hq 3 _ rfl))
              simp only [Nat.add_zero] at q0
              have hkk : (k : Int) < (m : Int) := by omega
              have HC := Lib.hid (named_any hU.out.1 q p p1 p2 p3 (by omega))
              have HB := Lib.hid hU.out
              obtain ⟨kd, fl, nm, ⟨ta, tn2, tc⟩⟩ := q
              dsimp only at q0 q1 q2 q3 p1 HC
              have HP1 := Lib.hid p1
              have HP := Lib.hid hp
              clear hq hp hcc p1 p2 p3 hU
              by_cases e1 : kd = 1
              · subst e1
                have HCH : Hid (chgR p = true) := Lib.hid (by simp [chgR, ← HP1.out])
                by_cases hs : k < safe
                · have hs2 : (k : Int) < (safe : Int) := by omega
                  have hs3 : ¬ (safe : Int) ≤ (k : Int) := by omega
                  have HE : Hid (thK L safe n0 (k + 1) = (namedR tt p, tn)) := Lib.hid (by rw [(thK_lt HP.out hs).1]; have := (thK_lt (n0 := n0) HP.out hs).2; rw [HTT.out] at this ⊢; dsimp only at this; rw [this])
                  go_wp2_with fail
                  refine HC.out.mono ?_
                  rintro e w3 ⟨v', rfl, hsl, b3⟩
                  obtain ⟨s3, e3⟩ : ∃ s3 : Sl, v' = .slice s3.a s3.n s3.cap := by obtain ⟨a3, c3, e3, _⟩ := hsl; exact ⟨⟨a3, _, c3⟩, e3⟩
                  subst e3
                  have HN : Hid (SliceIs Nm.cells 2 w3 (.slice s3.a s3.n s3.cap) (thK L safe n0 (k + 1)).1 ∧ Below wc.heap.size wc w3) := Lib.hid ⟨by rw [HE.out]; exact hsl, HB.out.2.trans (b3.mono HB.out.2.size)⟩
                  clear hsl b3
                  go_wp2_with fail
                  go_roundg (m - (k + 1))
                  case measure => rw [HG.out]; omega
                  case rel => exact ⟨k + 1, s3, rfl, by omega, by rw [HE.out], rfl, by simp, HN⟩
                · have hs2 : ¬ (k : Int) < (safe : Int) := by omega
                  have hs3 : (safe : Int) ≤ (k : Int) := by omega
                  have hge := thK_ge (n0 := n0) HP.out (show safe ≤ k by omega)
                  rw [HTT.out] at hge
                  by_cases h0 : 0 < tn
                  · have h02 : (0 : Int) < (tn : Int) := by omega
                    have HE : Hid (thK L safe n0 (k + 1) = (namedR tt p, tn - 1)) := Lib.hid (by rw [hge]; unfold thereStep; rw [if_pos ⟨HCH.out, h0⟩])
                    clear hge
                    go_wp2_with fail
                    refine HC.out.mono ?_
                    rintro e w3 ⟨v', rfl, hsl, b3⟩
                    obtain ⟨s3, e3⟩ : ∃ s3 : Sl, v' = .slice s3.a s3.n s3.cap := by obtain ⟨a3, c3, e3, _⟩ := hsl; exact ⟨⟨a3, _, c3⟩, e3⟩
                    subst e3
                    have HN : Hid (SliceIs Nm.cells 2 w3 (.slice s3.a s3.n s3.cap) (thK L safe n0 (k + 1)).1 ∧ Below wc.heap.size wc w3) := Lib.hid ⟨by rw [HE.out]; exact hsl, HB.out.2.trans (b3.mono HB.out.2.size)⟩
                    clear hsl b3
                    go_wp2_with fail
                    go_roundg (m - (k + 1))
                    case measure => rw [HG.out]; omega
                    case rel => exact ⟨k + 1, s3, rfl, by omega, by rw [HE.out]; simp; omega, rfl, by simp, HN⟩
                  · have h02 : ¬ (0 : Int) < (tn : Int) := by omega
                    have HE : Hid (thK L safe n0 (k + 1) = (tt, tn)) := Lib.hid (by rw [hge]; unfold thereStep; rw [if_neg (fun h => h0 h.2)])
                    have HN : Hid (SliceIs Nm.cells 2 wr (.slice sa sn sc) (thK L safe n0 (k + 1)).1 ∧ Below wc.heap.size wc wr) := Lib.hid (by rw [HE.out]; exact HB.out)
                    clear hge HC
                    go_wp2_with fail
                    go_roundg (m - (k + 1))
                    case measure => rw [HG.out]; omega
                    case rel => exact ⟨k + 1, ⟨sa, sn, sc⟩, rfl, by omega, by rw [HE.out], rfl, by simp, HN⟩
              · have e11 : (kd == 1) = false := by simpa using e1
                by_cases e3 : kd = 3
                · subst e3
                  have HCH : Hid (chgR p = true) := Lib.hid (by simp [chgR, ← HP1.out])
                  by_cases hs : k < safe
                  · have hs2 : (k : Int) < (safe : Int) := by omega
                    have hs3 : ¬ (safe : Int) ≤ (k : Int) := by omega
                    have HE : Hid (thK L safe n0 (k + 1) = (namedR tt p, tn)) := Lib.hid (by rw [(thK_lt HP.out hs).1]; have := (thK_lt (n0 := n0) HP.out hs).2; rw [HTT.out] at this ⊢; dsimp only at this; rw [this])
                    go_wp2_with fail
                    refine HC.out.mono ?_
                    rintro e w3 ⟨v', rfl, hsl, b3⟩
                    obtain ⟨s3, e3⟩ : ∃ s3 : Sl, v' = .slice s3.a s3.n s3.cap := by obtain ⟨a3, c3, e3, _⟩ := hsl; exact ⟨⟨a3, _, c3⟩, e3⟩
                    subst e3
                    have HN : Hid (SliceIs Nm.cells 2 w3 (.slice s3.a s3.n s3.cap) (thK L safe n0 (k + 1)).1 ∧ Below wc.heap.size wc w3) := Lib.hid ⟨by rw [HE.out]; exact hsl, HB.out.2.trans (b3.mono HB.out.2.size)⟩
                    clear hsl b3
                    go_wp2_with fail
                    go_roundg (m - (k + 1))
                    case measure => rw [HG.out]; omega
                    case rel => exact ⟨k + 1, s3, rfl, by omega, by rw [HE.out], rfl, by simp, HN⟩
                  · have hs2 : ¬ (k : Int) < (safe : Int) := by omega
                    have hs3 : (safe : Int) ≤ (k : Int) := by omega
                    have hge := thK_ge (n0 := n0) HP.out (show safe ≤ k by omega)
                    rw [HTT.out] at hge
                    by_cases h0 : 0 < tn
                    · have h02 : (0 : Int) < (tn : Int) := by omega
                      have HE : Hid (thK L safe n0 (k + 1) = (namedR tt p, tn - 1)) := Lib.hid (by rw [hge]; unfold thereStep; rw [if_pos ⟨HCH.out, h0⟩])
                      clear hge
                      go_wp2_with fail
                      refine HC.out.mono ?_
                      rintro e w3 ⟨v', rfl, hsl, b3⟩
                      obtain ⟨s3, e3⟩ : ∃ s3 : Sl, v' = .slice s3.a s3.n s3.cap := by obtain ⟨a3, c3, e3, _⟩ := hsl; exact ⟨⟨a3, _, c3⟩, e3⟩
                      subst e3
                      have HN : Hid (SliceIs Nm.cells 2 w3 (.slice s3.a s3.n s3.cap) (thK L safe n0 (k + 1)).1 ∧ Below wc.heap.size wc w3) := Lib.hid ⟨by rw [HE.out]; exact hsl, HB.out.2.trans (b3.mono HB.out.2.size)⟩
                      clear hsl b3
                      go_wp2_with fail
                      go_roundg (m - (k + 1))
                      case measure => rw [HG.out]; omega
                      case rel => exact ⟨k + 1, s3, rfl, by omega, by rw [HE.out]; simp; omega, rfl, by simp, HN⟩
                    · have h02 : ¬ (0 : Int) < (tn : Int) := by omega
                      have HE : Hid (thK L safe n0 (k + 1) = (tt, tn)) := Lib.hid (by rw [hge]; unfold thereStep; rw [if_neg (fun h => h0 h.2)])
                      have HN : Hid (SliceIs Nm.cells 2 wr (.slice sa sn sc) (thK L safe n0 (k + 1)).1 ∧ Below wc.heap.size wc wr) := Lib.hid (by rw [HE.out]; exact HB.out)
                      clear hge HC
                      go_wp2_with fail
                      go_roundg (m - (k + 1))
                      case measure => rw [HG.out]; omega
                      case rel => exact ⟨k + 1, ⟨sa, sn, sc⟩, rfl, by omega, by rw [HE.out], rfl, by simp, HN⟩
                · have e33 : (kd == 3) = false := by simpa using e3
                  by_cases e4 : kd = 4
                  · subst e4
                    have HCH : Hid (chgR p = true) := Lib.hid (by simp [chgR, ← HP1.out])
                    by_cases hs : k < safe
                    · have hs2 : (k : Int) < (safe : Int) := by omega
                      have hs3 : ¬ (safe : Int) ≤ (k : Int) := by omega
                      have HE : Hid (thK L safe n0 (k + 1) = (namedR tt p, tn)) := Lib.hid (by rw [(thK_lt HP.out hs).1]; have := (thK_lt (n0 := n0) HP.out hs).2; rw [HTT.out] at this ⊢; dsimp only at this; rw [this])
                      go_wp2_with fail
                      refine HC.out.mono ?_
                      rintro e w3 ⟨v', rfl, hsl, b3⟩
                      obtain ⟨s3, e3⟩ : ∃ s3 : Sl, v' = .slice s3.a s3.n s3.cap := by obtain ⟨a3, c3, e3, _⟩ := hsl; exact ⟨⟨a3, _, c3⟩, e3⟩
                      subst e3
                      have HN : Hid (SliceIs Nm.cells 2 w3 (.slice s3.a s3.n s3.cap) (thK L safe n0 (k + 1)).1 ∧ Below wc.heap.size wc w3) := Lib.hid ⟨by rw [HE.out]; exact hsl, HB.out.2.trans (b3.mono HB.out.2.size)⟩
                      clear hsl b3
                      go_wp2_with fail
                      go_roundg (m - (k + 1))
                      case measure => rw [HG.out]; omega
                      case rel => exact ⟨k + 1, s3, rfl, by omega, by rw [HE.out], rfl, by simp, HN⟩
                    · have hs2 : ¬ (k : Int) < (safe : Int) := by omega
                      have hs3 : (safe : Int) ≤ (k : Int) := by omega
                      have hge := thK_ge (n0 := n0) HP.out (show safe ≤ k by omega)
                      rw [HTT.out] at hge
                      by_cases h0 : 0 < tn
                      · have h02 : (0 : Int) < (tn : Int) := by omega
                        have HE : Hid (thK L safe n0 (k + 1) = (namedR tt p, tn - 1)) := Lib.hid (by rw [hge]; unfold thereStep; rw [if_pos ⟨HCH.out, h0⟩])
                        clear hge
                        go_wp2_with fail
                        refine HC.out.mono ?_
                        rintro e w3 ⟨v', rfl, hsl, b3⟩
                        obtain ⟨s3, e3⟩ : ∃ s3 : Sl, v' = .slice s3.a s3.n s3.cap := by obtain ⟨a3, c3, e3, _⟩ := hsl; exact ⟨⟨a3, _, c3⟩, e3⟩
                        subst e3
                        have HN : Hid (SliceIs Nm.cells 2 w3 (.slice s3.a s3.n s3.cap) (thK L safe n0 (k + 1)).1 ∧ Below wc.heap.size wc w3) := Lib.hid ⟨by rw [HE.out]; exact hsl, HB.out.2.trans (b3.mono HB.out.2.size)⟩
                        clear hsl b3
                        go_wp2_with fail
                        go_roundg (m - (k + 1))
                        case measure => rw [HG.out]; omega
                        case rel => exact ⟨k + 1, s3, rfl, by omega, by rw [HE.out]; simp; omega, rfl, by simp, HN⟩
                      · have h02 : ¬ (0 : Int) < (tn : Int) := by omega
                        have HE : Hid (thK L safe n0 (k + 1) = (tt, tn)) := Lib.hid (by rw [hge]; unfold thereStep; rw [if_neg (fun h => h0 h.2)])
                        have HN : Hid (SliceIs Nm.cells 2 wr (.slice sa sn sc) (thK L safe n0 (k + 1)).1 ∧ Below wc.heap.size wc wr) := Lib.hid (by rw [HE.out]; exact HB.out)
                        clear hge HC
                        go_wp2_with fail
                        go_roundg (m - (k + 1))
                        case measure => rw [HG.out]; omega
                        case rel => exact ⟨k + 1, ⟨sa, sn, sc⟩, rfl, by omega, by rw [HE.out], rfl, by simp, HN⟩
                  · have e44 : (kd == 4) = false := by simpa using e4
                    have HCH : Hid (chgR p = false) := Lib.hid (by simp [chgR, ← HP1.out, e1, e3, e4])
                    by_cases hs : k < safe
                    · have hs2 : (k : Int) < (safe : Int) := by omega
                      have hs3 : ¬ (safe : Int) ≤ (k : Int) := by omega
                      have HE : Hid (thK L safe n0 (k + 1) = (namedR tt p, tn)) := Lib.hid (by rw [(thK_lt HP.out hs).1]; have := (thK_lt (n0 := n0) HP.out hs).2; rw [HTT.out] at this ⊢; dsimp only at this; rw [this])
                      go_wp2_with fail
                      refine HC.out.mono ?_
                      rintro e w3 ⟨v', rfl, hsl, b3⟩
                      obtain ⟨s3, e3⟩ : ∃ s3 : Sl, v' = .slice s3.a s3.n s3.cap := by obtain ⟨a3, c3, e3, _⟩ := hsl; exact ⟨⟨a3, _, c3⟩, e3⟩
                      subst e3
                      have HN : Hid (SliceIs Nm.cells 2 w3 (.slice s3.a s3.n s3.cap) (thK L safe n0 (k + 1)).1 ∧ Below wc.heap.size wc w3) := Lib.hid ⟨by rw [HE.out]; exact hsl, HB.out.2.trans (b3.mono HB.out.2.size)⟩
                      clear hsl b3
                      go_wp2_with fail
                      go_roundg (m - (k + 1))
                      case measure => rw [HG.out]; omega
                      case rel => exact ⟨k + 1, s3, rfl, by omega, by rw [HE.out], rfl, by simp, HN⟩
                    · have hs2 : ¬ (k : Int) < (safe : Int) := by omega
                      have hs3 : (safe : Int) ≤ (k : Int) := by omega
                      have hge := thK_ge (n0 := n0) HP.out (show safe ≤ k by omega)
                      rw [HTT.out] at hge
                      have HE : Hid (thK L safe n0 (k + 1) = (tt, tn)) := Lib.hid (by rw [hge]; unfold thereStep; rw [if_neg (by rw [HCH.out]; simp)])
                      have HN : Hid (SliceIs Nm.cells 2 wr (.slice sa sn sc) (thK L safe n0 (k + 1)).1 ∧ Below wc.heap.size wc wr) := Lib.hid (by rw [HE.out]; exact HB.out)
                      clear hge HC
                      go_wp2_with fail
                      go_roundg (m - (k + 1))
                      case measure => rw [HG.out]; omega
                      case rel => exact ⟨k + 1, ⟨sa, sn, sc⟩, rfl, by omega, by rw [HE.out], rfl, by simp, HN⟩
            · obtain rfl : k = m := by omega
              have hend : tt = thereR L safe n0 := by
                have := thK_end L safe n0 (by omega)
                rw [show L.length = k by omega, HTT.out] at this
                exact this
              have hsl := hU.out.1
              have HEND := Lib.hid hend
              have HW5 := Lib.hid hU.out.2
              have HSL := Lib.hid hsl
              have htl : tt.length ≤ k := hlen.1
              clear hU hend hsl hlen hkl
              go_wp2_with fail
              obtain ⟨w5, hw5⟩ : ∃ w5, w5 = wr := ⟨_, rfl⟩
              subst hw5
              have hd0 : RefIs w5.heap.size (w5.alloc (.cells #[.slice none 0 0, .int .i64 0, .int .i64 0] 35)) w5.heap.size (.slice none 0 0) ⟨freshL L ks torn (tt.take 0), (0 : Nat), 0⟩ := ⟨(MapKept.heap_alloc w5 _).1, Nat.le_refl _, [], Own.nil, by simp [freshL], fun i q p hq => by simp at hq⟩
              have hb0 : Below w5.heap.size w5 (w5.alloc (.cells #[.slice none 0 0, .int .i64 0, .int .i64 0] 35)) := (Below.refl _ _).alloc (Nat.le_refl _) _
              have hzs0 : w5.heap.size ≤ (w5.alloc (.cells #[.slice none 0 0, .int .i64 0, .int .i64 0] 35)).heap.size := hb0.size
              have HD0 := Lib.hid hd0
              have HB0 := Lib.hid hb0
              obtain ⟨_, _, e9, _, hm9, _⟩ := HSL.out
              simp only [Value.slice.injEq] at e9
              obtain ⟨rfl, hsn, rfl⟩ := e9
              unfold maxLen at hm9
              subst hsn
              have HLEFT := Lib.hid (fun (W : World) (hb : Below w5.heap.size w5 W) (f : Int) => (rleft_any (w := W) (v := .slice a k cap) (vk := .slice ka ks.length kc) (L := L) (base := base) (HST.out.ext (Ext.of_below (S := fun _ => False) (HBX.out.trans ((HW5.out.trans (hb.mono HW5.out.size)).mono HBX.out.size))) (fun _ _ => id) (fun _ _ _ => id)) f ks torn (HK.out.below (HBX.out.trans ((HW5.out.trans (hb.mono HW5.out.size)).mono HBX.out.size))) ht1 ht2 (HHL.out f) (by omega)))
              clear hd0 hb0
              generalize w5.alloc (.cells #[.slice none 0 0, .int .i64 0, .int .i64 0] 35) = w6 at *
              go_loopg [21] tt.length (fun g iv wx => ∃ (j : Nat) (s : Sl), g = tt.length - j ∧ j ≤ tt.length ∧ iv = .int .i64 j ∧ Hid (RefIs w5.heap.size wx w5.heap.size (.slice s.a s.n s.cap) ⟨freshL L ks torn (tt.take j), (j : Nat), 0⟩ ∧ Below w5.heap.size w5 wx))
              case atStart => exact ⟨0, ⟨none, 0, 0⟩, by omega, by omega, rfl, Lib.hid ⟨HD0.out, HB0.out⟩⟩
              case round =>
                obtain ⟨j, ⟨va, vn, vc⟩, hg, hj, rfl, hU⟩ := hrel
                dsimp only at hU ⊢
                have HG4 := Lib.hid hg
                clear hg
                by_cases hjl : j < tt.length
                · as_aux_lemma =>
                  have hjj : (j : Int) < (tt.length : Int) := by omega
                  obtain ⟨x, hx⟩ : ∃ x, tt[j]? = some x := ⟨_, List.getElem?_eq_getElem hjl⟩
                  obtain ⟨_, _, e1, _, _, hh⟩ := HSL.out
                  cases e1
                  obtain ⟨b, o, e2, hcc⟩ := hh (by intro e; rw [e] at hx; simp at hx)
                  subst e2
                  have x05 := hcc j x hx 0 _ rfl
                  have x15 := hcc j x hx 1 _ rfl
                  have hbl := cell_lt x05
                  simp only [Nat.add_zero] at x05
                  have x0 := keepB hU.out.2 x05
                  have x1 := keepB hU.out.2 x15
                  have HX := Lib.hid hx
                  have hfl := freshL_lenK L ks torn tt j
                  obtain ⟨f0, hf0⟩ : ∃ f0, freshL L ks torn (tt.take j) = f0 := ⟨_, rfl⟩
                  rw [hf0] at hfl hU
                  have HF0 := Lib.hid hf0
                  have hsz5 := hU.out.2.size
                  clear hx hcc hh hf0
                  go_upto_region 28 with fail
                  obtain ⟨W1, hW1⟩ : ∃ W1, wr.drew = W1 := ⟨_, rfl⟩
                  have hU1 : RefIs w5.heap.size W1 w5.heap.size (.slice va vn vc) ⟨f0, ((j : Nat) : Int), 0⟩ ∧ Below w5.heap.size w5 W1 := by rw [← hW1]; exact ⟨hU.out.1.below (Below.refl _ _).drew, hU.out.2.drew⟩
                  have hsz1 := hU1.2.size
                  obtain ⟨c0, c1⟩ := push_cells hU1.1
                  refine wp_region_s (fun W => W.cell? ⟨w5.heap.size, 0, none⟩ = some (.slice va vn vc) ∧ W.cell? ⟨w5.heap.size, 1, none⟩ = some (.int .i64 ((j : Nat) : Int)) ∧ W.cell? ⟨b, o + j * 2, none⟩ = some (.string x.name)) (fun i => i == 19) (by kernel_rfl) ?_
                  rw [hW1]
                  clear hW1
                  have hS0 : W1.cell? ⟨w5.heap.size, 0, none⟩ = some (.slice va vn vc) ∧ W1.cell? ⟨w5.heap.size, 1, none⟩ = some (.int .i64 ((j : Nat) : Int)) ∧ W1.cell? ⟨b, o + j * 2, none⟩ = some (.string x.name) := ⟨c0, c1, keepB hU1.2 x05⟩
                  refine wpAnyS_take (i := 0) (d := some 158) rfl rfl rfl (by kernel_rfl) (by kernel_rfl) (by kernel_rfl) (by kernel_rfl) (fun _ _ _ h => h) (.inl ⟨by rfl, fun W hW => by go_simp; rfl⟩) hS0 ?_
                  try simp only [Act.put, List.setIfInBounds_toArray, List.set_cons_zero, List.set_cons_succ]
                  refine wpAnyS_take (i := 1) (d := some 159) rfl rfl rfl (by kernel_rfl) (by kernel_rfl) (by kernel_rfl) (by kernel_rfl) (fun _ _ _ h => h) (.inl ⟨by rfl, fun W hW => by go_simp; rfl⟩) hS0 ?_
                  try simp only [Act.put, List.setIfInBounds_toArray, List.set_cons_zero, List.set_cons_succ]
                  refine wpAnyS_take (i := 2) (d := some 160) rfl rfl rfl (by kernel_rfl) (by kernel_rfl) (by kernel_rfl) (by kernel_rfl) (fun _ _ _ h => h) (.inl ⟨by rfl, fun W hW => by go_simp; rfl⟩) hS0 ?_
                  try simp only [Act.put, List.setIfInBounds_toArray, List.set_cons_zero, List.set_cons_succ]
                  refine wpAnyS_take (i := 3) (d := some 161) rfl rfl rfl (by kernel_rfl) (by kernel_rfl) (by kernel_rfl) (by kernel_rfl) (fun _ _ _ h => h) (.inl ⟨by rfl, fun W hW => by go_simp; rfl⟩) hS0 ?_
                  try simp only [Act.put, List.setIfInBounds_toArray, List.set_cons_zero, List.set_cons_succ]
                  refine wpAnyS_take (i := 4) (d := some 162) rfl rfl rfl (by kernel_rfl) (by kernel_rfl) (by kernel_rfl) (by kernel_rfl) (fun _ _ _ h => h) (.inl ⟨by rfl, fun W hW => by obtain ⟨q0, q1, q2⟩ := hW; go_simp; rfl⟩) hS0 ?_
                  try simp only [Act.put, List.setIfInBounds_toArray, List.set_cons_zero, List.set_cons_succ]
                  refine wpAnyS_take (i := 5) (d := some 163) rfl rfl rfl (by kernel_rfl) (by kernel_rfl) (by kernel_rfl) (by kernel_rfl) (fun _ _ _ h => h) (.inl ⟨by rfl, fun W hW => by go_simp; rfl⟩) hS0 ?_
                  try simp only [Act.put, List.setIfInBounds_toArray, List.set_cons_zero, List.set_cons_succ]
                  refine wpAnyS_take (i := 6) (d := some 164) rfl rfl rfl (by kernel_rfl) (by kernel_rfl) (by kernel_rfl) (by kernel_rfl) (fun _ _ _ h => h) (.inl ⟨by rfl, fun W hW => by go_simp; rfl⟩) hS0 ?_
                  try simp only [Act.put, List.setIfInBounds_toArray, List.set_cons_zero, List.set_cons_succ]
                  refine wpAnyS_take (i := 7) (d := some 165) rfl rfl rfl (by kernel_rfl) (by kernel_rfl) (by kernel_rfl) (by kernel_rfl) (fun _ _ _ h => h) (.inl ⟨by rfl, fun W hW => by go_simp; rfl⟩) hS0 ?_
                  try simp only [Act.put, List.setIfInBounds_toArray, List.set_cons_zero, List.set_cons_succ]
                  refine wpAnyS_take (i := 8) (d := some 166) rfl rfl rfl (by kernel_rfl) (by kernel_rfl) (by kernel_rfl) (by kernel_rfl) (fun _ _ _ h => h) (.inl ⟨by rfl, fun W hW => by obtain ⟨q0, q1, q2⟩ := hW; go_simp; rfl⟩) hS0 ?_
                  try simp only [Act.put, List.setIfInBounds_toArray, List.set_cons_zero, List.set_cons_succ]
                  refine wpAnyS_take (i := 9) (d := some 167) rfl rfl rfl (by kernel_rfl) (by kernel_rfl) (by kernel_rfl) (by kernel_rfl) (fun _ _ _ h => h) (.inl ⟨by rfl, fun W hW => by go_simp; rfl⟩) hS0 ?_
                  try simp only [Act.put, List.setIfInBounds_toArray, List.set_cons_zero, List.set_cons_succ]
                  refine wpAnyS_take (i := 10) (d := some 168) rfl rfl rfl (by kernel_rfl) (by kernel_rfl) (by kernel_rfl) (by kernel_rfl) (fun _ _ _ h => h) (.inl ⟨by rfl, fun W hW => by go_simp; rfl⟩) hS0 ?_
                  try simp only [Act.put, List.setIfInBounds_toArray, List.set_cons_zero, List.set_cons_succ]
                  refine wpAnyS_take (i := 11) (d := some 169) rfl rfl rfl (by kernel_rfl) (by kernel_rfl) (by kernel_rfl) (by kernel_rfl) (fun _ _ _ h => h) (.inl ⟨by rfl, fun W hW => by go_simp; rfl⟩) hS0 ?_
                  try simp only [Act.put, List.setIfInBounds_toArray, List.set_cons_zero, List.set_cons_succ]
                  refine wpAnyS_take (i := 12) (d := some 170) rfl rfl rfl (by kernel_rfl) (by kernel_rfl) (by kernel_rfl) (by kernel_rfl) (fun _ _ _ h => h) (.inl ⟨by rfl, fun W hW => by go_simp; rfl⟩) hS0 ?_
                  try simp only [Act.put, List.setIfInBounds_toArray, List.set_cons_zero, List.set_cons_succ]
                  refine wpAnyS_take (i := 13) (d := some 171) rfl rfl rfl (by kernel_rfl) (by kernel_rfl) (by kernel_rfl) (by kernel_rfl) (fun _ _ _ h => h) (.inl ⟨by rfl, fun W hW => by obtain ⟨q0, q1, q2⟩ := hW; go_simp; rfl⟩) hS0 ?_
                  try simp only [Act.put, List.setIfInBounds_toArray, List.set_cons_zero, List.set_cons_succ]
                  refine wpAnyS_ran (i := 14) (d := some 172) (v := .agg #[.int .i64 1, .int .i64 j, .string x.name, .slice none 0 0]) (w' := W1) (by kernel_rfl) rfl rfl (by rfl) (by go_simp; try rfl) (fun _ => hS0) ?_
                  try simp only [Act.put, List.setIfInBounds_toArray, List.set_cons_zero, List.set_cons_succ]
                  obtain ⟨g6, cp6, w6x, hr6, g2, g3, g1, hkeep, hR6, hB6⟩ := push_run hU1.1 hU1.2 (by have := hU1.2.size; omega) (by dsimp only; omega) ⟨1, j, x.name, ⟨none, 0, 0⟩⟩ ⟨1, ((j : Nat) : Int), x.name, []⟩ ⟨rfl, rfl, rfl, Own.nil⟩
                  have hSa : (W1.alloc (.cells #[.int .i64 1, .int .i64 j, .string x.name, .slice none 0 0] 83)).cell? ⟨w5.heap.size, 0, none⟩ = some (.slice va vn vc) ∧ (W1.alloc (.cells #[.int .i64 1, .int .i64 j, .string x.name, .slice none 0 0] 83)).cell? ⟨w5.heap.size, 1, none⟩ = some (.int .i64 ((j : Nat) : Int)) ∧ (W1.alloc (.cells #[.int .i64 1, .int .i64 j, .string x.name, .slice none 0 0] 83)).cell? ⟨b, o + j * 2, none⟩ = some (.string x.name) := ⟨cell_alloc hS0.1 _, cell_alloc hS0.2.1 _, cell_alloc hS0.2.2 _⟩
                  have hS6 : w6x.cell? ⟨w5.heap.size, 0, none⟩ = some (.slice va vn vc) ∧ w6x.cell? ⟨w5.heap.size, 1, none⟩ = some (.int .i64 ((j : Nat) : Int)) ∧ w6x.cell? ⟨b, o + j * 2, none⟩ = some (.string x.name) := ⟨g2, g3, hkeep _ _ _ hbl hS0.2.2⟩
                  refine wpAnyS_ran (i := 15) (d := some 173) (v := .slice (some ⟨W1.heap.size, 0, none⟩) 1 1) (w' := W1.alloc (.cells #[.int .i64 1, .int .i64 j, .string x.name, .slice none 0 0] 83)) (by kernel_rfl) rfl rfl (by rfl) (by go_simp; try rfl) (fun _ => hSa) ?_
                  try simp only [Act.put, List.setIfInBounds_toArray, List.set_cons_zero, List.set_cons_succ]
                  refine wpAnyS_ran (i := 16) (d := some 174) (v := .slice (some ⟨g6, 0, none⟩) (vn + 1) cp6) (w' := w6x) (by kernel_rfl) rfl rfl (by rfl) (exec_append rfl rfl rfl hr6) (fun _ => hS6) ?_
                  try simp only [Act.put, List.setIfInBounds_toArray, List.set_cons_zero, List.set_cons_succ]
                  refine wpAnyS_ran (i := 17) (d := some 175) (w' := w6x) (by kernel_rfl) rfl rfl (by rfl) (by go_simp; try rfl) (fun _ => hS6) ?_
                  try simp only [Act.put, List.setIfInBounds_toArray, List.set_cons_zero, List.set_cons_succ]
                  refine wpAnyS_ran (i := 18) (d := some 176) (w' := w6x) (by kernel_rfl) rfl rfl (by rfl) (by go_simp; try rfl) (fun _ => hS6) ?_
                  try simp only [Act.put, List.setIfInBounds_toArray, List.set_cons_zero, List.set_cons_succ]
                  refine wpAnyS_mute (i := 19) (d := none) (w' := w6x.setCell ⟨w5.heap.size, 0, none⟩ (.slice (some ⟨g6, 0, none⟩) (vn + 1) cp6)) (by kernel_rfl) rfl rfl (by rfl) (by go_simp; try rfl) (fun h => by cases h) ?_
                  try simp only [Act.put, List.setIfInBounds_toArray, List.set_cons_zero, List.set_cons_succ]
                  refine wpAnyS_done (by kernel_rfl) ?_ _
                  have HU1 := Lib.hid (And.intro hR6 hB6)
                  clear hr6 g2 g3 g1 hkeep hR6 hB6 hSa hS6 hS0 hU1 c0 c1 hsz1
                  generalize w6x.setCell ⟨w5.heap.size, 0, none⟩ (.slice (some ⟨g6, 0, none⟩) (vn + 1) cp6) = wz1 at *
                  obtain ⟨vn1, hvn⟩ : ∃ u, vn + 1 = u := ⟨_, rfl⟩
                  obtain ⟨va1, hva⟩ : ∃ u, some (⟨g6, 0, none⟩ : Addr) = u := ⟨_, rfl⟩
                  obtain ⟨vc1, hvc⟩ : ∃ u, cp6 = u := ⟨_, rfl⟩
                  rw [hva, hvc, hvn] at HU1
                  rw [hva, hvc, hvn]
                  clear hva hvc hvn
                  go_upto_region 29 with fail
                  obtain ⟨W1, hW1⟩ : ∃ W1, wz1.drew = W1 := ⟨_, rfl⟩
                  have hU1 : RefIs w5.heap.size W1 w5.heap.size (.slice va1 vn1 vc1) (pushR ⟨1, ((j : Nat) : Int), x.name, []⟩ ⟨f0, ((j : Nat) : Int), 0⟩) ∧ Below w5.heap.size w5 W1 := by rw [← hW1]; exact ⟨HU1.out.1.below (Below.refl _ _).drew, HU1.out.2.drew⟩
                  have hsz1 := hU1.2.size
                  obtain ⟨c0, c1⟩ := push_cells hU1.1
                  refine wp_region_s (fun W => W.cell? ⟨w5.heap.size, 0, none⟩ = some (.slice va1 vn1 vc1) ∧ W.cell? ⟨w5.heap.size, 1, none⟩ = some (.int .i64 ((j : Nat) : Int)) ∧ W.cell? ⟨b, o + j * 2 + 1, none⟩ = some (.int .i64 x.file)) (fun i => i == 23) (by kernel_rfl) ?_
                  rw [hW1]
                  clear hW1
                  have hS0 : W1.cell? ⟨w5.heap.size, 0, none⟩ = some (.slice va1 vn1 vc1) ∧ W1.cell? ⟨w5.heap.size, 1, none⟩ = some (.int .i64 ((j : Nat) : Int)) ∧ W1.cell? ⟨b, o + j * 2 + 1, none⟩ = some (.int .i64 x.file) := ⟨c0, c1, keepB hU1.2 x15⟩
                  refine wpAnyS_take (i := 0) (d := some 177) rfl rfl rfl (by kernel_rfl) (by kernel_rfl) (by kernel_rfl) (by kernel_rfl) (fun _ _ _ h => h) (.inl ⟨by rfl, fun W hW => by go_simp; rfl⟩) hS0 ?_
                  try simp only [Act.put, List.setIfInBounds_toArray, List.set_cons_zero, List.set_cons_succ]
                  refine wpAnyS_take (i := 1) (d := some 178) rfl rfl rfl (by kernel_rfl) (by kernel_rfl) (by kernel_rfl) (by kernel_rfl) (fun _ _ _ h => h) (.inl ⟨by rfl, fun W hW => by go_simp; rfl⟩) hS0 ?_
                  try simp only [Act.put, List.setIfInBounds_toArray, List.set_cons_zero, List.set_cons_succ]
                  refine wpAnyS_take (i := 2) (d := some 179) rfl rfl rfl (by kernel_rfl) (by kernel_rfl) (by kernel_rfl) (by kernel_rfl) (fun _ _ _ h => h) (.inl ⟨by rfl, fun W hW => by go_simp; rfl⟩) hS0 ?_
                  try simp only [Act.put, List.setIfInBounds_toArray, List.set_cons_zero, List.set_cons_succ]
                  refine wpAnyS_take (i := 3) (d := some 180) rfl rfl rfl (by kernel_rfl) (by kernel_rfl) (by kernel_rfl) (by kernel_rfl) (fun _ _ _ h => h) (.inl ⟨by rfl, fun W hW => by go_simp; rfl⟩) hS0 ?_
                  try simp only [Act.put, List.setIfInBounds_toArray, List.set_cons_zero, List.set_cons_succ]
                  refine wpAnyS_take (i := 4) (d := some 181) rfl rfl rfl (by kernel_rfl) (by kernel_rfl) (by kernel_rfl) (by kernel_rfl) (fun _ _ _ h => h) (.inl ⟨by rfl, fun W hW => by obtain ⟨q0, q1, q2⟩ := hW; go_simp; rfl⟩) hS0 ?_
                  try simp only [Act.put, List.setIfInBounds_toArray, List.set_cons_zero, List.set_cons_succ]
                  refine wpAnyS_take (i := 5) (d := some 182) rfl rfl rfl (by kernel_rfl) (by kernel_rfl) (by kernel_rfl) (by kernel_rfl) (fun _ _ _ h => h) (.inl ⟨by rfl, fun W hW => by go_simp; rfl⟩) hS0 ?_
                  try simp only [Act.put, List.setIfInBounds_toArray, List.set_cons_zero, List.set_cons_succ]
                  refine wpAnyS_take (i := 6) (d := some 183) rfl rfl rfl (by kernel_rfl) (by kernel_rfl) (by kernel_rfl) (by kernel_rfl) (fun _ _ _ h => h) (.inl ⟨by rfl, fun W hW => by go_simp; rfl⟩) hS0 ?_
                  try simp only [Act.put, List.setIfInBounds_toArray, List.set_cons_zero, List.set_cons_succ]
                  refine wpAnyS_take (i := 7) (d := some 184) rfl rfl rfl (by kernel_rfl) (by kernel_rfl) (by kernel_rfl) (by kernel_rfl) (fun _ _ _ h => h) (.inl ⟨by rfl, fun W hW => by go_simp; rfl⟩) hS0 ?_
                  try simp only [Act.put, List.setIfInBounds_toArray, List.set_cons_zero, List.set_cons_succ]
                  refine wpAnyS_take (i := 8) (d := some 185) rfl rfl rfl (by kernel_rfl) (by kernel_rfl) (by kernel_rfl) (by kernel_rfl) (fun _ _ _ h => h) (.inl ⟨by rfl, fun W hW => by obtain ⟨q0, q1, q2⟩ := hW; go_simp; rfl⟩) hS0 ?_
                  try simp only [Act.put, List.setIfInBounds_toArray, List.set_cons_zero, List.set_cons_succ]
                  refine wpAnyS_take (i := 9) (d := some 186) rfl rfl rfl (by kernel_rfl) (by kernel_rfl) (by kernel_rfl) (by kernel_rfl) (fun _ _ _ h => h) (.inl ⟨by rfl, fun W hW => by go_simp; rfl⟩) hS0 ?_
                  try simp only [Act.put, List.setIfInBounds_toArray, List.set_cons_zero, List.set_cons_succ]
                  refine wpAnyS_take (i := 10) (d := some 187) rfl rfl rfl (by kernel_rfl) (by kernel_rfl) (by kernel_rfl) (by kernel_rfl) (fun _ _ _ h => h) (.inl ⟨by rfl, fun W hW => by go_simp; rfl⟩) hS0 ?_
                  try simp only [Act.put, List.setIfInBounds_toArray, List.set_cons_zero, List.set_cons_succ]
                  refine wpAnyS_take (i := 11) (d := some 188) rfl rfl rfl (by kernel_rfl) (by kernel_rfl) (by kernel_rfl) (by kernel_rfl) (fun _ _ _ h => h) (.inl ⟨by rfl, fun W hW => by go_simp; rfl⟩) hS0 ?_
                  try simp only [Act.put, List.setIfInBounds_toArray, List.set_cons_zero, List.set_cons_succ]
                  refine wpAnyS_take (i := 12) (d := some 189) rfl rfl rfl (by kernel_rfl) (by kernel_rfl) (by kernel_rfl) (by kernel_rfl) (fun _ _ _ h => h) (.inl ⟨by rfl, fun W hW => by go_simp; rfl⟩) hS0 ?_
                  try simp only [Act.put, List.setIfInBounds_toArray, List.set_cons_zero, List.set_cons_succ]
                  refine wpAnyS_take (i := 13) (d := some 190) rfl rfl rfl (by kernel_rfl) (by kernel_rfl) (by kernel_rfl) (by kernel_rfl) (fun _ _ _ h => h) (.inl ⟨by rfl, fun W hW => by go_simp; rfl⟩) hS0 ?_
                  try simp only [Act.put, List.setIfInBounds_toArray, List.set_cons_zero, List.set_cons_succ]
                  refine wpAnyS_take (i := 14) (d := some 191) rfl rfl rfl (by kernel_rfl) (by kernel_rfl) (by kernel_rfl) (by kernel_rfl) (fun _ _ _ h => h) (.inl ⟨by rfl, fun W hW => by obtain ⟨q0, q1, q2⟩ := hW; go_simp; rfl⟩) hS0 ?_
                  try simp only [Act.put, List.setIfInBounds_toArray, List.set_cons_zero, List.set_cons_succ]
                  refine wpAnyS_take (i := 15) (d := some 192) rfl rfl rfl (by kernel_rfl) (by kernel_rfl) (by kernel_rfl) (by kernel_rfl) (fun _ _ _ h => h) (.inl ⟨by rfl, fun W hW => by go_simp; rfl⟩) hS0 ?_
                  try simp only [Act.put, List.setIfInBounds_toArray, List.set_cons_zero, List.set_cons_succ]
                  refine wpAnyS_take (i := 16) (d := some 193) rfl rfl rfl (by kernel_rfl) (by kernel_rfl) (by kernel_rfl) (by kernel_rfl) (fun _ _ _ h => h) (.inl ⟨by rfl, fun W hW => by go_simp; rfl⟩) hS0 ?_
                  try simp only [Act.put, List.setIfInBounds_toArray, List.set_cons_zero, List.set_cons_succ]
                  refine wpAnyS_call (i := 17) (d := some 194) (w' := W1) (f := 40) (args := #[.slice a k cap, .int .i64 x.file, .slice ka ks.length kc, .int .i64 torn]) (by kernel_rfl) rfl rfl (by rfl) (by go_simp; try rfl) ?_
                  refine (HLEFT.out W1 hU1.2 x.file).mono ?_
                  rintro e W2 ⟨v2, rfl, ho2, b2⟩
                  obtain ⟨⟨ta, tn2, tc⟩, e2⟩ := ho2.sl
                  change v2 = .slice ta tn2 tc at e2
                  subst e2
                  have hS2 : W2.cell? ⟨w5.heap.size, 0, none⟩ = some (.slice va1 vn1 vc1) ∧ W2.cell? ⟨w5.heap.size, 1, none⟩ = some (.int .i64 ((j : Nat) : Int)) ∧ W2.cell? ⟨b, o + j * 2 + 1, none⟩ = some (.int .i64 x.file) := ⟨keepB b2 hS0.1, keepB b2 hS0.2.1, keepB b2 hS0.2.2⟩
                  have hU2 : RefIs w5.heap.size W2 w5.heap.size (.slice va1 vn1 vc1) (pushR ⟨1, ((j : Nat) : Int), x.name, []⟩ ⟨f0, ((j : Nat) : Int), 0⟩) ∧ Below w5.heap.size w5 W2 := ⟨hU1.1.below b2, hU1.2.trans (b2.mono hsz1)⟩
                  have hq2 : StpIs w5.heap.size W2 ⟨2, j, ⟨#[]⟩, ⟨ta, tn2, tc⟩⟩ ⟨2, ((j : Nat) : Int), ⟨#[]⟩, leftR L x.file ks torn⟩ := ⟨rfl, rfl, rfl, ho2.mono hsz1⟩
                  clear ho2
                  refine ⟨_, rfl, fun _ => hS2, ?_⟩
                  try simp only [Act.put, List.setIfInBounds_toArray, List.set_cons_zero, List.set_cons_succ]
                  refine wpAnyS_ran (i := 18) (d := some 195) (v := .agg #[.int .i64 2, .int .i64 j, .string ⟨#[]⟩, .slice ta tn2 tc]) (w' := W2) (by kernel_rfl) rfl rfl (by rfl) (by go_simp; try rfl) (fun _ => hS2) ?_
                  try simp only [Act.put, List.setIfInBounds_toArray, List.set_cons_zero, List.set_cons_succ]
                  obtain ⟨g6, cp6, w6x, hr6, g2, g3, g1, hkeep, hR6, hB6⟩ := push_run hU2.1 hU2.2 (by have := hU2.2.size; omega) (by simp only [pushR, List.length_append, List.length_cons, List.length_nil]; omega) ⟨2, j, ⟨#[]⟩, ⟨ta, tn2, tc⟩⟩ ⟨2, ((j : Nat) : Int), ⟨#[]⟩, leftR L x.file ks torn⟩ hq2
                  have hSa : (W2.alloc (.cells #[.int .i64 2, .int .i64 j, .string ⟨#[]⟩, .slice ta tn2 tc] 83)).cell? ⟨w5.heap.size, 0, none⟩ = some (.slice va1 vn1 vc1) ∧ (W2.alloc (.cells #[.int .i64 2, .int .i64 j, .string ⟨#[]⟩, .slice ta tn2 tc] 83)).cell? ⟨w5.heap.size, 1, none⟩ = some (.int .i64 ((j : Nat) : Int)) ∧ (W2.alloc (.cells #[.int .i64 2, .int .i64 j, .string ⟨#[]⟩, .slice ta tn2 tc] 83)).cell? ⟨b, o + j * 2 + 1, none⟩ = some (.int .i64 x.file) := ⟨cell_alloc hS2.1 _, cell_alloc hS2.2.1 _, cell_alloc hS2.2.2 _⟩
                  have hS6 : w6x.cell? ⟨w5.heap.size, 0, none⟩ = some (.slice va1 vn1 vc1) ∧ w6x.cell? ⟨w5.heap.size, 1, none⟩ = some (.int .i64 ((j : Nat) : Int)) ∧ w6x.cell? ⟨b, o + j * 2 + 1, none⟩ = some (.int .i64 x.file) := ⟨g2, g3, hkeep _ _ _ hbl hS2.2.2⟩
                  refine wpAnyS_ran (i := 19) (d := some 196) (v := .slice (some ⟨W2.heap.size, 0, none⟩) 1 1) (w' := W2.alloc (.cells #[.int .i64 2, .int .i64 j, .string ⟨#[]⟩, .slice ta tn2 tc] 83)) (by kernel_rfl) rfl rfl (by rfl) (by go_simp; try rfl) (fun _ => hSa) ?_
                  try simp only [Act.put, List.setIfInBounds_toArray, List.set_cons_zero, List.set_cons_succ]
                  refine wpAnyS_ran (i := 20) (d := some 197) (v := .slice (some ⟨g6, 0, none⟩) (vn1 + 1) cp6) (w' := w6x) (by kernel_rfl) rfl rfl (by rfl) (exec_append rfl rfl rfl hr6) (fun _ => hS6) ?_
                  try simp only [Act.put, List.setIfInBounds_toArray, List.set_cons_zero, List.set_cons_succ]
                  refine wpAnyS_ran (i := 21) (d := some 198) (w' := w6x) (by kernel_rfl) rfl rfl (by rfl) (by go_simp; try rfl) (fun _ => hS6) ?_
                  try simp only [Act.put, List.setIfInBounds_toArray, List.set_cons_zero, List.set_cons_succ]
                  refine wpAnyS_ran (i := 22) (d := some 199) (w' := w6x) (by kernel_rfl) rfl rfl (by rfl) (by go_simp; try rfl) (fun _ => hS6) ?_
                  try simp only [Act.put, List.setIfInBounds_toArray, List.set_cons_zero, List.set_cons_succ]
                  refine wpAnyS_mute (i := 23) (d := none) (w' := w6x.setCell ⟨w5.heap.size, 0, none⟩ (.slice (some ⟨g6, 0, none⟩) (vn1 + 1) cp6)) (by kernel_rfl) rfl rfl (by rfl) (by go_simp; try rfl) (fun h => by cases h) ?_
                  try simp only [Act.put, List.setIfInBounds_toArray, List.set_cons_zero, List.set_cons_succ]
                  refine wpAnyS_done (by kernel_rfl) ?_ _
                  have HU2 := Lib.hid (And.intro hR6 hB6)
                  clear hr6 g2 g3 g1 hkeep hR6 hB6 hSa hS6 hS0 hU1 c0 c1 hsz1 hS2 hU2
                  generalize w6x.setCell ⟨w5.heap.size, 0, none⟩ (.slice (some ⟨g6, 0, none⟩) (vn1 + 1) cp6) = wz2 at *
                  obtain ⟨vn2, hvn⟩ : ∃ u, vn1 + 1 = u := ⟨_, rfl⟩
                  obtain ⟨va2, hva⟩ : ∃ u, some (⟨g6, 0, none⟩ : Addr) = u := ⟨_, rfl⟩
                  obtain ⟨vc2, hvc⟩ : ∃ u, cp6 = u := ⟨_, rfl⟩
                  rw [hva, hvc, hvn] at HU2
                  rw [hva, hvc, hvn]
                  clear hva hvc hvn
                  go_upto_region 30 with fail
                  obtain ⟨W1, hW1⟩ : ∃ W1, wz2.drew = W1 := ⟨_, rfl⟩
                  have hU1 : RefIs w5.heap.size W1 w5.heap.size (.slice va2 vn2 vc2) (pushR ⟨2, ((j : Nat) : Int), ⟨#[]⟩, leftR L x.file ks torn⟩ (pushR ⟨1, ((j : Nat) : Int), x.name, []⟩ ⟨f0, ((j : Nat) : Int), 0⟩)) ∧ Below w5.heap.size w5 W1 := by rw [← hW1]; exact ⟨HU2.out.1.below (Below.refl _ _).drew, HU2.out.2.drew⟩
                  have hsz1 := hU1.2.size
                  obtain ⟨c0, c1⟩ := push_cells hU1.1
                  refine wp_region_s (fun W => W.cell? ⟨w5.heap.size, 0, none⟩ = some (.slice va2 vn2 vc2) ∧ W.cell? ⟨w5.heap.size, 1, none⟩ = some (.int .i64 ((j : Nat) : Int)) ∧ W.cell? ⟨b, o + j * 2, none⟩ = some (.string x.name)) (fun i => i == 14) (by kernel_rfl) ?_
                  rw [hW1]
                  clear hW1
                  have hS0 : W1.cell? ⟨w5.heap.size, 0, none⟩ = some (.slice va2 vn2 vc2) ∧ W1.cell? ⟨w5.heap.size, 1, none⟩ = some (.int .i64 ((j : Nat) : Int)) ∧ W1.cell? ⟨b, o + j * 2, none⟩ = some (.string x.name) := ⟨c0, c1, keepB hU1.2 x05⟩
                  refine wpAnyS_take (i := 0) (d := some 200) rfl rfl rfl (by kernel_rfl) (by kernel_rfl) (by kernel_rfl) (by kernel_rfl) (fun _ _ _ h => h) (.inl ⟨by rfl, fun W hW => by go_simp; rfl⟩) hS0 ?_
                  try simp only [Act.put, List.setIfInBounds_toArray, List.set_cons_zero, List.set_cons_succ]
                  refine wpAnyS_take (i := 1) (d := some 201) rfl rfl rfl (by kernel_rfl) (by kernel_rfl) (by kernel_rfl) (by kernel_rfl) (fun _ _ _ h => h) (.inl ⟨by rfl, fun W hW => by go_simp; rfl⟩) hS0 ?_
                  try simp only [Act.put, List.setIfInBounds_toArray, List.set_cons_zero, List.set_cons_succ]
                  refine wpAnyS_take (i := 2) (d := some 202) rfl rfl rfl (by kernel_rfl) (by kernel_rfl) (by kernel_rfl) (by kernel_rfl) (fun _ _ _ h => h) (.inl ⟨by rfl, fun W hW => by go_simp; rfl⟩) hS0 ?_
                  try simp only [Act.put, List.setIfInBounds_toArray, List.set_cons_zero, List.set_cons_succ]
                  refine wpAnyS_take (i := 3) (d := some 203) rfl rfl rfl (by kernel_rfl) (by kernel_rfl) (by kernel_rfl) (by kernel_rfl) (fun _ _ _ h => h) (.inl ⟨by rfl, fun W hW => by go_simp; rfl⟩) hS0 ?_
                  try simp only [Act.put, List.setIfInBounds_toArray, List.set_cons_zero, List.set_cons_succ]
                  refine wpAnyS_take (i := 4) (d := some 204) rfl rfl rfl (by kernel_rfl) (by kernel_rfl) (by kernel_rfl) (by kernel_rfl) (fun _ _ _ h => h) (.inl ⟨by rfl, fun W hW => by obtain ⟨q0, q1, q2⟩ := hW; go_simp; rfl⟩) hS0 ?_
                  try simp only [Act.put, List.setIfInBounds_toArray, List.set_cons_zero, List.set_cons_succ]
                  refine wpAnyS_take (i := 5) (d := some 205) rfl rfl rfl (by kernel_rfl) (by kernel_rfl) (by kernel_rfl) (by kernel_rfl) (fun _ _ _ h => h) (.inl ⟨by rfl, fun W hW => by go_simp; rfl⟩) hS0 ?_
                  try simp only [Act.put, List.setIfInBounds_toArray, List.set_cons_zero, List.set_cons_succ]
                  refine wpAnyS_take (i := 6) (d := some 206) rfl rfl rfl (by kernel_rfl) (by kernel_rfl) (by kernel_rfl) (by kernel_rfl) (fun _ _ _ h => h) (.inl ⟨by rfl, fun W hW => by go_simp; rfl⟩) hS0 ?_
                  try simp only [Act.put, List.setIfInBounds_toArray, List.set_cons_zero, List.set_cons_succ]
                  refine wpAnyS_take (i := 7) (d := some 207) rfl rfl rfl (by kernel_rfl) (by kernel_rfl) (by kernel_rfl) (by kernel_rfl) (fun _ _ _ h => h) (.inl ⟨by rfl, fun W hW => by go_simp; rfl⟩) hS0 ?_
                  try simp only [Act.put, List.setIfInBounds_toArray, List.set_cons_zero, List.set_cons_succ]
                  refine wpAnyS_take (i := 8) (d := some 208) rfl rfl rfl (by kernel_rfl) (by kernel_rfl) (by kernel_rfl) (by kernel_rfl) (fun _ _ _ h => h) (.inl ⟨by rfl, fun W hW => by obtain ⟨q0, q1, q2⟩ := hW; go_simp; rfl⟩) hS0 ?_
                  try simp only [Act.put, List.setIfInBounds_toArray, List.set_cons_zero, List.set_cons_succ]
                  refine wpAnyS_ran (i := 9) (d := some 209) (v := .agg #[.int .i64 5, .int .i64 j, .string ⟨#[]⟩, .slice none 0 0]) (w' := W1) (by kernel_rfl) rfl rfl (by rfl) (by go_simp; try rfl) (fun _ => hS0) ?_
                  try simp only [Act.put, List.setIfInBounds_toArray, List.set_cons_zero, List.set_cons_succ]
                  obtain ⟨g6, cp6, w6x, hr6, g2, g3, g1, hkeep, hR6, hB6⟩ := push_run hU1.1 hU1.2 (by have := hU1.2.size; omega) (by simp only [pushR, List.length_append, List.length_cons, List.length_nil]; omega) ⟨5, j, ⟨#[]⟩, ⟨none, 0, 0⟩⟩ ⟨5, ((j : Nat) : Int), ⟨#[]⟩, []⟩ ⟨rfl, rfl, rfl, Own.nil⟩
                  have hSa : (W1.alloc (.cells #[.int .i64 5, .int .i64 j, .string ⟨#[]⟩, .slice none 0 0] 83)).cell? ⟨w5.heap.size, 0, none⟩ = some (.slice va2 vn2 vc2) ∧ (W1.alloc (.cells #[.int .i64 5, .int .i64 j, .string ⟨#[]⟩, .slice none 0 0] 83)).cell? ⟨w5.heap.size, 1, none⟩ = some (.int .i64 ((j : Nat) : Int)) ∧ (W1.alloc (.cells #[.int .i64 5, .int .i64 j, .string ⟨#[]⟩, .slice none 0 0] 83)).cell? ⟨b, o + j * 2, none⟩ = some (.string x.name) := ⟨cell_alloc hS0.1 _, cell_alloc hS0.2.1 _, cell_alloc hS0.2.2 _⟩
                  have hS6 : w6x.cell? ⟨w5.heap.size, 0, none⟩ = some (.slice va2 vn2 vc2) ∧ w6x.cell? ⟨w5.heap.size, 1, none⟩ = some (.int .i64 ((j : Nat) : Int)) ∧ w6x.cell? ⟨b, o + j * 2, none⟩ = some (.string x.name) := ⟨g2, g3, hkeep _ _ _ hbl hS0.2.2⟩
                  refine wpAnyS_ran (i := 10) (d := some 210) (v := .slice (some ⟨W1.heap.size, 0, none⟩) 1 1) (w' := W1.alloc (.cells #[.int .i64 5, .int .i64 j, .string ⟨#[]⟩, .slice none 0 0] 83)) (by kernel_rfl) rfl rfl (by rfl) (by go_simp; try rfl) (fun _ => hSa) ?_
                  try simp only [Act.put, List.setIfInBounds_toArray, List.set_cons_zero, List.set_cons_succ]
                  refine wpAnyS_ran (i := 11) (d := some 211) (v := .slice (some ⟨g6, 0, none⟩) (vn2 + 1) cp6) (w' := w6x) (by kernel_rfl) rfl rfl (by rfl) (exec_append rfl rfl rfl hr6) (fun _ => hS6) ?_
                  try simp only [Act.put, List.setIfInBounds_toArray, List.set_cons_zero, List.set_cons_succ]
                  refine wpAnyS_ran (i := 12) (d := some 212) (w' := w6x) (by kernel_rfl) rfl rfl (by rfl) (by go_simp; try rfl) (fun _ => hS6) ?_
                  try simp only [Act.put, List.setIfInBounds_toArray, List.set_cons_zero, List.set_cons_succ]
                  refine wpAnyS_ran (i := 13) (d := some 213) (w' := w6x) (by kernel_rfl) rfl rfl (by rfl) (by go_simp; try rfl) (fun _ => hS6) ?_
                  try simp only [Act.put, List.setIfInBounds_toArray, List.set_cons_zero, List.set_cons_succ]
                  refine wpAnyS_mute (i := 14) (d := none) (w' := w6x.setCell ⟨w5.heap.size, 0, none⟩ (.slice (some ⟨g6, 0, none⟩) (vn2 + 1) cp6)) (by kernel_rfl) rfl rfl (by rfl) (by go_simp; try rfl) (fun h => by cases h) ?_
                  try simp only [Act.put, List.setIfInBounds_toArray, List.set_cons_zero, List.set_cons_succ]
                  refine wpAnyS_done (by kernel_rfl) ?_ _
                  have HU3 := Lib.hid (And.intro hR6 hB6)
                  clear hr6 g2 g3 g1 hkeep hR6 hB6 hSa hS6 hS0 hU1 c0 c1 hsz1
                  generalize w6x.setCell ⟨w5.heap.size, 0, none⟩ (.slice (some ⟨g6, 0, none⟩) (vn2 + 1) cp6) = wz3 at *
                  obtain ⟨vn3, hvn⟩ : ∃ u, vn2 + 1 = u := ⟨_, rfl⟩
                  obtain ⟨va3, hva⟩ : ∃ u, some (⟨g6, 0, none⟩ : Addr) = u := ⟨_, rfl⟩
                  obtain ⟨vc3, hvc⟩ : ∃ u, cp6 = u := ⟨_, rfl⟩
                  rw [hva, hvc, hvn] at HU3
                  rw [hva, hvc, hvn]
                  clear hva hvc hvn
                  have c1 : wz3.cell? ⟨w5.heap.size, 1, none⟩ = some (.int .i64 ((j : Nat) : Int)) := (push_cells HU3.out.1).2
                  have c2 := Joins.unfrozen_of_block HU3.out.1.blk 1
                  have HU4 := Lib.hid (set_born HU3.out.1 HU3.out.2 HU3.out.2.size ((j : Int) + 1))
                  go_wp2_with fail
                  go_roundg (tt.length - (j + 1))
                  case measure => rw [HG4.out]; omega
                  case rel =>
                    refine ⟨j + 1, ⟨va3, vn3, vc3⟩, rfl, by omega, by simp, Lib.hid ⟨?_, HU4.out.2⟩⟩
                    rw [freshL_take HX.out, HF0.out]
                    exact HU4.out.1
                · as_aux_lemma =>
                  obtain rfl : j = tt.length := by omega
                  rw [List.take_length] at hU
                  have hfl := freshL_len L ks torn tt
                  obtain ⟨f0, hf0⟩ : ∃ f0, freshL L ks torn tt = f0 := ⟨_, rfl⟩
                  rw [hf0] at hfl hU
                  obtain ⟨tl, htll⟩ : ∃ tl, tt.length = tl := ⟨_, rfl⟩
                  rw [htll] at hfl hU htl ⊢
                  have HF0 := Lib.hid hf0
                  have HTL2 := Lib.hid htll
                  have hjj : ¬ (tl : Int) < (tl : Int) := by omega
                  clear hf0 htll
                  obtain ⟨g6, cp6, w6x, hr6, g2, g3, g1, hkeep, hR6, hB6⟩ := push_run hU.out.1 hU.out.2 hU.out.2.size (by dsimp only; omega) ⟨6, 0, ⟨#[]⟩, ⟨none, 0, 0⟩⟩ ⟨6, 0, ⟨#[]⟩, []⟩ ⟨rfl, rfl, rfl, Own.nil⟩
                  obtain ⟨c0, c1⟩ := push_cells hU.out.1
                  have hl := push_len hU.out.1
                  dsimp only at hl
                  obtain ⟨vn1, hvn⟩ : ∃ u, vn + 1 = u := ⟨_, rfl⟩
                  obtain ⟨va1, hva⟩ : ∃ u, some (⟨g6, 0, none⟩ : Addr) = u := ⟨_, rfl⟩
                  dsimp only at hr6
                  rw [hva, hvn] at hr6 hR6 hB6
                  have hlm : (vn1 : Int) = 3 * (tl : Int) + 1 := by omega
                  have d0 := (push_cells hR6).1
                  have d2 := Joins.unfrozen_of_block hR6.blk 2
                  have d3 := Joins.cell_of_block hR6.blk 2
                  simp only [List.getElem?_toArray, List.getElem?_cons_succ, List.getElem?_cons_zero, pushR] at d3
                  have HU4 := Lib.hid (set_base hR6 hB6 hB6.size (vn1 : Int))
                  have HR6 := Lib.hid hr6
                  have HLM := Lib.hid hlm
                  have hv2 : (vn1 : Int) ≤ 4611686018427387904 := by omega
                  clear hU hkeep hR6 hB6 hva hvn hr6 hl hfl hlm
                  go_wp2_with (at_builtin; refine wpList_append_run rfl _ _ _ rfl rfl rfl HR6.out ?_)
                  go_wp2_with fail
                  go_ret
                  refine ⟨w5.heap.size, .slice va1 vn1 cp6, rfl, ?_, ?_⟩
                  · have h9 := HU4.out.1.lower (B' := w.heap.size) (Nat.le_trans HBX.out.size HW5.out.size)
                    rw [HCUT.out]
                    have e9 : cutAt R.L nb k names ks torn = ⟨f0 ++ [⟨6, 0, ⟨#[]⟩, []⟩], tl, 3 * tl + 1⟩ := by
                      unfold cutAt
                      dsimp only
                      rw [HLE.out, HSF.out, HON.out, HN0.out, ← HEND.out, HF0.out, HTL2.out]
                    rw [e9, ← HLM.out]
                    exact h9
                  · exact HBX.out.trans ((HW5.out.trans (HU4.out.2.mono HW5.out.size)).mono HBX.out.size)

end Go.Proofs.Ytmlaojfhmaamcaa
