/- Layer 6's document answer: contract of left. -/
import Derived.Test.YtmlaojfhmaamcaaRefV06
import Derived.Test.YtmlaojfhmaamcaaLeft06
namespace Go.Proofs.Ytmlaojfhmaamcaa
open Go.RowKit Go.Deep
set_option linter.unusedSimpArgs false
set_option linter.unusedVariables false

/-- The first m of them, the same block. -/
theorem Own.takeK {α : Type} {ea : α → List Value} {c : Nat} {e : TypeId} {base : Nat} {w : World} {a : Option Addr} {cap : Nat} {l : List α} (h : Own ea c e base w (.slice a l.length cap) l) (hk : ∀ x, (ea x).length = c) (m : Nat) (hm : m ≤ l.length) (h0 : l ≠ []) : Own ea c e base w (.slice a m cap) (l.take m) := by
  have hl : (l.take m).length = m := by rw [List.length_take]; omega
  obtain ⟨h1, h2⟩ := h
  refine ⟨by rw [length_flatMap_k hk], ?_⟩
  rcases h2 with ⟨e, _⟩ | ⟨g, cap', cur, e, hb, hg, hn, hmx, hs, ht⟩
  · simp only [Value.slice.injEq] at e
    exact absurd (List.length_eq_zero_iff.1 e.2.1) h0
  · simp only [Value.slice.injEq] at e
    obtain ⟨rfl, _, rfl⟩ := e
    refine .inr ⟨g, cap, cur, by rw [hl], hb, hg, by rw [hl]; omega, hmx, hs, ?_⟩
    rw [hl]
    have h3 : (l.take m).flatMap ea = (l.flatMap ea).take (m * c) := by
      conv => rhs; rw [← List.take_append_drop m l]
      rw [List.flatMap_append, List.take_left' (by rw [length_flatMap_k hk, hl])]
    rw [h3, ← ht, List.take_take]
    congr 1
    have := Nat.mul_le_mul_right c hm
    omega
theorem StepsIs.take {base : Nat} {w : World} {a : Option Addr} {n cap : Nat} {L : List StepA} (h : StepsIs base w (.slice a n cap) L) (m : Nat) (hm : m ≤ L.length) : StepsIs base w (.slice a m cap) (L.take m) := by
  obtain ⟨qs, ho, hl, hp⟩ := h
  have en : n = qs.length := by
    obtain ⟨_, _, e, _⟩ := ho.slice Stp.len
    simp only [Value.slice.injEq] at e
    exact e.2.1
  by_cases h0 : qs = []
  · subst h0
    have : m = 0 := by simp at hl; omega
    subst this
    refine ⟨[], ?_, by simp, fun i q p hq => by simp at hq⟩
    subst en
    exact ho
  · refine ⟨qs.take m, ?_, by rw [List.length_take, List.length_take, hl], fun i q p hq hp' => ?_⟩
    · subst en
      exact ho.takeK Stp.len m (by omega) h0
    · rw [List.getElem?_take] at hq hp'
      split at hq
      · rename_i hi
        rw [if_pos hi] at hp'
        exact hp i q p hq hp'
      · cases hq

set_option maxRecDepth 20000 in
set_option maxHeartbeats 1000000 in
theorem rpick_any (c : Int) (n : Nat) (hc1 : -9223372036854775808 ≤ c) (hc2 : c ≤ 9223372036854775807) (hn : 0 < n) (hn2 : n ≤ 70368744177664) (w : World) :
    Calls Try.prog 38 #[.int .i64 c, .int .i64 n] w fun e w' => e = .returned (.int .i64 (pickN c n)) ∧ w' = w := by
  have hn0 : ¬ (n : Int) = 0 := by omega
  have hlt := pickN_lt c hn
  by_cases h0 : c < 0
  · have hp : (-(c + 1)).tmod (n : Int) = (pickN c n : Int) := by
      unfold pickN
      rw [if_pos h0, Int.tmod_eq_emod_of_nonneg (by omega)]
      have h2 := Int.emod_nonneg (-(c + 1)) (show (n : Int) ≠ 0 by omega)
      omega
    have hw1 : IntKind.i64.wrap (c + 1) = c + 1 := IntWalk.i64_in _ (by omega)
    have hw2 : IntKind.i64.wrap (-(c + 1)) = -(c + 1) := IntWalk.i64_in _ (by omega)
    go_enter Try.func38, Try.ntmps38
    go_wp2
    go_ret
    exact ⟨by first | (rw [hp]; rfl) | simp [hp] | (simp; omega), rfl⟩
  · have hp : c.tmod (n : Int) = (pickN c n : Int) := by
      unfold pickN
      rw [if_neg h0, Int.tmod_eq_emod_of_nonneg (by omega)]
      have h2 := Int.emod_nonneg c (show (n : Int) ≠ 0 by omega)
      omega
    go_enter Try.func38, Try.ntmps38
    go_wp2
    go_ret
    exact ⟨by first | (rw [hp]; rfl) | simp [hp] | (simp; omega), rfl⟩

theorem leftRS_take {L : List StepA} {k : Nat} {p : StepA} (f : Int) (ks : List Bool) (torn : Int) (safe : Nat) (h : L[k]? = some p) : leftRS (L.take (k + 1)) f ks torn safe = if p.kind = 2 ∧ p.file = f then dStep ks torn (leftRS (L.take k) f ks torn safe) (p.bs, decide (k < safe)) else leftRS (L.take k) f ks torn safe := by
  have hk := (List.getElem?_eq_some_iff.1 h).1
  rw [List.take_add_one, h, Option.toList_some, leftRS_snoc, List.length_take, Nat.min_eq_left (by omega)]
theorem leftRS_ok (f : Int) (ks : List Bool) (torn : Int) (safe : Nat) : ∀ L, (leftRS L f ks torn safe).fin ≤ (leftRS L f ks torn safe).out.length ∧ (leftRS L f ks torn safe).out.length = (heldR L f).length ∧ (leftRS L f ks torn safe).n ≤ L.length := by
  refine snoc_ind (by simp [leftRS, appsAt, heldR]) (fun L p ih => ?_)
  rw [leftRS_snoc, heldR_push, List.length_append, List.length_append]
  split
  · unfold dStep
    have hp := pickN_lt torn (show 0 < p.bs.length + 1 by omega)
    split
    · simp; omega
    · split
      · simp; omega
      · simp; omega
  · simp; omega
theorem lastS_take {L : List StepA} {k : Nat} {p : StepA} (f : Int) (h : L[k]? = some p) : lastS f (L.take (k + 1)) = if p.kind = 5 ∧ p.file = f then k else lastS f (L.take k) := by
  have hk := (List.getElem?_eq_some_iff.1 h).1
  rw [List.take_add_one, h, Option.toList_some, lastS_snoc, List.length_take, Nat.min_eq_left (by omega)]

/-- What the document's left answers, and leaves. -/
def RLeftPost (w : World) (L : List StepA) (f : Int) (ks : List Bool) (torn : Int) (e : Ending) (w' : World) : Prop :=
  ∃ v, e = .returned v ∧ Own u8c 1 5 w.heap.size w' v (leftR L f ks torn) ∧ Below w.heap.size w w'

set_option maxRecDepth 100000 in
set_option maxHeartbeats 4000000 in
theorem rleft_any {base : Nat} {w : World} {v vk : Value} {L : List StepA} (h : StepsIs base w v L) (f : Int) (ks : List Bool) (torn : Int) (hk : SliceIs boolc 1 w vk ks) (ht1 : -9223372036854775808 ≤ torn) (ht2 : torn ≤ 9223372036854775807) (hsz : (heldR L f).length ≤ 1048576) (hlen : L.length ≤ 1000000) :
    Calls Try.prog 40 #[v, .int .i64 f, vk, .int .i64 torn] w fun e w' => RLeftPost w L f ks torn e w' := by
  obtain ⟨i0, hi, hz0, hz1, hz2⟩ := info_parts info_u8
  obtain ⟨qs, hqo, hql, hqp⟩ := h
  obtain ⟨va, vcap, rfl, hvc, hvm, hcs⟩ := hqo.slice Stp.len
  obtain ⟨ka, kc, rfl, hkc, hkm, hkk⟩ := hk
  have hlq : qs.length ≤ 1000000 := by omega
  unfold maxLen at hvm hkm
  have HQP := Lib.hid hqp
  have HQL := Lib.hid hql
  have HCS := Lib.hid hcs
  have HKK := Lib.hid hkk
  have HSZ := Lib.hid hsz
  clear hqo hqp hql hkk hlen hcs hsz
  go_enter Try.func40, Try.ntmps40
  go_wp2_with fail
  go_loopg [9, 10] qs.length (fun g sv iv wr => ∃ (k : Nat), g = qs.length - k ∧ k ≤ qs.length ∧ sv = .int .i64 (lastS f (L.take k)) ∧ iv = .int .i64 k ∧ w = wr)
  case atStart => exact ⟨0, by omega, by omega, by simp [lastS], rfl, rfl⟩
  case round =>
    obtain ⟨k, hg, hk, rfl, rfl, rfl⟩ := hrel
    have HG := Lib.hid hg
    clear hg
    by_cases hkl : k < qs.length
    · obtain ⟨q, hq⟩ : ∃ q, qs[k]? = some q := ⟨_, List.getElem?_eq_getElem hkl⟩
      obtain ⟨p, hp⟩ : ∃ p, L[k]? = some p := ⟨_, List.getElem?_eq_getElem (by rw [← HQL.out]; exact hkl)⟩
      obtain ⟨b, o, e2, hcc⟩ := HCS.out (by intro e; rw [e] at hq; simp at hq)
      subst e2
      have q0 := hcc k q hq 0 _ rfl
      have q1 := hcc k q hq 1 _ rfl
      simp only [Nat.add_zero] at q0
      obtain ⟨p1, p2, _, _⟩ := HQP.out k q p hq hp
      have hkk : (k : Int) < (qs.length : Int) := by omega
      have HSN := Lib.hid (lastS_take f hp)
      have HP1 := Lib.hid p1
      have HP2 := Lib.hid p2
      obtain ⟨kd, fl, nm, ⟨ta, tn, tc⟩⟩ := q
      dsimp only at q0 q1 HP1 HP2
      clear hq hp hcc p1 p2
      by_cases e2 : kd = 5
      · subst e2
        by_cases e1 : fl = f
        · subst e1
          have HE : Hid (lastS fl (L.take (k + 1)) = k) := Lib.hid (by rw [HSN.out, if_pos ⟨HP1.out.symm, HP2.out.symm⟩])
          go_wp2
          go_roundg (qs.length - (k + 1))
          case measure => rw [HG.out]; omega
          case rel => exact ⟨k + 1, rfl, by omega, by rw [HE.out], by simp, rfl⟩
        · have e11 : (fl == f) = false := by simpa using e1
          have HE : Hid (lastS f (L.take (k + 1)) = lastS f (L.take k)) := Lib.hid (by rw [HSN.out, if_neg (fun h => e1 (HP2.out.trans h.2))])
          go_wp2
          go_roundg (qs.length - (k + 1))
          case measure => rw [HG.out]; omega
          case rel => exact ⟨k + 1, rfl, by omega, by rw [HE.out], by simp, rfl⟩
      · have e22 : (kd == 5) = false := by simpa using e2
        have HE : Hid (lastS f (L.take (k + 1)) = lastS f (L.take k)) := Lib.hid (by rw [HSN.out, if_neg (fun h => e2 (HP1.out.trans h.1))])
        go_wp2
        go_roundg (qs.length - (k + 1))
        case measure => rw [HG.out]; omega
        case rel => exact ⟨k + 1, rfl, by omega, by rw [HE.out], by simp, rfl⟩
    · obtain rfl : k = qs.length := by omega
      have hsl := lastS_le f L
      have hst : lastS f (L.take qs.length) = lastS f L := by rw [HQL.out, List.take_length]
      rw [hst]
      obtain ⟨safe, hsafe⟩ : ∃ safe, lastS f L = safe := ⟨_, rfl⟩
      rw [hsafe] at hsl ⊢
      have HSF := Lib.hid hsafe
      clear hst hsafe
      go_wp2_with fail
      go_loopg [11, 12, 13, 14] qs.length (fun g vv nv ev iv wr => ∃ (k : Nat) (s : Sl) (S : LeftS), g = qs.length - k ∧ k ≤ qs.length ∧ vv = .slice s.a s.n s.cap ∧ ev = .int .i64 S.fin ∧ nv = .int .i64 S.n ∧ iv = .int .i64 k ∧ S.n ≤ k ∧ S.fin ≤ S.out.length ∧ S.out.length ≤ 1048576 ∧ Hid (S = leftRS (L.take k) f ks torn safe ∧ Own u8c 1 5 w.heap.size wr (.slice s.a s.n s.cap) S.out ∧ Below w.heap.size w wr))
      case atStart => exact ⟨0, ⟨none, 0, 0⟩, ⟨[], 0, 0⟩, by omega, by omega, rfl, rfl, rfl, rfl, by simp, by simp, by simp, Lib.hid ⟨by simp [leftRS, appsAt], Own.nil, Below.refl _ _⟩⟩
      case round =>
        obtain ⟨k, ⟨sa, sn, sc⟩, ⟨out, fin, n⟩, hg, hk, rfl, rfl, rfl, rfl, hnk, hfo, hos, hU⟩ := hrel
        dsimp only at hU hnk hfo hos ⊢
        have HG := Lib.hid hg
        clear hg
        obtain ⟨esn⟩ : sn = out.length := by
          obtain ⟨_, _, e, _⟩ := hU.out.2.1.slice u8c_len
          simp only [Value.slice.injEq] at e
          exact e.2.1
        by_cases hkl : k < qs.length
        · obtain ⟨q, hq⟩ : ∃ q, qs[k]? = some q := ⟨_, List.getElem?_eq_getElem hkl⟩
          obtain ⟨p, hp⟩ : ∃ p, L[k]? = some p := ⟨_, List.getElem?_eq_getElem (by rw [← HQL.out]; exact hkl)⟩
          obtain ⟨b, o, e2, hcc⟩ := HCS.out (by intro e; rw [e] at hq; simp at hq)
          subst e2
          obtain ⟨pk, pf, pn, pb⟩ := p
          obtain ⟨p1, p2, _, pown⟩ := HQP.out k q _ hq hp
          dsimp only at p1 p2 pown
          obtain ⟨qk, qf, qn, ⟨qa, ql, qc⟩⟩ := q
          dsimp only at p1 p2
          subst p1 p2
          have q0' := hcc k _ hq 0 _ rfl
          have q1' := hcc k _ hq 1 _ rfl
          have q3' := hcc k _ hq 3 _ rfl
          simp only [Nat.add_zero] at q0'
          have q0 := keepB hU.out.2.2 q0'
          have q1 := keepB hU.out.2.2 q1'
          have q3 := keepB hU.out.2.2 q3'
          have Q3' := Lib.hid q3'
          have hkk : (k : Int) < (qs.length : Int) := by omega
          have hst := leftRS_take f ks torn safe hp
          rw [← hU.out.1] at hst
          have hok := leftRS_ok f ks torn safe (L.take (k + 1))
          rw [hst] at hok
          have hhs := heldR_take L f (k + 1)
          have hsz := HSZ.out
          rw [List.length_take] at hok
          obtain ⟨eqn⟩ : ql = pb.length := by
            obtain ⟨_, _, e, _⟩ := pown.slice u8c_len
            simp only [Sl.val, Value.slice.injEq] at e
            exact e.2.1
          by_cases hkd : qk = 2
          · subst hkd
            by_cases hfl : qf = f
            · subst hfl
              rw [if_pos ⟨rfl, rfl⟩] at hst hok
              dsimp only at hst hok
              have HST : Hid (∀ S', dStep ks torn ⟨out, fin, n⟩ (pb, decide (k < safe)) = S' → S' = leftRS (L.take (k + 1)) qf ks torn safe ∧ S'.n ≤ k + 1 ∧ S'.fin ≤ S'.out.length ∧ S'.out.length ≤ 1048576) := Lib.hid (fun S' e => by
                rw [e] at hst hok
                exact ⟨hst.symm, by omega, hok.1, by omega⟩)
              have hpb : out.length + pb.length ≤ 1048576 := by
                have h1 := hok.2.1
                have h2 : (dStep ks torn ⟨out, fin, n⟩ (pb, decide (k < safe))).out.length = out.length + pb.length := by
                  unfold dStep
                  split
                  · simp
                  · split <;> simp
                omega
              have hB := hU.out.2.2
              have hO := hU.out.2.1
              obtain ⟨va2, wa, hra, howna, hxa⟩ := append_structs (P := Try.prog) 23 23 i0 _ 1 Try.underlying23 hi hz0 hz1 hz2 rfl (by omega) u8c_len u8c_one hO ((pown.slice u8c_len).below hB) (by unfold maxLen; omega) (by omega) (by have := hB.size; omega)
              have hBa := Ext.new hB hxa (fun i hi _ e => by have := (hO.blk i e).1; omega) hB.size
              obtain ⟨⟨aa, an, ac⟩, ea⟩ := howna.sl
              change va2 = .slice aa an ac at ea
              subst ea
              obtain ⟨ean⟩ : an = (out ++ pb).length := by
                obtain ⟨_, _, e, _⟩ := howna.slice u8c_len
                simp only [Value.slice.injEq] at e
                exact e.2.1
              rw [List.length_append] at hra howna
              obtain ⟨vz2, wz, hrz, hownz, hxz⟩ := append_zeros 23 hO pb.length (by omega) (by have := hB.size; omega)
              have hBz := Ext.new hB hxz (fun i hi _ e => by have := (hO.blk i e).1; omega) hB.size
              obtain ⟨⟨za, zn, zc⟩, ez⟩ := hownz.sl
              change vz2 = .slice za zn zc at ez
              subst ez
              obtain ⟨ezn⟩ : zn = (out ++ List.replicate pb.length (0 : UInt8)).length := by
                obtain ⟨_, _, e, _⟩ := hownz.slice u8c_len
                simp only [Value.slice.injEq] at e
                exact e.2.1
              rw [List.length_append, List.length_replicate] at hrz hownz
              have hpk := rpick_any torn (pb.length + 1) ht1 ht2 (by omega) (by omega)
              have hpkl := pickN_lt torn (show 0 < pb.length + 1 by omega)
              obtain ⟨pk, hpke⟩ : ∃ pk, pickN torn (pb.length + 1) = pk := ⟨_, rfl⟩
              rw [hpke] at hpkl hpk
              rw [show (((pb.length + 1 : Nat)) : Int) = (pb.length : Int) + 1 by omega] at hpk
              have hwp : IntKind.i64.wrap ((pb.length : Int) + 1) = (pb.length : Int) + 1 := IntWalk.i64_in _ (by omega)
              obtain ⟨m, hm⟩ : ∃ m, out.length + pb.length = m := ⟨_, rfl⟩
              have hmm : m ≤ 1048576 := by omega
              have hmi : (m : Int) - (pb.length : Int) = (out.length : Int) := by omega
              have hw1 : IntKind.i64.wrap (out.length : Int) = (out.length : Int) := IntWalk.i64_in _ (by omega)
              have hw2 : IntKind.i64.wrap ((out.length : Int) + (pk : Int)) = (out.length : Int) + (pk : Int) := IntWalk.i64_in _ (by omega)
              have hml : (out ++ pb).length = m := by rw [List.length_append]; exact hm
              rw [hm] at hra howna hrz hownz
              obtain ⟨⟨_, _, ew, hacap, hacm, _⟩, _⟩ : SliceIs u8c 1 wa (.slice aa m ac) (out ++ pb) ∧ True := ⟨howna.slice u8c_len, trivial⟩
              simp only [Value.slice.injEq] at ew
              obtain ⟨rfl, -, rfl⟩ := ew
              rw [List.length_append, hm] at hacap
              unfold maxLen at hacm
              have q3a := keepB hBa q3'
              have HRA := Lib.hid hra
              have HNA := Lib.hid (And.intro howna hBa)
              have HRZ := Lib.hid hrz
              have HNZ := Lib.hid (And.intro hownz hBz)
              have HPK := Lib.hid hpk
              have HPE := Lib.hid hpke
              have HN0 := Lib.hid (And.intro hO hB)
              have HU := Lib.hid hU.out.2.2
              clear hst hok hra howna hxa hBa hrz hownz hxz hBz hpk hpke hO hB hU hq hp pown hos hcc hhs hsz q0' q1' q3'
              by_cases hsf : k < safe
              · have hsf2 : (k : Int) < (safe : Int) := by omega
                have HSS := Lib.hid (HST.out ⟨out ++ pb, m, n⟩ (by unfold dStep; rw [if_pos (by simpa using hsf)]; dsimp only; rw [hml]))
                clear HRZ HPK q3a
                go_wp2_with (at_builtin; refine wpList_append_run rfl _ _ _ rfl rfl rfl HRA.out ?_)
                go_wp2_with fail
                go_roundg (qs.length - (k + 1))
                case measure => rw [HG.out]; omega
                case rel => exact ⟨k + 1, ⟨aa, m, ac⟩, ⟨out ++ pb, m, n⟩, rfl, by omega, rfl, by simp, by simp, by simp, HSS.out.2.1, HSS.out.2.2.1, HSS.out.2.2.2, Lib.hid ⟨HSS.out.1, HNA.out.1, HNA.out.2⟩⟩
              · have hsf2 : ¬ (k : Int) < (safe : Int) := by omega
                by_cases hnk2 : n < ks.length
                · obtain ⟨kb, hkb⟩ : ∃ kb, ks[n]? = some kb := ⟨_, List.getElem?_eq_getElem hnk2⟩
                  obtain ⟨bk, ok2, ek, hkc2⟩ := HKK.out (by intro e; rw [e] at hkb; simp at hkb)
                  subst ek
                  have kk0 := keepB HU.out (hkc2 n kb hkb 0 _ rfl)
                  simp only [Nat.add_zero, Nat.mul_one] at kk0
                  have hnk3 : (n : Int) < (ks.length : Int) := by omega
                  clear hkc2
                  cases kb with
                  | true =>
                    have HSS := Lib.hid (HST.out ⟨out ++ pb, out.length + pk, n + 1⟩ (by unfold dStep; rw [if_neg (by simpa using hsf), if_pos hkb]; rw [HPE.out]))
                    clear HRZ
                    go_wp2_with (at_builtin; refine wpList_append_run rfl _ _ _ rfl rfl rfl HRA.out ?_)
                    go_wp2_with fail
                    go_region_held3 (fun W => W.cell? ⟨b, o + k * 4 + 3, none⟩ = some (.slice qa pb.length qc)) (first | exact q3a) (first | (go_at_call 38; ((with_reducible refine (HPK.out _).mono ?_); rintro e w4 ⟨rfl, rfl⟩)))
                    all_goals
                      have HW4 : Hid (∀ n, Own u8c 1 5 w.heap.size (wa.drewN n) (.slice aa m ac) (out ++ pb) ∧ Below w.heap.size w (wa.drewN n)) := Lib.hid (fun n => ⟨HNA.out.1, below_drewN HNA.out.2 n⟩)
                      go_wp2_with fail
                      go_roundg (qs.length - (k + 1))
                      case measure => rw [HG.out]; omega
                      case rel => exact ⟨k + 1, ⟨aa, m, ac⟩, ⟨out ++ pb, out.length + pk, n + 1⟩, rfl, by omega, rfl, by simp, by simp, by simp, HSS.out.2.1, HSS.out.2.2.1, HSS.out.2.2.2, Lib.hid ⟨HSS.out.1, by first | exact HNA.out.1 | exact (HW4.out _).1, by first | exact HNA.out.2 | exact (HW4.out _).2⟩⟩
                  | false =>
                    have HSS := Lib.hid (HST.out ⟨out ++ List.replicate pb.length 0, fin, n + 1⟩ (by unfold dStep; rw [if_neg (by simpa using hsf), if_neg (by rw [hkb]; simp)]))
                    clear HRA HPK q3a
                    go_wp2_with (at_builtin; refine Lib.wpList_append_run _ rfl _ _ _ _ rfl _ _ rfl rfl _ _ HRZ.out ?_)
                    go_wp2_with fail
                    go_roundg (qs.length - (k + 1))
                    case measure => rw [HG.out]; omega
                    case rel => exact ⟨k + 1, ⟨za, m, zc⟩, ⟨out ++ List.replicate pb.length 0, fin, n + 1⟩, rfl, by omega, rfl, by simp, by simp, by simp, HSS.out.2.1, HSS.out.2.2.1, HSS.out.2.2.2, Lib.hid ⟨HSS.out.1, HNZ.out.1, HNZ.out.2⟩⟩
                · have hnk3 : ¬ (n : Int) < (ks.length : Int) := by omega
                  have HSS := Lib.hid (HST.out ⟨out ++ List.replicate pb.length 0, fin, n + 1⟩ (by unfold dStep; rw [if_neg (by simpa using hsf), if_neg (by rw [List.getElem?_eq_none (show ks.length ≤ n by omega)]; simp)]))
                  clear HRA HPK q3a
                  go_wp2_with (at_builtin; refine Lib.wpList_append_run _ rfl _ _ _ _ rfl _ _ rfl rfl _ _ HRZ.out ?_)
                  go_wp2_with fail
                  go_roundg (qs.length - (k + 1))
                  case measure => rw [HG.out]; omega
                  case rel => exact ⟨k + 1, ⟨za, m, zc⟩, ⟨out ++ List.replicate pb.length 0, fin, n + 1⟩, rfl, by omega, rfl, by simp, by simp, by simp, HSS.out.2.1, HSS.out.2.2.1, HSS.out.2.2.2, Lib.hid ⟨HSS.out.1, HNZ.out.1, HNZ.out.2⟩⟩
            · have e11 : (qf == f) = false := by simpa using hfl
              rw [if_neg (fun h => hfl h.2)] at hst
              have HN := Lib.hid (And.intro hst.symm hU.out.2)
              clear hst hok hU hq hp pown hcc hhs hsz
              go_wp2_with fail
              go_roundg (qs.length - (k + 1))
              case measure => rw [HG.out]; omega
              case rel => exact ⟨k + 1, ⟨sa, out.length, sc⟩, ⟨out, fin, n⟩, rfl, by omega, rfl, by simp, by simp, by simp, by dsimp only; omega, hfo, hos, Lib.hid ⟨HN.out.1, HN.out.2.1, HN.out.2.2⟩⟩
          · have e11 : (qk == 2) = false := by simpa using hkd
            rw [if_neg (fun h => hkd h.1)] at hst
            have HN := Lib.hid (And.intro hst.symm hU.out.2)
            clear hst hok hU hq hp pown hcc hhs hsz
            go_wp2_with fail
            go_roundg (qs.length - (k + 1))
            case measure => rw [HG.out]; omega
            case rel => exact ⟨k + 1, ⟨sa, out.length, sc⟩, ⟨out, fin, n⟩, rfl, by omega, rfl, by simp, by simp, by simp, by dsimp only; omega, hfo, hos, Lib.hid ⟨HN.out.1, HN.out.2.1, HN.out.2.2⟩⟩
        · obtain rfl : k = qs.length := by omega
          have hS := hU.out.1
          rw [HQL.out, List.take_length] at hS
          have hN : Hid (RLeftPost w L f ks torn (.returned (.slice sa fin sc)) wr) := Lib.hid ⟨_, rfl, by unfold leftR; rw [HSF.out, ← hS]; exact hU.out.2.1.takeN fin hfo, hU.out.2.2⟩
          obtain ⟨_, _, e9, hsc, hsm, _⟩ := hU.out.2.1.slice u8c_len
          simp only [Value.slice.injEq] at e9
          obtain ⟨rfl, _, rfl⟩ := e9
          unfold maxLen at hsm
          have hfo2 : (fin : Int) ≤ (out.length : Int) := by omega
          have hfo3 : (fin : Int) ≤ (sc : Int) := by omega
          clear hU hS
          go_wp2
          go_ret
          exact hN.out

end Go.Proofs.Ytmlaojfhmaamcaa
