/- Contract of file.left: what a loss of power leaves of a file. -/
import Derived.Test.YtmlaojfhmaamcaaNamesAt06
import Derived.Test.YtmlaojfhmaamcaaZero06
import Derived.Test.YtmlaojfhmaamcaaRead06
import Derived.Test.YtmlaojfhmaamcaaAct06
namespace Go.Proofs.Ytmlaojfhmaamcaa
open Go.RowKit Go.Deep
set_option linter.unusedSimpArgs false
set_option linter.unusedVariables false

/-- What is left, so far. -/
structure LeftS where
  out : List UInt8
  fin : Nat
  n : Nat
def leftStep (at_ : Int) (ks : List Bool) (torn : Int) (s : LeftS) (p : PcA) : LeftS :=
  if at_ < p.came then s
  else if p.safe ≠ 0 ∧ p.safe ≤ at_ then ⟨s.out ++ p.bs, (s.out ++ p.bs).length, s.n⟩
  else if ks[s.n]? = some true then ⟨s.out ++ p.bs, s.out.length + pickN torn (p.bs.length + 1), s.n + 1⟩
  else ⟨s.out ++ List.replicate p.bs.length 0, s.fin, s.n + 1⟩
def leftS (at_ : Int) (ks : List Bool) (torn : Int) (ps : List PcA) : LeftS := ps.foldl (leftStep at_ ks torn) ⟨[], 0, 0⟩
def leftA (at_ : Int) (ks : List Bool) (torn : Int) (ps : List PcA) : List UInt8 := (leftS at_ ks torn ps).out.take (leftS at_ ks torn ps).fin
theorem leftS_snoc {at_ torn : Int} {ks : List Bool} {ps : List PcA} {k : Nat} {p : PcA} (h : ps[k]? = some p) : leftS at_ ks torn (ps.take (k + 1)) = leftStep at_ ks torn (leftS at_ ks torn (ps.take k)) p := by
  unfold leftS
  rw [List.take_add_one, h, Option.toList_some, List.foldl_append]
  rfl
theorem leftStep_ok {at_ torn : Int} {ks : List Bool} {s : LeftS} (p : PcA) (h : s.fin ≤ s.out.length) : (leftStep at_ ks torn s p).fin ≤ (leftStep at_ ks torn s p).out.length ∧ (leftStep at_ ks torn s p).out.length ≤ s.out.length + p.bs.length ∧ (leftStep at_ ks torn s p).n ≤ s.n + 1 := by
  have hp := pickN_lt torn (show 0 < p.bs.length + 1 by omega)
  unfold leftStep
  split
  · exact ⟨h, by omega, by omega⟩
  · split
    · exact ⟨Nat.le_refl _, by simp, by simp⟩
    · split
      · exact ⟨by simp; omega, by simp, by simp⟩
      · exact ⟨by simp; omega, by simp, by simp⟩
theorem leftS_ok (at_ torn : Int) (ks : List Bool) (ps : List PcA) : ∀ k, (leftS at_ ks torn (ps.take k)).fin ≤ (leftS at_ ks torn (ps.take k)).out.length ∧ (leftS at_ ks torn (ps.take k)).out.length ≤ sizeP (ps.take k) ∧ (leftS at_ ks torn (ps.take k)).n ≤ k
  | 0 => by simp [leftS]
  | k + 1 => by
    have ih := leftS_ok at_ torn ks ps k
    cases h : ps[k]? with
    | none =>
      have : ps.take (k + 1) = ps.take k := by rw [List.take_add_one, h, Option.toList_none, List.append_nil]
      rw [this]
      exact ⟨ih.1, ih.2.1, by omega⟩
    | some p =>
      rw [leftS_snoc h]
      have := leftStep_ok (at_ := at_) (torn := torn) (ks := ks) p ih.1
      refine ⟨this.1, ?_, by omega⟩
      rw [List.take_add_one, h, Option.toList_some, sizeP_snoc]
      omega

theorem Own.takeN {base : Nat} {w : World} {a : Option Addr} {cap : Nat} {l : List UInt8} (h : Own u8c 1 5 base w (.slice a l.length cap) l) (m : Nat) (hm : m ≤ l.length) : Own u8c 1 5 base w (.slice a m cap) (l.take m) := by
  have hl : (l.take m).length = m := by rw [List.length_take]; omega
  obtain ⟨h1, h2⟩ := h
  refine ⟨by rw [length_flatMap_k u8c_len], ?_⟩
  rcases h2 with ⟨e, e2⟩ | ⟨g, cap', cur, e, hb, hg, hn, hmx, hs, ht⟩
  · simp only [Value.slice.injEq] at e
    obtain ⟨rfl, h0, rfl⟩ := e
    have hm0 : m = 0 := by omega
    subst hm0
    exact .inl ⟨rfl, by simp⟩
  · simp only [Value.slice.injEq] at e
    obtain ⟨rfl, _, rfl⟩ := e
    refine .inr ⟨g, cap, cur, by rw [hl], hb, hg, by rw [hl]; omega, hmx, hs, ?_⟩
    rw [hl, Nat.mul_one]
    have h3 : (l.take m).flatMap u8c = (l.flatMap u8c).take m := by
      conv => rhs; rw [← List.take_append_drop m l]
      rw [List.flatMap_append, List.take_left' (by rw [flat_u8, hl])]
    rw [h3, ← ht, List.take_take, Nat.mul_one]
    congr 1
    omega

/-- What left answers, and leaves. -/
def LeftPost (w : World) (at_ : Int) (ks : List Bool) (torn : Int) (ps : List PcA) (e : Ending) (w' : World) : Prop :=
  ∃ v, e = .returned v ∧ Own u8c 1 5 w.heap.size w' v (leftA at_ ks torn ps) ∧ Below w.heap.size w w'

set_option maxRecDepth 100000 in
set_option maxHeartbeats 4000000 in
theorem left_any {base : Nat} {w : World} {f : Nat} {vr vk : Value} {ps : List PcA} (h : FileIs base w f vr ps) (at_ : Int) (ks : List Bool) (torn : Int) (hk : SliceIs boolc 1 w vk ks) (ht1 : -9223372036854775808 ≤ torn) (ht2 : torn ≤ 9223372036854775807) (hsz : sizeP ps ≤ 1048576) (hlen : ps.length ≤ 1000000) :
    Calls Try.prog 36 #[.pointer (some ⟨f, 0, none⟩), .int .i64 at_, vk, .int .i64 torn] w fun e w' => LeftPost w at_ ks torn ps e w' := by
  obtain ⟨i0, hi, hz0, hz1, hz2⟩ := info_parts info_u8
  obtain ⟨hbf, hfb, qs, hqo, hql, hqp⟩ := h
  obtain ⟨va, vcap, rfl, _, hvm, hvg⟩ := hqo.shape Pc.len
  obtain ⟨ka, kc, rfl, hkc, hkm, hkk⟩ := hk
  have f0 := Joins.cell_of_block hfb 0
  simp only [List.getElem?_toArray, List.getElem?_cons_succ, List.getElem?_cons_zero] at f0
  have hlq : qs.length ≤ 1000000 := by omega
  unfold maxLen at hvm hkm
  have HQO := Lib.hid hqo
  have HQP := Lib.hid hqp
  have HQL := Lib.hid hql
  have HKK := Lib.hid hkk
  have HVG := Lib.hid hvg
  clear hfb hqo hqp hql hkk hlen hvg
  go_enter Try.func36, Try.ntmps36
  go_wp2_with fail
  go_loopg [9, 10, 11, 19] qs.length (fun g vv ev nv iv wr => ∃ (k : Nat) (s : Sl) (S : LeftS), g = qs.length - k ∧ k ≤ qs.length ∧ vv = .slice s.a s.n s.cap ∧ ev = .int .i64 S.fin ∧ nv = .int .i64 S.n ∧ iv = .int .i64 k ∧ S.n ≤ k ∧ S.fin ≤ S.out.length ∧ S.out.length ≤ sizeP (ps.take k) ∧ Hid (S = leftS at_ ks torn (ps.take k) ∧ Own u8c 1 5 w.heap.size wr (.slice s.a s.n s.cap) S.out ∧ Below w.heap.size w wr))
  case atStart => exact ⟨0, ⟨none, 0, 0⟩, ⟨[], 0, 0⟩, by omega, by omega, rfl, rfl, rfl, rfl, by simp, by simp, by simp, Lib.hid ⟨by simp [leftS], Own.nil, Below.refl _ _⟩⟩
  case round =>
    obtain ⟨k, ⟨sa, sn, sc⟩, ⟨out, fin, n⟩, hg, hk, rfl, rfl, rfl, rfl, hnk, hfo, hos, hU⟩ := hrel
    dsimp only at hU hnk hfo hos ⊢
    have HG := Lib.hid hg
    clear hg
    obtain ⟨esn⟩ : sn = out.length := by
      obtain ⟨_, _, e, _⟩ := hU.out.2.1.slice u8c_len
      simp only [Value.slice.injEq] at e
      exact e.2.1
    by_cases hkl : k < qs.length
    · obtain ⟨q, hq⟩ : ∃ q, qs[k]? = some q := ⟨_, List.getElem?_eq_getElem hkl⟩
      obtain ⟨⟨pb, pcm, psf⟩, hp⟩ : ∃ p, ps[k]? = some p := ⟨_, List.getElem?_eq_getElem (by rw [← HQL.out]; exact hkl)⟩
      obtain ⟨⟨qa, qn, qc⟩, qcame, qsafe⟩ := q
      obtain ⟨pown, pcame, psafe⟩ := HQP.out k _ _ hq hp
      dsimp only at pcame psafe
      obtain ⟨g, e1, _⟩ := HVG.out (by intro e; rw [e] at hq; simp at hq)
      subst e1
      have q0 := keepB hU.out.2.2 (HQO.out.cellAt Pc.len hq (j := 0) rfl)
      have q1 := keepB hU.out.2.2 (HQO.out.cellAt Pc.len hq (j := 1) rfl)
      have q2 := keepB hU.out.2.2 (HQO.out.cellAt Pc.len hq (j := 2) rfl)
      simp only [Nat.add_zero] at q0
      have hkk : (k : Int) < (qs.length : Int) := by omega
      have hst := leftS_snoc (at_ := at_) (torn := torn) (ks := ks) hp
      rw [← hU.out.1] at hst
      have hbnd := sizeP_mem hp
      have hbsz := sizeP_take ps (k + 1)
      have hok := leftStep_ok (at_ := at_) (torn := torn) (ks := ks) (s := ⟨out, fin, n⟩) ⟨pb, pcm, psf⟩ hfo
      obtain ⟨eqn⟩ : qn = pb.length := by
        obtain ⟨_, _, e, _⟩ := pown.slice u8c_len
        simp only [Sl.val, Value.slice.injEq] at e
        exact e.2.1
      have pcame' := pcame.symm
      have psafe' := psafe.symm
      subst pcame' psafe'
      clear pcame psafe
      obtain ⟨ob, hob⟩ : ∃ ob : Obj, .cells #[.slice qa pb.length qc, .int .i64 pcm, .int .i64 psf] 76 = ob := ⟨_, rfl⟩
      have hB := hU.out.2.2.alloc hU.out.2.2.size ob
      have hO := hU.out.2.1.alloc ob
      have hsz2 : sizeP (ps.take (k + 1)) = sizeP (ps.take k) + pb.length := by rw [List.take_add_one, hp, Option.toList_some, sizeP_snoc]
      have HST : Hid (∀ S', leftStep at_ ks torn ⟨out, fin, n⟩ ⟨pb, pcm, psf⟩ = S' → S' = leftS at_ ks torn (ps.take (k + 1)) ∧ S'.n ≤ k + 1 ∧ S'.fin ≤ S'.out.length ∧ S'.out.length ≤ sizeP (ps.take (k + 1))) := Lib.hid (fun S' e => by
        rw [e] at hst hok
        dsimp only at hok
        exact ⟨hst.symm, by omega, hok.1, by omega⟩)
      have hba := Below.refl wr.heap.size wr |>.alloc (Nat.le_refl _) ob
      obtain ⟨va2, wa, hra, howna, hxa⟩ := append_structs (P := Try.prog) 23 23 i0 _ 1 Try.underlying23 hi hz0 hz1 hz2 rfl (by omega) u8c_len u8c_one hO (((pown.slice u8c_len).below hU.out.2.2).below hba) (by unfold maxLen; omega) (by omega) (by have := hB.size; omega)
      have hBa := Ext.new hB hxa (fun i hi _ e => by have := (hO.blk i e).1; omega) hB.size
      obtain ⟨⟨aa, an, ac⟩, ea⟩ := howna.sl
      change va2 = .slice aa an ac at ea
      subst ea
      obtain ⟨ean⟩ : an = (out ++ pb).length := by
        obtain ⟨_, _, e, _⟩ := howna.slice u8c_len
        simp only [Value.slice.injEq] at e
        exact e.2.1
      rw [List.length_append] at hra howna
      obtain ⟨vz2, wz, hrz, hownz, hxz⟩ := append_zeros 23 hO pb.length (by omega) (by have := hB.size; omega)
      have hBz := Ext.new hB hxz (fun i hi _ e => by have := (hO.blk i e).1; omega) hB.size
      obtain ⟨⟨za, zn, zc⟩, ez⟩ := hownz.sl
      change vz2 = .slice za zn zc at ez
      subst ez
      obtain ⟨ezn⟩ : zn = (out ++ List.replicate pb.length (0 : UInt8)).length := by
        obtain ⟨_, _, e, _⟩ := hownz.slice u8c_len
        simp only [Value.slice.injEq] at e
        exact e.2.1
      rw [List.length_append, List.length_replicate] at hrz hownz
      have hpk := pick_any torn (pb.length + 1) ht1 ht2 (by omega) (by omega)
      have hpkl := pickN_lt torn (show 0 < pb.length + 1 by omega)
      obtain ⟨pk, hpke⟩ : ∃ pk, pickN torn (pb.length + 1) = pk := ⟨_, rfl⟩
      rw [hpke] at hpkl
      have hpb : pb.length ≤ 1048576 := by omega
      have hob1 : out.length ≤ 1048576 := by omega
      have HRA := Lib.hid hra
      have HNA := Lib.hid (And.intro howna hBa)
      have HRZ := Lib.hid hrz
      have HNZ := Lib.hid (And.intro hownz hBz)
      have HPK := Lib.hid hpk
      have HPE := Lib.hid hpke
      have HN0 := Lib.hid (And.intro hO hB)
      have hbk : ∀ b o u, wr.cell? ⟨b, o, none⟩ = some u → (wr.alloc ob).cell? ⟨b, o, none⟩ = some u := fun b o u h => cell_alloc h _
      have HBK := Lib.hid hbk
      have HU := Lib.hid hU.out.2.2
      subst hob
      clear hst hok hbnd hbsz hsz2 hba hra howna hxa hBa hrz hownz hxz hBz hpk hpke hO hB hU hq hp pown hos hfo hbk
      by_cases hca : at_ < pcm
      · have htr : True := trivial
        have HSS := Lib.hid (HST.out ⟨out, fin, n⟩ (by unfold leftStep; rw [if_pos hca]))
        clear HRA HRZ HPK
        go_wp2_with fail
        go_roundg (qs.length - (k + 1))
        case measure => rw [HG.out]; omega
        case rel => exact ⟨k + 1, ⟨sa, out.length, sc⟩, ⟨out, fin, n⟩, rfl, by omega, rfl, by simp, by simp, by simp, HSS.out.2.1, HSS.out.2.2.1, HSS.out.2.2.2, Lib.hid ⟨HSS.out.1, HN0.out.1, HN0.out.2⟩⟩
      · by_cases hs0 : psf = 0
        · subst hs0
          by_cases hnk2 : n < ks.length
          · obtain ⟨kb, hkb⟩ : ∃ kb, ks[n]? = some kb := ⟨_, List.getElem?_eq_getElem hnk2⟩
            obtain ⟨bk, ok2, ek, hkc2⟩ := HKK.out (by intro e; rw [e] at hkb; simp at hkb)
            subst ek
            have kk0 := keepB HU.out (hkc2 n kb hkb 0 _ rfl)
            simp only [Nat.add_zero, Nat.mul_one] at kk0
            have hbkl := cell_lt kk0
            have hnk3 : (n : Int) < (ks.length : Int) := by omega
            clear hkc2
            cases kb with
            | true =>
              have HSS := Lib.hid (HST.out ⟨out ++ pb, out.length + pk, n + 1⟩ (by unfold leftStep; rw [if_neg hca, if_neg (fun h => h.1 rfl), if_pos hkb]; rw [HPE.out]))
              clear HRZ
              go_wp2_with fail
              refine (HPK.out _).mono ?_
              rintro e w4 ⟨rfl, e4⟩
              have e4' := e4.symm
              subst e4'
              rw [HPE.out]
              go_wp2_with (at_builtin; refine Lib.wpList_append_run _ rfl _ _ _ _ rfl _ _ rfl rfl _ _ HRA.out ?_)
              go_roundg (qs.length - (k + 1))
              case measure => rw [HG.out]; omega
              case rel => exact ⟨k + 1, ⟨aa, out.length + pb.length, ac⟩, ⟨out ++ pb, out.length + pk, n + 1⟩, rfl, by omega, rfl, by simp, by simp, by simp, HSS.out.2.1, HSS.out.2.2.1, HSS.out.2.2.2, Lib.hid ⟨HSS.out.1, HNA.out.1, HNA.out.2⟩⟩
            | false =>
              have HSS := Lib.hid (HST.out ⟨out ++ List.replicate pb.length 0, fin, n + 1⟩ (by unfold leftStep; rw [if_neg hca, if_neg (fun h => h.1 rfl), if_neg (by rw [hkb]; simp)]))
              clear HRA HPK
              go_wp2_with (at_builtin; refine Lib.wpList_append_run _ rfl _ _ _ _ rfl _ _ rfl rfl _ _ HRZ.out ?_)
              go_roundg (qs.length - (k + 1))
              case measure => rw [HG.out]; omega
              case rel => exact ⟨k + 1, ⟨za, out.length + pb.length, zc⟩, ⟨out ++ List.replicate pb.length 0, fin, n + 1⟩, rfl, by omega, rfl, by simp, by simp, by simp, HSS.out.2.1, HSS.out.2.2.1, HSS.out.2.2.2, Lib.hid ⟨HSS.out.1, HNZ.out.1, HNZ.out.2⟩⟩
          · have hnk3 : ¬ (n : Int) < (ks.length : Int) := by omega
            have HSS := Lib.hid (HST.out ⟨out ++ List.replicate pb.length 0, fin, n + 1⟩ (by unfold leftStep; rw [if_neg hca, if_neg (fun h => h.1 rfl), if_neg (by rw [List.getElem?_eq_none (show ks.length ≤ n by omega)]; simp)]))
            clear HRA HPK
            go_wp2_with (at_builtin; refine Lib.wpList_append_run _ rfl _ _ _ _ rfl _ _ rfl rfl _ _ HRZ.out ?_)
            go_roundg (qs.length - (k + 1))
            case measure => rw [HG.out]; omega
            case rel => exact ⟨k + 1, ⟨za, out.length + pb.length, zc⟩, ⟨out ++ List.replicate pb.length 0, fin, n + 1⟩, rfl, by omega, rfl, by simp, by simp, by simp, HSS.out.2.1, HSS.out.2.2.1, HSS.out.2.2.2, Lib.hid ⟨HSS.out.1, HNZ.out.1, HNZ.out.2⟩⟩
        · by_cases hsa : psf ≤ at_
          · have htr : True := trivial
            have HSS := Lib.hid (HST.out ⟨out ++ pb, (out ++ pb).length, n⟩ (by unfold leftStep; rw [if_neg hca, if_pos ⟨hs0, hsa⟩]))
            clear HRZ HPK
            go_wp2_with (at_builtin; refine Lib.wpList_append_run _ rfl _ _ _ _ rfl _ _ rfl rfl _ _ HRA.out ?_)
            go_roundg (qs.length - (k + 1))
            case measure => rw [HG.out]; omega
            case rel => exact ⟨k + 1, ⟨aa, out.length + pb.length, ac⟩, ⟨out ++ pb, (out ++ pb).length, n⟩, rfl, by omega, rfl, by simp, by simp, by simp, HSS.out.2.1, HSS.out.2.2.1, HSS.out.2.2.2, Lib.hid ⟨HSS.out.1, HNA.out.1, HNA.out.2⟩⟩
          · have htr : True := trivial
            by_cases hnk2 : n < ks.length
            · obtain ⟨kb, hkb⟩ : ∃ kb, ks[n]? = some kb := ⟨_, List.getElem?_eq_getElem hnk2⟩
              obtain ⟨bk, ok2, ek, hkc2⟩ := HKK.out (by intro e; rw [e] at hkb; simp at hkb)
              subst ek
              have kk0 := keepB HU.out (hkc2 n kb hkb 0 _ rfl)
              simp only [Nat.add_zero, Nat.mul_one] at kk0
              have hbkl := cell_lt kk0
              have hnk3 : (n : Int) < (ks.length : Int) := by omega
              clear hkc2
              cases kb with
              | true =>
                have HSS := Lib.hid (HST.out ⟨out ++ pb, out.length + pk, n + 1⟩ (by unfold leftStep; rw [if_neg hca, if_neg (fun h => hsa h.2), if_pos hkb]; rw [HPE.out]))
                clear HRZ
                go_wp2_with fail
                refine (HPK.out _).mono ?_
                rintro e w4 ⟨rfl, e4⟩
                have e4' := e4.symm
                subst e4'
                rw [HPE.out]
                go_wp2_with (at_builtin; refine Lib.wpList_append_run _ rfl _ _ _ _ rfl _ _ rfl rfl _ _ HRA.out ?_)
                go_roundg (qs.length - (k + 1))
                case measure => rw [HG.out]; omega
                case rel => exact ⟨k + 1, ⟨aa, out.length + pb.length, ac⟩, ⟨out ++ pb, out.length + pk, n + 1⟩, rfl, by omega, rfl, by simp, by simp, by simp, HSS.out.2.1, HSS.out.2.2.1, HSS.out.2.2.2, Lib.hid ⟨HSS.out.1, HNA.out.1, HNA.out.2⟩⟩
              | false =>
                have HSS := Lib.hid (HST.out ⟨out ++ List.replicate pb.length 0, fin, n + 1⟩ (by unfold leftStep; rw [if_neg hca, if_neg (fun h => hsa h.2), if_neg (by rw [hkb]; simp)]))
                clear HRA HPK
                go_wp2_with (at_builtin; refine Lib.wpList_append_run _ rfl _ _ _ _ rfl _ _ rfl rfl _ _ HRZ.out ?_)
                go_roundg (qs.length - (k + 1))
                case measure => rw [HG.out]; omega
                case rel => exact ⟨k + 1, ⟨za, out.length + pb.length, zc⟩, ⟨out ++ List.replicate pb.length 0, fin, n + 1⟩, rfl, by omega, rfl, by simp, by simp, by simp, HSS.out.2.1, HSS.out.2.2.1, HSS.out.2.2.2, Lib.hid ⟨HSS.out.1, HNZ.out.1, HNZ.out.2⟩⟩
            · have hnk3 : ¬ (n : Int) < (ks.length : Int) := by omega
              have HSS := Lib.hid (HST.out ⟨out ++ List.replicate pb.length 0, fin, n + 1⟩ (by unfold leftStep; rw [if_neg hca, if_neg (fun h => hsa h.2), if_neg (by rw [List.getElem?_eq_none (show ks.length ≤ n by omega)]; simp)]))
              clear HRA HPK
              go_wp2_with (at_builtin; refine Lib.wpList_append_run _ rfl _ _ _ _ rfl _ _ rfl rfl _ _ HRZ.out ?_)
              go_roundg (qs.length - (k + 1))
              case measure => rw [HG.out]; omega
              case rel => exact ⟨k + 1, ⟨za, out.length + pb.length, zc⟩, ⟨out ++ List.replicate pb.length 0, fin, n + 1⟩, rfl, by omega, rfl, by simp, by simp, by simp, HSS.out.2.1, HSS.out.2.2.1, HSS.out.2.2.2, Lib.hid ⟨HSS.out.1, HNZ.out.1, HNZ.out.2⟩⟩
    · obtain rfl : k = qs.length := by omega
      have hS := hU.out.1
      rw [HQL.out, List.take_length] at hS
      have hN : Hid (LeftPost w at_ ks torn ps (.returned (.slice sa fin sc)) wr) := Lib.hid ⟨_, rfl, by unfold leftA; rw [← hS]; exact hU.out.2.1.takeN fin hfo, hU.out.2.2⟩
      obtain ⟨_, _, e9, hsc, hsm, _⟩ := hU.out.2.1.slice u8c_len
      simp only [Value.slice.injEq] at e9
      obtain ⟨rfl, _, rfl⟩ := e9
      unfold maxLen at hsm
      have hfo2 : (fin : Int) ≤ (out.length : Int) := by omega
      have hfo3 : (fin : Int) ≤ (sc : Int) := by omega
      clear hU hS
      go_wp2
      go_ret
      exact hN.out

end Go.Proofs.Ytmlaojfhmaamcaa
