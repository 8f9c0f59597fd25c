/- Layer 6's document answer: contracts of Read, Pending, Changes, pick. -/
import Derived.Test.YtmlaojfhmaamcaaRefX06
import Derived.Test.YtmlaojfhmaamcaaSim06
import Derived.Test.YtmlaojfhmaamcaaPick06
namespace Go.Proofs.Ytmlaojfhmaamcaa
open Go.RowKit Go.Deep
set_option linter.unusedSimpArgs false
set_option linter.unusedVariables false

theorem pendR_take {L : List StepA} {k : Nat} {p : StepA} (f : Int) (h : L[k]? = some p) : pendR (L.take (k + 1)) f = pendStep f (pendR (L.take k) f) p := by
  rw [List.take_add_one, h, Option.toList_some, pendR_snoc]
theorem pendR_le (f : Int) : ∀ L, pendR L f ≤ L.length := by
  refine snoc_ind (by simp [pendR]) (fun L s ih => ?_)
  rw [pendR_snoc, List.length_append]
  unfold pendStep
  split
  · omega
  · split <;> simp <;> omega

/-- What the document's Read answers. -/
def RReadPost (w : World) (R : RefA) (name : ByteArray) (e : Ending) (w' : World) : Prop :=
  ∃ v, e = .returned (.tuple #[v, .int .i64 (if findR (nowR R.L) name < 0 then 61 else 0)]) ∧ Own u8c 1 5 w.heap.size w' v (if findR (nowR R.L) name < 0 then [] else heldR R.L (findR (nowR R.L) name)) ∧ Below w.heap.size w w'

set_option maxRecDepth 20000 in
set_option maxHeartbeats 4000000 in
theorem rread_any {base : Nat} {w : World} {rb : Nat} {v : Value} {R : RefA} (h : RefIs base w rb v R) (name : ByteArray) {N : Nat} (hs : R.Small N) (hN : N ≤ 100000) (hhl : ∀ f, (heldR R.L f).length ≤ 1048576) :
    Calls Try.prog 43 #[.pointer (some ⟨rb, 0, none⟩), .string name] w fun e w' => RReadPost w R name e w' := by
  obtain ⟨qs, hqo, hql, hqp⟩ := h.steps
  obtain ⟨a, cap, rfl, hcap, hmax, hcs⟩ := hqo.slice Stp.len
  unfold maxLen at hmax
  have r0 := Joins.cell_of_block h.blk 0
  simp only [List.getElem?_toArray, List.getElem?_cons_succ, List.getElem?_cons_zero] at r0
  have hlt := h.lt
  have HH := Lib.hid h
  have hll : R.L.length ≤ 1000000 := by have := hs.len; omega
  have HLL := Lib.hid hll
  have hstp := h.steps
  have HNOW := Lib.hid (now_any hstp hll)
  have HHL := Lib.hid hhl
  clear hqo hqp hcs hql h hll hstp hhl
  go_enter Try.func43, Try.ntmps43
  go_wp2_with fail
  refine HNOW.out.mono ?_
  rintro e w1 ⟨v1, rfl, hsl, b1⟩
  obtain ⟨a1, c1, e1, _⟩ := id hsl
  subst e1
  have HSL := Lib.hid hsl
  have HB1 := Lib.hid b1
  clear hsl b1
  go_wp2_with fail
  refine (rfind_any HSL.out name).mono ?_
  rintro e w2 ⟨rfl, rfl⟩
  have HEND : ∀ e w', (∃ v, e = .returned (.tuple #[v, .int .i64 (if findR (nowR R.L) name < 0 then 61 else 0)]) ∧ Own u8c 1 5 w2.heap.size w' v (if findR (nowR R.L) name < 0 then [] else heldR R.L (findR (nowR R.L) name)) ∧ Below w2.heap.size w2 w') → RReadPost w R name e w' := fun e w' hq => by
    obtain ⟨v, h1, h2, h3⟩ := hq
    exact ⟨v, h1, h2.mono HB1.out.size, HB1.out.trans (h3.mono HB1.out.size)⟩
  have HEND := Lib.hid HEND
  obtain ⟨f, hfe⟩ : ∃ f, findR (nowR R.L) name = f := ⟨_, rfl⟩
  rw [hfe] at HEND ⊢
  have HHD := Lib.hid (held_any (HH.out.below HB1.out) f HLL.out (by have := HHL.out f; omega))
  by_cases hf : f < 0
  · go_wp2
    refine bodyPost_ret (results_tmp2 rfl _ _ _) rfl ?_
    exact HEND.out _ _ ⟨_, by rw [if_pos hf]; rfl, by rw [if_pos hf]; exact Own.nil, Below.refl _ _⟩
  · go_wp2_with fail
    refine HHD.out.mono ?_
    rintro e w3 ⟨v3, rfl, hown, b3⟩
    have HN := Lib.hid (And.intro hown b3)
    clear hown b3
    go_wp2
    refine bodyPost_ret (results_tmp2 rfl _ _ _) rfl ?_
    exact HEND.out _ _ ⟨_, by rw [if_neg (Int.not_lt.2 hf)]; rfl, by rw [if_neg (Int.not_lt.2 hf)]; exact HN.out.1, HN.out.2⟩

set_option maxRecDepth 20000 in
set_option maxHeartbeats 4000000 in
theorem rchanges_any {base : Nat} {w : World} {rb : Nat} {v : Value} {R : RefA} (h : RefIs base w rb v R) {N : Nat} (hs : R.Small N) (hN : N ≤ 100000) (hb0 : 0 ≤ R.bse) (hb : R.bse ≤ R.L.length) :
    Calls Try.prog 42 #[.pointer (some ⟨rb, 0, none⟩)] w fun e w' => e = .returned (.int .i64 (R.L.length - R.bse)) ∧ Below w.heap.size w w' := by
  obtain ⟨qs, hqo, hql, hqp⟩ := h.steps
  obtain ⟨a, cap, rfl, hcap, hmax, hcs⟩ := hqo.slice Stp.len
  unfold maxLen at hmax
  have r0 := Joins.cell_of_block h.blk 0
  have r2 := Joins.cell_of_block h.blk 2
  simp only [List.getElem?_toArray, List.getElem?_cons_succ, List.getElem?_cons_zero] at r0 r2
  have hlt := h.lt
  have hll := hs.len
  have HQL := Lib.hid hql
  clear hqo hqp hcs h
  rw [hql] at r0
  go_enter Try.func42, Try.ntmps42
  go_wp2_with fail
  go_quiet (fail)
  go_wp2
  go_ret
  exact ⟨rfl, below_drewN (Below.refl _ _) _⟩

set_option maxRecDepth 20000 in
set_option maxHeartbeats 4000000 in
theorem rpending_any {base : Nat} {w : World} {rb : Nat} {v : Value} {R : RefA} (h : RefIs base w rb v R) (name : ByteArray) {N : Nat} (hs : R.Small N) (hN : N ≤ 100000) (hf0 : 0 ≤ findR (nowR R.L) name) :
    Calls Try.prog 44 #[.pointer (some ⟨rb, 0, none⟩), .string name] w fun e w' => e = .returned (.int .i64 (pendR R.L (findR (nowR R.L) name))) ∧ Below w.heap.size w w' := by
  obtain ⟨qs, hqo, hql, hqp⟩ := h.steps
  obtain ⟨a, cap, rfl, hcap, hmax, hcs⟩ := hqo.slice Stp.len
  unfold maxLen at hmax
  have r0 := Joins.cell_of_block h.blk 0
  simp only [List.getElem?_toArray, List.getElem?_cons_succ, List.getElem?_cons_zero] at r0
  have hlt := h.lt
  have hlq : qs.length ≤ 100000 := by have := hs.len; omega
  have hll : R.L.length ≤ 1000000 := by have := hs.len; omega
  have hstp := h.steps
  have HNOW := Lib.hid (now_any hstp hll)
  have HQP := Lib.hid hqp
  have HQL := Lib.hid hql
  have HCS := Lib.hid hcs
  clear hqo hqp hcs hql h hll hstp
  go_enter Try.func44, Try.ntmps44
  go_wp2_with fail
  refine HNOW.out.mono ?_
  rintro e w1 ⟨v1, rfl, hsl, b1⟩
  obtain ⟨a1, c1, e1, _⟩ := id hsl
  subst e1
  have HSL := Lib.hid hsl
  have HB1 := Lib.hid b1
  clear hsl b1
  go_wp2_with fail
  refine (rfind_any HSL.out name).mono ?_
  rintro e w2 ⟨rfl, rfl⟩
  obtain ⟨f, hfe⟩ : ∃ f, findR (nowR R.L) name = f := ⟨_, rfl⟩
  rw [hfe] at hf0 ⊢
  have r1 := keepB HB1.out r0
  go_wp2_with fail
  go_loopg [6, 7] qs.length (fun g nv iv wr => ∃ (k : Nat), g = qs.length - k ∧ k ≤ qs.length ∧ nv = .int .i64 (pendR (R.L.take k) f) ∧ iv = .int .i64 k ∧ Hid (Below w2.heap.size w2 wr))
  case atStart => exact ⟨0, by omega, by omega, by simp [pendR], rfl, Lib.hid (Below.refl _ _)⟩
  case round =>
    obtain ⟨k, hg, hk, rfl, rfl, hU⟩ := hrel
    have HGG := Lib.hid hg
    clear hg
    have hple := pendR_le f (R.L.take k)
    rw [List.length_take] at hple
    have hpk : pendR (R.L.take k) f ≤ k := by omega
    obtain ⟨pn, hpn⟩ : ∃ pn, pendR (R.L.take k) f = pn := ⟨_, rfl⟩
    rw [hpn] at hpk ⊢
    clear hple
    have r2 := keepB hU.out r1
    by_cases hkl : k < qs.length
    · obtain ⟨q, hq⟩ : ∃ q, qs[k]? = some q := ⟨_, List.getElem?_eq_getElem hkl⟩
      obtain ⟨p, hp⟩ : ∃ p, R.L[k]? = some p := ⟨_, List.getElem?_eq_getElem (by rw [← HQL.out]; exact hkl)⟩
      obtain ⟨b, o, e2, hcc⟩ := HCS.out (by intro e; rw [e] at hq; simp at hq)
      subst e2
      have q0 := keepB hU.out (keepB HB1.out (hcc k q hq 0 _ rfl))
      have q1 := keepB hU.out (keepB HB1.out (hcc k q hq 1 _ rfl))
      simp only [Nat.add_zero] at q0
      obtain ⟨p1, p2, _, _⟩ := HQP.out k q p hq hp
      have hkk : (k : Int) < (qs.length : Int) := by omega
      have hsn := pendR_take f hp
      rw [hpn] at hsn
      unfold pendStep at hsn
      have HSN := Lib.hid hsn
      have HP1 := Lib.hid p1
      have HP2 := Lib.hid p2
      obtain ⟨kd, fl, nm, ⟨ta, tn, tc⟩⟩ := q
      dsimp only at q0 q1 HP1 HP2
      clear hq hp hcc hsn p1 p2 hpn
      by_cases e1 : fl = f
      · subst e1
        by_cases e2 : kd = 2
        · subst e2
          have HE : Hid (pendR (R.L.take (k + 1)) fl = pn + 1) := Lib.hid (by rw [HSN.out, if_neg (fun h => by have := HP1.out; omega), if_pos ⟨HP2.out.symm, HP1.out.symm⟩])
          go_wp2
          go_roundg (qs.length - (k + 1))
          case measure => rw [HGG.out]; omega
          case rel => exact ⟨k + 1, rfl, by omega, by rw [HE.out]; simp, by simp, Lib.hid (by repeat (first | exact hU.out | refine below_drewN ?_ _))⟩
        · by_cases e3 : kd = 5
          · subst e3
            have HE : Hid (pendR (R.L.take (k + 1)) fl = 0) := Lib.hid (by rw [HSN.out, if_pos ⟨HP2.out.symm, HP1.out.symm⟩])
            go_wp2
            go_roundg (qs.length - (k + 1))
            case measure => rw [HGG.out]; omega
            case rel => exact ⟨k + 1, rfl, by omega, by rw [HE.out]; simp, by simp, Lib.hid (by repeat (first | exact hU.out | refine below_drewN ?_ _))⟩
          · have e22 : (kd == 2) = false := by simpa using e2
            have e33 : (kd == 5) = false := by simpa using e3
            have HE : Hid (pendR (R.L.take (k + 1)) fl = pn) := Lib.hid (by rw [HSN.out, if_neg (fun h => e3 (HP1.out.trans h.2)), if_neg (fun h => e2 (HP1.out.trans h.2))])
            go_wp2
            go_roundg (qs.length - (k + 1))
            case measure => rw [HGG.out]; omega
            case rel => exact ⟨k + 1, rfl, by omega, by rw [HE.out], by simp, Lib.hid (by repeat (first | exact hU.out | refine below_drewN ?_ _))⟩
      · have e11 : (fl == f) = false := by simpa using e1
        have HE : Hid (pendR (R.L.take (k + 1)) f = pn) := Lib.hid (by rw [HSN.out, if_neg (fun h => e1 (HP2.out.trans h.1)), if_neg (fun h => e1 (HP2.out.trans h.1))])
        go_wp2
        go_roundg (qs.length - (k + 1))
        case measure => rw [HGG.out]; omega
        case rel => exact ⟨k + 1, rfl, by omega, by rw [HE.out], by simp, Lib.hid (by repeat (first | exact hU.out | refine below_drewN ?_ _))⟩
    · obtain rfl : k = qs.length := by omega
      have HE : Hid (pn = pendR R.L f) := Lib.hid (by rw [← hpn, HQL.out, List.take_length])
      clear hpn
      have hkk : ¬ ((qs.length : Nat) : Int) < (qs.length : Int) := by omega
      go_wp2
      go_ret
      exact ⟨by rw [← HE.out]; rfl, HB1.out.trans (hU.out.mono HB1.out.size)⟩

end Go.Proofs.Ytmlaojfhmaamcaa
