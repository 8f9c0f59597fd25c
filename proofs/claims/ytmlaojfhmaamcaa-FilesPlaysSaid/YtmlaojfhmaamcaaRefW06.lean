/- Contracts of the document's held, SyncNames, Sync, Remove, Rename. -/
import Derived.Test.YtmlaojfhmaamcaaRefN06
namespace Go.Proofs.Ytmlaojfhmaamcaa
open Go.RowKit Go.Deep
set_option linter.unusedSimpArgs false
set_option linter.unusedVariables false

theorem info_step : (Try.prog.info? 83).map (fun i => (i.zero, i.size, i.bytes)) = some (some (.agg #[.int .i64 0, .int .i64 0, .string ⟨#[]⟩, .slice none 0 0]), 4, 56) := by kernel_rfl
theorem stp_alloc (W : World) (x : Stp) : ∀ j u, (Stp.cells x)[j]? = some u → (W.alloc (.cells #[.int .i64 x.kind, .int .i64 x.file, .string x.name, .slice x.s.a x.s.n x.s.cap] 83)).cell? ⟨W.heap.size, j, none⟩ = some u := by
  intro j u hj
  rw [World.cell?_alloc_at _ _ _ _ rfl, ← hj, Stp.cells]
  simp

/-- The bytes of some steps' appends to a file. -/
def heldR (L : List StepA) (f : Int) : List UInt8 := (L.filter fun p => decide (p.kind = 2) && decide (p.file = f)).flatMap (·.bs)
theorem heldR_snoc {L : List StepA} {k : Nat} {p : StepA} (f : Int) (h : L[k]? = some p) : heldR (L.take (k + 1)) f = heldR (L.take k) f ++ if p.kind = 2 ∧ p.file = f then p.bs else [] := by
  unfold heldR
  rw [List.take_add_one, h, Option.toList_some, List.filter_append, List.flatMap_append]
  by_cases e1 : p.kind = 2 <;> by_cases e2 : p.file = f <;> simp [e1, e2]
theorem heldR_take (L : List StepA) (f : Int) (k : Nat) : (heldR (L.take k) f).length ≤ (heldR L f).length := by
  conv => rhs; rw [← List.take_append_drop k L]
  unfold heldR
  rw [List.filter_append, List.flatMap_append, List.length_append]
  omega

set_option maxRecDepth 20000 in
set_option maxHeartbeats 4000000 in
theorem held_any {base : Nat} {w : World} {rb : Nat} {v : Value} {R : RefA} (h : RefIs base w rb v R) (f : Int) (hl : R.L.length ≤ 1000000) (hsz : (heldR R.L f).length ≤ 70368744177664) :
    Calls Try.prog 51 #[.pointer (some ⟨rb, 0, none⟩), .int .i64 f] w fun e w' => ∃ v', e = .returned v' ∧ Own u8c 1 5 w.heap.size w' v' (heldR R.L f) ∧ Below w.heap.size w w' := by
  obtain ⟨i0, hi, hz0, hz1, hz2⟩ := info_parts info_u8
  obtain ⟨qs, hqo, hql, hqp⟩ := h.steps
  obtain ⟨a, cap, rfl, hcap, hmax, hcs⟩ := hqo.slice Stp.len
  unfold maxLen at hmax
  have r0 := Joins.cell_of_block h.blk 0
  simp only [List.getElem?_toArray, List.getElem?_cons_succ, List.getElem?_cons_zero] at r0
  have HQP := Lib.hid hqp
  have HCS := Lib.hid hcs
  have hlq : qs.length ≤ 1000000 := by omega
  have HQL := Lib.hid hql
  have HSZ := Lib.hid hsz
  clear hqo hqp hcs hql hl h hsz
  go_enter Try.func51, Try.ntmps51
  go_wp2_with fail
  go_loopg [5, 6] qs.length (fun g vv iv wr => ∃ (k : Nat) (s : Sl), g = qs.length - k ∧ k ≤ qs.length ∧ vv = .slice s.a s.n s.cap ∧ iv = .int .i64 k ∧ Hid (Own u8c 1 5 w.heap.size wr (.slice s.a s.n s.cap) (heldR (R.L.take k) f) ∧ Below w.heap.size w wr))
  case atStart => exact ⟨0, ⟨none, 0, 0⟩, by omega, by omega, rfl, rfl, Lib.hid ⟨by simp only [List.take_zero]; exact Own.nil, Below.refl _ _⟩⟩
  case round =>
    obtain ⟨k, ⟨sa, sn, sc⟩, hg, hk, rfl, rfl, hU⟩ := hrel
    dsimp only at hU ⊢
    have HGG := Lib.hid hg
    clear hg
    have r0' := keepB hU.out.2 r0
    by_cases hkl : k < qs.length
    · obtain ⟨q, hq⟩ : ∃ q, qs[k]? = some q := ⟨_, List.getElem?_eq_getElem hkl⟩
      obtain ⟨p, hp⟩ : ∃ p, R.L[k]? = some p := ⟨_, List.getElem?_eq_getElem (by rw [← HQL.out]; exact hkl)⟩
      obtain ⟨b, o, e2, hcc⟩ := HCS.out (by intro e; rw [e] at hq; simp at hq)
      subst e2
      have q0 := keepB hU.out.2 (hcc k q hq 0 _ rfl)
      have q1 := keepB hU.out.2 (hcc k q hq 1 _ rfl)
      have q3 := keepB hU.out.2 (hcc k q hq 3 _ rfl)
      simp only [Nat.add_zero] at q0
      obtain ⟨p1, p2, p3, p4⟩ := HQP.out k q p hq hp
      have hkk : (k : Int) < (qs.length : Int) := by omega
      have hsn := heldR_snoc f hp
      have hle := heldR_take R.L f (k + 1)
      have hsz := HSZ.out
      by_cases hkd : q.kind = 2
      · by_cases hfl : q.file = f
        · rw [if_pos ⟨p1 ▸ hkd, p2 ▸ hfl⟩] at hsn
          rw [hsn, List.length_append] at hle
          have hsl := (p4.slice u8c_len).below hU.out.2
          obtain ⟨v', w', hr, hown, hx'⟩ := append_structs (P := Try.prog) 23 23 i0 _ 1 Try.underlying23 hi hz0 hz1 hz2 rfl (by omega) u8c_len u8c_one hU.out.1 hsl (by unfold maxLen; omega) (by omega) hU.out.2.size
          rw [← hsn] at hown
          have hB := Ext.new hU.out.2 hx' (fun i hi _ e => by have := (hU.out.1.blk i e).1; omega) hU.out.2.size
          obtain ⟨s', hs'⟩ := hown.sl
          subst hs'
          change (Builtin.append_ _ _ _).run _ _ = .ok (.slice s'.a s'.n s'.cap) w' at hr
          have HR := Lib.hid hr
          have HN := Lib.hid (And.intro hown hB)
          obtain ⟨kd, fl, nm, ⟨ta, tn, tc⟩⟩ := q
          dsimp only at hkd hfl q0 q1 q3
          subst hkd hfl
          clear hU hq hp hcc p1 p2 p3 p4 hsn hle hsz hsl hr hown hx' hB
          go_wp2_with (at_builtin; refine wpList_append_run rfl _ _ _ rfl rfl rfl HR.out ?_)
          go_roundg (qs.length - (k + 1))
          case measure => rw [HGG.out]; omega
          case rel => exact ⟨k + 1, s', rfl, by omega, rfl, by simp, HN⟩
        · rw [if_neg (fun h => hfl (p2.trans h.2)), List.append_nil] at hsn
          have HN : Hid (Own u8c 1 5 w.heap.size wr (.slice sa sn sc) (heldR (R.L.take (k + 1)) f) ∧ Below w.heap.size w wr) := Lib.hid (by rw [hsn]; exact hU.out)
          rw [hkd] at q0
          have e9 : (q.file == f) = false := by simpa using hfl
          clear hU hq hp hcc p1 p2 p3 p4 hsn hle hsz hkd
          go_wp2_with fail
          go_roundg (qs.length - (k + 1))
          case measure => rw [HGG.out]; omega
          case rel => exact ⟨k + 1, ⟨sa, sn, sc⟩, rfl, by omega, rfl, by simp, HN⟩
      · rw [if_neg (fun h => hkd (p1.trans h.1)), List.append_nil] at hsn
        have HN : Hid (Own u8c 1 5 w.heap.size wr (.slice sa sn sc) (heldR (R.L.take (k + 1)) f) ∧ Below w.heap.size w wr) := Lib.hid (by rw [hsn]; exact hU.out)
        have e9 : (q.kind == 2) = false := by simpa using hkd
        clear hU hq hp hcc p1 p2 p3 p4 hsn hle hsz
        go_wp2_with fail
        go_roundg (qs.length - (k + 1))
        case measure => rw [HGG.out]; omega
        case rel => exact ⟨k + 1, ⟨sa, sn, sc⟩, rfl, by omega, rfl, by simp, HN⟩
    · obtain rfl : k = qs.length := by omega
      have hown := hU.out.1
      rw [HQL.out, List.take_length] at hown
      have HN := Lib.hid hown
      clear hown
      go_wp2
      go_ret
      exact ⟨_, rfl, HN.out, hU.out.2⟩

/-- A step more. -/
def pushR (p : StepA) (R : RefA) : RefA := { R with L := R.L ++ [p] }

theorem push_fin {base : Nat} {w w3 w6 w9 : World} {rb : Nat} {va : Option Addr} {vcap : Nat} {v6 : Value} {R R' : RefA} {qs : List Stp} {q : Stp} {p : StepA} {o : Obj} (h : RefIs base w rb (.slice va qs.length vcap) R) (hb : Below w.heap.size w w3)
    (hql : qs.length = R.L.length) (hqp : ∀ (i : Nat) q p, qs[i]? = some q → R.L[i]? = some p → StpIs base w q p) (hq : StpIs base w3 q p) (hx6 : Ext (fun b => (Value.slice va qs.length vcap).ownBlock = some b) (w3.alloc o) w6)
    (hown6 : Own Stp.cells 4 83 base w6 v6 (qs ++ [q])) (hnw6 : ∀ b, v6.ownBlock = some b → (Value.slice va qs.length vcap).ownBlock = some b ∨ w3.heap.size ≤ b)
    (hx9 : Ext (· = rb) w6 w9) (hb9 : w9.heap[rb]? = some (.cells #[v6, .int .i64 R'.born, .int .i64 R'.bse] 35 (0, 0))) (hb6 : tagOf w6 rb = some 35) (hR : R'.L = R.L ++ [p]) : RTurned base w rb (.slice va qs.length vcap) w9 v6 R' := by
  have hx39 : Ext (RFoot rb (.slice va qs.length vcap)) w3 w9 := (((Ext.refl _ w3).alloc o).andThen hx6 (fun b _ hb => .inr hb)).andThen hx9 (fun b _ hb => .inl hb)
  have hxa : Ext (RFoot rb (.slice va qs.length vcap)) w w9 := (Ext.of_below hb).andThen hx39 (fun b _ hb => hb)
  have hk : ∀ {w' : World}, RefIs base w' rb (.slice va qs.length vcap) R → ∀ b, base ≤ b → tagOf w' b = some 5 → ¬ RFoot rb (.slice va qs.length vcap) b := fun hh b _ ht e => by
    rcases (hh.foot e).2.2 with e2 | e2
    · exact tag_ne ht e2 (by decide) rfl
    · exact tag_ne ht e2 (by decide) rfl
  refine ⟨⟨hb9, h.lo, ?_⟩, hxa, fun b hb' => ?_⟩
  · rw [hR]
    refine ⟨qs ++ [q], hown6.ext hx9 (fun b hb e => tag_ne (tag_own hown6 hb) hb6 (by decide) e), by simp [hql], fun i q' p' hq' hp' => ?_⟩
    by_cases hi : i < qs.length
    · rw [List.getElem?_append_left hi] at hq'
      rw [List.getElem?_append_left (by omega)] at hp'
      exact (hqp i q' p' hq' hp').ext hxa (hk h)
    · have hi2 : i = qs.length := by
        have := (List.getElem?_eq_some_iff.1 hq').1
        simp at this
        omega
      subst hi2
      simp at hq'
      rw [hql] at hp'
      simp at hp'
      subst hq' hp'
      exact hq.ext hx39 (hk (h.below hb))
  · rcases hnw6 b hb' with e | e
    · exact .inl (.inr e)
    · exact .inr (Nat.le_trans hb.size e)

/-- What the document's calls do at most. -/
structure RefA.Small (R : RefA) (n : Nat) : Prop where
  len : R.L.length ≤ n
  born0 : 0 ≤ R.born
  born : R.born ≤ n

set_option maxRecDepth 20000 in
set_option maxHeartbeats 4000000 in
theorem rsynNames_any {base : Nat} {w : World} {rb : Nat} {v : Value} {R : RefA} (h : RefIs base w rb v R) (hbw : base ≤ w.heap.size) {N : Nat} (hs : R.Small N) (hN : N ≤ 100000) :
    Calls Try.prog 30 #[.pointer (some ⟨rb, 0, none⟩)] w fun e w' => ∃ v', e = .returned (.int .i64 0) ∧ RTurned base w rb v w' v' (pushR ⟨6, 0, ⟨#[]⟩, []⟩ R) := by
  obtain ⟨i0, hi, hz0, hz1, hz2⟩ := info_parts info_step
  obtain ⟨qs, hqo, hql, hqp⟩ := h.steps
  obtain ⟨a, cap, rfl, hcap, hmax, hcs⟩ := hqo.slice Stp.len
  unfold maxLen at hmax
  have r0 := Joins.cell_of_block h.blk 0
  simp only [List.getElem?_toArray, List.getElem?_cons_succ, List.getElem?_cons_zero] at r0
  have hlq : qs.length ≤ 100000 := by have := hs.len; omega
  have hown := hqo.alloc (.cells #[.int .i64 6, .int .i64 0, .string ⟨#[]⟩, .slice none 0 0] 83)
  have hnr : ¬ (Value.slice a qs.length cap).ownBlock = some rb := fun e => tag_ne (tag_own hqo e) h.tag (by decide) rfl
  have hlt := h.lt
  have hall : ∀ w6, Ext (fun b => (Value.slice a qs.length cap).ownBlock = some b) (w.alloc (.cells #[.int .i64 6, .int .i64 0, .string ⟨#[]⟩, .slice none 0 0] 83)) w6 → w6.heap[rb]? = some (.cells #[.slice a qs.length cap, .int .i64 R.born, .int .i64 R.bse] 35 (0, 0)) := (fun w6 hx6 => by
    rw [hx6.block rb (by simp; omega) hnr, Below.heap_alloc _ _ _ hlt, h.blk])
  have HOW := Lib.hid hown
  have HALL := Lib.hid hall
  have HH := Lib.hid h
  have HQP := Lib.hid hqp
  have HQL := Lib.hid hql
  clear hqo hqp hcs hql h hown hnr hall hs
  go_enter Try.func30, Try.ntmps30
  go_wp2_with (at_builtin; refine wpList_append_struct2 rfl _ _ _ rfl i0 _ 56 Try.underlying33 hi hz0 hz1 hz2 rfl (by omega) Stp.len Stp.one rfl HOW.out ⟨6, 0, ⟨#[]⟩, ⟨none, 0, 0⟩⟩ w.heap.size 1 rfl (stp_alloc _ ⟨6, 0, ⟨#[]⟩, ⟨none, 0, 0⟩⟩) (by unfold maxLen; omega) (by omega) (by simp; omega) ?_)
  intro v' w6 hown6 hx6 hnw6
  have hb6 := HALL.out w6 hx6
  have g1 := Joins.unfrozen_of_block hb6 0
  have g2 := Joins.cell_of_block hb6 0
  obtain ⟨s6, e6⟩ := hown6.sl
  change v' = .slice s6.a s6.n s6.cap at e6
  subst e6
  have hT : RTurned base w rb (.slice a qs.length cap) (w6.setCell ⟨rb, 0, none⟩ (.slice s6.a s6.n s6.cap)) (.slice s6.a s6.n s6.cap) (pushR ⟨6, 0, ⟨#[]⟩, []⟩ R) :=
    push_fin HH.out (Below.refl _ _) HQL.out HQP.out (q := ⟨6, 0, ⟨#[]⟩, ⟨none, 0, 0⟩⟩) ⟨rfl, rfl, rfl, Own.nil⟩ hx6 hown6 (fun b hb => (hnw6 b hb).imp_right (fun e => by first | omega | (simp at e; omega))) (ext_set _ _ _ _) (by rw [Joins.block_setCell hb6]; rfl) (tag_cells hb6) rfl
  have HT := Lib.hid hT
  clear hown6 hx6 hnw6 hb6 hT
  go_wp2
  go_ret
  exact ⟨_, rfl, HT.out⟩

end Go.Proofs.Ytmlaojfhmaamcaa
