/- Contracts of the document's Sync, Remove, Rename, Make, Append. -/
import Derived.Test.YtmlaojfhmaamcaaRefW06
namespace Go.Proofs.Ytmlaojfhmaamcaa
open Go.RowKit Go.Deep
set_option linter.unusedSimpArgs false
set_option linter.unusedVariables false

/-- What a call of the document's disk answers, and leaves. -/
def RPost (base : Nat) (w : World) (rb : Nat) (v : Value) (c : Int) (R' : RefA) (e : Ending) (w' : World) : Prop := e = .returned (.int .i64 c) ∧ ∃ v', RTurned base w rb v w' v' R'
/-- append by an equation of its run, as one step of a region that draws its order. -/
theorem step_append_run {P : Program} {ops : Array Oper} {o : Oper} {a : Act} {w : World} {K : Act → World → Prop} {Q : Exit → Act → World → Prop} {E : Prop} (hgd : o.guard = none) (s x : Operand) (t : TypeId)
    (ho : o.op = .call { callee := .builtin .append, args := #[s, x], argTypes := #[t, t] }) {v vx v' : Value} {w' : World} (hs : a.eval s = v) (hx : a.eval x = vx)
    (hr : (Builtin.append_ #[t, t] o.type #[v, vx]).run P w = .ok v' w') (h : K (a.put o.dst v') w') : if Region.wanted o (yielded ops a.tmps) = true then Oper.wp P o a w K Q else E := by
  have hw : Region.wanted o (yielded ops a.tmps) = true := by simp [Region.wanted, hgd]
  have hv : (execOp a.eval o).run P w = .ok (.value v') w' := by
    unfold execOp
    simp only [ho, resolve, invoke, builtin, Sem.run_bind, Sem.run_pure, Result.andThen_ok, List.map_toArray, List.map_cons, List.map_nil, hs, hx, hr]
  rw [if_pos hw, Oper.wp, hv]
  exact h

/-- Sync's answer and effect. -/
def rsyncCode (R : RefA) (name : ByteArray) : Int := if findR (nowR R.L) name < 0 then 61 else 0
def rsyncR (R : RefA) (name : ByteArray) : RefA := if findR (nowR R.L) name < 0 then R else pushR ⟨5, findR (nowR R.L) name, ⟨#[]⟩, []⟩ R
set_option maxRecDepth 20000 in
set_option maxHeartbeats 4000000 in
theorem rsync_any {base : Nat} {w : World} {rb : Nat} {v : Value} {R : RefA} (h : RefIs base w rb v R) (hbw : base ≤ w.heap.size) {N : Nat} (hs : R.Small N) (hN : N ≤ 100000) (name : ByteArray) :
    Calls Try.prog 25 #[.pointer (some ⟨rb, 0, none⟩), .string name] w fun e w' => RPost base w rb v (rsyncCode R name) (rsyncR R name) e w' := by
  obtain ⟨i0, hi, hz0, hz1, hz2⟩ := info_parts info_step
  obtain ⟨qs, hqo, hql, hqp⟩ := h.steps
  obtain ⟨a, cap, rfl, hcap, hmax, hcs⟩ := hqo.slice Stp.len
  unfold maxLen at hmax
  have r0 := Joins.cell_of_block h.blk 0
  simp only [List.getElem?_toArray, List.getElem?_cons_succ, List.getElem?_cons_zero] at r0
  have hlq : qs.length ≤ 100000 := by have := hs.len; omega
  have hnr : ¬ (Value.slice a qs.length cap).ownBlock = some rb := fun e => tag_ne (tag_own hqo e) h.tag (by decide) rfl
  have hlt := h.lt
  have HNR := Lib.hid hnr
  have HH := Lib.hid h
  have HQP := Lib.hid hqp
  have HQL := Lib.hid hql
  have HQO := Lib.hid hqo
  have hll : R.L.length ≤ 1000000 := by have := hs.len; omega
  have hstp := h.steps
  have hnl : (nowR R.L).length ≤ 100000 := by have := nowR_len R.L R.L.length; rw [List.take_length] at this; have := hs.len; omega
  have HNOW := Lib.hid (now_any hstp hll)
  clear hqo hqp hcs hql hnr h hll hstp
  go_enter Try.func25, Try.ntmps25
  go_wp2_with fail
  refine HNOW.out.mono ?_
  rintro e w1 ⟨v1, rfl, hsl, b1⟩
  obtain ⟨a1, c1, e1, _⟩ := id hsl
  subst e1
  have r1 := keepB b1 r0
  have HSL := Lib.hid hsl
  have HB1 := Lib.hid b1
  clear hsl b1
  go_wp2_with fail
  refine (rfind_any HSL.out name).mono ?_
  rintro e w2 ⟨rfl, rfl⟩
  obtain ⟨f, hfe⟩ : ∃ f, findR (nowR R.L) name = f := ⟨_, rfl⟩
  have HFE := Lib.hid hfe
  rw [hfe]
  clear hfe
  by_cases hf : f < 0
  · have hc : rsyncCode R name = 61 ∧ rsyncR R name = R := by unfold rsyncCode rsyncR; rw [HFE.out, if_pos hf, if_pos hf]; exact ⟨rfl, rfl⟩
    have HC := Lib.hid hc
    have HT := Lib.hid (RTurned.below HH.out HB1.out)
    clear hc
    go_wp2
    go_ret
    rw [HC.out.1, HC.out.2]
    exact ⟨rfl, _, HT.out⟩
  · have hc : rsyncCode R name = 0 ∧ rsyncR R name = pushR ⟨5, f, ⟨#[]⟩, []⟩ R := by unfold rsyncCode rsyncR; rw [HFE.out, if_neg hf, if_neg hf]; exact ⟨rfl, rfl⟩
    have HC := Lib.hid hc
    clear hc
    have hown := (HQO.out.ext (Ext.of_below (S := fun _ => False) HB1.out) (fun _ _ => id)).alloc (.cells #[.int .i64 5, .int .i64 f, .string ⟨#[]⟩, .slice none 0 0] 83)
    have hs2 := (HB1.out).size
    have hall : ∀ w6, Ext (fun b => (Value.slice a qs.length cap).ownBlock = some b) (w2.alloc (.cells #[.int .i64 5, .int .i64 f, .string ⟨#[]⟩, .slice none 0 0] 83)) w6 → w6.heap[rb]? = some (.cells #[.slice a qs.length cap, .int .i64 R.born, .int .i64 R.bse] 35 (0, 0)) := (fun w6 hx6 => by
      rw [hx6.block rb (by simp; omega) HNR.out, Below.heap_alloc _ _ _ (by omega), (HB1.out).block rb hlt, HH.out.blk])
    have HOW := Lib.hid hown
    have HALL := Lib.hid hall
    clear hown hall
    go_wp2_with (at_builtin; refine wpList_append_struct2 rfl _ _ _ rfl i0 _ 56 Try.underlying33 hi hz0 hz1 hz2 rfl (by omega) Stp.len Stp.one rfl HOW.out ⟨5, f, ⟨#[]⟩, ⟨none, 0, 0⟩⟩ w2.heap.size 1 rfl (stp_alloc _ ⟨5, f, ⟨#[]⟩, ⟨none, 0, 0⟩⟩) (by unfold maxLen; omega) (by omega) (by simp; omega) ?_)
    intro v' w6 hown6 hx6 hnw6
    have hb6 := HALL.out w6 hx6
    have g1 := Joins.unfrozen_of_block hb6 0
    have g2 := Joins.cell_of_block hb6 0
    obtain ⟨s6, e6⟩ := hown6.sl
    change v' = .slice s6.a s6.n s6.cap at e6
    subst e6
    have HT : Hid (RTurned base w rb (.slice a qs.length cap) (w6.setCell ⟨rb, 0, none⟩ (.slice s6.a s6.n s6.cap)) (.slice s6.a s6.n s6.cap) (pushR ⟨5, f, ⟨#[]⟩, []⟩ R)) := Lib.hid
      (push_fin HH.out HB1.out HQL.out HQP.out (q := ⟨5, f, ⟨#[]⟩, ⟨none, 0, 0⟩⟩) ⟨rfl, rfl, rfl, Own.nil⟩ hx6 hown6 (fun b hb => (hnw6 b hb).imp_right (fun e => by first | omega | (simp at e; omega))) (ext_set _ _ _ _) (by rw [Joins.block_setCell hb6]; rfl) (tag_cells hb6) rfl)
    clear hown6 hx6 hnw6 hb6
    go_wp2
    go_ret
    rw [HC.out.1, HC.out.2]
    exact ⟨rfl, _, HT.out⟩

/-- Remove's answer and effect. -/
def rremoveCode (R : RefA) (name : ByteArray) : Int := if findR (nowR R.L) name < 0 then 61 else 0
def rremoveR (R : RefA) (name : ByteArray) : RefA := if findR (nowR R.L) name < 0 then R else pushR ⟨4, findR (nowR R.L) name, name, []⟩ R
set_option maxRecDepth 20000 in
set_option maxHeartbeats 4000000 in
theorem rremove_any {base : Nat} {w : World} {rb : Nat} {v : Value} {R : RefA} (h : RefIs base w rb v R) (hbw : base ≤ w.heap.size) {N : Nat} (hs : R.Small N) (hN : N ≤ 100000) (name : ByteArray) :
    Calls Try.prog 29 #[.pointer (some ⟨rb, 0, none⟩), .string name] w fun e w' => RPost base w rb v (rremoveCode R name) (rremoveR R name) e w' := by
  obtain ⟨i0, hi, hz0, hz1, hz2⟩ := info_parts info_step
  obtain ⟨qs, hqo, hql, hqp⟩ := h.steps
  obtain ⟨a, cap, rfl, hcap, hmax, hcs⟩ := hqo.slice Stp.len
  unfold maxLen at hmax
  have r0 := Joins.cell_of_block h.blk 0
  simp only [List.getElem?_toArray, List.getElem?_cons_succ, List.getElem?_cons_zero] at r0
  have hlq : qs.length ≤ 100000 := by have := hs.len; omega
  have hnr : ¬ (Value.slice a qs.length cap).ownBlock = some rb := fun e => tag_ne (tag_own hqo e) h.tag (by decide) rfl
  have hlt := h.lt
  have HNR := Lib.hid hnr
  have HH := Lib.hid h
  have HQP := Lib.hid hqp
  have HQL := Lib.hid hql
  have HQO := Lib.hid hqo
  have hll : R.L.length ≤ 1000000 := by have := hs.len; omega
  have hstp := h.steps
  have hnl : (nowR R.L).length ≤ 100000 := by have := nowR_len R.L R.L.length; rw [List.take_length] at this; have := hs.len; omega
  have HNOW := Lib.hid (now_any hstp hll)
  clear hqo hqp hcs hql hnr h hll hstp
  go_enter Try.func29, Try.ntmps29
  go_wp2_with fail
  refine HNOW.out.mono ?_
  rintro e w1 ⟨v1, rfl, hsl, b1⟩
  obtain ⟨a1, c1, e1, _⟩ := id hsl
  subst e1
  have r1 := keepB b1 r0
  have HSL := Lib.hid hsl
  have HB1 := Lib.hid b1
  clear hsl b1
  go_wp2_with fail
  refine (rfind_any HSL.out name).mono ?_
  rintro e w2 ⟨rfl, rfl⟩
  obtain ⟨f, hfe⟩ : ∃ f, findR (nowR R.L) name = f := ⟨_, rfl⟩
  have HFE := Lib.hid hfe
  rw [hfe]
  clear hfe
  by_cases hf : f < 0
  · have hc : rremoveCode R name = 61 ∧ rremoveR R name = R := by unfold rremoveCode rremoveR; rw [HFE.out, if_pos hf, if_pos hf]; exact ⟨rfl, rfl⟩
    have HC := Lib.hid hc
    have HT := Lib.hid (RTurned.below HH.out HB1.out)
    clear hc
    go_wp2
    go_ret
    rw [HC.out.1, HC.out.2]
    exact ⟨rfl, _, HT.out⟩
  · have hc : rremoveCode R name = 0 ∧ rremoveR R name = pushR ⟨4, f, name, []⟩ R := by unfold rremoveCode rremoveR; rw [HFE.out, if_neg hf, if_neg hf]; exact ⟨rfl, rfl⟩
    have HC := Lib.hid hc
    clear hc
    have hown := (HQO.out.ext (Ext.of_below (S := fun _ => False) HB1.out) (fun _ _ => id)).alloc (.cells #[.int .i64 4, .int .i64 f, .string name, .slice none 0 0] 83)
    have hs2 := (HB1.out).size
    have hall : ∀ w6, Ext (fun b => (Value.slice a qs.length cap).ownBlock = some b) (w2.alloc (.cells #[.int .i64 4, .int .i64 f, .string name, .slice none 0 0] 83)) w6 → w6.heap[rb]? = some (.cells #[.slice a qs.length cap, .int .i64 R.born, .int .i64 R.bse] 35 (0, 0)) := (fun w6 hx6 => by
      rw [hx6.block rb (by simp; omega) HNR.out, Below.heap_alloc _ _ _ (by omega), (HB1.out).block rb hlt, HH.out.blk])
    have HOW := Lib.hid hown
    have HALL := Lib.hid hall
    clear hown hall
    go_wp2_with (at_builtin; refine wpList_append_struct2 rfl _ _ _ rfl i0 _ 56 Try.underlying33 hi hz0 hz1 hz2 rfl (by omega) Stp.len Stp.one rfl HOW.out ⟨4, f, name, ⟨none, 0, 0⟩⟩ w2.heap.size 1 rfl (stp_alloc _ ⟨4, f, name, ⟨none, 0, 0⟩⟩) (by unfold maxLen; omega) (by omega) (by simp; omega) ?_)
    intro v' w6 hown6 hx6 hnw6
    have hb6 := HALL.out w6 hx6
    have g1 := Joins.unfrozen_of_block hb6 0
    have g2 := Joins.cell_of_block hb6 0
    obtain ⟨s6, e6⟩ := hown6.sl
    change v' = .slice s6.a s6.n s6.cap at e6
    subst e6
    have HT : Hid (RTurned base w rb (.slice a qs.length cap) (w6.setCell ⟨rb, 0, none⟩ (.slice s6.a s6.n s6.cap)) (.slice s6.a s6.n s6.cap) (pushR ⟨4, f, name, []⟩ R)) := Lib.hid
      (push_fin HH.out HB1.out HQL.out HQP.out (q := ⟨4, f, name, ⟨none, 0, 0⟩⟩) ⟨rfl, rfl, rfl, Own.nil⟩ hx6 hown6 (fun b hb => (hnw6 b hb).imp_right (fun e => by first | omega | (simp at e; omega))) (ext_set _ _ _ _) (by rw [Joins.block_setCell hb6]; rfl) (tag_cells hb6) rfl)
    clear hown6 hx6 hnw6 hb6
    go_wp2
    go_ret
    rw [HC.out.1, HC.out.2]
    exact ⟨rfl, _, HT.out⟩

/-- Rename's answer and effect. -/
def rrenameCode (R : RefA) (old name : ByteArray) : Int := if rightN name = false then 63 else if findR (nowR R.L) old < 0 then 61 else 0
def rrenameR (R : RefA) (old name : ByteArray) : RefA := if rightN name = false then R else if findR (nowR R.L) old < 0 then R else pushR ⟨3, findR (nowR R.L) old, name, []⟩ R
set_option maxRecDepth 20000 in
set_option maxHeartbeats 4000000 in
theorem rrename_any {base : Nat} {w : World} {rb : Nat} {v : Value} {R : RefA} (h : RefIs base w rb v R) (hbw : base ≤ w.heap.size) {N : Nat} (hs : R.Small N) (hN : N ≤ 100000) (old name : ByteArray) (hns : name.size ≤ 9223372036854775807) :
    Calls Try.prog 27 #[.pointer (some ⟨rb, 0, none⟩), .string old, .string name] w fun e w' => RPost base w rb v (rrenameCode R old name) (rrenameR R old name) e w' := by
  obtain ⟨i0, hi, hz0, hz1, hz2⟩ := info_parts info_step
  obtain ⟨qs, hqo, hql, hqp⟩ := h.steps
  obtain ⟨a, cap, rfl, hcap, hmax, hcs⟩ := hqo.slice Stp.len
  unfold maxLen at hmax
  have r0 := Joins.cell_of_block h.blk 0
  simp only [List.getElem?_toArray, List.getElem?_cons_succ, List.getElem?_cons_zero] at r0
  have hlq : qs.length ≤ 100000 := by have := hs.len; omega
  have hnr : ¬ (Value.slice a qs.length cap).ownBlock = some rb := fun e => tag_ne (tag_own hqo e) h.tag (by decide) rfl
  have hlt := h.lt
  have HNR := Lib.hid hnr
  have HH := Lib.hid h
  have HQP := Lib.hid hqp
  have HQL := Lib.hid hql
  have HQO := Lib.hid hqo
  have hll : R.L.length ≤ 1000000 := by have := hs.len; omega
  have hstp := h.steps
  have hnl : (nowR R.L).length ≤ 100000 := by have := nowR_len R.L R.L.length; rw [List.take_length] at this; have := hs.len; omega
  have HNOW := Lib.hid (now_any hstp hll)
  clear hqo hqp hcs hql hnr h hll hstp
  have HRI := Lib.hid (rright_any name hns w)
  go_enter Try.func27, Try.ntmps27
  go_wp2_with fail
  refine HRI.out.mono ?_
  rintro e w0 ⟨rfl, e0⟩
  have e0' := e0.symm
  subst e0'
  cases hr : rightN name with
  | false =>
    have hc : rrenameCode R old name = 63 ∧ rrenameR R old name = R := by simp [rrenameCode, rrenameR, hr]
    have HC := Lib.hid hc
    have HT := Lib.hid (RTurned.refl HH.out)
    clear hc
    go_wp2
    go_ret
    rw [HC.out.1, HC.out.2]
    exact ⟨rfl, _, HT.out⟩
  | true =>
    go_wp2_with fail
    refine HNOW.out.mono ?_
    rintro e w1 ⟨v1, rfl, hsl, b1⟩
    obtain ⟨a1, c1, e1, _⟩ := id hsl
    subst e1
    have r1 := keepB b1 r0
    have HSL := Lib.hid hsl
    have HB1 := Lib.hid b1
    clear hsl b1
    go_wp2_with fail
    refine (rfind_any HSL.out old).mono ?_
    rintro e w2 ⟨rfl, rfl⟩
    obtain ⟨f, hfe⟩ : ∃ f, findR (nowR R.L) old = f := ⟨_, rfl⟩
    have HFE := Lib.hid hfe
    rw [hfe]
    clear hfe
    by_cases hf : f < 0
    · have hc : rrenameCode R old name = 61 ∧ rrenameR R old name = R := by simp [rrenameCode, rrenameR, hr, HFE.out, hf]
      have HC := Lib.hid hc
      have HT := Lib.hid (RTurned.below HH.out HB1.out)
      clear hc
      go_wp2
      go_ret
      rw [HC.out.1, HC.out.2]
      exact ⟨rfl, _, HT.out⟩
    · have hc : rrenameCode R old name = 0 ∧ rrenameR R old name = pushR ⟨3, f, name, []⟩ R := by simp [rrenameCode, rrenameR, hr, HFE.out, hf]
      have HC := Lib.hid hc
      clear hc
      have hown := (HQO.out.ext (Ext.of_below (S := fun _ => False) HB1.out) (fun _ _ => id)).alloc (.cells #[.int .i64 3, .int .i64 f, .string name, .slice none 0 0] 83)
      have hs2 := (HB1.out).size
      have hall : ∀ w6, Ext (fun b => (Value.slice a qs.length cap).ownBlock = some b) (w2.alloc (.cells #[.int .i64 3, .int .i64 f, .string name, .slice none 0 0] 83)) w6 → w6.heap[rb]? = some (.cells #[.slice a qs.length cap, .int .i64 R.born, .int .i64 R.bse] 35 (0, 0)) := (fun w6 hx6 => by
        rw [hx6.block rb (by simp; omega) HNR.out, Below.heap_alloc _ _ _ (by omega), (HB1.out).block rb hlt, HH.out.blk])
      have HOW := Lib.hid hown
      have HALL := Lib.hid hall
      clear hown hall
      go_wp2_with (at_builtin; refine wpList_append_struct2 rfl _ _ _ rfl i0 _ 56 Try.underlying33 hi hz0 hz1 hz2 rfl (by omega) Stp.len Stp.one rfl HOW.out ⟨3, f, name, ⟨none, 0, 0⟩⟩ w2.heap.size 1 rfl (stp_alloc _ ⟨3, f, name, ⟨none, 0, 0⟩⟩) (by unfold maxLen; omega) (by omega) (by simp; omega) ?_)
      intro v' w6 hown6 hx6 hnw6
      have hb6 := HALL.out w6 hx6
      have g1 := Joins.unfrozen_of_block hb6 0
      have g2 := Joins.cell_of_block hb6 0
      obtain ⟨s6, e6⟩ := hown6.sl
      change v' = .slice s6.a s6.n s6.cap at e6
      subst e6
      have HT : Hid (RTurned base w rb (.slice a qs.length cap) (w6.setCell ⟨rb, 0, none⟩ (.slice s6.a s6.n s6.cap)) (.slice s6.a s6.n s6.cap) (pushR ⟨3, f, name, []⟩ R)) := Lib.hid
        (push_fin HH.out HB1.out HQL.out HQP.out (q := ⟨3, f, name, ⟨none, 0, 0⟩⟩) ⟨rfl, rfl, rfl, Own.nil⟩ hx6 hown6 (fun b hb => (hnw6 b hb).imp_right (fun e => by first | omega | (simp at e; omega))) (ext_set _ _ _ _) (by rw [Joins.block_setCell hb6]; rfl) (tag_cells hb6) rfl)
      clear hown6 hx6 hnw6 hb6
      go_wp2
      go_ret
      rw [HC.out.1, HC.out.2]
      exact ⟨rfl, _, HT.out⟩

/-- Make's answer and effect. -/
def rmakeCode (R : RefA) (name : ByteArray) : Int := if rightN name = false then 63 else if 0 ≤ findR (nowR R.L) name then 1 else if 8 ≤ (nowR R.L).length then 62 else 0
def rmakeR (R : RefA) (name : ByteArray) : RefA := if rmakeCode R name = 0 then { pushR ⟨1, R.born, name, []⟩ R with born := R.born + 1 } else R
set_option maxRecDepth 20000 in
set_option maxHeartbeats 4000000 in
theorem rmake_any {base : Nat} {w : World} {rb : Nat} {v : Value} {R : RefA} (h : RefIs base w rb v R) (hbw : base ≤ w.heap.size) {N : Nat} (hs : R.Small N) (hN : N ≤ 100000) (name : ByteArray) (hns : name.size ≤ 9223372036854775807) :
    Calls Try.prog 23 #[.pointer (some ⟨rb, 0, none⟩), .string name] w fun e w' => RPost base w rb v (rmakeCode R name) (rmakeR R name) e w' := by
  obtain ⟨i0, hi, hz0, hz1, hz2⟩ := info_parts info_step
  obtain ⟨qs, hqo, hql, hqp⟩ := h.steps
  obtain ⟨a, cap, rfl, hcap, hmax, hcs⟩ := hqo.slice Stp.len
  unfold maxLen at hmax
  have r0 := Joins.cell_of_block h.blk 0
  simp only [List.getElem?_toArray, List.getElem?_cons_succ, List.getElem?_cons_zero] at r0
  have hlq : qs.length ≤ 100000 := by have := hs.len; omega
  have hnr : ¬ (Value.slice a qs.length cap).ownBlock = some rb := fun e => tag_ne (tag_own hqo e) h.tag (by decide) rfl
  have hlt := h.lt
  have HNR := Lib.hid hnr
  have HH := Lib.hid h
  have HQP := Lib.hid hqp
  have HQL := Lib.hid hql
  have HQO := Lib.hid hqo
  have hll : R.L.length ≤ 1000000 := by have := hs.len; omega
  have hstp := h.steps
  have hnl : (nowR R.L).length ≤ 100000 := by have := nowR_len R.L R.L.length; rw [List.take_length] at this; have := hs.len; omega
  have HNOW := Lib.hid (now_any hstp hll)
  clear hqo hqp hcs hql hnr h hll hstp
  have HRI := Lib.hid (rright_any name hns w)
  have r1b := Joins.cell_of_block HH.out.blk 1
  have f1b := Joins.unfrozen_of_block HH.out.blk 1
  simp only [List.getElem?_toArray, List.getElem?_cons_succ, List.getElem?_cons_zero] at r1b
  have hbo := hs.born
  have hbo0 := hs.born0
  go_enter Try.func23, Try.ntmps23
  go_wp2_with fail
  refine HRI.out.mono ?_
  rintro e w0 ⟨rfl, e0⟩
  have e0' := e0.symm
  subst e0'
  go_wp2_with fail
  refine HNOW.out.mono ?_
  rintro e w1 ⟨v1, rfl, hsl, b1⟩
  obtain ⟨a1, c1, e1, _⟩ := id hsl
  subst e1
  have r1 := keepB b1 r0
  have r1b' := keepB b1 r1b
  have HSL := Lib.hid hsl
  have HB1 := Lib.hid b1
  clear hsl b1 r1b
  cases hr : rightN name with
  | false =>
    have HC : Hid (rmakeCode R name = 63 ∧ rmakeR R name = R) := Lib.hid (by simp [rmakeR, rmakeCode, hr])
    have HT := Lib.hid (RTurned.below HH.out HB1.out)
    go_wp2
    go_ret
    rw [HC.out.1, HC.out.2]
    exact ⟨rfl, _, HT.out⟩
  | true =>
    go_wp2_with fail
    refine (rfind_any HSL.out name).mono ?_
    rintro e w2 ⟨rfl, rfl⟩
    obtain ⟨f, hfe⟩ : ∃ f, findR (nowR R.L) name = f := ⟨_, rfl⟩
    have HFE := Lib.hid hfe
    rw [hfe]
    clear hfe
    by_cases hf : 0 ≤ f
    · have HC : Hid (rmakeCode R name = 1 ∧ rmakeR R name = R) := Lib.hid (by simp [rmakeR, rmakeCode, hr, HFE.out, hf])
      have HT := Lib.hid (RTurned.below HH.out HB1.out)
      go_wp2
      go_ret
      rw [HC.out.1, HC.out.2]
      exact ⟨rfl, _, HT.out⟩
    · by_cases h8 : 8 ≤ (nowR R.L).length
      · have h9 : (8 : Int) ≤ ((nowR R.L).length : Int) := by omega
        have HC : Hid (rmakeCode R name = 62 ∧ rmakeR R name = R) := Lib.hid (by simp [rmakeR, rmakeCode, hr, HFE.out, hf, h8])
        have HT := Lib.hid (RTurned.below HH.out HB1.out)
        go_wp2
        go_ret
        rw [HC.out.1, HC.out.2]
        exact ⟨rfl, _, HT.out⟩
      · have h9 : ¬ (8 : Int) ≤ ((nowR R.L).length : Int) := by omega
        have HC : Hid (rmakeCode R name = 0 ∧ rmakeR R name = { pushR ⟨1, R.born, name, []⟩ R with born := R.born + 1 }) := Lib.hid (by simp [rmakeR, rmakeCode, hr, HFE.out, hf, h8])
        have hown := (HQO.out.ext (Ext.of_below (S := fun _ => False) HB1.out) (fun _ _ => id)).alloc (.cells #[.int .i64 1, .int .i64 R.born, .string name, .slice none 0 0] 83)
        have hs2 := (HB1.out).size
        have hall : ∀ w6, Ext (fun b => (Value.slice a qs.length cap).ownBlock = some b) (w2.alloc (.cells #[.int .i64 1, .int .i64 R.born, .string name, .slice none 0 0] 83)) w6 → w6.heap[rb]? = some (.cells #[.slice a qs.length cap, .int .i64 R.born, .int .i64 R.bse] 35 (0, 0)) := (fun w6 hx6 => by
          rw [hx6.block rb (by simp; omega) HNR.out, Below.heap_alloc _ _ _ (by omega), (HB1.out).block rb hlt, HH.out.blk])
        have HOW := Lib.hid hown
        have HALL := Lib.hid hall
        clear hown hall
        have HS1 := Lib.hid hs
        have hbw2 : base ≤ w2.heap.size := by omega
        have hlt2 : rb < w2.heap.size := by omega
        have r1c := cell_alloc r1 (.cells #[.int .i64 1, .int .i64 R.born, .string name, .slice none 0 0] 83)
        clear hs
        go_upto_region 9 with fail
        go_region_law (refine step_append_struct2 (v := .slice a qs.length cap) (l := qs) rfl (.tmp 30) (.tmp 37) 33 rfl i0 _ 56 Try.underlying33 hi hz0 hz1 hz2 rfl (by omega) Stp.len Stp.one rfl HOW.out ⟨1, R.born, name, ⟨none, 0, 0⟩⟩ w2.heap.size 1 rfl (stp_alloc _ ⟨1, R.born, name, ⟨none, 0, 0⟩⟩) (by unfold maxLen; omega) (by omega) (by simp; omega) ?_; intro v' w6 hown6 hx6 hnw6; obtain ⟨g6, cp6, rfl⟩ : ∃ g c, v' = .slice (some ⟨g, 0, none⟩) (qs.length + 1) c := (by rcases hown6.eq_slice with ⟨_, h⟩ | ⟨g, c, h, _⟩; (simp at h); exact ⟨g, c, by simpa using h⟩); have hx6' : Ext (fun b => (Value.slice a qs.length cap).ownBlock = some b) (w2.alloc (.cells #[.int .i64 1, .int .i64 R.born, .string name, .slice none 0 0] 83)) w6 := (by first | exact hx6 | exact ⟨hx6.os, hx6.tape, hx6.output, hx6.size, hx6.block⟩); have hb6 := HALL.out w6 hx6'; have g1 := Joins.unfrozen_of_block hb6 0; have g2 := Joins.cell_of_block hb6 0)
        all_goals
          have HT : Hid (RTurned base w rb (.slice a qs.length cap) ((w6.setCell ⟨rb, 0, none⟩ (.slice (some ⟨g6, 0, none⟩) (qs.length + 1) cp6)).setCell ⟨rb, 1, none⟩ (.int .i64 (R.born + 1))) (.slice (some ⟨g6, 0, none⟩) (qs.length + 1) cp6) { pushR ⟨1, R.born, name, []⟩ R with born := R.born + 1 }) := Lib.hid
            (push_fin HH.out HB1.out HQL.out HQP.out (q := ⟨1, R.born, name, ⟨none, 0, 0⟩⟩) ⟨rfl, rfl, rfl, Own.nil⟩ hx6' hown6 (fun b hb => (hnw6 b hb).imp_right (fun e => by first | omega | (simp at e; omega))) ((ext_set _ _ _ _).andThen (ext_set _ _ _ _) (fun _ _ => id)) (by rw [Joins.block_setCell (Joins.block_setCell hb6 _)]; rfl) (tag_cells hb6) rfl)
          have g3 := Joins.cell_of_block hb6 1
          have g4 := Joins.unfrozen_of_block hb6 1
          clear hown6 hx6 hx6' hnw6 hb6
          go_wp2
          go_ret
          rw [HC.out.1, HC.out.2]
          exact ⟨rfl, _, HT.out⟩

/-- Append's answer and effect. -/
def rappendCode (R : RefA) (name : ByteArray) (bs : List UInt8) : Int := if findR (nowR R.L) name < 0 then 61 else if 1048576 < (heldR R.L (findR (nowR R.L) name)).length + bs.length then 62 else 0
def rappendR (R : RefA) (name : ByteArray) (bs : List UInt8) : RefA := if rappendCode R name bs = 0 then pushR ⟨2, findR (nowR R.L) name, ⟨#[]⟩, bs⟩ R else R
set_option maxRecDepth 20000 in
set_option maxHeartbeats 4000000 in
theorem rappend_any {base : Nat} {w : World} {rb : Nat} {v : Value} {R : RefA} (h : RefIs base w rb v R) (hbw : base ≤ w.heap.size) {N : Nat} (hs : R.Small N) (hN : N ≤ 100000) (name : ByteArray) (vx : Value) (bs : List UInt8) (hvx : SliceIs u8c 1 w vx bs) (hlb : bs.length ≤ 70368744177664) (hhl : ∀ f, (heldR R.L f).length ≤ 1048576) :
    Calls Try.prog 24 #[.pointer (some ⟨rb, 0, none⟩), .string name, vx] w fun e w' => RPost base w rb v (rappendCode R name bs) (rappendR R name bs) e w' := by
  obtain ⟨i1, hj, hy0, hy1, hy2⟩ := info_parts info_u8
  obtain ⟨xa, xc, rfl, hxc, hxm, _⟩ := id hvx
  unfold maxLen at hxm
  have HVX := Lib.hid hvx
  clear hvx
  obtain ⟨i0, hi, hz0, hz1, hz2⟩ := info_parts info_step
  obtain ⟨qs, hqo, hql, hqp⟩ := h.steps
  obtain ⟨a, cap, rfl, hcap, hmax, hcs⟩ := hqo.slice Stp.len
  unfold maxLen at hmax
  have r0 := Joins.cell_of_block h.blk 0
  simp only [List.getElem?_toArray, List.getElem?_cons_succ, List.getElem?_cons_zero] at r0
  have hlq : qs.length ≤ 100000 := by have := hs.len; omega
  have hnr : ¬ (Value.slice a qs.length cap).ownBlock = some rb := fun e => tag_ne (tag_own hqo e) h.tag (by decide) rfl
  have hlt := h.lt
  have HNR := Lib.hid hnr
  have HH := Lib.hid h
  have HQP := Lib.hid hqp
  have HQL := Lib.hid hql
  have HQO := Lib.hid hqo
  have hll : R.L.length ≤ 1000000 := by have := hs.len; omega
  have hstp := h.steps
  have hnl : (nowR R.L).length ≤ 100000 := by have := nowR_len R.L R.L.length; rw [List.take_length] at this; have := hs.len; omega
  have HNOW := Lib.hid (now_any hstp hll)
  clear hqo hqp hcs hql hnr h hll hstp
  go_enter Try.func24, Try.ntmps24
  go_wp2_with fail
  refine HNOW.out.mono ?_
  rintro e w1 ⟨v1, rfl, hsl, b1⟩
  obtain ⟨a1, c1, e1, _⟩ := id hsl
  subst e1
  have r1 := keepB b1 r0
  have HSL := Lib.hid hsl
  have HB1 := Lib.hid b1
  clear hsl b1
  go_wp2_with fail
  refine (rfind_any HSL.out name).mono ?_
  rintro e w2 ⟨rfl, rfl⟩
  obtain ⟨f, hfe⟩ : ∃ f, findR (nowR R.L) name = f := ⟨_, rfl⟩
  have HFE := Lib.hid hfe
  rw [hfe]
  clear hfe
  by_cases hf : f < 0
  · have HC : Hid (rappendCode R name bs = 61 ∧ rappendR R name bs = R) := Lib.hid (by simp [rappendCode, rappendR, HFE.out, hf])
    have HT := Lib.hid (RTurned.below HH.out HB1.out)
    go_wp2
    go_ret
    rw [HC.out.1, HC.out.2]
    exact ⟨rfl, _, HT.out⟩
  · have hll : R.L.length ≤ 1000000 := by have := hs.len; omega
    have HHD := Lib.hid (held_any (HH.out.below HB1.out) f hll (by have := hhl f; omega))
    have hh := hhl f
    obtain ⟨hd, hhd⟩ : ∃ hd, heldR R.L f = hd := ⟨_, rfl⟩
    rw [hhd] at hh
    have HHE := Lib.hid hhd
    clear hhd hhl
    go_wp2_with fail
    refine HHD.out.mono ?_
    rintro e w3 ⟨v3, rfl, hown3, b3⟩
    rw [HHE.out] at hown3
    obtain ⟨a3, c3, e3, _⟩ := hown3.slice u8c_len
    subst e3
    clear hown3
    have HB3 := Lib.hid (HB1.out.trans (b3.mono HB1.out.size))
    have r3 := keepB b3 r1
    have HVX3 := Lib.hid (HVX.out.below HB3.out)
    clear b3 r1
    by_cases hroom : 1048576 < hd.length + bs.length
    · have h9 : (1048576 : Int) - (hd.length : Int) < (bs.length : Int) := by omega
      have HC : Hid (rappendCode R name bs = 62 ∧ rappendR R name bs = R) := Lib.hid (by
        have hcode : rappendCode R name bs = 62 := by unfold rappendCode; rw [HFE.out, if_neg (by omega), HHE.out, if_pos hroom]
        refine ⟨hcode, ?_⟩
        unfold rappendR
        rw [hcode, if_neg (by decide)])
      have HT := Lib.hid (RTurned.below HH.out HB3.out)
      clear hroom
      go_wp2
      go_ret
      rw [HC.out.1, HC.out.2]
      exact ⟨rfl, _, HT.out⟩
    · have h9 : ¬ (1048576 : Int) - (hd.length : Int) < (bs.length : Int) := by omega
      have HC : Hid (rappendCode R name bs = 0 ∧ rappendR R name bs = pushR ⟨2, f, ⟨#[]⟩, bs⟩ R) := Lib.hid (by
        have hcode : rappendCode R name bs = 0 := by unfold rappendCode; rw [HFE.out, if_neg (by omega), HHE.out, if_neg hroom]
        refine ⟨hcode, ?_⟩
        unfold rappendR
        rw [hcode, if_pos rfl, HFE.out])
      have hbl : Below w3.heap.size w3 (w3.alloc (.cells #[] 5)).drew := ((Below.refl _ _).alloc (Nat.le_refl _) _).drew
      have hoe : Own u8c 1 5 w3.heap.size (w3.alloc (.cells #[] 5)).drew (.slice (some ⟨w3.heap.size, 0, none⟩) 0 0) [] := (Own.empty u8c 1 5 (w := w3) (Nat.le_refl _)).drew
      obtain ⟨v5, w5, hr5, own5, hx5⟩ := append_structs (P := Try.prog) 23 23 i1 _ 1 Try.underlying23 hj hy0 hy1 hy2 rfl (by omega) u8c_len u8c_one hoe (HVX3.out.below hbl) (by unfold maxLen; simp; omega) (by simp; omega) (by show w3.heap.size ≤ (w3.alloc _).heap.size; rw [World.size_alloc]; exact Nat.le_succ _)
      rw [List.nil_append] at own5
      have b5 := Ext.new hbl hx5 (fun i hi _ e => by have := (hoe.blk i e).1; omega) (by show w3.heap.size ≤ (w3.alloc _).heap.size; rw [World.size_alloc]; exact Nat.le_succ _)
      obtain ⟨⟨sa, sn, sc⟩, e5⟩ := own5.sl
      change v5 = .slice sa sn sc at e5
      subst e5
      have HB5 := Lib.hid (HB3.out.trans (b5.mono HB3.out.size))
      have r5 := keepB b5 r3
      have r6 := cell_alloc r5 (.cells #[.int .i64 2, .int .i64 f, .string ⟨#[]⟩, .slice sa sn sc] 83)
      have r4 : (w3.alloc (.cells #[] 5)).cell? ⟨rb, 0, none⟩ = some (.slice a qs.length cap) := cell_alloc r3 _
      have hlt3 := cell_lt r3
      have hbw3 : base ≤ w3.heap.size := Nat.le_trans hbw HB3.out.size
      have hs53 := b5.size
      have HO5 := Lib.hid (own5.mono hbw3)
      have HR5 := Lib.hid hr5
      clear hroom hbl hoe own5 hx5 b5 hr5
      have hown := (HQO.out.ext (Ext.of_below (S := fun _ => False) HB5.out) (fun _ _ => id)).alloc (.cells #[.int .i64 2, .int .i64 f, .string ⟨#[]⟩, .slice sa sn sc] 83)
      have hs2 := (HB5.out).size
      have hall : ∀ w6, Ext (fun b => (Value.slice a qs.length cap).ownBlock = some b) (w5.alloc (.cells #[.int .i64 2, .int .i64 f, .string ⟨#[]⟩, .slice sa sn sc] 83)) w6 → w6.heap[rb]? = some (.cells #[.slice a qs.length cap, .int .i64 R.born, .int .i64 R.bse] 35 (0, 0)) := (fun w6 hx6 => by
        rw [hx6.block rb (by simp; omega) HNR.out, Below.heap_alloc _ _ _ (by omega), (HB5.out).block rb hlt, HH.out.blk])
      have HOW := Lib.hid hown
      have HALL := Lib.hid hall
      clear hown hall
      have HS1 := Lib.hid hs
      have hbw5 : base ≤ w5.heap.size := by omega
      have hlt5 : rb < w5.heap.size := by omega
      clear hs
      go_upto_region 6 with fail
      go_region_law (first
        | (refine step_append_run rfl (.tmp 31) (.tmp 32) 23 rfl (by rfl) (by rfl) HR5.out ?_)
        | (refine step_append_struct2 (v := .slice a qs.length cap) (l := qs) rfl (.tmp 29) (.tmp 35) 33 rfl i0 _ 56 Try.underlying33 hi hz0 hz1 hz2 rfl (by omega) Stp.len Stp.one rfl HOW.out ⟨2, f, ⟨#[]⟩, ⟨sa, sn, sc⟩⟩ w5.heap.size 1 rfl (stp_alloc _ ⟨2, f, ⟨#[]⟩, ⟨sa, sn, sc⟩⟩) (by unfold maxLen; omega) (by omega) (by simp; omega) ?_; intro v' w6 hown6 hx6 hnw6; obtain ⟨g6, cp6, rfl⟩ : ∃ g c, v' = .slice (some ⟨g, 0, none⟩) (qs.length + 1) c := (by rcases hown6.eq_slice with ⟨_, h⟩ | ⟨g, c, h, _⟩; (simp at h); exact ⟨g, c, by simpa using h⟩); have hb6 := HALL.out w6 hx6; have g1 := Joins.unfrozen_of_block hb6 0; have g2 := Joins.cell_of_block hb6 0))
      all_goals
        have HT : Hid (RTurned base w rb (.slice a qs.length cap) (w6.setCell ⟨rb, 0, none⟩ (.slice (some ⟨g6, 0, none⟩) (qs.length + 1) cp6)) (.slice (some ⟨g6, 0, none⟩) (qs.length + 1) cp6) (pushR ⟨2, f, ⟨#[]⟩, bs⟩ R)) := Lib.hid
          (push_fin HH.out HB5.out HQL.out HQP.out (q := ⟨2, f, ⟨#[]⟩, ⟨sa, sn, sc⟩⟩) (p := ⟨2, f, ⟨#[]⟩, bs⟩) ⟨rfl, rfl, rfl, HO5.out⟩ hx6 hown6 (fun b hb => (hnw6 b hb).imp_right (fun e => by first | omega | (simp at e; omega))) (ext_set _ _ _ _) (by rw [Joins.block_setCell hb6]; rfl) (tag_cells hb6) rfl)
        clear hown6 hx6 hnw6 hb6
        go_wp2
        go_ret
        rw [HC.out.1, HC.out.2]
        exact ⟨rfl, _, HT.out⟩

end Go.Proofs.Ytmlaojfhmaamcaa
