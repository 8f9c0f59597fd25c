/- Contract of Disk.Sync. -/
import Derived.Test.YtmlaojfhmaamcaaApp06
namespace Go.Proofs.Ytmlaojfhmaamcaa
open Go.RowKit Go.Deep
set_option linter.unusedSimpArgs false
set_option linter.unusedVariables false

section
variable {α : Type} {ea : α → List Value} {k : Nat} {e : TypeId} {base : Nat} {w : World}
theorem flatMap_set (hk : ∀ x, (ea x).length = k) {j : Nat} {u : Value} (hj : j < k) : ∀ (l : List α) (i : Nat) (x y : α), l[i]? = some x → ea y = (ea x).set j u → (l.set i y).flatMap ea = (l.flatMap ea).set (i * k + j) u
  | [], i, x, y, h, _ => by simp at h
  | a :: l, 0, x, y, h, hy => by
    simp at h
    subst h
    simp only [List.set_cons_zero, List.flatMap_cons, Nat.zero_mul, Nat.zero_add]
    rw [hy, List.set_append_left _ _ (by rw [hk]; exact hj)]
  | a :: l, i + 1, x, y, h, hy => by
    simp only [List.getElem?_cons_succ] at h
    have ih := flatMap_set hk hj l i x y h hy
    simp only [List.set_cons_succ, List.flatMap_cons]
    rw [ih, List.set_append_right _ _ (by rw [hk, Nat.add_mul]; omega)]
    congr 2
    rw [hk, Nat.add_mul]
    omega
/-- A store into one of its own elements. -/
theorem Own.setAt {g cap : Nat} {l : List α} (h : Own ea k e base w (.slice (some ⟨g, 0, none⟩) l.length cap) l) (hk : ∀ x, (ea x).length = k) {i j : Nat} {x y : α} {u : Value} (hx : l[i]? = some x) (hj : j < k) (hy : ea y = (ea x).set j u) :
    Own ea k e base (w.setCell ⟨g, i * k + j, none⟩ u) (.slice (some ⟨g, 0, none⟩) l.length cap) (l.set i y) := by
  have hf := flatMap_set hk hj l i x y hx hy
  obtain ⟨h1, h2⟩ := h
  refine ⟨by rw [hf, List.length_set, List.length_set]; exact h1, ?_⟩
  rcases h2 with ⟨e1, _⟩ | ⟨g', cap', cur, e1, hb, hg, hn, hm, hs, ht⟩
  · cases e1
  · cases e1
    refine .inr ⟨g, cap, cur.setIfInBounds (i * k + j) u, by rw [List.length_set], hb, Joins.block_setCell hg u, by rw [List.length_set]; exact hn, hm, by simpa using hs, ?_⟩
    rw [hf, ← ht, List.length_set, Array.toList_setIfInBounds, List.take_set]
theorem Own.cellAt {g cap : Nat} {l : List α} (h : Own ea k e base w (.slice (some ⟨g, 0, none⟩) l.length cap) l) (hk : ∀ x, (ea x).length = k) {i j : Nat} {x : α} {u : Value} (hx : l[i]? = some x) (hu : (ea x)[j]? = some u) :
    w.cell? ⟨g, i * k + j, none⟩ = some u := by
  obtain ⟨a, c, e1, _, _, h4⟩ := h.slice hk
  cases e1
  obtain ⟨b, o, e2, h5⟩ := h4 (by rintro rfl; simp at hx)
  cases e2
  have := h5 i x hx j u hu
  rwa [Nat.zero_add] at this
theorem Own.free {g cap : Nat} {l : List α} (h : Own ea k e base w (.slice (some ⟨g, 0, none⟩) l.length cap) l) (o : Nat) : w.frozen? ⟨g, o, none⟩ = false := by
  obtain ⟨cur, hc⟩ := h.tag (b := g) rfl
  exact Joins.unfrozen_of_block hc o
end

/-- It is durable now. -/
def synP (n : Int) (p : PcA) : PcA := if p.safe = 0 then { p with safe := n } else p
def synQ (n : Int) (q : Pc) : Pc := if q.safe = 0 then { q with safe := n } else q
def synK (n : Int) (k : Nat) (qs : List Pc) : List Pc := (qs.take k).map (synQ n) ++ qs.drop k
theorem synK_len (n : Int) (k : Nat) (qs : List Pc) : (synK n k qs).length = qs.length := by
  unfold synK
  simp
  omega
theorem synK_zero (n : Int) (qs : List Pc) : synK n 0 qs = qs := by simp [synK]
theorem synK_all (n : Int) (qs : List Pc) : synK n qs.length qs = qs.map (synQ n) := by simp [synK]
theorem synK_at {n : Int} {k : Nat} {qs : List Pc} {q : Pc} (h : qs[k]? = some q) : (synK n k qs)[k]? = some q := by
  have hk := (List.getElem?_eq_some_iff.1 h).1
  unfold synK
  rw [List.getElem?_append_right (by simp; omega)]
  simp only [List.length_map, List.length_take, List.getElem?_drop]
  rw [show k + (k - min k qs.length) = k by omega]
  exact h
theorem synK_succ {n : Int} {k : Nat} {qs : List Pc} {q : Pc} (h : qs[k]? = some q) : synK n (k + 1) qs = (synK n k qs).set k (synQ n q) := by
  have hk := (List.getElem?_eq_some_iff.1 h).1
  have hq := (List.getElem?_eq_some_iff.1 h).2
  unfold synK
  rw [List.set_append_right _ _ (by simp; omega), List.take_add_one, h, Option.toList_some, List.map_append, List.append_assoc]
  congr 1
  rw [List.drop_eq_getElem_cons hk]
  simp only [List.length_map, List.length_take]
  rw [show k - min k qs.length = 0 by omega]
  rfl

/-- A file is made durable. -/
def syncA (f : Nat) (A : DiskA) : DiskA := { A with now := A.now + 1, fs := fun g => if g = f then (A.fs f).map (synP (A.now + 1)) else A.fs g }

theorem sync_fin {base : Nat} {w w3 w9 : World} {D : DSh} {A : DiskA} {f : Nat} {qs : List Pc} (hx3 : Ext (Foot D A) w w3)
    (h3 : DiskIs base w3 D { A with now := A.now + 1 }) (hf : f ∈ A.ids) (hql : qs.length = (A.fs f).length) (hqp : ∀ (i : Nat) q p, qs[i]? = some q → (A.fs f)[i]? = some p → PcIs base w3 q p)
    (hx9 : Ext (fun b => (D.rv f).ownBlock = some b) w3 w9) (hown : Own Pc.cells 3 76 base w9 (D.rv f) (qs.map (synQ (A.now + 1)))) : Turned base w D A w9 D (syncA f A) := by
  have hsz : sizeP ((A.fs f).map (synP (A.now + 1))) = sizeP (A.fs f) := by
    unfold sizeP
    rw [List.map_map]
    congr 2
    funext p
    simp only [Function.comp_apply, synP]
    split <;> rfl
  have hrow := fun b (hb : (D.rv f).ownBlock = some b) => ((h3.file f hf).row hb).1
  have hfile : FileIs base w9 f (D.rv f) ((A.fs f).map (synP (A.now + 1))) := by
    refine ⟨(h3.file f hf).1, ?_, _, hown, by simp [hql], fun i q p hq hp => ?_⟩
    · rw [hsz, hx9.block f (h3.file f hf).lt (fun e => tag_ne (h3.file f hf).tag (hrow f e) (by decide) rfl)]
      exact (h3.file f hf).2.1
    · rw [List.getElem?_map] at hq hp
      cases hq0 : qs[i]? with
      | none => rw [hq0] at hq; cases hq
      | some q0 =>
        cases hp0 : (A.fs f)[i]? with
        | none => rw [hp0] at hp; cases hp
        | some p0 =>
          rw [hq0] at hq
          rw [hp0] at hp
          cases hq
          cases hp
          obtain ⟨b1, b2, b3⟩ := (hqp i q0 p0 hq0 hp0).ext hx9 (fun b hb ht e => tag_ne ht (hrow b e) (by decide) rfl)
          unfold synQ synP
          rw [b3]
          split
          · exact ⟨b1, b2, rfl⟩
          · exact ⟨b1, b2, b3⟩
  have hT := h3.turn hx9 hf (fun b _ hb => .inr hb) hfile (fun b hb => .inl hb) (by rw [hsz]; exact h3.ok.sz f hf)
  have hD : ({ D with rv := fun g => if g = f then D.rv f else D.rv g } : DSh) = D := by
    cases D
    congr 1
    funext g
    dsimp only
    split
    · rename_i e; rw [e]
    · rfl
  rw [hD] at hT
  exact ⟨hT, rfl, hx3.andThen hx9 (fun b _ hb => .inr (.inr (.inr (.inr (.inr ⟨f, hf, .inr hb⟩))))), fun b hb => .inl hb⟩

/-- What Sync answers, and leaves. -/
def SyncPost (base : Nat) (w : World) (D : DSh) (A : DiskA) (name : ByteArray) (e : Ending) (w' : World) : Prop :=
  (aget A.files name = none ∧ e = .returned (.int .i64 61) ∧ Turned base w D A w' D A) ∨ (∃ f, aget A.files name = some f ∧ e = .returned (.int .i64 0) ∧ Turned base w D A w' D (syncA f A))

set_option maxRecDepth 20000 in
set_option maxHeartbeats 4000000 in
theorem sync_any {base : Nat} {w : World} {D : DSh} {A : DiskA} (h : DiskIs base w D A) (name : ByteArray) {N : Nat} (hsm : A.Small N) (hN : N ≤ 1000000000) :
    Calls Try.prog 15 #[.pointer (some ⟨D.pb, 0, none⟩), .string name] w fun e w' => SyncPost base w D A name e w' := by
  go_enter Try.func15, Try.ntmps15
  go_wp2_with fail
  refine (find_any h name).mono ?_
  rintro e w1 ⟨rfl, rfl⟩
  unfold findV
  cases hg : aget A.files name with
  | none =>
    simp only [Option.isSome_none, ptrV, Option.map_none]
    have HH := Lib.hid h
    clear h
    go_wp2
    go_ret
    exact .inl ⟨hg, rfl, Turned.refl HH.out⟩
  | some f =>
    simp only [Option.isSome_some, ptrV, Option.map_some, if_true]
    have hf := (h.ok.inf _ _ (aget_mem hg)).1
    have HG := Lib.hid hg
    have HF := Lib.hid hf
    have hn1 := hsm.now
    have hn0 := hsm.now0
    have k0 := Joins.cell_of_block h.blk 4
    have k1 := Joins.unfrozen_of_block h.blk 4
    simp only [List.getElem?_toArray, List.getElem?_cons_succ, List.getElem?_cons_zero] at k0
    have h3 := h.tick
    have hx3 : Ext (Foot D A) w1 (w1.setCell ⟨D.pb, 4, none⟩ (.int .i64 (A.now + 1))) := (Ext.refl _ w1).setCell (p := ⟨D.pb, 4, none⟩) (.inr (.inl rfl)) _
    obtain ⟨w3, hw3⟩ : ∃ w3, w1.setCell ⟨D.pb, 4, none⟩ (.int .i64 (A.now + 1)) = w3 := ⟨_, rfl⟩
    rw [hw3] at h3 hx3
    have hF3 := h3.file f HF.out
    obtain ⟨hbf, hfb3, qs, hqo, hql, hqp⟩ := id hF3
    obtain ⟨va, vcap, hvc⟩ : ∃ va vcap, D.rv f = .slice va qs.length vcap := by
      rcases hqo.eq_slice with ⟨e, e2⟩ | ⟨g, c, e, _⟩
      · exact ⟨none, 0, by rw [e, e2]; rfl⟩
      · exact ⟨_, _, e⟩
    have hlq : qs.length ≤ 1000000001 := by have := hsm.pcs f HF.out; dsimp only at hql; omega
    have b3 := h3.blk
    have c4 := Joins.cell_of_block b3 4
    have f0 := Joins.cell_of_block hfb3 0
    simp only [List.getElem?_toArray, List.getElem?_cons_succ, List.getElem?_cons_zero, hvc] at c4 f0
    have HX3 := Lib.hid hx3
    have HVC := Lib.hid hvc
    have HQO := Lib.hid hqo
    have HQP := Lib.hid hqp
    have HQL := Lib.hid hql
    have H3 := Lib.hid h3
    clear h h3 hF3 hfb3 hqo hql hqp hvc b3 hsm hx3 hf hg
    go_wp2_with fail
    go_loopg [30] qs.length (fun g iv wr => ∃ k : Nat, g = qs.length - k ∧ k ≤ qs.length ∧ iv = .int .i64 k ∧ Hid (Own Pc.cells 3 76 base wr (D.rv f) (synK (A.now + 1) k qs) ∧ Ext (fun b => (D.rv f).ownBlock = some b) w3 wr))
    case atStart => exact ⟨0, by omega, by omega, rfl, Lib.hid ⟨by rw [synK_zero]; exact HQO.out, Ext.refl _ _⟩⟩
    case round =>
      obtain ⟨k, hg, hk, rfl, hU⟩ := hrel
      have HGG := Lib.hid hg
      clear hg
      by_cases hkl : k < qs.length
      · obtain ⟨q, hq⟩ : ∃ q, qs[k]? = some q := ⟨_, List.getElem?_eq_getElem hkl⟩
        have hlen := synK_len (A.now + 1) k qs
        obtain ⟨g, cap, e1, hgc, hcm⟩ : ∃ g cap, va = some ⟨g, 0, none⟩ ∧ qs.length ≤ vcap ∧ vcap ≤ maxLen := by
          have ho := HQO.out
          rw [HVC.out] at ho
          rcases ho.eq_slice with ⟨_, e2⟩ | ⟨g, c, e, _⟩
          · rw [e2] at hkl; simp at hkl
          · cases e
            obtain ⟨_, _, e3, e4, e5, _⟩ := ho.slice Pc.len
            cases e3
            exact ⟨g, 0, rfl, e4, e5⟩
        subst e1
        unfold maxLen at hcm
        have ho := hU.out.1
        rw [HVC.out, ← hlen] at ho
        have hrw : ∀ b, (D.rv f).ownBlock = some b → b = g := fun b hb => by rw [HVC.out] at hb; exact (Option.some.inj hb).symm
        have hgp : g ≠ D.pb := tag_ne (tag_own HQO.out (by rw [HVC.out]; rfl)) H3.out.tpb (by decide)
        have hgf : g ≠ f := tag_ne (tag_own HQO.out (by rw [HVC.out]; rfl)) (H3.out.file f HF.out).tag (by decide)
        have c4' := hU.out.2.keep c4 (fun e => hgp (hrw _ e).symm)
        have f0' := hU.out.2.keep f0 (fun e => hgf (hrw _ e).symm)
        have q2 := ho.cellAt Pc.len (synK_at hq) (j := 2) rfl
        have q3 := ho.free (k * 3 + 2)
        have hkk : (k : Int) < (qs.length : Int) := by omega
        by_cases hs : q.safe = 0
        · have hy : Pc.cells (synQ (A.now + 1) q) = (Pc.cells q).set 2 (.int .i64 (A.now + 1)) := by unfold synQ; rw [if_pos hs]; rfl
          have ho2 := ho.setAt Pc.len (synK_at hq) (j := 2) (by omega) hy
          rw [← synK_succ hq, hlen, ← HVC.out] at ho2
          have hx2 : Ext (fun b => (D.rv f).ownBlock = some b) w3 (wr.setCell ⟨g, k * 3 + 2, none⟩ (.int .i64 (A.now + 1))) := hU.out.2.setCell (.inr (by rw [HVC.out]; rfl)) _
          rw [hs] at q2
          have HO2 := Lib.hid (And.intro ho2 hx2)
          clear ho ho2 hx2 hU hrw hs hq hy hlen
          go_wp2_with fail
          go_roundg (qs.length - (k + 1))
          case measure => rw [HGG.out]; omega
          case rel => exact ⟨k + 1, rfl, by omega, by simp, HO2⟩
        · have hy : synQ (A.now + 1) q = q := by unfold synQ; rw [if_neg hs]
          have hk2 : synK (A.now + 1) (k + 1) qs = synK (A.now + 1) k qs := by
            rw [synK_succ hq, hy]
            obtain ⟨hk', e⟩ := List.getElem?_eq_some_iff.1 (synK_at (n := A.now + 1) hq)
            conv => lhs; rw [← e]
            exact List.set_getElem_self hk'
          have HO2 : Hid (Own Pc.cells 3 76 base wr (D.rv f) (synK (A.now + 1) (k + 1) qs) ∧ Ext (fun b => (D.rv f).ownBlock = some b) w3 wr) := Lib.hid (by rw [hk2]; exact hU.out)
          clear ho hU hrw hq hy hlen hk2
          go_wp2_with fail
          go_roundg (qs.length - (k + 1))
          case measure => rw [HGG.out]; omega
          case rel => exact ⟨k + 1, rfl, by omega, by simp, HO2⟩
      · obtain rfl : k = qs.length := by omega
        have HT := Lib.hid (sync_fin HX3.out H3.out HF.out HQL.out HQP.out hU.out.2 (by rw [← synK_all]; exact hU.out.1))
        clear hU
        go_wp2
        go_ret
        exact .inr ⟨f, HG.out, rfl, HT.out⟩

end Go.Proofs.Ytmlaojfhmaamcaa
