/- Contract of Disk.SyncNames. -/
import Derived.Test.YtmlaojfhmaamcaaFind06
namespace Go.Proofs.Ytmlaojfhmaamcaa
open Go.RowKit Go.Deep
set_option linter.unusedSimpArgs false
set_option linter.unusedVariables false

theorem info_int : (Try.prog.info? 3).map (fun i => (i.zero, i.size, i.bytes)) = some (some (.int .i64 0), 1, 8) := by kernel_rfl

/-- The count of calls goes up. -/
theorem DiskIs.tick {base : Nat} {w : World} {D : DSh} {A : DiskA} (h : DiskIs base w D A) : DiskIs base (w.setCell ⟨D.pb, 4, none⟩ (.int .i64 (A.now + 1))) D { A with now := A.now + 1 } :=
  h.head (S := (· = D.pb)) (ext_set _ _ _ _) (fun b _ hb => .inl hb) (Joins.block_setCell (i := 4) h.blk (.int .i64 (A.now + 1))) (h.ochg.ext (ext_set _ _ _ _) (fun b hb e => tag_ne (tag_own h.ochg hb) h.tpb (by decide) e))
    (h.osyn.ext (ext_set _ _ _ _) (fun b hb e => tag_ne (tag_own h.osyn hb) h.tpb (by decide) e)) h.ok.inc

/-- Names are made durable. -/
def synA (A : DiskA) : DiskA := { A with now := A.now + 1, syn := A.syn ++ [A.now + 1] }

set_option maxRecDepth 20000 in
set_option maxHeartbeats 4000000 in
theorem synNames_any {base : Nat} {w : World} {D : DSh} {A : DiskA} (h : DiskIs base w D A) (hbw : base ≤ w.heap.size) (hn0 : 0 ≤ A.now) (hn1 : A.now ≤ 1000000000) (hl : A.syn.length ≤ 1000000000) :
    Calls Try.prog 16 #[.pointer (some ⟨D.pb, 0, none⟩)] w fun e w' =>
      e = .returned (.int .i64 0) ∧ ∃ D', Turned base w D A w' D' (synA A) := by
  obtain ⟨i0, hi, hz0, hz1, hz2⟩ := info_parts info_int
  have HH0 := Lib.hid h
  have p0 := h.blk
  have h3 := h.tick
  obtain ⟨w3, hw3⟩ : ∃ w3, w.setCell ⟨D.pb, 4, none⟩ (.int .i64 (A.now + 1)) = w3 := ⟨_, rfl⟩
  have hs3 : w3.heap.size = w.heap.size := by rw [← hw3, World.size_setCell]
  have HX3 : Hid (Ext (Foot D A) w w3) := Lib.hid (by rw [← hw3]; exact (Ext.refl _ w).setCell (p := ⟨D.pb, 4, none⟩) (.inr (.inl rfl)) _)
  rw [hw3] at h3
  have b3 := h3.blk
  have k0 := Joins.cell_of_block p0 4
  have k1 := Joins.unfrozen_of_block p0 4
  have k2 := Joins.cell_of_block b3 4
  simp only [List.getElem?_toArray, List.getElem?_cons_succ, List.getElem?_cons_zero] at k0 k2
  have hbw3 : base ≤ w3.heap.size := by omega
  have HS3 := Lib.hid hs3
  have HH3 := Lib.hid h3
  clear h h3 p0 b3 hs3
  go_enter Try.func16, Try.ntmps16
  go_upto_region 4 with fail
  clear k0 k1 hw3
  obtain ⟨va, vcap, hvc⟩ : ∃ va vcap, D.vs = .slice va A.syn.length vcap := by
    rcases HH0.out.osyn.eq_slice with ⟨e, e2⟩ | ⟨g, c, e, _⟩
    · exact ⟨none, 0, by rw [e, e2]; rfl⟩
    · exact ⟨_, _, e⟩
  have b3 := HH3.out.blk
  have c2 := Joins.cell_of_block b3 3
  have f2 := Joins.unfrozen_of_block b3 3
  simp only [List.getElem?_toArray, List.getElem?_cons_succ, List.getElem?_cons_zero, hvc] at c2
  have hown3 := HH3.out.osyn
  rw [hvc] at hown3
  have hnb : ∀ j u, (intc (A.now + 1))[j]? = some u → (w3.alloc (.cells #[.int .i64 (A.now + 1)] 3)).cell? ⟨w3.heap.size, j, none⟩ = some u := by
    intro j u hj
    rw [World.cell?_alloc_at _ _ _ _ rfl, ← hj, intc]
    simp
  have HNB := Lib.hid hnb
  have hown4 := hown3.alloc (.cells #[.int .i64 (A.now + 1)] 3)
  have HOW := Lib.hid hown4
  have hlpb := HH3.out.lpb
  have hnr : ¬ (Value.slice va A.syn.length vcap).ownBlock = some D.pb := fun e => tag_ne (tag_own hown3 e) HH3.out.tpb (by decide) rfl
  have hall : ∀ w5 w6 : World, w5.heap = (w3.alloc (.cells #[.int .i64 (A.now + 1)] 3)).heap → Ext (fun b => (Value.slice va A.syn.length vcap).ownBlock = some b) w5 w6 → w6.heap[D.pb]? = some (.cells #[.map (some D.mf), .map (some D.mb), D.vc, .slice va A.syn.length vcap, .int .i64 (A.now + 1)] 62 (0, 0)) := fun w5 w6 h5 hx6 => by
    rw [hx6.block D.pb (by rw [h5]; simp; omega) hnr, h5, Below.heap_alloc _ _ _ hlpb, b3, hvc]
  have HALL := Lib.hid hall
  have HVC := Lib.hid hvc
  clear hnb hown3 hown4 hnr hall hvc b3
  go_region_law (refine step_append_struct2 (v := .slice va A.syn.length vcap) (l := A.syn) rfl (.tmp 16) (.tmp 21) 60 rfl i0 _ 8 Try.underlying60 hi hz0 hz1 hz2 rfl (by omega) intc_len intc_one rfl HOW.out (A.now + 1) w3.heap.size 1 rfl HNB.out (by unfold maxLen; omega) (by omega) (by simp; omega) ?_; intro v' w6 hown6 hx6 hnw6; obtain ⟨g6, cp6, rfl⟩ : ∃ g c, v' = .slice (some ⟨g, 0, none⟩) (A.syn.length + 1) c := (by rcases hown6.eq_slice with ⟨_, h⟩ | ⟨g, c, h, _⟩; (simp at h); exact ⟨g, c, by simpa using h⟩); have hb6 := HALL.out _ w6 (by rfl) hx6; have g1 := Joins.unfrozen_of_block hb6 3; have g2 := Joins.cell_of_block hb6 3)
  all_goals
    have hx7 : Ext (fun b => b = D.pb ∨ D.vs.ownBlock = some b) w3 (w6.setCell ⟨D.pb, 3, none⟩ (.slice (some ⟨g6, 0, none⟩) (A.syn.length + 1) cp6)) :=
      Ext.setCell ((((Ext.refl _ w3).alloc (.cells #[.int .i64 (A.now + 1)] 3))).andThen (T := fun b => (Value.slice va A.syn.length vcap).ownBlock = some b) ⟨hx6.os, hx6.tape, hx6.output, hx6.size, hx6.block⟩ (fun b _ hb => .inr (by rw [HVC.out]; exact hb))) (.inr (.inl rfl)) _
    have hblk : (w6.setCell ⟨D.pb, 3, none⟩ (.slice (some ⟨g6, 0, none⟩) (A.syn.length + 1) cp6)).heap[D.pb]? = some (.cells #[.map (some D.mf), .map (some D.mb), D.vc, .slice (some ⟨g6, 0, none⟩) (A.syn.length + 1) cp6, .int .i64 (A.now + 1)] 62 (0, 0)) := by
      rw [Joins.block_setCell hb6]; rfl
    have h7 := HH3.out.head hx7 (fun b _ hb => hb.elim .inl (fun e => .inr (.inr e))) hblk
      (HH3.out.ochg.ext hx7 (fun b hb hs => by
        rcases hs with rfl | e
        · exact tag_ne (tag_own HH3.out.ochg hb) HH3.out.tpb (by decide) rfl
        · exact tag_ne (tag_own HH3.out.ochg hb) (tag_own HH3.out.osyn e) (by decide) rfl))
      (hown6.ext (ext_set _ _ _ _) (fun b hb e => tag_ne (tag_own hown6 hb) (tag_cells hb6) (by decide) e))
      HH3.out.ok.inc
    have hg6 : ∀ b, (Value.slice (some ⟨g6, 0, none⟩) (A.syn.length + 1) cp6).ownBlock = some b → D.vs.ownBlock = some b ∨ w.heap.size ≤ b := fun b hb => by
      rcases hnw6 b hb with e | e
      · exact .inl (by rw [HVC.out]; exact e)
      · refine .inr (Nat.le_trans ?_ e)
        have := HS3.out
        simp
        omega
    have hT : Turned base w D A (w6.setCell ⟨D.pb, 3, none⟩ (.slice (some ⟨g6, 0, none⟩) (A.syn.length + 1) cp6)) { D with vc := D.vc, vs := .slice (some ⟨g6, 0, none⟩) (A.syn.length + 1) cp6 } (synA A) := {
      is_ := h7
      pb := rfl
      ext := HX3.out.andThen hx7 (fun b _ hb => hb.elim .inl (fun e => .inr (.inr (.inr (.inr (.inl e))))))
      foot := fun b hb => by
        rcases hb with e | e | e | e | e | ⟨g, hg, e⟩
        · exact .inl (.inl e)
        · exact .inl (.inr (.inl e))
        · exact .inl (.inr (.inr (.inl e)))
        · exact .inl (.inr (.inr (.inr (.inl e))))
        · exact (hg6 b e).elim (fun e => .inl (.inr (.inr (.inr (.inr (.inl e)))))) .inr
        · exact .inl (.inr (.inr (.inr (.inr (.inr ⟨g, hg, e⟩))))) }
    have HT := Lib.hid hT
    clear hx7 hblk h7 hg6 hT hown6 hx6 hnw6 hb6 g1 g2
    go_wp2
    go_ret
    exact ⟨rfl, _, HT.out⟩

end Go.Proofs.Ytmlaojfhmaamcaa
