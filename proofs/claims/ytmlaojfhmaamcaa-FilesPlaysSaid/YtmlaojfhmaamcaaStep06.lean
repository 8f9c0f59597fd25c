/- Contracts of files.New, change.apply, Disk.step, Disk.find. -/
import Derived.Test.YtmlaojfhmaamcaaDisk06
import Derived.Test.YtmlaojfhmaamcaaAppNew
import Derived.BigQuiet
import Derived.Deep.QuietTactic
import Derived.Deep.RegionHeld3
import Derived.IntWalk
import Derived.Deep.CutBlock
import Derived.Deep.DeepCutAuto
import Derived.ProofKit
import Derived.Lib.SmallJoins
import Derived.Deep.RegionLaw
namespace Go.Proofs.Ytmlaojfhmaamcaa
open Go.RowKit Go.Deep
set_option linter.unusedSimpArgs false
set_option linter.unusedVariables false

theorem und_files : Try.prog.underlying 58 = some (.map 9 69) := by kernel_rfl
theorem zero_file (w : World) : (zeroValue 69).run Try.prog w = .ok (.pointer none) w := by kernel_rfl

/-- What a change of names makes of names. -/
def applyC (c : Chg) (l : List (ByteArray × Nat)) : List (ByteArray × Nat) :=
  match c.f with
  | none => adel l c.old
  | some f => aset (adel l c.old) c.name f

attribute [local go_sem] MapIs.alloc MapIs.drew MapIs.setCell
attribute [local go_sem] mapPut_cell mapPut_frozen mapPut_size mapPut_drew mapDel_cell mapDel_frozen mapDel_size mapDel_drew

set_option maxHeartbeats 1000000 in
theorem apply_any (c : Chg) (mf : Nat) (l : List (ByteArray × Nat)) (w : World) (h : MapIs Value.string fptr w mf l) :
    Calls Try.prog 55 #[.agg #[.int .i64 c.at_, .string c.name, .string c.old, ptrV c.f], .map (some mf)] w fun e w' =>
      e = .returned (.tuple #[]) ∧ MapIs Value.string fptr w' mf (applyC c l) ∧ Ext (· = mf) w w' := by
  obtain ⟨cat, nm, od, f⟩ := c
  have hdel : ∀ W, MapIs Value.string fptr W mf l → (Builtin.delete_ #[58, 9] 0 #[.map (some mf), .string od]).run Try.prog W = .ok (.tuple #[]) (mapDel W mf (aidx l od)) :=
    fun W hW => hW.delete key_string und_files od
  have h1 : MapIs Value.string fptr (w.alloc (.cells #[.int .i64 cat, .string nm, .string od, ptrV f] 92)) mf l := h.alloc _
  have h2 := h1.del od
  have hx : Ext (· = mf) w (mapDel (w.alloc (.cells #[.int .i64 cat, .string nm, .string od, ptrV f] 92)) mf (aidx l od)) := ((Ext.refl (fun x => x = mf) w).alloc _).mapDel (.inl rfl) _
  cases f with
  | none =>
    unfold ptrV at *
    simp only [Option.map_none] at *
    go_enter Try.func55, Try.ntmps55
    go_wp2
    go_end0
    exact ⟨rfl, h2, hx⟩
  | some f =>
    have hu : ∀ W, MapIs Value.string fptr W mf (adel l od) → (Instr.mapUpdate 58 (.map (some mf)) (.string nm) (.pointer (some ⟨f, 0, none⟩))).run Try.prog W = .ok () (mapPut W mf (aidx (adel l od) nm) (.string nm) (fptr f)) :=
      fun W hW => hW.update key_string und_files nm (fptr f)
    unfold ptrV at *
    simp only [Option.map_some] at *
    have h3 := h2.put nm f
    have hx3 := hx.mapPut (b := mf) (.inl rfl) (aidx (adel l od) nm) (.string nm) (fptr f)
    go_enter Try.func55, Try.ntmps55
    go_wp2
    go_end0
    exact ⟨rfl, h3, hx3⟩


/-- A new disk. -/
def disk0 : DiskA := ⟨[], [], [], [], 0, [], fun _ => []⟩
set_option maxHeartbeats 1000000 in
theorem new_any {base : Nat} (w : World) (hb : base ≤ w.heap.size) : Calls Try.prog 8 #[] w fun e w' =>
    ∃ D : DSh, e = .returned (.pointer (some ⟨D.pb, 0, none⟩)) ∧ DiskIs base w' D disk0 ∧ Below w.heap.size w w' ∧ ∀ b, Foot D disk0 b → w.heap.size ≤ b := by
  have hmm := @run_makeMap Try.prog
  have h1 : MapIs Value.string fptr (w.alloc (.map #[] 0)) w.heap.size ([] : List (ByteArray × Nat)) := MapIs.made w
  have h2 : MapIs Value.string fptr ((w.alloc (.map #[] 0)).alloc (.map #[] 0)) (w.heap.size + 1) ([] : List (ByteArray × Nat)) := by
    have := MapIs.made (ek := Value.string) (ev := fptr) (w.alloc (.map #[] 0))
    rwa [World.size_alloc] at this
  have hB := (((Below.refl w.heap.size w).alloc (Nat.le_refl _) (.map #[] 0)).alloc (by simp) (.map #[] 0)).alloc (by simp; omega) (.cells #[.map (some w.heap.size), .map (some (w.heap.size + 1)), .slice none 0 0, .slice none 0 0, .int .i64 0] 62)
  go_enter Try.func8, Try.ntmps8
  go_wp2
  go_ret
  refine ⟨⟨w.heap.size + 2, w.heap.size, w.heap.size + 1, .slice none 0 0, .slice none 0 0, fun _ => .slice none 0 0⟩, rfl, ?_, hB, ?_⟩
  · exact {
      blk := by
        have := (MapKept.heap_alloc ((w.alloc (.map #[] 0)).alloc (.map #[] 0)) (.cells #[.map (some w.heap.size), .map (some (w.heap.size + 1)), .slice none 0 0, .slice none 0 0, .int .i64 0] 62)).1
        simp only [World.size_alloc] at this
        exact this
      lo := by dsimp only; omega
      lof := by dsimp only; omega
      lob := by dsimp only; omega
      ne := by dsimp only; omega
      mfiles := (h1.alloc _).alloc _
      mbase := h2.alloc _
      ochg := Own.nil
      osyn := Own.nil
      file := fun f hf => by cases hf
      apart := fun f g hf => by cases hf
      ok := ⟨fun n f hf => (by cases hf), fun n f hf => (by cases hf), fun c hc => (by cases hc), fun g hg => (by cases hg)⟩ }
  · intro b hb
    rcases hb with rfl | rfl | rfl | hb | hb | ⟨f, hf, _⟩
    · dsimp only; omega
    · exact Nat.le_refl _
    · dsimp only; omega
    · cases hb
    · cases hb
    · cases hf

theorem info_change : (Try.prog.info? 92).map (fun i => (i.zero, i.size, i.bytes)) = some (some (.agg #[.int .i64 0, .string ⟨#[]⟩, .string ⟨#[]⟩, .pointer none]), 4, 48) := by kernel_rfl

theorem applyC_mem {c : Chg} {l : List (ByteArray × Nat)} {n : ByteArray} {g : Nat} (h : (n, g) ∈ applyC c l) : (n, g) ∈ l ∨ (n = c.name ∧ c.f = some g) := by
  unfold applyC at h
  have hdel : ∀ {x}, x ∈ adel l c.old → x ∈ l := fun hx => (adel_sub l c.old).subset hx
  cases hf : c.f with
  | none => rw [hf] at h; exact .inl (hdel h)
  | some f =>
    rw [hf] at h
    dsimp only at h
    cases hi : aidx (adel l c.old) c.name with
    | none =>
      rw [aset_none hi] at h
      rcases List.mem_append.1 h with h | h
      · exact .inl (hdel h)
      · simp at h; exact .inr ⟨h.1, by rw [h.2]⟩
    | some i =>
      rw [aset_some hi] at h
      rcases List.mem_or_eq_of_mem_set h with h | h
      · exact .inl (hdel h)
      · cases h; exact .inr ⟨rfl, rfl⟩

/-- A change of names is done. -/
def stepA (c : Chg) (A : DiskA) : DiskA := { A with now := A.now + 1, chg := A.chg ++ [{ c with at_ := A.now + 1 }], files := applyC c A.files }

set_option maxHeartbeats 4000000 in
theorem step_any {base : Nat} {w : World} {D : DSh} {A : DiskA} (h : DiskIs base w D A) (hbw : base ≤ w.heap.size) (c : Chg) (hc : ∀ f, c.f = some f → f ∈ A.ids ∧ c.name.size ≤ 8) (hn0 : 0 ≤ A.now) (hn1 : A.now ≤ 1000000000) (hl : A.chg.length ≤ 1000000000) :
    Calls Try.prog 46 #[.pointer (some ⟨D.pb, 0, none⟩), .agg #[.int .i64 c.at_, .string c.name, .string c.old, ptrV c.f]] w fun e w' =>
      e = .returned (.tuple #[]) ∧ ∃ D', Turned base w D A w' D' (stepA c A) := by
  obtain ⟨i0, hi, hz0, hz1, hz2⟩ := info_parts info_change
  obtain ⟨cat, nm, od, f⟩ := c
  obtain ⟨pv, hpv⟩ : ∃ pv, ptrV f = pv := ⟨_, rfl⟩
  rw [hpv]
  have HPV := Lib.hid hpv
  clear hpv
  have HC := Lib.hid hc
  clear hc
  dsimp only at HC ⊢
  -- the box
  have h1 := h.alloc (.cells #[.int .i64 cat, .string nm, .string od, pv] 92)
  have q0 : (w.alloc (.cells #[.int .i64 cat, .string nm, .string od, pv] 92)).heap[w.heap.size]? = some (.cells #[.int .i64 cat, .string nm, .string od, pv] 92 (0, 0)) := (MapKept.heap_alloc w _).1
  have hpb := h.lpb
  have HX1 := Lib.hid ((Ext.refl (Foot D A) w).alloc (.cells #[.int .i64 cat, .string nm, .string od, pv] 92))
  have HH0 := Lib.hid h
  have hs1 : (w.alloc (.cells #[.int .i64 cat, .string nm, .string od, pv] 92)).heap.size = w.heap.size + 1 := by simp
  obtain ⟨w1, hw1⟩ : ∃ w1, w.alloc (.cells #[.int .i64 cat, .string nm, .string od, pv] 92) = w1 := ⟨_, rfl⟩
  rw [hw1] at h1 q0 hs1 HX1
  have p0 := h1.blk
  -- the first store
  have p1 := Joins.block_setCell (i := 4) p0 (.int .i64 (A.now + 1))
  have h2 : DiskIs base (w1.setCell ⟨D.pb, 4, none⟩ (.int .i64 (A.now + 1))) D { A with now := A.now + 1 } :=
    h1.head (S := (· = D.pb)) (ext_set _ _ _ _) (fun b _ hb => .inl hb) p1 (h1.ochg.ext (ext_set _ _ _ _) (fun b hb e => tag_ne (tag_own h1.ochg hb) h1.tpb (by decide) e))
      (h1.osyn.ext (ext_set _ _ _ _) (fun b hb e => tag_ne (tag_own h1.osyn hb) h1.tpb (by decide) e)) h1.ok.inc
  have q1 : (w1.setCell ⟨D.pb, 4, none⟩ (.int .i64 (A.now + 1))).heap[w.heap.size]? = some (.cells #[.int .i64 cat, .string nm, .string od, pv] 92 (0, 0)) :=
    ((ext_set w1 D.pb 4 _).block _ (by omega) (by omega)).trans q0
  have HX2 := Lib.hid (HX1.out.setCell (p := ⟨D.pb, 4, none⟩) (.inr (.inl rfl)) (.int .i64 (A.now + 1)))
  obtain ⟨w2, hw2⟩ : ∃ w2, w1.setCell ⟨D.pb, 4, none⟩ (.int .i64 (A.now + 1)) = w2 := ⟨_, rfl⟩
  have hs2 : w2.heap.size = w.heap.size + 1 := by rw [← hw2, World.size_setCell, hs1]
  rw [hw2] at p1 h2 q1 HX2
  -- the second
  have q2 := Joins.block_setCell (i := 0) q1 (.int .i64 (A.now + 1))
  have h3 : DiskIs base (w2.setCell ⟨w.heap.size, 0, none⟩ (.int .i64 (A.now + 1))) D { A with now := A.now + 1 } :=
    h2.ext (ext_set _ _ _ _) (fun b hb e => by
      have h9 : Foot D A b := hb
      have := (HH0.out.foot h9).2.1
      omega) (fun b hb ht e => by rw [e, tag_cells q1] at ht; cases ht)
  have HX3 := Lib.hid (HX2.out.setCell (p := ⟨w.heap.size, 0, none⟩) (.inl (Nat.le_refl _)) (.int .i64 (A.now + 1)))
  obtain ⟨w3, hw3⟩ : ∃ w3, w2.setCell ⟨w.heap.size, 0, none⟩ (.int .i64 (A.now + 1)) = w3 := ⟨_, rfl⟩
  have hs3 : w3.heap.size = w.heap.size + 1 := by rw [← hw3, World.size_setCell, hs2]
  rw [hw3] at h3 q2 HX3
  have k0 := Joins.cell_of_block p0 4
  have k1 := Joins.unfrozen_of_block p0 4
  have k2 := Joins.cell_of_block p1 4
  have k3 := Joins.cell_of_block q1 0
  have k4 := Joins.unfrozen_of_block q1 0
  have HP0 := Lib.hid p0
  have HP1 := Lib.hid p1
  have HQ1 := Lib.hid q1
  have HQ2 := Lib.hid q2
  have HH3 := Lib.hid h3
  clear h h1 h2 h3 p0 p1 q0 q1 q2
  simp only [List.getElem?_toArray, Array.getElem?_setIfInBounds, List.size_toArray, List.length_cons, List.length_nil, List.getElem?_cons_succ, List.getElem?_cons_zero, Nat.reduceAdd, Nat.reduceLT, if_true] at k0 k2 k3
  go_enter Try.func46, Try.ntmps46

  have HS3 := Lib.hid hs3
  have hbw3 : base ≤ w3.heap.size := by omega
  have hw0 : w.heap.size < w3.heap.size := by omega
  clear hs1 hs2 hs3
  go_upto_region 3 with fail
  clear k0 k1 k2 k3 k4 hw1 hw2 hw3 HP0 HP1 HQ1 HX1 HX2
  obtain ⟨va, vcap, hvc⟩ : ∃ va vcap, D.vc = .slice va A.chg.length vcap := by
    rcases HH0.out.ochg.eq_slice with ⟨e, e2⟩ | ⟨g, c, e, _⟩
    · exact ⟨none, 0, by rw [e, e2]; rfl⟩
    · exact ⟨_, _, e⟩
  have b3 := HH3.out.blk
  have c2 := Joins.cell_of_block b3 2
  have c0 := Joins.cell_of_block b3 0
  have f2 := Joins.unfrozen_of_block b3 2
  have d0 := Joins.cell_of_block HQ2.out 0
  have d1 := Joins.cell_of_block HQ2.out 1
  have d2 := Joins.cell_of_block HQ2.out 2
  have d3 := Joins.cell_of_block HQ2.out 3
  simp only [List.getElem?_toArray, Array.getElem?_setIfInBounds, List.size_toArray, List.length_cons, List.length_nil, List.getElem?_cons_succ, List.getElem?_cons_zero, Nat.reduceAdd, Nat.reduceLT, if_true, hvc] at c2 c0 d0 d1 d2 d3
  try simp only [List.setIfInBounds_toArray, List.set_cons_zero, List.getElem?_toArray, List.getElem?_cons_succ, List.getElem?_cons_zero] at d0 d1 d2 d3
  have hown3 := HH3.out.ochg
  rw [hvc] at hown3
  have hnb : ∀ j u, (Chg.cells ⟨A.now + 1, nm, od, f⟩)[j]? = some u → (w3.alloc (.cells #[.int .i64 (A.now + 1), .string nm, .string od, pv] 92)).cell? ⟨w3.heap.size, j, none⟩ = some u := by
    intro j u hj
    rw [World.cell?_alloc_at _ _ _ _ rfl, ← hj, Chg.cells]
    simp [HPV.out]
  have HNB := Lib.hid hnb
  have hown4 := hown3.alloc (.cells #[.int .i64 (A.now + 1), .string nm, .string od, pv] 92)
  have HOW := Lib.hid hown4
  have hlpb := HH3.out.lpb
  have hnr : ¬ (Value.slice va A.chg.length vcap).ownBlock = some D.pb := fun e => tag_ne (tag_own hown3 e) HH3.out.tpb (by decide) rfl
  have hnq : ¬ (Value.slice va A.chg.length vcap).ownBlock = some w.heap.size := fun e => by
    have := HH0.out.ochg.blk w.heap.size (by rw [hvc]; exact e)
    omega
  have hall : ∀ w5 w6 : World, w5.heap = (w3.alloc (.cells #[.int .i64 (A.now + 1), .string nm, .string od, pv] 92)).heap → Ext (fun b => (Value.slice va A.chg.length vcap).ownBlock = some b) w5 w6 → w6.heap[D.pb]? = some (.cells #[.map (some D.mf), .map (some D.mb), .slice va A.chg.length vcap, D.vs, .int .i64 (A.now + 1)] 62 (0, 0)) := fun w5 w6 h5 hx6 => by
    rw [hx6.block D.pb (by rw [h5]; simp; omega) hnr, h5, Below.heap_alloc _ _ _ hlpb, b3, hvc]
  have HALL := Lib.hid hall
  have HVC := Lib.hid hvc
  have HNR := Lib.hid hnr
  have HNQ := Lib.hid hnq
  clear hnb hown3 hown4 hnr hall hvc hnq b3
  go_region_law (refine step_append_struct2 (v := .slice va A.chg.length vcap) (l := A.chg) rfl (.tmp 20) (.tmp 22) 59 rfl i0 _ 48 Try.underlying59 hi hz0 hz1 hz2 rfl (by omega) Chg.len Chg.one rfl HOW.out ⟨A.now + 1, nm, od, f⟩ w3.heap.size 1 rfl HNB.out (by unfold maxLen; omega) (by omega) (by simp; omega) ?_; intro v' w6 hown6 hx6 hnw6; obtain ⟨g6, cp6, rfl⟩ : ∃ g c, v' = .slice (some ⟨g, 0, none⟩) (A.chg.length + 1) c := (by rcases hown6.eq_slice with ⟨_, h⟩ | ⟨g, c, h, _⟩; (simp at h); exact ⟨g, c, by simpa using h⟩); have hb6 := HALL.out _ w6 (by rfl) hx6; have g1 := Joins.unfrozen_of_block hb6 2; have g2 := Joins.cell_of_block hb6 2)
  all_goals
    have hx7 : Ext (fun b => b = D.pb ∨ D.vc.ownBlock = some b) w3 (w6.setCell ⟨D.pb, 2, none⟩ (.slice (some ⟨g6, 0, none⟩) (A.chg.length + 1) cp6)) :=
      Ext.setCell ((((Ext.refl _ w3).alloc (.cells #[.int .i64 (A.now + 1), .string nm, .string od, pv] 92))).andThen (T := fun b => (Value.slice va A.chg.length vcap).ownBlock = some b) ⟨hx6.os, hx6.tape, hx6.output, hx6.size, hx6.block⟩ (fun b _ hb => .inr (by rw [HVC.out]; exact hb))) (.inr (.inl rfl)) _
    have hblk : (w6.setCell ⟨D.pb, 2, none⟩ (.slice (some ⟨g6, 0, none⟩) (A.chg.length + 1) cp6)).heap[D.pb]? = some (.cells #[.map (some D.mf), .map (some D.mb), .slice (some ⟨g6, 0, none⟩) (A.chg.length + 1) cp6, D.vs, .int .i64 (A.now + 1)] 62 (0, 0)) := by
      rw [Joins.block_setCell hb6]; rfl
    have h7 := HH3.out.head hx7 (fun b _ hb => hb.elim .inl (fun e => .inr (.inl e))) hblk (hown6.ext (ext_set _ _ _ _) (fun b hb e => tag_ne (tag_own hown6 hb) (tag_cells hb6) (by decide) e))
      (HH3.out.osyn.ext hx7 (fun b hb hs => by
        rcases hs with rfl | e
        · exact tag_ne (tag_own HH3.out.osyn hb) HH3.out.tpb (by decide) rfl
        · exact tag_ne (tag_own HH3.out.osyn hb) (tag_own HH3.out.ochg e) (by decide) rfl))
      (fun c hc f' hf' => by
        rcases List.mem_append.1 hc with hc | hc
        · exact HH3.out.ok.inc c hc f' hf'
        · simp at hc; subst hc; exact HC.out f' hf')
    have q7 := (hx7.block w.heap.size hw0 (fun e => by
      rcases e with e | e
      · omega
      · exact HNQ.out (by rw [← HVC.out]; exact e))).trans HQ2.out
    have hg6 : ∀ b, (Value.slice (some ⟨g6, 0, none⟩) (A.chg.length + 1) cp6).ownBlock = some b → D.vc.ownBlock = some b ∨ w.heap.size ≤ b := fun b hb => by
      rcases hnw6 b hb with e | e
      · exact .inl (by rw [HVC.out]; exact e)
      · refine .inr (Nat.le_trans ?_ e)
        simp
        omega
    have hs7 := hx7.size
    obtain ⟨w7, hw7⟩ : ∃ w7, w6.setCell ⟨D.pb, 2, none⟩ (.slice (some ⟨g6, 0, none⟩) (A.chg.length + 1) cp6) = w7 := ⟨_, rfl⟩
    rw [hw7] at h7 hx7 q7 hs7 ⊢
    have HX7 := Lib.hid hx7
    have HG6 := Lib.hid hg6
    have d0 := Joins.cell_of_block q7 0
    have d1 := Joins.cell_of_block q7 1
    have d2 := Joins.cell_of_block q7 2
    have d3 := Joins.cell_of_block q7 3
    have c0 := Joins.cell_of_block h7.blk 0
    simp only [List.getElem?_toArray, Array.getElem?_setIfInBounds, List.size_toArray, List.length_cons, List.length_nil, List.getElem?_cons_succ, List.getElem?_cons_zero, Nat.reduceAdd, Nat.reduceLT, if_true] at d0 d1 d2 d3 c0
    try simp only [List.setIfInBounds_toArray, List.set_cons_zero, List.getElem?_toArray, List.getElem?_cons_succ, List.getElem?_cons_zero] at d0 d1 d2 d3
    have HM7 := Lib.hid h7.mfiles
    have H7 := Lib.hid h7
    have hap := fun W h => apply_any ⟨A.now + 1, nm, od, f⟩ D.mf A.files W h
    dsimp only at hap
    rw [HPV.out] at hap
    have HAP := Lib.hid hap
    have n1 := tag_ne h7.tpb (tag_map h7.mfiles) (by decide)
    have n2 := tag_ne (tag_cells q7) (tag_map h7.mfiles) (by decide)
    clear hw7 hx7 hg6 hown6 hx6 hnw6 hb6 g1 g2 q7 h7 hap hblk
    go_upto_region 4 with fail
    go_region_held3 (fun W => W.cell? ⟨w.heap.size, 0, none⟩ = some (.int .i64 (A.now + 1)) ∧ W.cell? ⟨w.heap.size, 1, none⟩ = some (.string nm) ∧ W.cell? ⟨w.heap.size, 2, none⟩ = some (.string od) ∧ W.cell? ⟨w.heap.size, 3, none⟩ = some pv ∧ W.cell? ⟨D.pb, 0, none⟩ = some (.map (some D.mf))) (first | exact ⟨d0, d1, d2, d3, c0⟩ | exact ⟨Ext.keep hx8 d0 n2, Ext.keep hx8 d1 n2, Ext.keep hx8 d2 n2, Ext.keep hx8 d3 n2, Ext.keep hx8 c0 n1⟩) ((go_at_call 55; ((with_reducible refine (HAP.out _ HM7.out.drew).mono ?_); rintro e w8 ⟨rfl, hm8, hx8⟩; rw [ext_drew] at hx8)))
    all_goals
      have h8 := H7.out.names hx8 hm8 (fun n g hg => by
        rcases applyC_mem hg with e | ⟨rfl, e⟩
        · exact HH0.out.ok.inf n g e
        · exact HC.out g e)
      have hT : Turned base w D A w8 { D with vc := .slice (some ⟨g6, 0, none⟩) (A.chg.length + 1) cp6, vs := D.vs } (stepA ⟨cat, nm, od, f⟩ A) := {
        is_ := h8
        pb := rfl
        ext := (HX3.out.andThen HX7.out (fun b _ hb => hb.elim .inl (fun e => .inr (.inr (.inr (.inl e)))))).andThen hx8 (fun b _ hb => .inr (.inl hb))
        foot := fun b hb => by
          rcases hb with e | e | e | e | e | ⟨g, hg, e⟩
          · exact .inl (.inl e)
          · exact .inl (.inr (.inl e))
          · exact .inl (.inr (.inr (.inl e)))
          · exact (HG6.out b e).elim (fun e => .inl (.inr (.inr (.inr (.inl e))))) .inr
          · exact .inl (.inr (.inr (.inr (.inr (.inl e)))))
          · exact .inl (.inr (.inr (.inr (.inr (.inr ⟨g, hg, e⟩))))) }
      have HT := Lib.hid hT
      clear hm8 hx8 h8 hT d0 d1 d2 d3 c0
      first
        | (go_wp2_with fail; go_end0; exact ⟨rfl, _, HT.out⟩)
        | (go_end0; exact ⟨rfl, _, HT.out⟩)

end Go.Proofs.Ytmlaojfhmaamcaa
