/- Contract of Disk.Append. -/
import Derived.Test.YtmlaojfhmaamcaaSynN06
import Derived.Test.YtmlaojfhmaamcaaClone06
namespace Go.Proofs.Ytmlaojfhmaamcaa
open Go.RowKit Go.Deep
set_option linter.unusedSimpArgs false
set_option linter.unusedVariables false

theorem info_piece : (Try.prog.info? 76).map (fun i => (i.zero, i.size, i.bytes)) = some (some (.agg #[.slice none 0 0, .int .i64 0, .int .i64 0]), 3, 40) := by kernel_rfl

/-- Bytes are put behind a file. -/
def appA (f : Nat) (bs : List UInt8) (A : DiskA) : DiskA := { A with now := A.now + 1, fs := fun g => if g = f then A.fs f ++ [⟨bs, A.now + 1, 0⟩] else A.fs g }
theorem sizeP_snoc (ps : List PcA) (p : PcA) : sizeP (ps ++ [p]) = sizeP ps + p.bs.length := by simp [sizeP]

theorem piece_alloc (W : World) (sa : Option Addr) (sn sc : Nat) (n : Int) : ∀ j u, (Pc.cells ⟨⟨sa, sn, sc⟩, n, 0⟩)[j]? = some u → (W.alloc (.cells #[.slice sa sn sc, .int .i64 n, .int .i64 0] 76)).cell? ⟨W.heap.size, j, none⟩ = some u := by
  intro j u hj
  rw [World.cell?_alloc_at _ _ _ _ rfl, ← hj, Pc.cells]
  simp

/-- A store where no byte lies leaves bytes. -/
theorem bytes_set {w : World} {v u : Value} {bs : List UInt8} {p : Addr} {n : Int} (h : SliceIs u8c 1 w v bs) (hp : w.cell? p = some (.int .i64 n)) : SliceIs u8c 1 (w.setCell p u) v bs := by
  obtain ⟨a, cap, h1, h2, h3, h4⟩ := h
  refine ⟨a, cap, h1, h2, h3, fun hl => ?_⟩
  obtain ⟨b, off, h5, h6⟩ := h4 hl
  refine ⟨b, off, h5, fun i x hi j z hj => ?_⟩
  have h7 := h6 i x hi j z hj
  rw [World.cell?_setCell_other]
  · exact h7
  · rintro rfl
    rw [hp] at h7
    cases h7
    have hj0 : j = 0 := by
      have := (List.getElem?_eq_some_iff.1 hj).1
      simp [u8c] at this
      exact this
    subst hj0
    simp [u8c] at hj

theorem append_fin {base : Nat} {w w3 w5 w6 : World} {D : DSh} {A : DiskA} {f : Nat} {bs : List UInt8} {va : Option Addr} {vcap : Nat} {qs : List Pc} {s5 : Sl} {v6 : Value} {o : Obj} (h : DiskIs base w D A) (hx3 : Ext (Foot D A) w w3) (hs3 : w3.heap.size = w.heap.size) (hbw : base ≤ w3.heap.size)
    (h3 : DiskIs base w3 D { A with now := A.now + 1 }) (hf : f ∈ A.ids) (hvc : D.rv f = .slice va qs.length vcap) (hql : qs.length = (A.fs f).length) (hqp : ∀ (i : Nat) q p, qs[i]? = some q → (A.fs f)[i]? = some p → PcIs base w3 q p)
    (b5 : Below w3.heap.size w3 w5) (own5 : Own u8c 1 5 w3.heap.size w5 s5.val bs) (hown6 : Own Pc.cells 3 76 base w6 v6 (qs ++ [⟨s5, A.now + 1, 0⟩])) (hx6 : Ext (fun b => (Value.slice va qs.length vcap).ownBlock = some b) (w5.alloc o) w6)
    (hnw6 : ∀ b, v6.ownBlock = some b → (Value.slice va qs.length vcap).ownBlock = some b ∨ (w5.alloc o).heap.size ≤ b) (hb6 : w6.heap[f]? = some (.cells #[.slice va qs.length vcap, .int .i64 (sizeP (A.fs f))] 74 (0, 0))) (hroom : sizeP (A.fs f) + bs.length ≤ 1048576) :
    Turned base w D A ((w6.setCell ⟨f, 0, none⟩ v6).setCell ⟨f, 1, none⟩ (.int .i64 ((sizeP (A.fs f) : Int) + bs.length))) { D with rv := fun g => if g = f then v6 else D.rv g } (appA f bs A) := by
  have hx9 : Ext (fun b => b = f ∨ (D.rv f).ownBlock = some b) w3 ((w6.setCell ⟨f, 0, none⟩ v6).setCell ⟨f, 1, none⟩ (.int .i64 ((sizeP (A.fs f) : Int) + bs.length))) := by
    refine Ext.setCell (Ext.setCell ?_ (.inr (.inl rfl)) _) (.inr (.inl rfl)) _
    exact ((Ext.of_below b5).alloc o).andThen hx6 (fun b _ hb => .inr (by rw [hvc]; exact hb))
  have hb9 : ((w6.setCell ⟨f, 0, none⟩ v6).setCell ⟨f, 1, none⟩ (.int .i64 ((sizeP (A.fs f) : Int) + bs.length))).heap[f]? = some (.cells #[v6, .int .i64 ((sizeP (A.fs f) : Int) + bs.length)] 74 (0, 0)) := by
    rw [Joins.block_setCell (Joins.block_setCell hb6 _)]
    rfl
  have hx69 : Ext (· = f) w6 ((w6.setCell ⟨f, 0, none⟩ v6).setCell ⟨f, 1, none⟩ (.int .i64 ((sizeP (A.fs f) : Int) + bs.length))) := (ext_set _ _ _ _).andThen (ext_set _ _ _ _) (fun _ _ => id)
  have hx59 : Ext (fun b => b = f ∨ (D.rv f).ownBlock = some b) w5 ((w6.setCell ⟨f, 0, none⟩ v6).setCell ⟨f, 1, none⟩ (.int .i64 ((sizeP (A.fs f) : Int) + bs.length))) :=
    (((Ext.refl _ w5).alloc o).andThen hx6 (fun b _ hb => .inr (by rw [hvc]; exact hb))).andThen hx69 (fun b _ hb => .inl hb)
  have tf := (h3.file f hf).tag
  have trow : ∀ b, (D.rv f).ownBlock = some b → tagOf w3 b = some 76 := fun b hb => ((h3.file f hf).row hb).1
  have hv : ∀ b, v6.ownBlock = some b → (D.rv f).ownBlock = some b ∨ w3.heap.size ≤ b := fun b hb => by
    rcases hnw6 b hb with e | e
    · exact .inl (by rw [hvc]; exact e)
    · refine .inr (Nat.le_trans b5.size (Nat.le_trans ?_ e))
      simp
  have hsz : sizeP (A.fs f ++ [⟨bs, A.now + 1, 0⟩]) ≤ 1048576 := by rw [sizeP_snoc]; exact hroom
  have hfile : FileIs base ((w6.setCell ⟨f, 0, none⟩ v6).setCell ⟨f, 1, none⟩ (.int .i64 ((sizeP (A.fs f) : Int) + bs.length))) f v6 (A.fs f ++ [⟨bs, A.now + 1, 0⟩]) := by
    refine ⟨(h3.file f hf).1, ?_, _, hown6.ext hx69 (fun b hb e => tag_ne (tag_own hown6 hb) (tag_cells hb6) (by decide) e), by simp [hql], fun i q p hq hp => ?_⟩
    · rw [hb9, sizeP_snoc]
      simp
    · by_cases hi : i < qs.length
      · rw [List.getElem?_append_left hi] at hq
        rw [List.getElem?_append_left (by omega)] at hp
        refine (hqp i q p hq hp).ext hx9 (fun b hb ht e => ?_)
        rcases e with rfl | e
        · exact tag_ne ht tf (by decide) rfl
        · exact tag_ne ht (trow b e) (by decide) rfl
      · have hi2 : i = qs.length := by
          have := (List.getElem?_eq_some_iff.1 hq).1
          simp at this
          omega
        subst hi2
        simp at hq
        rw [hql] at hp
        simp at hp
        subst hq hp
        refine ⟨(own5.ext hx59 (fun b hb e => ?_)).mono hbw, rfl, rfl⟩
        have hlb := (own5.blk b hb).1
        rcases e with rfl | e
        · have := (h3.file b hf).lt; omega
        · have := tag_lt (trow b e); omega
  have hT := h3.turn hx9 hf (fun b _ hb => hb) hfile hv hsz
  exact {
    is_ := hT
    pb := rfl
    ext := hx3.andThen hx9 (fun b _ hb => .inr (.inr (.inr (.inr (.inr ⟨f, hf, hb⟩)))))
    foot := fun b hb => by
      rcases hb with e | e | e | e | e | ⟨g, hg, e⟩
      · exact .inl (.inl e)
      · exact .inl (.inr (.inl e))
      · exact .inl (.inr (.inr (.inl e)))
      · exact .inl (.inr (.inr (.inr (.inl e))))
      · exact .inl (.inr (.inr (.inr (.inr (.inl e)))))
      · by_cases hgf : g = f
        · subst hgf
          dsimp only at e
          rw [if_pos rfl] at e
          rcases e with e | e
          · exact .inl (.inr (.inr (.inr (.inr (.inr ⟨g, hg, .inl e⟩)))))
          · rcases hv b e with e | e
            · exact .inl (.inr (.inr (.inr (.inr (.inr ⟨g, hg, .inr e⟩)))))
            · exact .inr (by omega)
        · dsimp only at e
          rw [if_neg hgf] at e
          exact .inl (.inr (.inr (.inr (.inr (.inr ⟨g, hg, e⟩))))) }

/-- What Append answers, and leaves. -/
def AppPost (base : Nat) (w : World) (D : DSh) (A : DiskA) (name : ByteArray) (bs : List UInt8) (e : Ending) (w' : World) : Prop :=
  (aget A.files name = none ∧ e = .returned (.int .i64 61) ∧ Turned base w D A w' D A) ∨ (∃ f, aget A.files name = some f ∧ 1048576 < sizeP (A.fs f) + bs.length ∧ e = .returned (.int .i64 62) ∧ Turned base w D A w' D A) ∨
      (∃ f D', aget A.files name = some f ∧ sizeP (A.fs f) + bs.length ≤ 1048576 ∧ e = .returned (.int .i64 0) ∧ Turned base w D A w' D' (appA f bs A))

set_option maxRecDepth 20000 in
set_option maxHeartbeats 4000000 in
theorem append_any {base : Nat} {w : World} {D : DSh} {A : DiskA} (h : DiskIs base w D A) (hbw : base ≤ w.heap.size) (name : ByteArray) (vx : Value) (bs : List UInt8) (hvx : SliceIs u8c 1 w vx bs) (hlb : bs.length ≤ 70368744177664) {N : Nat} (hsm : A.Small N) (hN : N ≤ 1000000000) :
    Calls Try.prog 22 #[.pointer (some ⟨D.pb, 0, none⟩), .string name, vx] w fun e w' =>
      AppPost base w D A name bs e w' := by
  obtain ⟨i0, hi, hz0, hz1, hz2⟩ := info_parts info_piece
  obtain ⟨xa, xc, rfl, hxc, hxm, _⟩ := id hvx
  unfold maxLen at hxm
  have HVX := Lib.hid hvx
  clear hvx
  go_enter Try.func22, Try.ntmps22
  go_wp2_with fail
  refine (find_any h name).mono ?_
  rintro e w1 ⟨rfl, rfl⟩
  unfold findV
  cases hg : aget A.files name with
  | none =>
    simp only [Option.isSome_none, ptrV, Option.map_none]
    have HH := Lib.hid h
    clear h
    go_wp2
    go_ret
    exact .inl ⟨hg, rfl, Turned.refl HH.out⟩
  | some f =>
    simp only [Option.isSome_some, ptrV, Option.map_some, if_true]
    have hf := (h.ok.inf _ _ (aget_mem hg)).1
    have hsz := h.ok.sz f hf
    have hF := h.file f hf
    have fb := hF.2.1
    have s1 := Joins.cell_of_block fb 1
    simp only [List.getElem?_toArray, List.getElem?_cons_succ, List.getElem?_cons_zero] at s1
    have HG := Lib.hid hg
    have HH := Lib.hid h
    have HF := Lib.hid hf
    have HFB := Lib.hid fb
    by_cases hroom : 1048576 < sizeP (A.fs f) + bs.length
    · have h9 : (1048576 : Int) - (sizeP (A.fs f) : Int) < (bs.length : Int) := by omega
      have HR := Lib.hid hroom
      clear h hf fb hF hg hroom
      go_wp2
      go_ret
      exact .inr (.inl ⟨f, HG.out, HR.out, rfl, Turned.refl HH.out⟩)
    · have h9 : ¬ (1048576 : Int) - (sizeP (A.fs f) : Int) < (bs.length : Int) := by omega
      have hroom' : sizeP (A.fs f) + bs.length ≤ 1048576 := by omega
      have HR := Lib.hid hroom'
      have hn1 := hsm.now
      have hn0 := hsm.now0
      have k0 := Joins.cell_of_block h.blk 4
      have k1 := Joins.unfrozen_of_block h.blk 4
      simp only [List.getElem?_toArray, List.getElem?_cons_succ, List.getElem?_cons_zero] at k0
      have hfp : f ≠ D.pb := tag_ne hF.tag h.tpb (by decide)
      clear h hf fb hF hg hroom hroom'
      go_upto_region 7 with fail
      have h3 := HH.out.tick
      have hx3 : Ext (Foot D A) w1 (w1.setCell ⟨D.pb, 4, none⟩ (.int .i64 (A.now + 1))) := (Ext.refl _ w1).setCell (p := ⟨D.pb, 4, none⟩) (.inr (.inl rfl)) _
      have hvx3 : SliceIs u8c 1 (w1.setCell ⟨D.pb, 4, none⟩ (.int .i64 (A.now + 1))) (.slice xa bs.length xc) bs := bytes_set HVX.out k0
      obtain ⟨w3, hw3⟩ : ∃ w3, w1.setCell ⟨D.pb, 4, none⟩ (.int .i64 (A.now + 1)) = w3 := ⟨_, rfl⟩
      have hs3 : w3.heap.size = w1.heap.size := by rw [← hw3, World.size_setCell]
      rw [hw3] at h3 hx3 hvx3 ⊢
      have HX3 := Lib.hid hx3
      have HS3 := Lib.hid hs3
      have HVX3 := Lib.hid (hvx3.below (Below.refl _ _).drew)
      have hbw3 : base ≤ w3.heap.size := by omega
      clear hw3 hx3 hs3 hvx3 k0 k1 s1
      have hF3 := h3.file f HF.out
      obtain ⟨hbf, hfb3, qs, hqo, hql, hqp⟩ := id hF3
      obtain ⟨va, vcap, hvc⟩ : ∃ va vcap, D.rv f = .slice va qs.length vcap := by
        rcases hqo.eq_slice with ⟨e, e2⟩ | ⟨g, c, e, _⟩
        · exact ⟨none, 0, by rw [e, e2]; rfl⟩
        · exact ⟨_, _, e⟩
      have hlq : qs.length ≤ 1000000001 := by have := hsm.pcs f HF.out; dsimp only at hql; omega
      have b3 := h3.blk
      have c4 := Joins.cell_of_block b3 4
      have f0 := Joins.cell_of_block hfb3 0
      simp only [List.getElem?_toArray, List.getElem?_cons_succ, List.getElem?_cons_zero, hvc] at c4 f0
      have hown3 := hqo
      rw [hvc] at hown3
      have hfl : f < w3.heap.size := hF3.lt
      have HFB3 := Lib.hid hfb3
      have HVC := Lib.hid hvc
      have HOW := Lib.hid hown3
      have HQP := Lib.hid hqp
      have HQL := Lib.hid hql
      have H3 := Lib.hid h3
      clear h3 hF3 hfb3 hqo hql hqp hvc b3 hown3 hsm
      have HCL := Lib.hid (fun W (h : SliceIs u8c 1 W (.slice xa bs.length xc) bs) => clone_any h hlb)
      have hnr : ¬ (Value.slice va qs.length vcap).ownBlock = some f := fun e => tag_ne (tag_own HOW.out e) (H3.out.file f HF.out).tag (by decide) rfl
      have HNR := Lib.hid hnr
      clear hnr
      go_region_law (first
        | (refine step_call (f := 47) (args := #[.slice xa bs.length xc]) rfl (by first | (go_simp; done) | (go_simp; first | rfl | exact ⟨rfl, rfl⟩ | exact ⟨⟨rfl, rfl⟩, rfl⟩)) ?_; (with_reducible refine (HCL.out _ HVX3.out).mono ?_); rintro e w5 ⟨v5, rfl, own5, b5⟩; refine ⟨_, rfl, ?_⟩; simp only [heap_drew, below_drew] at b5 own5; obtain ⟨⟨sa, sn, sc⟩, e5⟩ := own5.sl; change v5 = .slice sa sn sc at e5; subst e5; have c45 := keepB b5 c4; have f05 := keepB b5 f0; have f06 := cell_alloc f05 (.cells #[.slice sa sn sc, .int .i64 (A.now + 1), .int .i64 0] 76); have HB5 := Lib.hid b5; have HO5 := Lib.hid own5;
           have how5 := (HOW.out.ext (Ext.of_below (S := fun _ => False) b5) (fun _ _ => id)).alloc (.cells #[.slice sa sn sc, .int .i64 (A.now + 1), .int .i64 0] 76); have HOW5 := Lib.hid how5; have hs5 := b5.size;
           have hall5 : ∀ w6, Ext (fun b => (Value.slice va qs.length vcap).ownBlock = some b) (w5.alloc (.cells #[.slice sa sn sc, .int .i64 (A.now + 1), .int .i64 0] 76)) w6 → w6.heap[f]? = some (.cells #[.slice va qs.length vcap, .int .i64 (sizeP (A.fs f))] 74 (0, 0)) := (fun w6 hx6 => by
             rw [hx6.block f (by simp; omega) HNR.out, Below.heap_alloc _ _ _ (by omega), b5.block f hfl, HFB3.out, HVC.out]); have HALL5 := Lib.hid hall5;
           clear b5 own5 how5 hall5)
        | (refine step_append_struct2 (v := .slice va qs.length vcap) (l := qs) rfl (.tmp 37) (.tmp 45) 72 rfl i0 _ 40 Try.underlying72 hi hz0 hz1 hz2 rfl (by omega) Pc.len Pc.one rfl HOW5.out ⟨⟨sa, sn, sc⟩, A.now + 1, 0⟩ w5.heap.size 1 rfl (piece_alloc _ _ _ _ _) (by unfold maxLen; omega) (by omega) (by simp; omega) ?_; intro v' w6 hown6 hx6 hnw6; obtain ⟨g6, cp6, rfl⟩ : ∃ g c, v' = .slice (some ⟨g, 0, none⟩) (qs.length + 1) c := (by rcases hown6.eq_slice with ⟨_, h⟩ | ⟨g, c, h, _⟩; (simp at h); exact ⟨g, c, by simpa using h⟩); have hb6 := HALL5.out w6 hx6; have g1 := Joins.unfrozen_of_block hb6 0; have g2 := Joins.cell_of_block hb6 0))
      all_goals
        have HX6 := Lib.hid hx6
        have HN6 := Lib.hid hnw6
        have HO6 := Lib.hid hown6
        have HB6 := Lib.hid hb6
        have c1 := Joins.cell_of_block hb6 1
        have c2 := Joins.unfrozen_of_block hb6 1
        clear hx6 hnw6 hown6 hb6 g1 g2
        go_wp2
        go_ret
        exact .inr (.inr ⟨f, _, HG.out, HR.out, rfl, append_fin (s5 := ⟨sa, sn, sc⟩) HH.out HX3.out HS3.out hbw3 H3.out HF.out HVC.out HQL.out HQP.out HB5.out HO5.out HO6.out HX6.out HN6.out HB6.out HR.out⟩)

end Go.Proofs.Ytmlaojfhmaamcaa
