/- The law FilesCalm: a loss of power at rest leaves all. -/
import Derived.Test.YtmlaojfhmaamcaaRun06
import Derived.Test.YtmlaojfhmaamcaaCalm06
import Derived.Test.YtmlaojfhmaamcaaOpenC06
import Derived.SizedLaws
namespace Go.Proofs.Ytmlaojfhmaamcaa
open Go.ChangeShapes Go.WideShapes Go.ChangeAt Go.RowKit Go.Deep
set_option linter.unusedSimpArgs false
set_option linter.unusedVariables false

/-- A script is under way, with its history. -/
structure RunH (base : Nat) (w4 : World) (D0 : DSh) (rb : Nat) (N : Nat) (wr : World) (D : DSh) (A : DiskA) (v : Value) (R : RefA) : Prop where
  run : Run base w4 D0 rb N wr D A v R
  hist : A.Hist
theorem RunH.more {base : Nat} {w4 : World} {D0 : DSh} {rb N M : Nat} {wr : World} {D : DSh} {A : DiskA} {v : Value} {R : RefA} (h : RunH base w4 D0 rb N wr D A v R) (hm : N ≤ M) : RunH base w4 D0 rb M wr D A v R := ⟨h.run.more hm, h.hist⟩
theorem RunH.act {base : Nat} {w4 : World} {D0 : DSh} {rb N : Nat} {wr w' : World} {D D' : DSh} {A A' : DiskA} {v v' : Value} {R : RefA} {x : OpA} {c : Int} (h : RunH base w4 D0 rb N wr D A v R) (ha : ActA x A c A') (hb : Both base wr D A rb v w' D' A' v' (ractR x R)) : RunH base w4 D0 rb (N + 1) w' D' A' v' (ractR x R) :=
  ⟨h.run.act ha hb, ha.hist h.run.sA.now0 h.hist⟩

theorem Turned.own {base B : Nat} {w w' : World} {D D' : DSh} {A A' : DiskA} (h : Turned base w D A w' D' A') (hd : DiskIs base w D A) {α : Type} {ea : α → List Value} {k : Nat} {e : TypeId} {v : Value} {l : List α} (ho : Own ea k e B w v l) (he : ¬ DTag (some e)) : Own ea k e B w' v l :=
  ho.ext h.ext (fun b hb hf => he (tag_own ho hb ▸ hd.dtag hf))

set_option maxRecDepth 100000 in
set_option maxHeartbeats 10000000 in
theorem filesCalm_walk (v0 : Value) (l : List OpA) (x : CutC) (w : World) (hl : SliceIs OpA.cells 8 w v0 l) (hp : ∀ y ∈ l, y.In w) (hx : x.In w) :
    Calls Try.prog 7 #[v0, .agg #[.int .i64 x.at_, .int .i64 x.names, .slice x.keep.a x.keep.n x.keep.cap, .int .i64 x.torn]] w fun e w' => e = .returned (.bool true) ∧ Below w.heap.size w w' := by
  obtain ⟨a, cap, rfl, hcap, hmax, _⟩ := id hl
  unfold maxLen at hmax
  obtain ⟨ob, hob⟩ : ∃ ob : Obj, .cells #[.int .i64 x.at_, .int .i64 x.names, .slice x.keep.a x.keep.n x.keep.cap, .int .i64 x.torn] 26 = ob := ⟨_, rfl⟩
  have hb1 : Below w.heap.size w (w.alloc ob) := (Below.refl _ _).alloc (Nat.le_refl _) _
  have q0 : (w.alloc ob).heap[w.heap.size]? = some (.cells #[.int .i64 x.at_, .int .i64 x.names, .slice x.keep.a x.keep.n x.keep.cap, .int .i64 x.torn] 26 (0, 0)) := by rw [← hob]; exact (MapKept.heap_alloc w _).1
  obtain ⟨w1, hw1⟩ : ∃ w1, w.alloc ob = w1 := ⟨_, rfl⟩
  rw [hw1] at hb1 q0
  have hs1 : w1.heap.size = w.heap.size + 1 := by rw [← hw1]; simp
  rw [← hob] at hw1
  clear hob
  have HL := Lib.hid hl
  have HP := Lib.hid hp
  have HX := Lib.hid hx
  have HB1 := Lib.hid hb1
  have HQ0 := Lib.hid q0
  have HS1 := Lib.hid hs1
  clear hl hp hx hb1 q0 hs1
  go_enter Try.func7, Try.ntmps7
  go_wp2_with fail
  refine (new_any (base := w1.heap.size) w1 (Nat.le_refl _)).mono ?_
  rintro e w2 ⟨D0, rfl, hD2, b2, _⟩
  clear hw1
  go_wp2_with fail
  refine (alive_any _).mono ?_
  rintro e w3 ⟨rfl, b3⟩
  have hb3 := b2.trans (b3.mono b2.size)
  have hD3 := hD2.below b3
  have hb4 : Below w1.heap.size w1 (w3.alloc (.cells #[.slice none 0 0, .int .i64 0, .int .i64 0] 35)) := hb3.alloc hb3.size _
  have hD4 := hD3.alloc (.cells #[.slice none 0 0, .int .i64 0, .int .i64 0] 35)
  have hR4 : RefIs w1.heap.size (w3.alloc (.cells #[.slice none 0 0, .int .i64 0, .int .i64 0] 35)) w3.heap.size (.slice none 0 0) ⟨[], 0, 0⟩ := ⟨(MapKept.heap_alloc w3 _).1, hb3.size, [], Own.nil, rfl, fun i q p hq => by simp at hq⟩
  have hrun : RunH w1.heap.size (w3.alloc (.cells #[.slice none 0 0, .int .i64 0, .int .i64 0] 35)) D0 w3.heap.size 0 (w3.alloc (.cells #[.slice none 0 0, .int .i64 0, .int .i64 0] 35)) D0 disk0 (.slice none 0 0) ⟨[], 0, 0⟩ :=
    ⟨⟨Both.refl hD4 hR4, small0, ⟨by decide, by decide, by decide⟩, fun f => by simp [heldR], inj0⟩, hist0⟩
  have HB4 := Lib.hid hb4
  have HD4 := Lib.hid hD4
  have HR4 := Lib.hid hR4
  have HRUN := Lib.hid hrun
  clear hb3 hD3 hb4 hD4 hR4 hrun b2 b3 hD2
  go_upto_block 0 with fail
  generalize w3.alloc (.cells #[.slice none 0 0, .int .i64 0, .int .i64 0] 35) = w4 at *
  generalize w3.heap.size = rb at *
  go_cut [7] (fun iv wx => ∃ D A v R, Hid (RunH w1.heap.size w4 D0 rb 60 wx D A v R))
  case first =>
    go_wp2_with fail
    go_loopg [7] 60 (fun g iv wr => ∃ k : Nat, g = 60 - k ∧ k ≤ 60 ∧ k ≤ l.length ∧ iv = .int .i64 k ∧ Hid (∃ D A v R, RunH w1.heap.size w4 D0 rb k wr D A v R))
    case atStart => exact ⟨0, by omega, by omega, by omega, rfl, Lib.hid ⟨_, _, _, _, HRUN.out⟩⟩
    case round =>
      obtain ⟨k, hg, hk, hkl0, rfl, hU⟩ := hrel
      have HG := Lib.hid hg
      clear hg
      by_cases hkl : k < l.length
      · by_cases hk60 : k < 60
        · obtain ⟨y, hy⟩ : ∃ y, l[k]? = some y := ⟨_, List.getElem?_eq_getElem hkl⟩
          obtain ⟨D, A, v, R, hR⟩ := hU.out
          have hfr := run_frame HB1.out HS1.out HB4.out HD4.out HR4.out hR.run
          obtain ⟨_, _, e1, _, _, hh⟩ := HL.out.below hfr
          cases e1
          obtain ⟨b, o, e2, hcc⟩ := hh (by intro e; rw [e] at hy; simp at hy)
          subst e2
          have q0 := hcc k y hy 0 _ rfl
          have q1 := hcc k y hy 1 _ rfl
          have q2 := hcc k y hy 2 _ rfl
          have q3 := hcc k y hy 3 _ rfl
          have q4 := hcc k y hy 4 _ rfl
          have q5 := hcc k y hy 5 _ rfl
          have q6 := hcc k y hy 6 _ rfl
          have q7 := hcc k y hy 7 _ rfl
          simp only [Nat.add_zero] at q0
          have hyin := HP.out y (List.mem_of_getElem? hy)
          have hbn : y.b.n = y.bs.length := by
            obtain ⟨_, _, e, _⟩ := hyin.1
            simp only [Sl.val, Value.slice.injEq] at e
            exact e.2.1
          have hkk : (k : Int) < (l.length : Int) := by omega
          have hkk2 : (k : Int) < 60 := by omega
          have HRR := Lib.hid hR
          have HYI := Lib.hid hyin
          have HBN := Lib.hid hbn
          clear hh hcc hfr hR hyin hbn hU hy
          by_cases hle : y.b.n ≤ 1000
          · have hle2 : (y.b.n : Int) ≤ 1000 := by omega
            have hact := act_any HRR.out.run.both.disk HRR.out.run.both.ref (Nat.le_trans HB4.out.size HRR.out.run.both.ext.size) y HYI.out (run_frame HB1.out HS1.out HB4.out HD4.out HR4.out HRR.out.run) HB1.out.size (by rw [← HBN.out]; exact hle) HRR.out.run.sA HRR.out.run.sR (by omega) HRR.out.run.held
            rw [HRR.out.run.both.pb] at hact
            have HACT := Lib.hid hact
            clear hact hle
            go_wp2_with fail
            refine HACT.out.mono ?_
            rintro e w5 ⟨c, A', D', v', rfl, hA, hB⟩
            have HN : Hid (∃ D A v R, RunH w1.heap.size w4 D0 rb (k + 1) w5 D A v R) := Lib.hid ⟨_, _, _, _, HRR.out.act hA hB⟩
            clear hA hB
            go_wp2_with fail
            go_roundg (60 - (k + 1))
            case measure => rw [HG.out]; omega
            case rel => exact ⟨k + 1, rfl, by omega, by omega, by simp, HN⟩
          · have hle2 : ¬ (y.b.n : Int) ≤ 1000 := by omega
            have HN : Hid (∃ D A v R, RunH w1.heap.size w4 D0 rb (k + 1) wr D A v R) := Lib.hid ⟨_, _, _, _, HRR.out.more (Nat.le_succ k)⟩
            clear hle
            go_wp2_with fail
            go_roundg (60 - (k + 1))
            case measure => rw [HG.out]; omega
            case rel => exact ⟨k + 1, rfl, by omega, by omega, by simp, HN⟩
        · have hkk : (k : Int) < (l.length : Int) := by omega
          have hkk2 : ¬ (k : Int) < 60 := by omega
          have HN : Hid (∃ D A v R, RunH w1.heap.size w4 D0 rb 60 wr D A v R) := Lib.hid (by obtain ⟨D, A, v, R, h⟩ := hU.out; exact ⟨D, A, v, R, h.more (by omega)⟩)
          clear hU
          go_wp2_with fail
          go_meet
          case rel => obtain ⟨D, A, v, R, h⟩ := HN.out; exact ⟨D, A, v, R, Lib.hid h⟩
      · have hkk : ¬ (k : Int) < (l.length : Int) := by omega
        have HN : Hid (∃ D A v R, RunH w1.heap.size w4 D0 rb 60 wr D A v R) := Lib.hid (by obtain ⟨D, A, v, R, h⟩ := hU.out; exact ⟨D, A, v, R, h.more (by omega)⟩)
        clear hU
        go_wp2_with fail
        go_meet
        case rel => obtain ⟨D, A, v, R, h⟩ := HN.out; exact ⟨D, A, v, R, Lib.hid h⟩
  case rest =>
    obtain ⟨D, A, v, R, HRR⟩ := hcut
    have hfr := run_frame HB1.out HS1.out HB4.out HD4.out HR4.out HRR.out.run
    have hfr1 := run_frame1 HB4.out HD4.out HR4.out HRR.out.run
    have hnm := names_any HRR.out.run.both.disk (by have := HRR.out.run.sA.fil; omega)
    rw [HRR.out.run.both.pb] at hnm
    have HNM := Lib.hid hnm
    have HFR := Lib.hid hfr
    have HFR1 := Lib.hid hfr1
    clear hnm hfr hfr1
    go_wp2_with fail
    refine HNM.out.mono ?_
    rintro e w6 ⟨vn, rfl, hown6, b6⟩
    obtain ⟨na, nc, e6, hnc, hnm2, _⟩ := hown6.slice strc_len
    subst e6
    unfold maxLen at hnm2
    have hlen : (namesA A).length = A.files.length := namesA_len A
    have hf60 := HRR.out.run.sA.fil
    have hd6 := HRR.out.run.both.disk.below b6
    have HD6 := Lib.hid hd6
    have HB6 := Lib.hid b6
    have HO6 := Lib.hid hown6
    have hnl : (namesA A).length ≤ 60 := by omega
    have hmem : ∀ n ∈ namesA A, ∃ f, aget A.files n = some f := fun n hn => by
      have := (namesA_perm A).subset hn
      cases h : aget A.files n with
      | some f => exact ⟨f, rfl⟩
      | none => exact absurd this ((aget_none_iff A.files n).1 h)
    have hall : ∀ n f, aget A.files n = some f → n ∈ namesA A := fun n f h => (namesA_perm A).symm.subset (List.mem_map.2 ⟨(n, f), aget_mem h, rfl⟩)
    have HMEM := Lib.hid hmem
    have HALL := Lib.hid hall
    have hbw6 : w1.heap.size ≤ w6.heap.size := Nat.le_trans HFR1.out.size b6.size
    clear hown6 b6 hlen hf60 hmem hall hd6
    generalize hnames : namesA A = names at *
    have HNAMES := Lib.hid hnames
    clear hnames
    go_wp2_with fail
    go_loopg [9] names.length (fun g iv wr => ∃ (k : Nat), g = names.length - k ∧ k ≤ names.length ∧ iv = .int .i64 k ∧ Hid (∃ D2 A2, Turned w1.heap.size w6 D A wr D2 A2 ∧ Calm A A2 names k))
    case atStart => exact ⟨0, by omega, by omega, rfl, Lib.hid ⟨D, A, Turned.refl HD6.out, rfl, HRR.out.run.sA, HRR.out.run.inj, HRR.out.hist, fun i n f hi => absurd hi (by omega)⟩⟩
    case round =>
      obtain ⟨k, hg, hk, rfl, hU⟩ := hrel
      have HG := Lib.hid hg
      clear hg
      obtain ⟨D2, A2, hT2, hC2⟩ := hU.out
      have hpb2 : D2.pb = D0.pb := hT2.pb.trans HRR.out.run.both.pb
      have ho2 := hT2.own HD6.out HO6.out (by simp [DTag])
      by_cases hkl : k < names.length
      · obtain ⟨n, hn⟩ : ∃ n, names[k]? = some n := ⟨_, List.getElem?_eq_getElem hkl⟩
        obtain ⟨_, _, e1, _, _, hh⟩ := ho2.slice strc_len
        cases e1
        obtain ⟨b, o, e2, hcc⟩ := hh (by intro e; rw [e] at hn; simp at hn)
        subst e2
        have n0 := hcc k n hn 0 _ rfl
        simp only [Nat.add_zero, Nat.mul_one] at n0
        have hkk : (k : Int) < (names.length : Int) := by omega
        obtain ⟨f, hf⟩ := HMEM.out n (List.mem_of_getElem? hn)
        have hf2 : aget A2.files n = some f := by rw [hC2.files]; exact hf
        have hsy := sync_any hT2.is_ n hC2.small (by omega)
        rw [hpb2] at hsy
        have HSY := Lib.hid hsy
        have HT2 := Lib.hid hT2
        have HC2 := Lib.hid hC2
        have HN := Lib.hid hn
        have HF2 := Lib.hid hf2
        clear hU hT2 hC2 hpb2 ho2 hn hh hcc hf hf2 hsy
        go_wp2_with fail
        refine HSY.out.mono ?_
        intro e w7 hq
        obtain ⟨rfl, hT3⟩ : e = .returned (.int .i64 0) ∧ Turned w1.heap.size wr D2 A2 w7 D2 (syncA f A2) := by
          rcases hq with ⟨h, _⟩ | ⟨f', h, he, hT⟩
          · rw [HF2.out] at h; cases h
          · rw [HF2.out] at h; cases h; exact ⟨he, hT⟩
        have HX : Hid (∃ D2 A2, Turned w1.heap.size w6 D A w7 D2 A2 ∧ Calm A A2 names (k + 1)) := Lib.hid ⟨_, _, HT2.out.trans hT3, HC2.out.step HN.out HF2.out⟩
        clear hq hT3
        go_wp2_with fail
        go_roundg (names.length - (k + 1))
        case measure => rw [HG.out]; omega
        case rel => exact ⟨k + 1, rfl, by omega, by simp, HX⟩
      · obtain rfl : k = names.length := by omega
        have hfr7 : Below w1.heap.size w1 wr := (HFR1.out.trans (HB6.out.mono HFR1.out.size)).trans (hT2.frame HD6.out (Below.refl w1.heap.size w6) (Nat.le_refl _) hbw6)
        have hbwr : w1.heap.size ≤ wr.heap.size := Nat.le_trans hbw6 hT2.ext.size
        have hsn := synNames_any hT2.is_ hbwr hC2.small.now0 (by have := hC2.small.now; omega) (by have := hC2.small.syn; omega)
        rw [hpb2] at hsn
        have HSN := Lib.hid hsn
        have HC := Lib.hid hC2
        have HDR := Lib.hid hT2.is_
        have HF7 := Lib.hid hfr7
        have HO7 := Lib.hid ho2
        have HPB2 := Lib.hid hpb2
        clear hU hT2 hC2 hpb2 ho2 hfr7 hsn
        go_wp2_with fail
        refine HSN.out.mono ?_
        rintro e w8 ⟨rfl, D3, hT3⟩
        have hpb3 : D3.pb = D0.pb := hT3.pb.trans HPB2.out
        have ho8 := hT3.own HDR.out HO7.out (by simp [DTag])
        have hfr8 : Below w1.heap.size w1 w8 := HF7.out.trans (hT3.frame HDR.out (Below.refl w1.heap.size wr) (Nat.le_refl _) hbwr)
        have hbw8 : w1.heap.size ≤ w8.heap.size := Nat.le_trans hbwr hT3.ext.size
        have qb := (hfr8.block w.heap.size (by have := HS1.out; omega)).trans HQ0.out
        have z1 := Joins.cell_of_block qb 1
        have z2 := Joins.cell_of_block qb 2
        have z3 := Joins.cell_of_block qb 3
        simp only [List.getElem?_toArray, List.getElem?_cons_succ, List.getElem?_cons_zero] at z1 z2 z3
        have hD8 := hT3.is_
        have hch := changes_any hD8.drew
        rw [hpb3] at hch
        have hsm8 : (synA A2).Small 200 := by
          have hs := HC.out.small
          exact ⟨by have := hs.now0; simp only [synA]; omega, by have := hs.now; simp only [synA]; omega, by have := hs.chg; simp only [synA]; omega, by have := hs.syn; simp [synA]; omega, fun f hf => by have := hs.pcs f hf; simp only [synA]; omega, by have := hs.fil; simp only [synA]; omega⟩
        have hw8 : Below w.heap.size w w8 := HB1.out.trans (hfr8.mono HB1.out.size)
        have hct := cut_any hD8.drew hbw8 (synA A2).now x.names x.torn x.ks _ (HX.out.sl.below hw8.drew) (by have := hsm8.now0; omega) (by have := hsm8.now; omega) HX.out.n1 HX.out.n2 HX.out.t1 HX.out.t2 hsm8 (by omega)
        rw [hpb3] at hct
        have HCH := Lib.hid hch
        have HCT := Lib.hid hct
        have HD8 := Lib.hid hD8
        have HO8 := Lib.hid ho8
        have HF8 := Lib.hid hfr8
        have HW8 := Lib.hid hw8
        have HPB3 := Lib.hid hpb3
        have HSM8 := Lib.hid hsm8
        clear hT3 hpb3 ho8 hfr8 qb hD8 hch hct hw8 hsm8
        go_upto_region 16 with fail
        go_region_held3 (fun W => W.cell? ⟨w.heap.size, 1, none⟩ = some (.int .i64 x.names) ∧ W.cell? ⟨w.heap.size, 2, none⟩ = some (.slice x.keep.a x.keep.n x.keep.cap) ∧ W.cell? ⟨w.heap.size, 3, none⟩ = some (.int .i64 x.torn)) (first | exact ⟨z1, z2, z3⟩ | exact ⟨keepB HB9.out z1, keepB HB9.out z2, keepB HB9.out z3⟩) (first
          | (go_at_call 13; ((with_reducible refine HCH.out.mono ?_); rintro e w9 ⟨rfl, rfl⟩))
          | (go_at_call 17; ((with_reducible refine HCT.out.mono ?_); rintro e w9 ⟨D', A', rfl, hD9, hfb, hcut, hb9⟩; simp only [heap_drew, below_drew] at hb9 hD9; have HB9 := Lib.hid hb9; have HD9 := Lib.hid hD9; have HFB := Lib.hid hfb; have HCUT := Lib.hid hcut; clear hb9 hD9 hfb hcut)))
        all_goals
          have hcalm := calm_cut HC.out (fun n f hf => HALL.out n f (by rw [← HC.out.files]; exact hf)) HCUT.out HFB.out HD9.out.mbase.nodup
          have hnA : namesA A' = names := by
            rw [hcalm.1]
            unfold namesA
            rw [HC.out.files]
            exact HNAMES.out
          have hfl : A'.files.length ≤ 60 := by
            have := namesA_len A'
            rw [hnA] at this
            omega
          have hsm9 : A'.Small 200 := ⟨by rw [HCUT.out.now]; decide, by rw [HCUT.out.now]; decide, by rw [HCUT.out.chg]; decide, by rw [HCUT.out.syn]; decide, fun f hf => Nat.le_trans (HCUT.out.ln f hf) (by decide), by omega⟩
          have hn9 := names_any HD9.out (by omega)
          rw [hnA] at hn9
          have HN9 := Lib.hid hn9
          have HSM9 := Lib.hid hsm9
          have HCALM := Lib.hid hcalm.2
          have hnow9 : A'.now = 0 := HCUT.out.now
          have HNOW9 := Lib.hid hnow9
          clear hcalm hnA hfl hsm9 hn9 hnow9 z1 z2 z3
          go_wp2_with fail
          refine HN9.out.mono ?_
          rintro e w10 ⟨vn2, rfl, hown10, b10⟩
          obtain ⟨na2, nc2, e10, hnc2, hnm3, _⟩ := hown10.slice strc_len
          subst e10
          unfold maxLen at hnm3
          have HD10 := Lib.hid (HD9.out.below b10)
          have HB10 := Lib.hid b10
          have HO10 := Lib.hid hown10
          have hch2 := changes_any HD10.out
          rw [HNOW9.out] at hch2
          have HCH2 := Lib.hid hch2
          clear hown10 b10 hch2
          go_wp2_with fail
          refine HCH2.out.mono ?_
          rintro e w11 ⟨rfl, e11⟩
          have e11' := e11.symm
          subst e11'
          have HF10 := Lib.hid (HB9.out.trans (HB10.out.mono HB9.out.size))
          go_wp2_with fail
          go_loopg [12] names.length (fun g iv wr => ∃ (k : Nat), g = names.length - k ∧ k ≤ names.length ∧ iv = .int .i64 k ∧ Hid (Below w10.heap.size w10 wr))
          case atStart => exact ⟨0, by omega, by omega, rfl, Lib.hid (Below.refl _ _)⟩
          case round =>
            obtain ⟨k, hg, hk, rfl, hU⟩ := hrel
            have HG := Lib.hid hg
            clear hg
            by_cases hkl : k < names.length
            · obtain ⟨n, hn⟩ : ∃ n, names[k]? = some n := ⟨_, List.getElem?_eq_getElem hkl⟩
              obtain ⟨_, _, e1, _, _, hh⟩ := HO8.out.slice strc_len
              cases e1
              obtain ⟨b, o, e2, hcc⟩ := hh (by intro e; rw [e] at hn; simp at hn)
              subst e2
              obtain ⟨_, _, e3, _, _, hh3⟩ := HO10.out.slice strc_len
              cases e3
              obtain ⟨b3, o3, e4, hcc3⟩ := hh3 (by intro e; rw [e] at hn; simp at hn)
              subst e4
              have n0 := keepB hU.out (keepB HF10.out (hcc k n hn 0 _ rfl))
              have m0 := keepB hU.out (hcc3 k n hn 0 _ rfl)
              simp only [Nat.add_zero, Nat.mul_one] at n0 m0
              have hkk : (k : Int) < (names.length : Int) := by omega
              obtain ⟨f, hf⟩ := HMEM.out n (List.mem_of_getElem? hn)
              have hf2 : aget (synA A2).files n = some f := by
                show aget A2.files n = some f
                rw [HC.out.files]; exact hf
              obtain ⟨hby, hpx, hpd, g9, hg9⟩ := HCALM.out n f hf2
              have hDr := (HD8.out.below HF10.out).below hU.out
              have hXr := HD10.out.below hU.out
              have hr1 := read_any hDr n HSM8.out (by omega)
              rw [HPB3.out] at hr1
              have HR1 := Lib.hid hr1
              have HF2 := Lib.hid hf2
              have HBY := Lib.hid hby
              have HPX := Lib.hid hpx
              have HPD := Lib.hid hpd
              have HG9 := Lib.hid hg9
              have HDr := Lib.hid hDr
              have HXr := Lib.hid hXr
              clear hn hh hh3 hcc hcc3 hf hf2 hby hpx hpd hg9 hDr hXr hr1
              go_wp2_with fail
              refine HR1.out.mono ?_
              intro e w12 hq
              obtain ⟨v12, rfl, ho12, b12⟩ : ∃ v12, e = .returned (.tuple #[v12, .int .i64 0]) ∧ Own u8c 1 5 wr.heap.size w12 v12 (bytesP (A2.fs f)) ∧ Below wr.heap.size wr w12 := by
                rcases hq with ⟨h0, _⟩ | ⟨f', v7, h0, he, ho, hb⟩
                · rw [HF2.out] at h0; cases h0
                · rw [HF2.out] at h0; cases h0; exact ⟨v7, he, ho, hb⟩
              have hr2 := read_any (HXr.out.below b12) n HSM9.out (by omega)
              have HR2 := Lib.hid hr2
              have HO12 := Lib.hid ho12
              have HB12 := Lib.hid b12
              obtain ⟨⟨ta, tn, tc⟩, e12⟩ := ho12.sl
              change v12 = .slice ta tn tc at e12
              subst e12
              have n1 := keepB b12 n0
              have m1 := keepB b12 m0
              clear hq ho12 b12 hr2 n0 m0
              go_wp2_with fail
              refine HR2.out.mono ?_
              intro e w13 hq
              obtain ⟨v13, rfl, ho13, b13⟩ : ∃ v13, e = .returned (.tuple #[v13, .int .i64 0]) ∧ Own u8c 1 5 w12.heap.size w13 v13 (bytesP (A2.fs f)) ∧ Below w12.heap.size w12 w13 := by
                rcases hq with ⟨h0, _⟩ | ⟨f', v7, h0, he, ho, hb⟩
                · rw [HG9.out] at h0; cases h0
                · refine ⟨v7, he, ?_, hb⟩
                  rw [← HBY.out]
                  unfold bytesA
                  rw [h0]
                  exact ho
              have hs1 := (HO12.out.slice u8c_len).below b13
              have hs2 := ho13.slice u8c_len
              obtain ⟨⟨ua, un, uc⟩, e13⟩ := ho13.sl
              change v13 = .slice ua un uc at e13
              subst e13
              have HSB := Lib.hid (sameB_any hs1 hs2)
              have n2 := keepB b13 n1
              have m2 := keepB b13 m1
              have hBt : Below wr.heap.size wr w13 := HB12.out.trans (b13.mono HB12.out.size)
              have hpx2 := pending_any (HXr.out.below hBt).drew n HSM9.out (by omega)
              rw [HPX.out] at hpx2
              have HPX2 := Lib.hid hpx2
              have hpd2 := fun W (hW : Below w13.heap.size w13 W) => pending_any ((HDr.out.below hBt).below hW) n HSM8.out (by omega)
              rw [HPD.out, HPB3.out] at hpd2
              have HPD2 := Lib.hid hpd2
              have HBT := Lib.hid (hU.out.trans (hBt.mono hU.out.size))
              clear hq ho13 b13 hs1 hs2 n1 m1 hBt hpx2 hpd2 hU
              go_wp2_with fail
              refine HSB.out.mono ?_
              rintro e w14 ⟨rfl, e14⟩
              have e14' := e14.symm
              subst e14'
              go_upto_region 28 with fail
              go_region_held3 (fun W => W.cell? ⟨b, o + k, none⟩ = some (.string n) ∧ W.cell? ⟨b3, o3 + k, none⟩ = some (.string n)) (first | exact ⟨n2, m2⟩ | exact ⟨keepB b15 n2, keepB b15 m2⟩ | exact ⟨keepB (b15.trans (b16.mono b15.size)) n2, keepB (b15.trans (b16.mono b15.size)) m2⟩) (first | (go_at_call 20; ((with_reducible refine HPX2.out.mono ?_); rintro e w15 ⟨rfl, b15⟩; simp only [heap_drew, below_drew] at b15)) | (go_at_call 20; ((with_reducible refine (HPD2.out _ b15).mono ?_); rintro e w16 ⟨rfl, b16⟩)))
              have HE := Lib.hid (HBT.out.trans ((b15.trans (b16.mono b15.size)).mono HBT.out.size))
              clear b15 b16
              go_wp2_with fail
              go_roundg (names.length - (k + 1))
              case measure => rw [HG.out]; omega
              case rel => exact ⟨k + 1, rfl, by omega, by simp, HE⟩
            · obtain rfl : k = names.length := by omega
              have hend : Below w.heap.size w wr := HW8.out.trans ((HF10.out.trans (hU.out.mono HF10.out.size)).mono HW8.out.size)
              have HEND := Lib.hid hend
              clear hend
              go_wp2_with fail
              go_ret
              exact ⟨rfl, HEND.out⟩

end Go.Proofs.Ytmlaojfhmaamcaa
