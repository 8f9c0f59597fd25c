/- The law FilesSafe: what is durable is kept. -/
import Derived.Test.YtmlaojfhmaamcaaRunH06
import Derived.Test.YtmlaojfhmaamcaaSafe06
import Derived.Test.YtmlaojfhmaamcaaOpenC06
import Derived.SizedLaws
import Derived.Laws.BytesString
namespace Go.Proofs.Ytmlaojfhmaamcaa
open Go.ChangeShapes Go.WideShapes Go.ChangeAt Go.RowKit Go.Deep
set_option linter.unusedSimpArgs false
set_option linter.unusedVariables false

/-- More is done, behind what is durable. -/
structure RunM (base : Nat) (w4 : World) (D4 : DSh) (A1 : DiskA) (rb : Nat) (v4 : Value) (B : Nat) (vv : Value) (A0 : DiskA) (names : List ByteArray) (N : Nat) (wr : World) (D : DSh) (A : DiskA) (v : Value) (R : RefA) : Prop where
  both : Both base w4 D4 A1 rb v4 wr D A v R
  sA : A.Small N
  sR : R.Small N
  held : ∀ f, (heldR R.L f).length ≤ 1048576
  inj : A.Inj
  more : More A1 A
  hd : HeldIs B wr vv A0 names names.length
theorem RunM.le {base : Nat} {w4 wr : World} {D4 D : DSh} {A1 A A0 : DiskA} {rb B N M : Nat} {v4 v vv : Value} {R : RefA} {names : List ByteArray} (h : RunM base w4 D4 A1 rb v4 B vv A0 names N wr D A v R) (hm : N ≤ M) : RunM base w4 D4 A1 rb v4 B vv A0 names M wr D A v R := ⟨h.both, h.sA.mono hm, h.sR.mono hm, h.held, h.inj, h.more, h.hd⟩
theorem RunM.below {base : Nat} {w4 wr w' : World} {D4 D : DSh} {A1 A A0 : DiskA} {rb B N : Nat} {v4 v vv : Value} {R : RefA} {names : List ByteArray} (h : RunM base w4 D4 A1 rb v4 B vv A0 names N wr D A v R) (hb : Below wr.heap.size wr w') : RunM base w4 D4 A1 rb v4 B vv A0 names N w' D A v R := ⟨h.both.trans (Both.below h.both.disk h.both.ref hb), h.sA, h.sR, h.held, h.inj, h.more, h.hd.below hb⟩
theorem RunM.act {base : Nat} {w4 wr w' : World} {D4 D D' : DSh} {A1 A A' A0 : DiskA} {rb B N : Nat} {v4 v v' vv : Value} {R : RefA} {names : List ByteArray} {x : OpA} {c : Int} (h : RunM base w4 D4 A1 rb v4 B vv A0 names N wr D A v R) (h1 : A1.Inj) (hs : AllSyn A1) (hk : x.kind = 1 ∨ x.kind = 2 ∨ x.kind = 3 ∨ x.kind = 6) (ha : ActA x A c A') (hb : Both base wr D A rb v w' D' A' v' (ractR x R)) : RunM base w4 D4 A1 rb v4 B vv A0 names (N + 1) w' D' A' v' (ractR x R) :=
  ⟨h.both.trans hb, ha.small h.sA, (ract_small x h.sR h.held).1, (ract_small x h.sR h.held).2, ha.inj h.inj, h.more.act h1 hs h.inj ha hk, h.hd.both hb h.both.disk h.both.ref⟩

set_option maxRecDepth 100000 in
set_option maxHeartbeats 10000000 in
theorem filesSafe_walk (v0 v1 : Value) (l l1 : List OpA) (x : CutC) (w : World) (hl : SliceIs OpA.cells 8 w v0 l) (hp : ∀ y ∈ l, y.In w) (hm : SliceIs OpA.cells 8 w v1 l1) (hmp : ∀ y ∈ l1, y.In w) (hx : x.In w) :
    Calls Try.prog 4 #[v0, v1, .agg #[.int .i64 x.at_, .int .i64 x.names, .slice x.keep.a x.keep.n x.keep.cap, .int .i64 x.torn]] w fun e w' => e = .returned (.bool true) ∧ Below w.heap.size w w' := by
  obtain ⟨a, cap, rfl, hcap, hmax, _⟩ := id hl
  unfold maxLen at hmax
  obtain ⟨a1, cap1, rfl, hcap1, hmax1, _⟩ := id hm
  unfold maxLen at hmax1
  obtain ⟨i0, hi, hz0, hz1, hz2⟩ := info_parts info_sure
  obtain ⟨ob, hob⟩ : ∃ ob : Obj, .cells #[.int .i64 x.at_, .int .i64 x.names, .slice x.keep.a x.keep.n x.keep.cap, .int .i64 x.torn] 26 = ob := ⟨_, rfl⟩
  have hb1 : Below w.heap.size w (w.alloc ob) := (Below.refl _ _).alloc (Nat.le_refl _) _
  have q0 : (w.alloc ob).heap[w.heap.size]? = some (.cells #[.int .i64 x.at_, .int .i64 x.names, .slice x.keep.a x.keep.n x.keep.cap, .int .i64 x.torn] 26 (0, 0)) := by rw [← hob]; exact (MapKept.heap_alloc w _).1
  obtain ⟨w1, hw1⟩ : ∃ w1, w.alloc ob = w1 := ⟨_, rfl⟩
  rw [hw1] at hb1 q0
  have hs1 : w1.heap.size = w.heap.size + 1 := by rw [← hw1]; simp
  rw [← hob] at hw1
  clear hob
  have HL := Lib.hid hl
  have HP := Lib.hid hp
  have HX := Lib.hid hx
  have HB1 := Lib.hid hb1
  have HQ0 := Lib.hid q0
  have HS1 := Lib.hid hs1
  have HM := Lib.hid hm
  have HMP := Lib.hid hmp
  clear hl hp hx hb1 q0 hs1 hm hmp
  go_enter Try.func4, Try.ntmps4
  go_wp2_with fail
  refine (new_any (base := w1.heap.size) w1 (Nat.le_refl _)).mono ?_
  rintro e w2 ⟨D0, rfl, hD2, b2, _⟩
  clear hw1
  go_wp2_with fail
  refine (alive_any _).mono ?_
  rintro e w3 ⟨rfl, b3⟩
  have hb3 := b2.trans (b3.mono b2.size)
  have hD3 := hD2.below b3
  have hb4 : Below w1.heap.size w1 (w3.alloc (.cells #[.slice none 0 0, .int .i64 0, .int .i64 0] 35)) := hb3.alloc hb3.size _
  have hD4 := hD3.alloc (.cells #[.slice none 0 0, .int .i64 0, .int .i64 0] 35)
  have hR4 : RefIs w1.heap.size (w3.alloc (.cells #[.slice none 0 0, .int .i64 0, .int .i64 0] 35)) w3.heap.size (.slice none 0 0) ⟨[], 0, 0⟩ := ⟨(MapKept.heap_alloc w3 _).1, hb3.size, [], Own.nil, rfl, fun i q p hq => by simp at hq⟩
  have hrun : RunH w1.heap.size (w3.alloc (.cells #[.slice none 0 0, .int .i64 0, .int .i64 0] 35)) D0 w3.heap.size 0 (w3.alloc (.cells #[.slice none 0 0, .int .i64 0, .int .i64 0] 35)) D0 disk0 (.slice none 0 0) ⟨[], 0, 0⟩ :=
    ⟨⟨Both.refl hD4 hR4, small0, ⟨by decide, by decide, by decide⟩, fun f => by simp [heldR], inj0⟩, hist0, rfl⟩
  have HB4 := Lib.hid hb4
  have HD4 := Lib.hid hD4
  have HR4 := Lib.hid hR4
  have HRUN := Lib.hid hrun
  clear hb3 hD3 hb4 hD4 hR4 hrun b2 b3 hD2
  go_upto_block 0 with fail
  generalize w3.alloc (.cells #[.slice none 0 0, .int .i64 0, .int .i64 0] 35) = w4 at *
  generalize w3.heap.size = rb at *
  go_cut [9] (fun iv wx => ∃ D A v R, Hid (RunH w1.heap.size w4 D0 rb 60 wx D A v R))
  case first =>
    go_wp2_with fail
    go_loopg [9] 60 (fun g iv wr => ∃ k : Nat, g = 60 - k ∧ k ≤ 60 ∧ k ≤ l.length ∧ iv = .int .i64 k ∧ Hid (∃ D A v R, RunH w1.heap.size w4 D0 rb k wr D A v R))
    case atStart => exact ⟨0, by omega, by omega, by omega, rfl, Lib.hid ⟨_, _, _, _, HRUN.out⟩⟩
    case round =>
      obtain ⟨k, hg, hk, hkl0, rfl, hU⟩ := hrel
      have HG := Lib.hid hg
      clear hg
      by_cases hkl : k < l.length
      · by_cases hk60 : k < 60
        · obtain ⟨y, hy⟩ : ∃ y, l[k]? = some y := ⟨_, List.getElem?_eq_getElem hkl⟩
          obtain ⟨D, A, v, R, hR⟩ := hU.out
          have hfr := run_frame HB1.out HS1.out HB4.out HD4.out HR4.out hR.run
          obtain ⟨_, _, e1, _, _, hh⟩ := HL.out.below hfr
          cases e1
          obtain ⟨b, o, e2, hcc⟩ := hh (by intro e; rw [e] at hy; simp at hy)
          subst e2
          have q0 := hcc k y hy 0 _ rfl
          have q1 := hcc k y hy 1 _ rfl
          have q2 := hcc k y hy 2 _ rfl
          have q3 := hcc k y hy 3 _ rfl
          have q4 := hcc k y hy 4 _ rfl
          have q5 := hcc k y hy 5 _ rfl
          have q6 := hcc k y hy 6 _ rfl
          have q7 := hcc k y hy 7 _ rfl
          simp only [Nat.add_zero] at q0
          have hyin := HP.out y (List.mem_of_getElem? hy)
          have hbn : y.b.n = y.bs.length := by
            obtain ⟨_, _, e, _⟩ := hyin.1
            simp only [Sl.val, Value.slice.injEq] at e
            exact e.2.1
          have hkk : (k : Int) < (l.length : Int) := by omega
          have hkk2 : (k : Int) < 60 := by omega
          have HRR := Lib.hid hR
          have HYI := Lib.hid hyin
          have HBN := Lib.hid hbn
          clear hh hcc hfr hR hyin hbn hU hy
          by_cases hle : y.b.n ≤ 1000
          · have hle2 : (y.b.n : Int) ≤ 1000 := by omega
            have hact := act_any HRR.out.run.both.disk HRR.out.run.both.ref (Nat.le_trans HB4.out.size HRR.out.run.both.ext.size) y HYI.out (run_frame HB1.out HS1.out HB4.out HD4.out HR4.out HRR.out.run) HB1.out.size (by rw [← HBN.out]; exact hle) HRR.out.run.sA HRR.out.run.sR (by omega) HRR.out.run.held
            rw [HRR.out.run.both.pb] at hact
            have HACT := Lib.hid hact
            clear hact hle
            go_wp2_with fail
            refine HACT.out.mono ?_
            rintro e w5 ⟨c, A', D', v', rfl, hA, hB⟩
            have HN : Hid (∃ D A v R, RunH w1.heap.size w4 D0 rb (k + 1) w5 D A v R) := Lib.hid ⟨_, _, _, _, HRR.out.act hA hB⟩
            clear hA hB
            go_wp2_with fail
            go_roundg (60 - (k + 1))
            case measure => rw [HG.out]; omega
            case rel => exact ⟨k + 1, rfl, by omega, by omega, by simp, HN⟩
          · have hle2 : ¬ (y.b.n : Int) ≤ 1000 := by omega
            have HN : Hid (∃ D A v R, RunH w1.heap.size w4 D0 rb (k + 1) wr D A v R) := Lib.hid ⟨_, _, _, _, HRR.out.more (Nat.le_succ k)⟩
            clear hle
            go_wp2_with fail
            go_roundg (60 - (k + 1))
            case measure => rw [HG.out]; omega
            case rel => exact ⟨k + 1, rfl, by omega, by omega, by simp, HN⟩
        · have hkk : (k : Int) < (l.length : Int) := by omega
          have hkk2 : ¬ (k : Int) < 60 := by omega
          have HN : Hid (∃ D A v R, RunH w1.heap.size w4 D0 rb 60 wr D A v R) := Lib.hid (by obtain ⟨D, A, v, R, h⟩ := hU.out; exact ⟨D, A, v, R, h.more (by omega)⟩)
          clear hU
          go_wp2_with fail
          go_meet
          case rel => obtain ⟨D, A, v, R, h⟩ := HN.out; exact ⟨D, A, v, R, Lib.hid h⟩
      · have hkk : ¬ (k : Int) < (l.length : Int) := by omega
        have HN : Hid (∃ D A v R, RunH w1.heap.size w4 D0 rb 60 wr D A v R) := Lib.hid (by obtain ⟨D, A, v, R, h⟩ := hU.out; exact ⟨D, A, v, R, h.more (by omega)⟩)
        clear hU
        go_wp2_with fail
        go_meet
        case rel => obtain ⟨D, A, v, R, h⟩ := HN.out; exact ⟨D, A, v, R, Lib.hid h⟩
  case rest =>
    obtain ⟨D, A, v, R, HRR⟩ := hcut
    have hfr := run_frame HB1.out HS1.out HB4.out HD4.out HR4.out HRR.out.run
    have hfr1 := run_frame1 HB4.out HD4.out HR4.out HRR.out.run
    have hnm := names_any HRR.out.run.both.disk (by have := HRR.out.run.sA.fil; omega)
    rw [HRR.out.run.both.pb] at hnm
    have HNM := Lib.hid hnm
    have HFR := Lib.hid hfr
    have HFR1 := Lib.hid hfr1
    clear hnm hfr hfr1
    go_wp2_with fail
    refine HNM.out.mono ?_
    rintro e w6 ⟨vn, rfl, hown6, b6⟩
    obtain ⟨na, nc, e6, hnc, hnm2, _⟩ := hown6.slice strc_len
    subst e6
    unfold maxLen at hnm2
    have hlen : (namesA A).length = A.files.length := namesA_len A
    have hf60 := HRR.out.run.sA.fil
    have HD6 := Lib.hid (HRR.out.run.both.disk.below b6)
    have HR6 := Lib.hid (HRR.out.run.both.ref.below b6)
    have HB6 := Lib.hid b6
    have HO6 := Lib.hid hown6
    have hnl : (namesA A).length ≤ 60 := by omega
    have hmem : ∀ n ∈ namesA A, ∃ f, aget A.files n = some f := fun n hn => by
      have := (namesA_perm A).subset hn
      cases h : aget A.files n with
      | some f => exact ⟨f, rfl⟩
      | none => exact absurd this ((aget_none_iff A.files n).1 h)
    have hall : ∀ n f, aget A.files n = some f → n ∈ namesA A := fun n f h => (namesA_perm A).symm.subset (List.mem_map.2 ⟨(n, f), aget_mem h, rfl⟩)
    have HMEM := Lib.hid hmem
    have HALL := Lib.hid hall
    have hbw6 : w1.heap.size ≤ w6.heap.size := Nat.le_trans HFR1.out.size b6.size
    clear hown6 b6 hlen hf60 hmem hall
    generalize hnames : namesA A = names at *
    clear hnames
    go_wp2_with fail
    go_loopg [11, 12] names.length (fun g vv iv wr => ∃ (k : Nat) (s : Sl), g = names.length - k ∧ k ≤ names.length ∧ vv = .slice s.a s.n s.cap ∧ iv = .int .i64 k ∧ Hid (∃ D2 A2, Turned w1.heap.size w6 D A wr D2 A2 ∧ Calm A A2 names k ∧ ((∀ f, bytesP (A2.fs f) = bytesP (A.fs f)) ∧ A2.base = []) ∧ HeldIs w6.heap.size wr (.slice s.a s.n s.cap) A names k ∧ RefIs w1.heap.size wr rb v R))
    case atStart => exact ⟨0, ⟨none, 0, 0⟩, by omega, by omega, rfl, rfl, Lib.hid ⟨D, A, Turned.refl HD6.out, ⟨rfl, HRR.out.run.sA, HRR.out.run.inj, HRR.out.hist, fun i n f hi => absurd hi (by omega)⟩, ⟨fun _ => rfl, HRR.out.bas⟩, ⟨[], Own.nil, rfl, fun i h hh => by simp at hh⟩, HR6.out⟩⟩
    case round =>
      obtain ⟨k, ⟨sa, sn, sc⟩, hg, hk, rfl, rfl, hU⟩ := hrel
      dsimp only at hU ⊢
      have HG := Lib.hid hg
      clear hg
      obtain ⟨D2, A2, hT2, hC2, ⟨hBY, hBS⟩, hH2, hR2⟩ := hU.out
      have hpb2 : D2.pb = D0.pb := hT2.pb.trans HRR.out.run.both.pb
      have ho2 := hT2.own HD6.out HO6.out (by simp [DTag])
      by_cases hkl : k < names.length
      · obtain ⟨n, hn⟩ : ∃ n, names[k]? = some n := ⟨_, List.getElem?_eq_getElem hkl⟩
        obtain ⟨_, _, e1, _, _, hh⟩ := ho2.slice strc_len
        cases e1
        obtain ⟨b, o, e2, hcc⟩ := hh (by intro e; rw [e] at hn; simp at hn)
        subst e2
        have n0 := hcc k n hn 0 _ rfl
        simp only [Nat.add_zero, Nat.mul_one] at n0
        have hkk : (k : Int) < (names.length : Int) := by omega
        obtain ⟨f, hf⟩ := HMEM.out n (List.mem_of_getElem? hn)
        have hf2 : aget A2.files n = some f := by rw [hC2.files]; exact hf
        have hsy := sync_any hT2.is_ n hC2.small (by omega)
        rw [hpb2] at hsy
        have HSY := Lib.hid hsy
        have HT2 := Lib.hid hT2
        have HC2 := Lib.hid hC2
        have HN := Lib.hid hn
        have HF2 := Lib.hid hf2
        have HPB2 := Lib.hid hpb2
        have HBY := Lib.hid hBY
        have HBS := Lib.hid hBS
        have HH2 := Lib.hid hH2
        have HR2 := Lib.hid hR2
        have HFA := Lib.hid hf
        clear hBS hU hT2 hC2 hpb2 ho2 hn hh hcc hf hf2 hsy hBY hH2 hR2
        go_wp2_with fail
        refine HSY.out.mono ?_
        intro e w7 hq
        obtain ⟨rfl, hT3⟩ : e = .returned (.int .i64 0) ∧ Turned w1.heap.size wr D2 A2 w7 D2 (syncA f A2) := by
          rcases hq with ⟨h, _⟩ | ⟨f', h, he, hT⟩
          · rw [HF2.out] at h; cases h
          · rw [HF2.out] at h; cases h; exact ⟨he, hT⟩
        have hC3 := HC2.out.step HN.out HF2.out
        have ho7 := (HT2.out.trans hT3).own HD6.out HO6.out (by simp [DTag])
        obtain ⟨_, _, e1, _, _, hh⟩ := ho7.slice strc_len
        cases e1
        obtain ⟨b', o', e2, hcc⟩ := hh (by intro e; have := HN.out; rw [e] at this; simp at this)
        cases e2
        have m0 := hcc k n HN.out 0 _ rfl
        simp only [Nat.add_zero, Nat.mul_one] at m0
        have hrd := read_any hT3.is_ n hC3.small (by omega)
        rw [HPB2.out] at hrd
        have HRD := Lib.hid hrd
        have HC3 := Lib.hid hC3
        have HT7 := Lib.hid (HT2.out.trans hT3)
        have HR7 := Lib.hid (RefIs.turned HT2.out.is_ HR2.out hT3.ext)
        have HH7 := Lib.hid (HH2.out.turned hT3 HT2.out.is_)
        have hby3 : ∀ g, bytesP ((syncA f A2).fs g) = bytesP (A.fs g) := fun g => by
          simp only [syncA]
          split
          · rename_i e; subst e; rw [bytesP_syn]; exact HBY.out _
          · exact HBY.out g
        have HBY3 := Lib.hid hby3
        have HF3 : Hid (aget (syncA f A2).files n = some f) := Lib.hid HF2.out
        clear hq hT3 hC3 ho7 hh hcc hrd hby3 n0
        go_wp2_with fail
        refine HRD.out.mono ?_
        intro e w8 hq
        obtain ⟨v8, rfl, ho8, b8⟩ : ∃ v8, e = .returned (.tuple #[v8, .int .i64 0]) ∧ Own u8c 1 5 w7.heap.size w8 v8 (bytesA A n) ∧ Below w7.heap.size w7 w8 := by
          rcases hq with ⟨h, _⟩ | ⟨f', v7, h, he, ho, hb⟩
          · rw [HF3.out] at h; cases h
          · rw [HF3.out] at h
            cases h
            refine ⟨v7, he, ?_, hb⟩
            unfold bytesA
            rw [HFA.out]
            show Own u8c 1 5 w7.heap.size w8 v7 (bytesP (A.fs f))
            rw [← HBY3.out]
            exact ho
        obtain ⟨⟨ta, tn, tc⟩, e8⟩ := ho8.sl
        change v8 = .slice ta tn tc at e8
        subst e8
        have m1 := keepB b8 m0
        have hle7 : w6.heap.size ≤ w7.heap.size := HT7.out.ext.size
        have hle8 : w6.heap.size ≤ w8.heap.size := Nat.le_trans hle7 b8.size
        have HO8 := Lib.hid (ho8.mono hle7)
        have HT8 := Lib.hid (HT7.out.trans (Turned.below HT7.out.is_ b8))
        have HR8 := Lib.hid (HR7.out.below b8)
        obtain ⟨hs, ho, hl, hpp⟩ := HH7.out.below b8
        have HO := Lib.hid ho
        have HPP := Lib.hid hpp
        have HHL := Lib.hid hl
        have hl60 : hs.length ≤ 60 := by omega
        obtain ⟨esn⟩ : sn = hs.length := by
          obtain ⟨_, _, e, _⟩ := ho.slice Hd.len
          simp only [Value.slice.injEq] at e
          exact e.2.1
        clear ho8 b8 hq ho hl hpp m0 hle7
        go_wp2_with (at_builtin; refine wpList_append_struct rfl _ _ _ rfl i0 _ 40 Try.underlying41 hi hz0 hz1 hz2 rfl (by omega) Hd.len Hd.one rfl (HO.out.alloc _) ⟨n, ⟨ta, tn, tc⟩⟩ w8.heap.size 1 rfl (hd_alloc _ ⟨n, ⟨ta, tn, tc⟩⟩) (by unfold maxLen; omega) (by omega) (by simp; omega) ?_)
        intro v' w9 hown9 hx9
        have hba : Below w8.heap.size w8 (w8.alloc (.cells #[.string n, .slice ta tn tc] 45)) := (Below.refl _ _).alloc (Nat.le_refl _) _
        have hrow : ∀ b, (Value.slice sa hs.length sc).ownBlock = some b → tagOf (w8.alloc (.cells #[.string n, .slice ta tn tc] 45)) b = some 45 ∧ w6.heap.size ≤ b := fun b hb => ⟨tag_own (HO.out.alloc _) hb, (HO.out.blk b hb).1⟩
        have hkeep : ∀ (v : Value) (l : List UInt8), Own u8c 1 5 w6.heap.size w8 v l → Own u8c 1 5 w6.heap.size w9 v l := fun v l h => (h.alloc (.cells #[.string n, .slice ta tn tc] 45)).ext hx9 (fun b hb e => tag_ne (tag_own (h.alloc _) hb) (hrow b e).1 (by decide) rfl)
        have hT9 := (HT8.out.trans (Turned.below HT8.out.is_ hba)).other hx9 (fun b _ e => hrow b e) (by simp [DTag]) (by decide)
        have hR9 := (HR8.out.below hba).other hx9 (fun b _ e => (hrow b e).1) (by simp [RTag]) (by decide)
        obtain ⟨⟨s8a, s8n, s8c⟩, e8⟩ := hown9.sl
        change v' = .slice s8a s8n s8c at e8
        subst e8
        have HN2 : Hid (∃ D2 A2, Turned w1.heap.size w6 D A w9 D2 A2 ∧ Calm A A2 names (k + 1) ∧ ((∀ f, bytesP (A2.fs f) = bytesP (A.fs f)) ∧ A2.base = []) ∧ HeldIs w6.heap.size w9 (.slice s8a s8n s8c) A names (k + 1) ∧ RefIs w1.heap.size w9 rb v R) := Lib.hid ⟨_, _, hT9, HC3.out, ⟨HBY3.out, HBS.out⟩, ⟨_, hown9, by simp [HHL.out], fun i h hh => by
            by_cases hi : i < hs.length
            · rw [List.getElem?_append_left hi] at hh
              exact ⟨(HPP.out i h hh).1, hkeep _ _ (HPP.out i h hh).2⟩
            · have hi2 : i = hs.length := by
                have := (List.getElem?_eq_some_iff.1 hh).1
                simp at this
                omega
              subst hi2
              simp at hh
              subst hh
              exact ⟨by rw [HHL.out]; exact HN.out, hkeep _ _ HO8.out⟩⟩, hR9⟩
        clear hown9 hx9 hba hrow hkeep hT9 hR9
        go_wp2_with fail
        go_roundg (names.length - (k + 1))
        case measure => rw [HG.out]; omega
        case rel => exact ⟨k + 1, ⟨s8a, s8n, s8c⟩, rfl, by omega, rfl, by simp, HN2⟩
      · obtain rfl : k = names.length := by omega
        have hfr7 : Below w1.heap.size w1 wr := (HFR1.out.trans (HB6.out.mono HFR1.out.size)).trans (hT2.frame HD6.out (Below.refl w1.heap.size w6) (Nat.le_refl _) hbw6)
        have hbwr : w1.heap.size ≤ wr.heap.size := Nat.le_trans hbw6 hT2.ext.size
        have hsn := synNames_any hT2.is_ hbwr hC2.small.now0 (by have := hC2.small.now; omega) (by have := hC2.small.syn; omega)
        rw [hpb2] at hsn
        have HSN := Lib.hid hsn
        have HC := Lib.hid hC2
        have HDR := Lib.hid hT2.is_
        have HF7 := Lib.hid hfr7
        have HPB2 := Lib.hid hpb2
        have HBY := Lib.hid hBY
        have HH2 := Lib.hid hH2
        have HR2 := Lib.hid hR2
        clear hU hT2 hC2 hpb2 ho2 hfr7 hsn hBY hH2 hR2
        go_wp2_with fail
        refine HSN.out.mono ?_
        rintro e w8 ⟨rfl, D3, hT3⟩
        have hpb3 : D3.pb = D0.pb := hT3.pb.trans HPB2.out
        have hfr8 : Below w1.heap.size w1 w8 := HF7.out.trans (hT3.frame HDR.out (Below.refl w1.heap.size wr) (Nat.le_refl _) hbwr)
        have hbw8 : w1.heap.size ≤ w8.heap.size := Nat.le_trans hbwr hT3.ext.size
        have hch := changes_any hT3.is_
        rw [hpb3] at hch
        have HCH := Lib.hid hch
        have HD8 := Lib.hid hT3.is_
        have HR8 := Lib.hid (RefIs.turned HDR.out HR2.out hT3.ext)
        have HH8 := Lib.hid (HH2.out.turned hT3 HDR.out)
        have HF8 := Lib.hid hfr8
        have HPB3 := Lib.hid hpb3
        have hinj1 : (synA A2).Inj := ⟨HC.out.inj.nd, HC.out.inj.ids, HC.out.inj.one, HC.out.inj.rt⟩
        have hsyn1 : AllSyn (synA A2) := HC.out.allSyn HALL.out
        have hhist1 : (synA A2).Hist := HC.out.hist.syns
        have hpre : (synA A2).syn = A2.syn ++ [(synA A2).now] := rfl
        have hsm1 : (synA A2).Small 121 := by
          have hs := HC.out.small
          exact ⟨by have := hs.now0; simp only [synA]; omega, by have := hs.now; simp only [synA]; omega, by have := hs.chg; simp only [synA]; omega, by have := hs.syn; simp [synA]; omega, fun f hf => by have := hs.pcs f hf; simp only [synA]; omega, by have := hs.fil; simp only [synA]; omega⟩
        have hfil1 : (synA A2).files = A.files := HC.out.files
        have hby1 : ∀ f, bytesP ((synA A2).fs f) = bytesP (A.fs f) := HBY.out
        have hbs1 : (synA A2).base = [] := hBS
        clear hBS
        generalize synA A2 = A1 at *
        have HINJ := Lib.hid hinj1
        have HSYN := Lib.hid hsyn1
        have HHIST := Lib.hid hhist1
        have HPRE := Lib.hid hpre
        have HSM1 := Lib.hid hsm1
        have HFIL := Lib.hid hfil1
        have HBY1 := Lib.hid hby1
        have HBS1 := Lib.hid hbs1
        clear hbs1
        clear hT3 hpb3 hfr8 hch hinj1 hsyn1 hhist1 hpre hsm1 hfil1 hby1 HC HBY HH2 HR2 HSN HDR
        obtain ⟨F, hF⟩ : ∃ F, A1.now = F := ⟨_, rfl⟩
        rw [hF] at HCH HPRE
        have HNOW := Lib.hid hF
        clear hF
        go_wp2_with fail
        refine HCH.out.mono ?_
        rintro e w9 ⟨rfl, e9⟩
        have e9' := e9.symm
        subst e9'
        have hrunM : RunM w1.heap.size w8 D3 A1 rb v w6.heap.size (.slice sa sn sc) A names 121 w8 D3 A1 v R := ⟨Both.refl HD8.out HR8.out, HSM1.out, HRR.out.run.sR.mono (by omega), HRR.out.run.held, HINJ.out, More.refl A1, HH8.out⟩
        have HRUNM := Lib.hid hrunM
        clear hrunM
        go_upto_block 4 with fail
        go_cut [16] (fun iv wx => ∃ D' A' v' R', Hid (RunM w1.heap.size w8 D3 A1 rb v w6.heap.size (.slice sa sn sc) A names 181 wx D' A' v' R'))
        case first =>
          go_wp2_with fail
          go_loopg [16] 60 (fun g iv wr => ∃ k : Nat, g = 60 - k ∧ k ≤ 60 ∧ k ≤ l1.length ∧ iv = .int .i64 k ∧ Hid (∃ D' A' v' R', RunM w1.heap.size w8 D3 A1 rb v w6.heap.size (.slice sa sn sc) A names (121 + k) wr D' A' v' R'))
          case atStart => exact ⟨0, by omega, by omega, by omega, rfl, Lib.hid ⟨_, _, _, _, HRUNM.out⟩⟩
          case round =>
            obtain ⟨k, hg, hk, hkl0, rfl, hU⟩ := hrel
            have HG := Lib.hid hg
            clear hg
            by_cases hkl : k < l1.length
            · by_cases hk60 : k < 60
              · obtain ⟨y, hy⟩ : ∃ y, l1[k]? = some y := ⟨_, List.getElem?_eq_getElem hkl⟩
                obtain ⟨D', A', v', R', hR⟩ := hU.out
                have hfr1 : Below w1.heap.size w1 wr := HF8.out.trans (hR.both.frame HD8.out HR8.out (Below.refl w1.heap.size w8) (Nat.le_refl _) hbw8)
                have hfr : Below w.heap.size w wr := HB1.out.trans (hfr1.mono HB1.out.size)
                obtain ⟨_, _, e1, _, _, hh⟩ := HM.out.below hfr
                cases e1
                obtain ⟨b, o, e2, hcc⟩ := hh (by intro e; rw [e] at hy; simp at hy)
                subst e2
                have q0 := hcc k y hy 0 _ rfl
                have q1 := hcc k y hy 1 _ rfl
                have q2 := hcc k y hy 2 _ rfl
                have q3 := hcc k y hy 3 _ rfl
                have q4 := hcc k y hy 4 _ rfl
                have q5 := hcc k y hy 5 _ rfl
                have q6 := hcc k y hy 6 _ rfl
                have q7 := hcc k y hy 7 _ rfl
                simp only [Nat.add_zero] at q0
                have hyin := HMP.out y (List.mem_of_getElem? hy)
                have hbn : y.b.n = y.bs.length := by
                  obtain ⟨_, _, e, _⟩ := hyin.1
                  simp only [Sl.val, Value.slice.injEq] at e
                  exact e.2.1
                have hkk : (k : Int) < (l1.length : Int) := by omega
                have hkk2 : (k : Int) < 60 := by omega
                have HRM := Lib.hid hR
                have HYI := Lib.hid hyin
                have HBN := Lib.hid hbn
                have HFRM := Lib.hid hfr
                clear hh hcc hfr hfr1 hR hyin hbn hU hy
                go_upto_region 24 with fail
                have hb2 : Below wr.heap.size wr (wr.alloc (.cells #[.int .i64 y.kind, .string y.name, .string y.s, .slice y.b.a y.b.n y.b.cap, .int .i64 y.at_, .int .i64 y.names, .slice y.keep.a y.keep.n y.keep.cap, .int .i64 y.torn] 28)) := (Below.refl _ _).alloc (Nat.le_refl _) _
                have qo : (wr.alloc (.cells #[.int .i64 y.kind, .string y.name, .string y.s, .slice y.b.a y.b.n y.b.cap, .int .i64 y.at_, .int .i64 y.names, .slice y.keep.a y.keep.n y.keep.cap, .int .i64 y.torn] 28)).heap[wr.heap.size]? = some (.cells #[.int .i64 y.kind, .string y.name, .string y.s, .slice y.b.a y.b.n y.b.cap, .int .i64 y.at_, .int .i64 y.names, .slice y.keep.a y.keep.n y.keep.cap, .int .i64 y.torn] 28 (0, 0)) := (MapKept.heap_alloc wr _).1
                generalize wr.alloc (.cells #[.int .i64 y.kind, .string y.name, .string y.s, .slice y.b.a y.b.n y.b.cap, .int .i64 y.at_, .int .i64 y.names, .slice y.keep.a y.keep.n y.keep.cap, .int .i64 y.torn] 28) = w10 at *
                have r0 := Joins.cell_of_block qo 0
                have r1 := Joins.cell_of_block qo 1
                have r2 := Joins.cell_of_block qo 2
                have r3 := Joins.cell_of_block qo 3
                have r4 := Joins.cell_of_block qo 4
                have r5 := Joins.cell_of_block qo 5
                have r6 := Joins.cell_of_block qo 6
                have r7 := Joins.cell_of_block qo 7
                simp only [List.getElem?_toArray, List.getElem?_cons_succ, List.getElem?_cons_zero] at r0 r1 r2 r3 r4 r5 r6 r7
                have HRM2 := Lib.hid (HRM.out.below hb2)
                have HFRM2 := Lib.hid (HFRM.out.trans (hb2.mono HFRM.out.size))
                clear q0 q1 q2 q3 q4 q5 q6 q7 qo hb2 HRM HFRM
                generalize wr.heap.size = pw at *
                go_cut [129] from 92 to 133 (fun bv wx => ∃ bb : Bool, bv = .bool bb ∧ Hid (bb = true → y.b.n ≤ 1000 ∧ (y.kind = 1 ∨ y.kind = 2 ∨ y.kind = 3 ∨ y.kind = 6)) ∧ wx = w10)
                case first =>
                  clear r1 r2 r4 r5 r6 r7
                  by_cases hle : y.b.n ≤ 1000
                  · have hle2 : (y.b.n : Int) ≤ 1000 := by omega
                    have HLE := Lib.hid hle
                    clear hle
                    by_cases k2 : y.kind = 2
                    · have K := Lib.hid k2
                      rw [k2] at r0
                      clear k2
                      go_wp2_with fail
                      go_meet
                      case rel => exact ⟨true, rfl, Lib.hid (fun _ => ⟨HLE.out, .inr (.inl K.out)⟩), rfl⟩
                    · have k2b : (y.kind == 2) = false := by simpa using k2
                      by_cases k3 : y.kind = 3
                      · have K := Lib.hid k3
                        rw [k3] at r0 k2b
                        clear k3 k2
                        go_wp2_with fail
                        go_meet
                        case rel => exact ⟨true, rfl, Lib.hid (fun _ => ⟨HLE.out, .inr (.inr (.inl K.out))⟩), rfl⟩
                      · have k3b : (y.kind == 3) = false := by simpa using k3
                        by_cases k1 : y.kind = 1
                        · have K := Lib.hid k1
                          rw [k1] at r0 k2b k3b
                          clear k1 k2 k3
                          go_wp2_with fail
                          go_meet
                          case rel => exact ⟨true, rfl, Lib.hid (fun _ => ⟨HLE.out, .inl K.out⟩), rfl⟩
                        · have k1b : (y.kind == 1) = false := by simpa using k1
                          by_cases k6 : y.kind = 6
                          · have K := Lib.hid k6
                            rw [k6] at r0 k2b k3b k1b
                            clear k1 k2 k3 k6
                            go_wp2_with fail
                            go_meet
                            case rel => exact ⟨true, rfl, Lib.hid (fun _ => ⟨HLE.out, .inr (.inr (.inr K.out))⟩), rfl⟩
                          · have k6b : (y.kind == 6) = false := by simpa using k6
                            clear k1 k2 k3 k6
                            go_wp2_with fail
                            go_meet
                            case rel => exact ⟨false, rfl, Lib.hid (fun e => by cases e), rfl⟩
                  · have hle2 : ¬ (y.b.n : Int) ≤ 1000 := by omega
                    clear hle
                    go_wp2_with fail
                    go_meet
                    case rel => exact ⟨false, rfl, Lib.hid (fun e => by cases e), rfl⟩
                case rest =>
                  obtain ⟨bb, rfl, HBB, ew⟩ := hcut
                  subst ew
                  cases bb with
                  | true =>
                    obtain ⟨hle, hkind⟩ := HBB.out rfl
                    have hact := act_any HRM2.out.both.disk HRM2.out.both.ref (Nat.le_trans hbw8 HRM2.out.both.ext.size) y HYI.out HFRM2.out HB1.out.size (by rw [← HBN.out]; exact hle) HRM2.out.sA HRM2.out.sR (by omega) HRM2.out.held
                    rw [HRM2.out.both.pb, HPB3.out] at hact
                    have HACT := Lib.hid hact
                    have HK := Lib.hid hkind
                    clear hact hkind hle
                    go_wp2_with fail
                    refine HACT.out.mono ?_
                    rintro e w11 ⟨c, A2, D2, v2, rfl, hA, hB⟩
                    have HN : Hid (∃ D' A' v' R', RunM w1.heap.size w8 D3 A1 rb v w6.heap.size (.slice sa sn sc) A names (121 + k + 1) w11 D' A' v' R') := Lib.hid ⟨_, _, _, _, HRM2.out.act HINJ.out HSYN.out HK.out hA hB⟩
                    clear hA hB
                    go_wp2_with fail
                    go_roundg (60 - (k + 1))
                    case measure => rw [HG.out]; omega
                    case rel => exact ⟨k + 1, rfl, by omega, by omega, by simp, HN⟩
                  | false =>
                    have HN : Hid (∃ D' A' v' R', RunM w1.heap.size w8 D3 A1 rb v w6.heap.size (.slice sa sn sc) A names (121 + k + 1) wc D' A' v' R') := Lib.hid ⟨_, _, _, _, HRM2.out.le (Nat.le_succ _)⟩
                    go_wp2_with fail
                    go_roundg (60 - (k + 1))
                    case measure => rw [HG.out]; omega
                    case rel => exact ⟨k + 1, rfl, by omega, by omega, by simp, HN⟩
              · have hkk : (k : Int) < (l1.length : Int) := by omega
                have hkk2 : ¬ (k : Int) < 60 := by omega
                have HN : Hid (∃ D' A' v' R', RunM w1.heap.size w8 D3 A1 rb v w6.heap.size (.slice sa sn sc) A names 181 wr D' A' v' R') := Lib.hid (by obtain ⟨D', A', v', R', h⟩ := hU.out; exact ⟨D', A', v', R', h.le (by omega)⟩)
                clear hU
                go_wp2_with fail
                go_meet
                case rel => obtain ⟨D', A', v', R', h⟩ := HN.out; exact ⟨D', A', v', R', Lib.hid h⟩
            · have hkk : ¬ (k : Int) < (l1.length : Int) := by omega
              have HN : Hid (∃ D' A' v' R', RunM w1.heap.size w8 D3 A1 rb v w6.heap.size (.slice sa sn sc) A names 181 wr D' A' v' R') := Lib.hid (by obtain ⟨D', A', v', R', h⟩ := hU.out; exact ⟨D', A', v', R', h.le (by omega)⟩)
              clear hU
              go_wp2_with fail
              go_meet
              case rel => obtain ⟨D', A', v', R', h⟩ := HN.out; exact ⟨D', A', v', R', Lib.hid h⟩
        case rest =>
          obtain ⟨D', A', v', R', HRM⟩ := hcut
          have hfr1 : Below w1.heap.size w1 wc := HF8.out.trans (HRM.out.both.frame HD8.out HR8.out (Below.refl w1.heap.size w8) (Nat.le_refl _) hbw8)
          have hfr : Below w.heap.size w wc := HB1.out.trans (hfr1.mono HB1.out.size)
          have hbwc : w1.heap.size ≤ wc.heap.size := hfr1.size
          have qb := (hfr1.block w.heap.size (by have := HS1.out; omega)).trans HQ0.out
          have z0 := Joins.cell_of_block qb 0
          have z1 := Joins.cell_of_block qb 1
          have z2 := Joins.cell_of_block qb 2
          have z3 := Joins.cell_of_block qb 3
          simp only [List.getElem?_toArray, List.getElem?_cons_succ, List.getElem?_cons_zero] at z0 z1 z2 z3
          have HFR9 := Lib.hid hfr
          clear hfr1 hfr qb
          go_upto_if 137 with fail
          go_cut [18] from 138 to 140 (fun av wx => ∃ aa : Int, av = .int .i64 aa ∧ Hid (0 ≤ aa ∧ aa ≤ 9223372036854775807) ∧ wx = wc)
          case first =>
            have ha1 := HX.out.a1
            have ha2 := HX.out.a2
            by_cases h0 : x.at_ < 0
            · have hw1 : IntKind.i64.wrap (x.at_ + 1) = x.at_ + 1 := IntWalk.i64_in _ (by omega)
              have hw2 : IntKind.i64.wrap (-(x.at_ + 1)) = -(x.at_ + 1) := IntWalk.i64_in _ (by omega)
              have HA := Lib.hid (show 0 ≤ -(x.at_ + 1) ∧ -(x.at_ + 1) ≤ 9223372036854775807 by omega)
              clear ha1 ha2
              go_wp2_with fail
              go_meet
              case rel => exact ⟨-(x.at_ + 1), rfl, HA, rfl⟩
            · have HA := Lib.hid (show 0 ≤ x.at_ ∧ x.at_ ≤ 9223372036854775807 by omega)
              clear ha1 ha2
              go_wp2_with fail
              go_meet
              case rel => exact ⟨x.at_, rfl, HA, rfl⟩
          case rest =>
            obtain ⟨aa, rfl, HAA, ew⟩ := hcut
            subst ew
            have hF0 : 0 ≤ F := by have := HSM1.out.now0; rw [HNOW.out] at this; exact this
            have hFM : F ≤ A'.now := by have := HRM.out.more.now; rw [HNOW.out] at this; exact this
            have hM := HRM.out.sA.now
            have hM0 := HRM.out.sA.now0
            obtain ⟨M, hMe⟩ : ∃ M, A'.now = M := ⟨_, rfl⟩
            rw [hMe] at hFM hM hM0
            have hw1 : IntKind.i64.wrap (M - F) = M - F := IntWalk.i64_in _ (by omega)
            have hw2 : IntKind.i64.wrap (M - F + 1) = M - F + 1 := IntWalk.i64_in _ (by omega)
            have hne : ¬ M - F + 1 = 0 := by omega
            obtain ⟨r, hr⟩ : ∃ r, aa.tmod (M - F + 1) = r := ⟨_, rfl⟩
            have hr0 : 0 ≤ r ∧ r ≤ M - F := by
              rw [← hr, Int.tmod_eq_emod_of_nonneg HAA.out.1]
              have h1 := Int.emod_nonneg aa (show M - F + 1 ≠ 0 by omega)
              have h2 := Int.emod_lt_of_pos aa (show 0 < M - F + 1 by omega)
              omega
            have hw3 : IntKind.i64.wrap (F + r) = F + r := IntWalk.i64_in _ (by omega)
            have hch := changes_any HRM.out.both.disk.drew
            rw [HRM.out.both.pb, HPB3.out, hMe] at hch
            have hct := cut_any HRM.out.both.disk.drew hbwc (F + r) x.names x.torn x.ks _ (HX.out.sl.below HFR9.out.drew) (by omega) (by omega) HX.out.n1 HX.out.n2 HX.out.t1 HX.out.t2 HRM.out.sA (by omega)
            rw [HRM.out.both.pb, HPB3.out] at hct
            have HCH := Lib.hid hch
            have HCT := Lib.hid hct
            have HR := Lib.hid (show F ≤ F + r ∧ F + r ≤ A'.now by rw [hMe]; omega)
            have HM2 := Lib.hid hMe
            clear hch hct hMe hr0 hF0 hFM hM hM0
            go_upto_region 29 with fail
            go_region_held3 (fun W => W.cell? ⟨w.heap.size, 1, none⟩ = some (.int .i64 x.names) ∧ W.cell? ⟨w.heap.size, 2, none⟩ = some (.slice x.keep.a x.keep.n x.keep.cap) ∧ W.cell? ⟨w.heap.size, 3, none⟩ = some (.int .i64 x.torn)) (first | exact ⟨z1, z2, z3⟩ | exact ⟨keepB HB9.out z1, keepB HB9.out z2, keepB HB9.out z3⟩) (first
              | (go_at_call 13; ((with_reducible refine HCH.out.mono ?_); rintro e w9 ⟨rfl, rfl⟩))
              | (go_at_call 17; ((with_reducible refine HCT.out.mono ?_); rintro e w9 ⟨DX, AX, rfl, hD9, hfb, hcut, hb9⟩; simp only [heap_drew, below_drew] at hb9 hD9; have HB9 := Lib.hid hb9; have HD9 := Lib.hid hD9; have HFB := Lib.hid hfb; have HCUT := Lib.hid hcut; clear hb9 hD9 hfb hcut)))
            all_goals
              have hlen := HCUT.out.len
              have hbsA : A'.base = [] := HRM.out.more.base.trans HBS1.out
              have hsmX : AX.Small 200 := ⟨by rw [HCUT.out.now]; decide, by rw [HCUT.out.now]; decide, by rw [HCUT.out.chg]; decide, by rw [HCUT.out.syn]; decide, fun f hf => Nat.le_trans (HCUT.out.ln f hf) (by decide), by rw [HFB.out]; have := HRM.out.sA.chg; rw [hbsA] at hlen; simp at hlen; omega⟩
              have HSMX := Lib.hid hsmX
              have hgot : ∀ n f, aget A.files n = some f → ∃ g r, aget AX.files n = some g ∧ bytesP (AX.fs g) = bytesP (A.fs f) ++ r := fun n f hf => by
                obtain ⟨g, r2, h1, h2⟩ := safe_cut HINJ.out HHIST.out HSYN.out (by rw [HNOW.out]; exact HPRE.out) HRM.out.more HSM1.out.now0 (by rw [HNOW.out]; exact HR.out.1) HR.out.2 HCUT.out HFB.out (by rw [HFIL.out]; exact hf)
                exact ⟨g, r2, h1, by rw [h2, HBY1.out]⟩
              have HGOT := Lib.hid hgot
              have HHX := Lib.hid (HRM.out.hd.below HB9.out)
              have HW9 := Lib.hid (HFR9.out.trans (HB9.out.mono HFR9.out.size))
              clear hlen hbsA hsmX hgot z0 z1 z2 z3
              obtain ⟨hs, ho, hl, hpp⟩ := HHX.out
              obtain ⟨esn⟩ : sn = hs.length := by
                obtain ⟨_, _, e, _⟩ := ho.slice Hd.len
                simp only [Value.slice.injEq] at e
                exact e.2.1
              obtain ⟨_, _, eh, hc1, hc2, hcs⟩ := ho.slice Hd.len
              cases eh
              unfold maxLen at hc2
              have hl60 : hs.length ≤ 60 := by omega
              have HCS := Lib.hid hcs
              have HPP := Lib.hid hpp
              have HHL := Lib.hid hl
              clear ho hl hpp hcs
              go_wp2_with fail
              go_loopg [20] hs.length (fun g iv wr => ∃ (k : Nat), g = hs.length - k ∧ k ≤ hs.length ∧ iv = .int .i64 k ∧ Hid (Below w9.heap.size w9 wr))
              case atStart => exact ⟨0, by omega, by omega, rfl, Lib.hid (Below.refl _ _)⟩
              case round =>
                obtain ⟨k, hg, hk, rfl, hU⟩ := hrel
                have HG := Lib.hid hg
                clear hg
                by_cases hkl : k < hs.length
                · obtain ⟨h, hh⟩ : ∃ h, hs[k]? = some h := ⟨_, List.getElem?_eq_getElem hkl⟩
                  obtain ⟨b, o, e2, hcc⟩ := HCS.out (by intro e; rw [e] at hh; simp at hh)
                  subst e2
                  have p0 := keepB hU.out (hcc k h hh 0 _ rfl)
                  have p1 := keepB hU.out (hcc k h hh 1 _ rfl)
                  simp only [Nat.add_zero] at p0
                  have hkk : (k : Int) < (hs.length : Int) := by omega
                  obtain ⟨hpn, hpo⟩ := HPP.out k h hh
                  obtain ⟨f, hf⟩ := HMEM.out h.name (List.mem_of_getElem? hpn)
                  obtain ⟨g, r2, hg1, hg2⟩ := HGOT.out h.name f hf
                  have hbA : bytesA A h.name = bytesP (A.fs f) := by unfold bytesA; rw [hf]
                  rw [hbA] at hpo
                  have hrd := read_any (HD9.out.below hU.out) h.name HSMX.out (by omega)
                  have HRD := Lib.hid hrd
                  have HPO := Lib.hid hpo
                  have HG1 := Lib.hid hg1
                  have HG2 := Lib.hid hg2
                  clear hcc hh hpn hpo hf hg1 hg2 hbA hrd
                  generalize bytesP (A.fs f) = bs at *
                  go_wp2_with fail
                  refine HRD.out.mono ?_
                  intro e w11 hq
                  obtain ⟨v11, rfl, ho11, b11⟩ : ∃ v11, e = .returned (.tuple #[v11, .int .i64 0]) ∧ Own u8c 1 5 wr.heap.size w11 v11 (bs ++ r2) ∧ Below wr.heap.size wr w11 := by
                    rcases hq with ⟨h0, _⟩ | ⟨f', v7, h0, he, ho, hb⟩
                    · rw [HG1.out] at h0; cases h0
                    · rw [HG1.out] at h0
                      cases h0
                      exact ⟨v7, he, by rw [← HG2.out]; exact ho, hb⟩
                  replace p0 := keepB b11 p0
                  replace p1 := keepB b11 p1
                  have HBE := Lib.hid (hU.out.trans (b11.mono hU.out.size))
                  have hs1 := ho11.slice u8c_len
                  have hs2 := ((HPO.out.slice u8c_len).below hU.out).below b11
                  clear hq ho11 b11 hU
                  go_upto_region 36 with fail
                  obtain ⟨a11, c11, rfl, hc11, hm11, hcs11⟩ := id hs1
                  obtain ⟨aH, cH, eH, hcH, hmH, _⟩ := id hs2
                  obtain ⟨hname, ⟨ha, hnn, hcc⟩⟩ := h
                  simp only [Sl.val, Value.slice.injEq] at eH
                  obtain ⟨rfl, rfl, rfl⟩ := eH
                  dsimp only [Sl.val] at hs2 p0 p1
                  have hs3 : SliceIs u8c 1 w11 (.slice a11 bs.length c11) bs := ⟨a11, c11, rfl, by rw [List.length_append] at hc11; omega, hm11, fun hne => by
                    obtain ⟨b9, o9, e9, hc9⟩ := hcs11 (by simp [hne])
                    exact ⟨b9, o9, e9, fun i x hi => hc9 i x (by rw [List.getElem?_append_left (List.getElem?_eq_some_iff.1 hi).1]; exact hi)⟩⟩
                  have hcv1 := fun n => conv_bytes (hs3.below (below_drewN (Below.refl w11.heap.size w11) n))
                  have hcv2 := fun n => conv_bytes (hs2.below (below_drewN (Below.refl w11.heap.size w11) n))
                  unfold maxLen at hm11 hmH
                  have hlen : ((bs ++ r2).length : Int) = (bs.length : Int) + (r2.length : Int) := by simp
                  have hnlt : ¬ ((bs ++ r2).length : Int) < (bs.length : Int) := by omega
                  have hcap : (bs.length : Int) ≤ (c11 : Int) := by rw [List.length_append] at hc11; omega
                  have hcap0 : (0 : Int) ≤ (bs.length : Int) := by omega
                  have hcap2 : bs.length ≤ c11 := by omega
                  have hnd : decide (((bs ++ r2).length : Int) < (bs.length : Int)) = false := decide_eq_false hnlt
                  clear hs1 hs2 hs3 hcs11 hlen HRD HPO HG2
                  generalize (bs ++ r2).length = L at *
                  generalize bs.toArray = bt at *
                  generalize bs.length = N at *
                  go_quiet (fail)
                  have HBD := Lib.hid (HBE.out.trans (below_drewN (Below.refl w11.heap.size w11) nq |>.mono HBE.out.size))
                  clear p0 p1 hcv1 hcv2
                  generalize w11.drewN nq = w12 at *
                  go_wp2_with fail
                  go_roundg (hs.length - (k + 1))
                  case measure => rw [HG.out]; omega
                  case rel => exact ⟨k + 1, rfl, by omega, by simp, HBD⟩
                · obtain rfl : k = hs.length := by omega
                  have HEND := Lib.hid (HW9.out.trans (hU.out.mono HW9.out.size))
                  clear hU
                  go_wp2_with fail
                  go_ret
                  exact ⟨rfl, HEND.out⟩

end Go.Proofs.Ytmlaojfhmaamcaa
