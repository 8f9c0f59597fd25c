/- The law FilesApart: what is done with one file leaves all others as they are. -/
import Derived.Test.YtmlaojfhmaamcaaInv06
import Derived.Test.YtmlaojfhmaamcaaAlive06
import Derived.Test.YtmlaojfhmaamcaaOpenA06
import Derived.SizedLaws
import Derived.OpenShut
import Derived.ShutString
import Derived.ChangeOld
import Derived.Below
namespace Go.Proofs.Ytmlaojfhmaamcaa
open Go.ChangeShapes Go.WideShapes Go.ChangeAt Go.RowKit Go.Deep
set_option linter.unusedSimpArgs false
set_option linter.unusedVariables false

/-- What is sure of a file, in memory. -/
structure Hd where
  name : ByteArray
  s : Sl
def Hd.cells (h : Hd) : List Value := [.string h.name, .slice h.s.a h.s.n h.s.cap]
theorem Hd.len (p : Hd) : p.cells.length = 2 := rfl
theorem Hd.one (p : Hd) : ∀ u ∈ p.cells, u.oneCell' = true := by
  intro u hu
  simp only [Hd.cells, List.mem_cons, List.not_mem_nil, or_false] at hu
  rcases hu with rfl | rfl <;> rfl
theorem info_sure : (Try.prog.info? 45).map (fun i => (i.zero, i.size, i.bytes)) = some (some (.agg #[.string ⟨#[]⟩, .slice none 0 0]), 2, 40) := by kernel_rfl
theorem hd_alloc (W : World) (x : Hd) : ∀ j u, (Hd.cells x)[j]? = some u → (W.alloc (.cells #[.string x.name, .slice x.s.a x.s.n x.s.cap] 45)).cell? ⟨W.heap.size, j, none⟩ = some u := by
  intro j u hj
  rw [World.cell?_alloc_at _ _ _ _ rfl, ← hj, Hd.cells]
  simp

/-- The first k names are held, with their bytes. -/
def HeldIs (B : Nat) (w : World) (vv : Value) (A : DiskA) (names : List ByteArray) (k : Nat) : Prop :=
  ∃ hs : List Hd, Own Hd.cells 2 45 B w vv hs ∧ hs.length = k ∧ ∀ (i : Nat) h, hs[i]? = some h → names[i]? = some h.name ∧ Own u8c 1 5 B w h.s.val (bytesA A h.name)
theorem HeldIs.ext {B : Nat} {w w' : World} {vv : Value} {A : DiskA} {names : List ByteArray} {k : Nat} {S : Nat → Prop} (h : HeldIs B w vv A names k) (hx : Ext S w w') (h1 : ∀ b, tagOf w b = some 45 → ¬ S b) (h2 : ∀ b, tagOf w b = some 5 → ¬ S b) : HeldIs B w' vv A names k := by
  obtain ⟨hs, ho, hl, hp⟩ := h
  exact ⟨hs, ho.ext hx (fun b hb => h1 b (tag_own ho hb)), hl, fun i q hq => ⟨(hp i q hq).1, (hp i q hq).2.ext hx (fun b hb => h2 b (tag_own (hp i q hq).2 hb))⟩⟩
theorem HeldIs.below {B : Nat} {w w' : World} {vv : Value} {A : DiskA} {names : List ByteArray} {k : Nat} (h : HeldIs B w vv A names k) (hb : Below w.heap.size w w') : HeldIs B w' vv A names k :=
  h.ext (Ext.of_below (S := fun _ => False) hb) (fun _ _ => id) (fun _ _ => id)
theorem HeldIs.both {B base : Nat} {w w' : World} {D D' : DSh} {A A' A0 : DiskA} {rb : Nat} {v v' : Value} {R R' : RefA} {vv : Value} {names : List ByteArray} {k : Nat} (h : HeldIs B w vv A0 names k) (hb : Both base w D A rb v w' D' A' v' R') (hd : DiskIs base w D A) (hr : RefIs base w rb v R) : HeldIs B w' vv A0 names k := by
  have key : ∀ b T, tagOf w b = some T → ¬ DTag (some T) → ¬ RTag (some T) → ¬ (Foot D A b ∨ RFoot rb v b) := fun b T ht h1 h2 hf => by
    rcases hf with hf | hf
    · exact h1 (ht ▸ hd.dtag hf)
    · rcases (hr.foot hf).2.2 with e | e
      · exact h2 (ht ▸ .inl e)
      · exact h2 (ht ▸ .inr e)
  exact h.ext hb.ext (fun b ht => key b _ ht (by simp [DTag]) (by simp [RTag])) (fun b ht => key b _ ht (by simp [DTag]) (by simp [RTag]))

/-- A script is under way. -/
structure Run (base : Nat) (w4 : World) (D0 : DSh) (rb : Nat) (N : Nat) (wr : World) (D : DSh) (A : DiskA) (v : Value) (R : RefA) : Prop where
  both : Both base w4 D0 disk0 rb (.slice none 0 0) wr D A v R
  sA : A.Small N
  sR : R.Small N
  held : ∀ f, (heldR R.L f).length ≤ 1048576
  inj : A.Inj
theorem Run.more {base : Nat} {w4 : World} {D0 : DSh} {rb N M : Nat} {wr : World} {D : DSh} {A : DiskA} {v : Value} {R : RefA} (h : Run base w4 D0 rb N wr D A v R) (hm : N ≤ M) : Run base w4 D0 rb M wr D A v R := ⟨h.both, h.sA.mono hm, h.sR.mono hm, h.held, h.inj⟩
theorem Run.act {base : Nat} {w4 : World} {D0 : DSh} {rb N : Nat} {wr w' : World} {D D' : DSh} {A A' : DiskA} {v v' : Value} {R : RefA} {x : OpA} {c : Int} (h : Run base w4 D0 rb N wr D A v R) (ha : ActA x A c A') (hb : Both base wr D A rb v w' D' A' v' (ractR x R)) : Run base w4 D0 rb (N + 1) w' D' A' v' (ractR x R) :=
  ⟨h.both.trans hb, ha.small h.sA, (ract_small x h.sR h.held).1, (ract_small x h.sR h.held).2, ha.inj h.inj⟩
theorem run_frame {w w1 w4 wr : World} {D0 D : DSh} {A : DiskA} {v : Value} {R : RefA} {rb N : Nat} (h1 : Below w.heap.size w w1) (hs : w1.heap.size = w.heap.size + 1) (h4 : Below w1.heap.size w1 w4) (hd : DiskIs w1.heap.size w4 D0 disk0) (hr : RefIs w1.heap.size w4 rb (.slice none 0 0) ⟨[], 0, 0⟩) (h : Run w1.heap.size w4 D0 rb N wr D A v R) : Below w.heap.size w wr :=
  (h1.trans (h4.mono (by omega))).trans (h.both.frame hd hr (Below.refl w.heap.size w4) (by omega) (by have := h4.size; omega))
theorem run_frame1 {w1 w4 wr : World} {D0 D : DSh} {A : DiskA} {v : Value} {R : RefA} {rb N : Nat} (h4 : Below w1.heap.size w1 w4) (hd : DiskIs w1.heap.size w4 D0 disk0) (hr : RefIs w1.heap.size w4 rb (.slice none 0 0) ⟨[], 0, 0⟩) (h : Run w1.heap.size w4 D0 rb N wr D A v R) : Below w1.heap.size w1 wr :=
  h4.trans (h.both.frame hd hr (Below.refl w1.heap.size w4) (Nat.le_refl _) h4.size)
theorem small0 : disk0.Small 0 := ⟨by decide, by decide, by decide, by decide, fun f hf => (by cases hf), by decide⟩

set_option maxRecDepth 100000 in
set_option maxHeartbeats 10000000 in
theorem filesApart_walk (v0 : Value) (l : List OpA) (x : OpA) (w : World) (hl : SliceIs OpA.cells 8 w v0 l) (hp : ∀ y ∈ l, y.In w) (hx : x.In w) :
    Calls Try.prog 3 #[v0, .agg #[.int .i64 x.kind, .string x.name, .string x.s, .slice x.b.a x.b.n x.b.cap, .int .i64 x.at_, .int .i64 x.names, .slice x.keep.a x.keep.n x.keep.cap, .int .i64 x.torn]] w fun e w' => e = .returned (.bool true) ∧ Below w.heap.size w w' := by
  obtain ⟨i0, hi, hz0, hz1, hz2⟩ := info_parts info_sure
  obtain ⟨a, cap, rfl, hcap, hmax, _⟩ := id hl
  unfold maxLen at hmax
  obtain ⟨ob, hob⟩ : ∃ ob : Obj, .cells #[.int .i64 x.kind, .string x.name, .string x.s, .slice x.b.a x.b.n x.b.cap, .int .i64 x.at_, .int .i64 x.names, .slice x.keep.a x.keep.n x.keep.cap, .int .i64 x.torn] 28 = ob := ⟨_, rfl⟩
  have hb1 : Below w.heap.size w (w.alloc ob) := (Below.refl _ _).alloc (Nat.le_refl _) _
  have q0 : (w.alloc ob).heap[w.heap.size]? = some (.cells #[.int .i64 x.kind, .string x.name, .string x.s, .slice x.b.a x.b.n x.b.cap, .int .i64 x.at_, .int .i64 x.names, .slice x.keep.a x.keep.n x.keep.cap, .int .i64 x.torn] 28 (0, 0)) := by rw [← hob]; exact (MapKept.heap_alloc w _).1
  obtain ⟨w1, hw1⟩ : ∃ w1, w.alloc ob = w1 := ⟨_, rfl⟩
  rw [hw1] at hb1 q0
  have hs1 : w1.heap.size = w.heap.size + 1 := by rw [← hw1]; simp
  rw [← hob] at hw1
  clear hob
  have HL := Lib.hid hl
  have HP := Lib.hid hp
  have HX := Lib.hid hx
  have HB1 := Lib.hid hb1
  have HQ0 := Lib.hid q0
  have HS1 := Lib.hid hs1
  clear hl hp hx hb1 q0 hs1
  go_enter Try.func3, Try.ntmps3
  go_wp2_with fail
  refine (new_any (base := w1.heap.size) w1 (Nat.le_refl _)).mono ?_
  rintro e w2 ⟨D0, rfl, hD2, b2, _⟩
  clear hw1
  go_wp2_with fail
  refine (alive_any _).mono ?_
  rintro e w3 ⟨rfl, b3⟩
  have hb3 := b2.trans (b3.mono b2.size)
  have hD3 := hD2.below b3
  have hb4 : Below w1.heap.size w1 (w3.alloc (.cells #[.slice none 0 0, .int .i64 0, .int .i64 0] 35)) := hb3.alloc hb3.size _
  have hD4 := hD3.alloc (.cells #[.slice none 0 0, .int .i64 0, .int .i64 0] 35)
  have hR4 : RefIs w1.heap.size (w3.alloc (.cells #[.slice none 0 0, .int .i64 0, .int .i64 0] 35)) w3.heap.size (.slice none 0 0) ⟨[], 0, 0⟩ := ⟨(MapKept.heap_alloc w3 _).1, hb3.size, [], Own.nil, rfl, fun i q p hq => by simp at hq⟩
  have hrun : Run w1.heap.size (w3.alloc (.cells #[.slice none 0 0, .int .i64 0, .int .i64 0] 35)) D0 w3.heap.size 0 (w3.alloc (.cells #[.slice none 0 0, .int .i64 0, .int .i64 0] 35)) D0 disk0 (.slice none 0 0) ⟨[], 0, 0⟩ :=
    ⟨Both.refl hD4 hR4, small0, ⟨by decide, by decide, by decide⟩, fun f => by simp [heldR], inj0⟩
  have HB4 := Lib.hid hb4
  have HD4 := Lib.hid hD4
  have HR4 := Lib.hid hR4
  have HRUN := Lib.hid hrun
  clear hb3 hD3 hb4 hD4 hR4 hrun b2 b3 hD2
  go_upto_block 0 with fail
  generalize w3.alloc (.cells #[.slice none 0 0, .int .i64 0, .int .i64 0] 35) = w4 at *
  generalize w3.heap.size = rb at *
  go_cut [7] (fun iv wx => ∃ D A v R, Hid (Run w1.heap.size w4 D0 rb 60 wx D A v R))
  case first =>
    go_wp2_with fail
    go_loopg [7] 60 (fun g iv wr => ∃ k : Nat, g = 60 - k ∧ k ≤ 60 ∧ k ≤ l.length ∧ iv = .int .i64 k ∧ Hid (∃ D A v R, Run w1.heap.size w4 D0 rb k wr D A v R))
    case atStart => exact ⟨0, by omega, by omega, by omega, rfl, Lib.hid ⟨_, _, _, _, HRUN.out⟩⟩
    case round =>
      obtain ⟨k, hg, hk, hkl0, rfl, hU⟩ := hrel
      have HG := Lib.hid hg
      clear hg
      by_cases hkl : k < l.length
      · by_cases hk60 : k < 60
        · obtain ⟨y, hy⟩ : ∃ y, l[k]? = some y := ⟨_, List.getElem?_eq_getElem hkl⟩
          obtain ⟨D, A, v, R, hR⟩ := hU.out
          have hfr := run_frame HB1.out HS1.out HB4.out HD4.out HR4.out hR
          obtain ⟨_, _, e1, _, _, hh⟩ := HL.out.below hfr
          cases e1
          obtain ⟨b, o, e2, hcc⟩ := hh (by intro e; rw [e] at hy; simp at hy)
          subst e2
          have q0 := hcc k y hy 0 _ rfl
          have q1 := hcc k y hy 1 _ rfl
          have q2 := hcc k y hy 2 _ rfl
          have q3 := hcc k y hy 3 _ rfl
          have q4 := hcc k y hy 4 _ rfl
          have q5 := hcc k y hy 5 _ rfl
          have q6 := hcc k y hy 6 _ rfl
          have q7 := hcc k y hy 7 _ rfl
          simp only [Nat.add_zero] at q0
          have hyin := HP.out y (List.mem_of_getElem? hy)
          have hbn : y.b.n = y.bs.length := by
            obtain ⟨_, _, e, _⟩ := hyin.1
            simp only [Sl.val, Value.slice.injEq] at e
            exact e.2.1
          have hkk : (k : Int) < (l.length : Int) := by omega
          have hkk2 : (k : Int) < 60 := by omega
          have HRR := Lib.hid hR
          have HYI := Lib.hid hyin
          have HBN := Lib.hid hbn
          clear hh hcc hfr hR hyin hbn hU hy
          by_cases hle : y.b.n ≤ 1000
          · have hle2 : (y.b.n : Int) ≤ 1000 := by omega
            have hact := act_any HRR.out.both.disk HRR.out.both.ref (Nat.le_trans HB4.out.size HRR.out.both.ext.size) y HYI.out (run_frame HB1.out HS1.out HB4.out HD4.out HR4.out HRR.out) HB1.out.size (by rw [← HBN.out]; exact hle) HRR.out.sA HRR.out.sR (by omega) HRR.out.held
            rw [HRR.out.both.pb] at hact
            have HACT := Lib.hid hact
            clear hact hle
            go_wp2_with fail
            refine HACT.out.mono ?_
            rintro e w5 ⟨c, A', D', v', rfl, hA, hB⟩
            have HN : Hid (∃ D A v R, Run w1.heap.size w4 D0 rb (k + 1) w5 D A v R) := Lib.hid ⟨_, _, _, _, HRR.out.act hA hB⟩
            clear hA hB
            go_wp2_with fail
            go_roundg (60 - (k + 1))
            case measure => rw [HG.out]; omega
            case rel => exact ⟨k + 1, rfl, by omega, by omega, by simp, HN⟩
          · have hle2 : ¬ (y.b.n : Int) ≤ 1000 := by omega
            have HN : Hid (∃ D A v R, Run w1.heap.size w4 D0 rb (k + 1) wr D A v R) := Lib.hid ⟨_, _, _, _, HRR.out.more (Nat.le_succ k)⟩
            clear hle
            go_wp2_with fail
            go_roundg (60 - (k + 1))
            case measure => rw [HG.out]; omega
            case rel => exact ⟨k + 1, rfl, by omega, by omega, by simp, HN⟩
        · have hkk : (k : Int) < (l.length : Int) := by omega
          have hkk2 : ¬ (k : Int) < 60 := by omega
          have HN : Hid (∃ D A v R, Run w1.heap.size w4 D0 rb 60 wr D A v R) := Lib.hid (by obtain ⟨D, A, v, R, h⟩ := hU.out; exact ⟨D, A, v, R, h.more (by omega)⟩)
          clear hU
          go_wp2_with fail
          go_meet
          case rel => obtain ⟨D, A, v, R, h⟩ := HN.out; exact ⟨D, A, v, R, Lib.hid h⟩
      · have hkk : ¬ (k : Int) < (l.length : Int) := by omega
        have HN : Hid (∃ D A v R, Run w1.heap.size w4 D0 rb 60 wr D A v R) := Lib.hid (by obtain ⟨D, A, v, R, h⟩ := hU.out; exact ⟨D, A, v, R, h.more (by omega)⟩)
        clear hU
        go_wp2_with fail
        go_meet
        case rel => obtain ⟨D, A, v, R, h⟩ := HN.out; exact ⟨D, A, v, R, Lib.hid h⟩
  case rest =>
    obtain ⟨D, A, v, R, HRR⟩ := hcut
    have hfr := run_frame HB1.out HS1.out HB4.out HD4.out HR4.out HRR.out
    have hfr1 := run_frame1 HB4.out HD4.out HR4.out HRR.out
    have qb := (hfr1.block w.heap.size (by have := HS1.out; omega)).trans HQ0.out
    have z3 := Joins.cell_of_block qb 3
    simp only [List.getElem?_toArray, List.getElem?_cons_succ, List.getElem?_cons_zero] at z3
    have hbn : x.b.n = x.bs.length := by
      obtain ⟨_, _, e, _⟩ := HX.out.1
      simp only [Sl.val, Value.slice.injEq] at e
      exact e.2.1
    have HBN := Lib.hid hbn
    have HFR := Lib.hid hfr
    have HFR1 := Lib.hid hfr1
    have HQB := Lib.hid qb
    clear hbn hfr hfr1 qb
    by_cases hle : x.b.n ≤ 1000
    · have hle2 : ¬ 1000 < (x.b.n : Int) := by omega
      have hlx : x.bs.length ≤ 1000 := by rw [← HBN.out]; exact hle
      have hnm := names_any HRR.out.both.disk (by have := HRR.out.sA.fil; omega)
      rw [HRR.out.both.pb] at hnm
      have HNM := Lib.hid hnm
      have HLX := Lib.hid hlx
      clear hnm hlx hle
      go_wp2_with fail
      refine HNM.out.mono ?_
      rintro e w6 ⟨vn, rfl, hown6, b6⟩
      obtain ⟨na, nc, e6, hnc, hnm2, hncs⟩ := hown6.slice strc_len
      subst e6
      unfold maxLen at hnm2
      have hlen : (namesA A).length = A.files.length := namesA_len A
      have hf60 := HRR.out.sA.fil
      have HD6 := Lib.hid (HRR.out.both.disk.below b6)
      have HR6 := Lib.hid (HRR.out.both.ref.below b6)
      have HB6 := Lib.hid b6
      have HNC := Lib.hid hncs
      have hnl : (namesA A).length ≤ 60 := by omega
      have hmem : ∀ n ∈ namesA A, ∃ f, aget A.files n = some f := fun n hn => by
        have := (namesA_perm A).subset hn
        cases h : aget A.files n with
        | some f => exact ⟨f, rfl⟩
        | none => exact absurd this ((aget_none_iff A.files n).1 h)
      have HMEM := Lib.hid hmem
      have HLEN := Lib.hid hlen
      clear hown6 b6 hncs hlen hf60 hmem
      generalize hnames : namesA A = names at *
      have HNAMES := Lib.hid hnames
      clear hnames
      go_wp2_with fail
      go_loopg [9, 10] names.length (fun g vv iv wr => ∃ (k : Nat) (s : Sl), g = names.length - k ∧ k ≤ names.length ∧ vv = .slice s.a s.n s.cap ∧ iv = .int .i64 k ∧ Hid (HeldIs w6.heap.size wr (.slice s.a s.n s.cap) A names k ∧ Below w6.heap.size w6 wr))
      case atStart => exact ⟨0, ⟨none, 0, 0⟩, by omega, by omega, rfl, rfl, Lib.hid ⟨⟨[], Own.nil, rfl, fun i h hh => by simp at hh⟩, Below.refl _ _⟩⟩
      case round =>
        obtain ⟨k, ⟨sa, sn, sc⟩, hg, hk, rfl, rfl, hU⟩ := hrel
        dsimp only at hU ⊢
        have HG := Lib.hid hg
        clear hg
        have hbase : w1.heap.size ≤ wr.heap.size := Nat.le_trans (Nat.le_trans HFR1.out.size HB6.out.size) hU.out.2.size
        by_cases hkl : k < names.length
        · obtain ⟨n, hn⟩ : ∃ n, names[k]? = some n := ⟨_, List.getElem?_eq_getElem hkl⟩
          obtain ⟨b, o, e2, hcc⟩ := HNC.out (by intro e; rw [e] at hn; simp at hn)
          subst e2
          have n0 := keepB hU.out.2 (hcc k n hn 0 _ rfl)
          simp only [Nat.add_zero, Nat.mul_one] at n0
          have hkk : (k : Int) < (names.length : Int) := by omega
          obtain ⟨f, hf⟩ := HMEM.out n (List.mem_of_getElem? hn)
          have hrd := read_any (HD6.out.below hU.out.2) n HRR.out.sA (by omega)
          rw [HRR.out.both.pb] at hrd
          have HRD := Lib.hid hrd
          have HN := Lib.hid hn
          have HF := Lib.hid hf
          clear hrd hn hf hcc
          go_wp2_with fail
          refine HRD.out.mono ?_
          intro e w7 hq
          obtain ⟨v7, rfl, ho7, b7⟩ : ∃ v7, e = .returned (.tuple #[v7, .int .i64 0]) ∧ Own u8c 1 5 wr.heap.size w7 v7 (bytesA A n) ∧ Below wr.heap.size wr w7 := by
            rcases hq with ⟨h, _⟩ | ⟨f', v7, h, he, ho, hb⟩
            · rw [HF.out] at h; cases h
            · exact ⟨v7, he, by unfold bytesA; rw [h]; exact ho, hb⟩
          obtain ⟨⟨ta, tn, tc⟩, e7⟩ := ho7.sl
          change v7 = .slice ta tn tc at e7
          subst e7
          have n0' := keepB b7 n0
          have hh7 := hU.out.1.below b7
          have HB7 := Lib.hid (hU.out.2.trans (b7.mono hU.out.2.size))
          have HO7 := Lib.hid (ho7.mono hU.out.2.size)
          have hbase7 : w6.heap.size ≤ w7.heap.size := HB7.out.size
          obtain ⟨hs, ho, hl, hpp⟩ := hh7
          have HO := Lib.hid ho
          have HPP := Lib.hid hpp
          have HHL := Lib.hid hl
          have hl60 : hs.length ≤ 60 := by omega
          obtain ⟨esn⟩ : sn = hs.length := by
            obtain ⟨_, _, e, _⟩ := ho.slice Hd.len
            simp only [Value.slice.injEq] at e
            exact e.2.1
          clear ho7 b7 hq hU ho hl hpp hbase
          go_wp2_with (at_builtin; refine wpList_append_struct rfl _ _ _ rfl i0 _ 40 Try.underlying41 hi hz0 hz1 hz2 rfl (by omega) Hd.len Hd.one rfl (HO.out.alloc _) ⟨n, ⟨ta, tn, tc⟩⟩ w7.heap.size 1 rfl (hd_alloc _ ⟨n, ⟨ta, tn, tc⟩⟩) (by unfold maxLen; omega) (by omega) (by simp; omega) ?_)
          intro v' w8 hown8 hx8
          have hB8 := Ext.new (HB7.out.alloc HB7.out.size _) hx8 (fun i hi _ e => by have := (HO.out.blk i e).1; omega) (by simp; omega)
          have hrow : ∀ b, (Value.slice sa hs.length sc).ownBlock = some b → tagOf (w7.alloc (.cells #[.string n, .slice ta tn tc] 45)) b = some 45 := fun b hb => tag_own (HO.out.alloc _) hb
          have hkeep : ∀ (v : Value) (l : List UInt8), Own u8c 1 5 w6.heap.size w7 v l → Own u8c 1 5 w6.heap.size w8 v l := fun v l h => (h.alloc (.cells #[.string n, .slice ta tn tc] 45)).ext hx8 (fun b hb e => tag_ne (tag_own (h.alloc _) hb) (hrow b e) (by decide) rfl)
          obtain ⟨⟨s8a, s8n, s8c⟩, e8⟩ := hown8.sl
          change v' = .slice s8a s8n s8c at e8
          subst e8
          have HN2 : Hid (HeldIs w6.heap.size w8 (.slice s8a s8n s8c) A names (k + 1) ∧ Below w6.heap.size w6 w8) := Lib.hid ⟨⟨_, hown8, by simp [HHL.out], fun i h hh => by
            by_cases hi : i < hs.length
            · rw [List.getElem?_append_left hi] at hh
              exact ⟨(HPP.out i h hh).1, hkeep _ _ (HPP.out i h hh).2⟩
            · have hi2 : i = hs.length := by
                have := (List.getElem?_eq_some_iff.1 hh).1
                simp at this
                omega
              subst hi2
              simp at hh
              subst hh
              exact ⟨by rw [HHL.out]; exact HN.out, hkeep _ _ HO7.out⟩⟩, hB8⟩
          clear hown8 hx8 hB8 hrow hkeep
          go_wp2_with fail
          go_roundg (names.length - (k + 1))
          case measure => rw [HG.out]; omega
          case rel => exact ⟨k + 1, ⟨s8a, s8n, s8c⟩, rfl, by omega, rfl, by simp, HN2⟩
        · obtain rfl : k = names.length := by omega
          have hd := HD6.out.below hU.out.2
          have hr := HR6.out.below hU.out.2
          have hfr1 : Below w1.heap.size w1 wr := (HFR1.out.trans (HB6.out.mono HFR1.out.size)).trans (hU.out.2.mono (Nat.le_trans HFR1.out.size HB6.out.size))
          have hfr : Below w.heap.size w wr := HB1.out.trans (hfr1.mono HB1.out.size)
          have hch := changes_any hd
          rw [HRR.out.both.pb] at hch
          have HCH := Lib.hid hch
          have qb := (hfr1.block w.heap.size (by have := HS1.out; omega)).trans HQ0.out
          have z0 := Joins.cell_of_block qb 0
          have z1 := Joins.cell_of_block qb 1
          have z2 := Joins.cell_of_block qb 2
          have z3' := Joins.cell_of_block qb 3
          have z4 := Joins.cell_of_block qb 4
          have z5 := Joins.cell_of_block qb 5
          have z6 := Joins.cell_of_block qb 6
          have z7 := Joins.cell_of_block qb 7
          simp only [List.getElem?_toArray, List.getElem?_cons_succ, List.getElem?_cons_zero] at z0 z1 z2 z3' z4 z5 z6 z7
          have hact := act_any hd hr hbase x HX.out hfr HB1.out.size HLX.out HRR.out.sA HRR.out.sR (by omega) HRR.out.held
          rw [HRR.out.both.pb] at hact
          have HACT := Lib.hid hact
          have HD := Lib.hid hd
          have HR := Lib.hid hr
          have HF1 := Lib.hid hfr1
          have HF := Lib.hid hfr
          clear hd hr hfr1 hfr hch qb hact
          go_wp2_with fail
          refine HCH.out.mono ?_
          rintro e wr2 ⟨rfl, e2⟩
          have e2' := e2.symm
          subst e2'
          go_wp2_with fail
          refine HACT.out.mono ?_
          rintro e w9 ⟨c, A', D', v', rfl, hA, hB⟩
          have HA := Lib.hid hA
          have HH9 := Lib.hid (hU.out.1.both hB HD.out HR.out)
          have HD9 := Lib.hid hB.disk
          have HPB := Lib.hid (hB.pb.trans HRR.out.both.pb)
          have HF9 := Lib.hid (HF1.out.trans (hB.frame HD.out HR.out (Below.refl w1.heap.size wr) (Nat.le_refl _) hbase))
          have HSA := Lib.hid (hA.small HRR.out.sA)
          clear hA hB hU z0 z1 z2 z3' z4 z5 z6 z7
          go_upto_region 21 with fail
          go_cut [107] (fun bv wx => bv = .bool false ∧ Hid (Below w9.heap.size w9 wx))
          case first =>
            by_cases hc : c = 0
            · subst hc
              go_wp2_with fail
              go_meet
              case rel => exact ⟨rfl, Lib.hid (Below.refl _ _)⟩
            · have hAA := HA.out.fails hc
              have hch := changes_any HD9.out
              rw [HPB.out, hAA] at hch
              have hnm := names_any HD9.out (by have := HSA.out.fil; omega)
              rw [HPB.out, hAA] at hnm
              have HCH2 := Lib.hid hch
              have HNM2 := Lib.hid hnm
              have hc2 : (c == 0) = false := by simpa using hc
              clear hch hnm hAA
              go_wp2_with fail
              refine HCH2.out.mono ?_
              rintro e w10 ⟨rfl, rfl⟩
              go_wp2_with fail
              refine HNM2.out.mono ?_
              rintro e w11 ⟨vn2, rfl, hown11, b11⟩
              obtain ⟨na2, nc2, e11, _⟩ := hown11.slice strc_len
              have hl11 : (namesA A).length = names.length := by rw [HNAMES.out]
              rw [hl11] at e11
              subst e11
              have HB11 := Lib.hid b11
              clear hown11 b11 hl11
              go_wp2_with fail
              go_meet
              case rel => exact ⟨by rfl, HB11⟩
          case rest =>
            obtain ⟨rfl, HB10⟩ := hcut
            obtain ⟨hs, ho, hl, hpp⟩ := HH9.out
            obtain ⟨esn⟩ : sn = hs.length := by
              obtain ⟨_, _, e, _⟩ := ho.slice Hd.len
              simp only [Value.slice.injEq] at e
              exact e.2.1
            obtain ⟨_, _, eh, hc1, hc2, hcs⟩ := ho.slice Hd.len
            cases eh
            unfold maxLen at hc2
            have hl60 : hs.length ≤ 60 := by omega
            have HCS := Lib.hid hcs
            have HPP := Lib.hid hpp
            have HHL := Lib.hid hl
            have qb := (HF9.out.block w.heap.size (by have := HS1.out; omega)).trans HQ0.out
            have z0 := keepB HB10.out (Joins.cell_of_block qb 0)
            have z1 := keepB HB10.out (Joins.cell_of_block qb 1)
            have z2 := keepB HB10.out (Joins.cell_of_block qb 2)
            try simp only [List.getElem?_toArray, List.getElem?_cons_succ, List.getElem?_cons_zero] at z0 z1 z2
            clear qb ho hl hpp hcs
            go_wp2_with fail
            go_loopg [16] hs.length (fun g iv wr => ∃ (k : Nat), g = hs.length - k ∧ k ≤ hs.length ∧ iv = .int .i64 k ∧ Hid (Below wc.heap.size wc wr))
            case atStart => exact ⟨0, by omega, by omega, rfl, Lib.hid (Below.refl _ _)⟩
            case round =>
              obtain ⟨k, hg, hk, rfl, hU⟩ := hrel
              have HG := Lib.hid hg
              clear hg
              have y0 := keepB hU.out z0
              have y1 := keepB hU.out z1
              have y2 := keepB hU.out z2
              by_cases hkl : k < hs.length
              · obtain ⟨h, hh⟩ : ∃ h, hs[k]? = some h := ⟨_, List.getElem?_eq_getElem hkl⟩
                obtain ⟨b, o, e2, hcc⟩ := HCS.out (by intro e; rw [e] at hh; simp at hh)
                subst e2
                have p0 := keepB hU.out (keepB HB10.out (hcc k h hh 0 _ rfl))
                have p1 := keepB hU.out (keepB HB10.out (hcc k h hh 1 _ rfl))
                simp only [Nat.add_zero] at p0
                have hkk : (k : Int) < (hs.length : Int) := by omega
                have HPK := Lib.hid (HPP.out k h hh)
                have HUB := Lib.hid (HB10.out.trans (hU.out.mono HB10.out.size))
                clear hcc hh
                go_upto_region 26 with fail
                go_cut [140] from 108 to 163 (fun bv wx => ∃ bb : Bool, bv = .bool bb ∧ Hid (bb = false → ¬ (c = 0 ∧ (h.name = x.name ∨ x.kind = 4 ∧ h.name = x.s))) ∧ Hid (Below wr.heap.size wr wx))
                case first =>
                  by_cases hc : c = 0
                  · have HC := Lib.hid hc
                    subst hc
                    by_cases hn : h.name = x.name
                    · rw [hn] at p0
                      clear hn
                      go_quiet (fail)
                      go_wp2_with fail
                      go_meet
                      case rel => exact ⟨true, rfl, Lib.hid (fun e => by cases e), Lib.hid (below_drewN (Below.refl _ _) _)⟩
                    · have HN := Lib.hid hn
                      obtain ⟨n1, n2⟩ := beq_names hn
                      by_cases h4 : x.kind = 4
                      · rw [h4] at y0
                        by_cases hs4 : h.name = x.s
                        · rw [hs4] at p0 n1 n2
                          clear hs4 h4 hn
                          go_quiet (fail)
                          go_wp2_with fail
                          go_meet
                          case rel => exact ⟨true, rfl, Lib.hid (fun e => by cases e), Lib.hid (below_drewN (Below.refl _ _) _)⟩
                        · obtain ⟨m1, m2⟩ := beq_names hs4
                          have HS4 := Lib.hid hs4
                          clear hs4 h4 hn
                          go_quiet (fail)
                          go_wp2_with fail
                          go_meet
                          case rel => exact ⟨false, rfl, Lib.hid (fun _ e => by rcases e.2 with e | e; exact HN.out e; exact HS4.out e.2), Lib.hid (below_drewN (Below.refl _ _) _)⟩
                      · have m1 : (x.kind == 4) = false := by simpa using h4
                        have H4 := Lib.hid h4
                        clear h4 hn
                        go_quiet (fail)
                        go_wp2_with fail
                        go_meet
                        case rel => exact ⟨false, rfl, Lib.hid (fun _ e => by rcases e.2 with e | e; exact HN.out e; exact H4.out e.1), Lib.hid (below_drewN (Below.refl _ _) _)⟩
                  · have m1 : (c == 0) = false := by simpa using hc
                    have HC := Lib.hid hc
                    clear hc
                    go_quiet (fail)
                    go_wp2_with fail
                    go_meet
                    case rel => exact ⟨false, rfl, Lib.hid (fun _ e => HC.out e.1), Lib.hid (below_drewN (Below.refl _ _) _)⟩
                case rest =>
                  obtain ⟨bb, rfl, HBB, HBW⟩ := hcut
                  cases bb with
                  | true =>
                    have HBE := Lib.hid (hU.out.trans (HBW.out.mono hU.out.size))
                    clear hU
                    go_wp2_with fail
                    go_roundg (hs.length - (k + 1))
                    case measure => rw [HG.out]; omega
                    case rel => exact ⟨k + 1, rfl, by omega, by simp, HBE⟩
                  | false =>
                    obtain ⟨f, hf⟩ := HMEM.out h.name (List.mem_of_getElem? HPK.out.1)
                    have hap := HA.out.apart HRR.out.inj hf (HBB.out rfl)
                    have hfr3 := HUB.out.trans (HBW.out.mono HUB.out.size)
                    have hrd := read_any (HD9.out.below hfr3) h.name HSA.out (by omega)
                    rw [HPB.out] at hrd
                    have HRD := Lib.hid hrd
                    have HFA := Lib.hid hf
                    have HAP := Lib.hid hap
                    have HF3 := Lib.hid hfr3
                    replace p0 := keepB HBW.out p0
                    replace p1 := keepB HBW.out p1
                    clear hf hap hfr3 hrd y0 y1 y2
                    go_wp2_with fail
                    refine HRD.out.mono ?_
                    intro e w11 hq
                    obtain ⟨v11, rfl, ho11, b11⟩ : ∃ v11, e = .returned (.tuple #[v11, .int .i64 0]) ∧ Own u8c 1 5 wc.heap.size w11 v11 (bytesA A h.name) ∧ Below wc.heap.size wc w11 := by
                      rcases hq with ⟨h0, _⟩ | ⟨f', v7, h0, he, ho, hb⟩
                      · rw [HAP.out.1] at h0; cases h0
                      · rw [HAP.out.1] at h0
                        cases h0
                        refine ⟨v7, he, ?_, hb⟩
                        unfold bytesA
                        rw [HFA.out]
                        show Own u8c 1 5 wc.heap.size w11 v7 (bytesP (A.fs f))
                        rw [← HAP.out.2]
                        exact ho
                    have hs11 := ho11.slice u8c_len
                    obtain ⟨⟨ta, tn, tc⟩, e11⟩ := ho11.sl
                    change v11 = .slice ta tn tc at e11
                    subst e11
                    replace p0 := keepB b11 p0
                    replace p1 := keepB b11 p1
                    have hs12 := ((HPK.out.2.slice u8c_len).below HF3.out).below b11
                    have HSB := Lib.hid (sameB_any hs11 hs12)
                    have HBE := Lib.hid (hU.out.trans ((HBW.out.trans (b11.mono HBW.out.size)).mono hU.out.size))
                    clear ho11 hs11 hs12 b11 hq hU
                    go_wp2_with fail
                    refine HSB.out.mono ?_
                    rintro e w12 ⟨rfl, rfl⟩
                    go_wp2_with fail
                    go_roundg (hs.length - (k + 1))
                    case measure => rw [HG.out]; omega
                    case rel => exact ⟨k + 1, rfl, by omega, by simp, HBE⟩
              · obtain rfl : k = hs.length := by omega
                have hend : Below w.heap.size w wr := (HB1.out.trans (HF9.out.mono HB1.out.size)).trans ((HB10.out.trans (hU.out.mono HB10.out.size)).mono (Nat.le_trans HB1.out.size HF9.out.size))
                have HEND := Lib.hid hend
                clear hend
                go_wp2_with fail
                go_ret
                exact ⟨rfl, HEND.out⟩
    · have hle2 : 1000 < (x.b.n : Int) := by omega
      clear hle
      go_wp2_with fail
      go_ret
      exact ⟨rfl, HFR.out⟩

end Go.Proofs.Ytmlaojfhmaamcaa
